import Derived.Test.YthdpcloggedhfaaSteps2
set_option linter.unusedSimpArgs false
set_option linter.unusedVariables false
set_option maxHeartbeats 2000000
set_option maxRecDepth 20000
namespace Go.Proofs.Ythdpcloggedhfaa
open Go Go.Am
attribute [local irreducible] opsW Ww loopW callW drawW outW outDW gW cW BrW bothW vW resW DropW RdW dcallW altW Later.run

theorem one_agree (H : Heap) (a a' : AObj) (x y : Heap) : ∀ k, H.length + 1 ≤ k → ∀ o, (H ++ (a :: x))[k]? = some o → (H ++ (a' :: (x ++ y)))[k]? = some o := by
  intro k hk o h
  rw [List.getElem?_append_right (by omega)] at h ⊢
  obtain ⟨n, hn⟩ : ∃ n, k - H.length = n + 1 := ⟨k - H.length - 1, by omega⟩
  rw [hn] at h ⊢
  simp only [List.getElem?_cons_succ] at h ⊢
  exact get_old h y
theorem but_agree (H : Heap) (m a a' : AObj) (x y : Heap) : ∀ k, k ≠ H.length + 1 → ∀ o, (H ++ (m :: a :: x))[k]? = some o → (H ++ (m :: a' :: (x ++ y)))[k]? = some o := by
  intro k hk o h
  by_cases hlt : k < H.length
  · rw [List.getElem?_append_left hlt] at h ⊢; exact h
  · rw [List.getElem?_append_right (by omega)] at h ⊢
    by_cases h0 : k - H.length = 0
    · rw [h0] at h ⊢; exact h
    · obtain ⟨n, hn⟩ : ∃ n, k - H.length = n + 2 := ⟨k - H.length - 2, by omega⟩
      rw [hn] at h ⊢
      simp only [List.getElem?_cons_succ] at h ⊢
      exact get_old h y
theorem ws_step1 {J : Heap} {a a' : AObj} {x y : Heap} {ws : List Value} {i : Nat} {F : Nat → List Int} {v : Value} (hwl : ws.length = i) (hws : ∀ q, q < i → IsN (J.length + 1 ≤ ·) (J ++ (a :: x)) (ws.getD q v0) (F q))
    (hv : IsN (J.length + 1 ≤ ·) (J ++ (a' :: (x ++ y))) v (F i)) : ∀ q, q < i + 1 → IsN (J.length + 1 ≤ ·) (J ++ (a' :: (x ++ y))) ((ws ++ [v]).getD q v0) (F q) := fun q hq => by
  by_cases e : q = i
  · subst e
    rw [List.getD_eq_getElem?_getD, List.getElem?_append_right (by omega), hwl, Nat.sub_self]
    exact hv
  · rw [List.getD_eq_getElem?_getD, List.getElem?_append_left (by omega), ← List.getD_eq_getElem?_getD]
    exact (hws q (by omega)).agree (one_agree J a a' x y)
theorem new_at1 (J : Heap) (a : AObj) (x rest : Heap) (g cc : Nat) (l : List Int) (hl : l.length ≤ cc) : IsN (J.length + 1 ≤ ·) (J ++ (a :: (x ++ (.cells g 1 false (ints l) :: rest)))) (slv (J.length + (x.length + 1)) 0 g l.length cc) l := by
  refine .of (by omega) (Ints.new _ _ _ false _ ?_) hl
  rw [get_new]
  simp
theorem zeros_flat (n : Nat) : (List.replicate n [Value.int .i64 0]).flatten = ints (List.replicate n 0) := by
  induction n with
  | zero => rfl
  | succ n ih => simp [List.replicate_succ, ih, ints]

theorem Rounds_spec (ts : List Int) (fl : List (List Int)) (R : Int) (wt wf : Value) (A : Nat → Prop) (H : Heap) (hT : IsN A H wt ts) (hF : IsLL A H wf fl) (ht : ts.length ≤ 9223372036854775807) (hf : fl.length ≤ 9223372036854775807) (hfl : ∀ i, i < fl.length → (fl.getD i []).length ≤ 9223372036854775807) :
    ACallK Try.prog 9 [wt, wf, .int .i64 R] H (fun v H' => ∃ a b c e, v = .tuple #[a, b, c, .int .i64 e] ∧ Le H H' ∧ (e = 0 ↔ okT ts fl ∧ 0 ≤ R ∧ R ≤ 400) ∧ (e ≠ 0 → a = .slice none 0 0) ∧
      (e = 0 → IsS (fun _ => True) H' a (runSt ts fl R.toNat).sent ∧ IsLL (fun _ => True) H' b (runSt ts fl R.toNat).left ∧ IsN (fun _ => True) H' c (runSt ts fl R.toNat).may)) := by
  have hW := Wrong_spec ts fl wt wf A H hT hF ht hf hfl
  have hT0 := hT
  have hF0 := hF
  obtain ⟨k, o, g, c, _, rfl, hs, hc⟩ := hT
  obtain ⟨ro, cs, hk, hcl, hcs⟩ := Ints.cell hs
  obtain ⟨k2, o2, g2, c2, vs, _, rfl, hv, hvl, hc2, hin⟩ := hF
  refine .walkW f9_ok (by simp; decide) (by decide) ?_
  by_cases hok : okT ts fl
  · by_cases hR : 0 ≤ R ∧ R ≤ 400
    · obtain ⟨hR0, hR1⟩ := hR
      obtain ⟨r, rfl⟩ := Int.eq_ofNat_of_zero_le hR0
      have zf := zeros_flat ts.length
      have hn16 := hok.2.1
      repeat' first | simp (disch := first | with_reducible assumption | omega) only [go_sem, Bool.true_and, Bool.and_true, Bool.and_self, Bool.false_and, Bool.and_false, Bool.true_or, Bool.or_true, Bool.false_or, Bool.or_false, ↓reduceIte, Nat.reduceEqDiff, Nat.reduceAdd, Nat.reduceMul, Nat.reduceSub, Nat.reduceBEq, Nat.reduceLeDiff, Nat.reduceLT, Nat.reduceMod, Nat.reduceDiv, Int.reduceToNat, Int.reducePow, Int.reduceMul, Int.reduceAdd, Int.reduceSub, Int.reduceLE, Int.reduceLT, Int.reduceNeg, Int.reduceDiv, Int.reduceMod, Int.reduceEq, Int.reduceBEq, Int.reduceBNe, f9, f9b, f9r0, f9r1, f9r2, f9r3, f9r4, f9r5, f9r6, f9r7, f9r8, f9r9, f9r10, f9r11, f9r12, f9r13, f9r14, f9r16, f9r17, f9r18, f9r19, f9r20, f9r21, f9r23, hk] | (refine BrW.of (fun hb => ?_) (fun hb => ?_) <;> (have hb' := hb; try simp only [decide_eq_true_eq, decide_eq_false_iff_not, beq_iff_eq, bne_iff_ne, beq_eq_false_iff_ne, bne_eq_false_iff_eq, Bool.not_eq_true', Bool.not_eq_false', Bool.not_eq_true, Bool.not_eq_false, Bool.and_eq_true, Bool.or_eq_true, Bool.and_eq_false_iff, Bool.or_eq_false_iff, Int.not_lt, Int.not_le, ne_eq, gt_iff_lt, ge_iff_le] at hb') <;> (try (exfalso; omega))) | (refine altW.of ?_ ?_) | (refine .of (hW.mono ?_); rintro v H ⟨e, rfl, he, rfl⟩; obtain rfl := he.2 hok)
      rw [zf]
      refine loopW.ghost 11 2 rfl ?_
      simp (disch := first | with_reducible assumption | omega) only [go_sem, Bool.true_and, Bool.and_true, Bool.and_self, Bool.false_and, Bool.and_false, Bool.true_or, Bool.or_true, Bool.false_or, Bool.or_false, ↓reduceIte, Nat.reduceEqDiff, Nat.reduceAdd, Nat.reduceMul, Nat.reduceSub, Nat.reduceBEq, Nat.reduceLeDiff, Nat.reduceLT, Nat.reduceMod, Nat.reduceDiv, Int.reduceToNat, Int.reducePow, Int.reduceMul, Int.reduceAdd, Int.reduceSub, Int.reduceLE, Int.reduceLT, Int.reduceNeg, Int.reduceDiv, Int.reduceMod, Int.reduceEq, Int.reduceBEq, Int.reduceBNe]
      have hrun := run_ok hok
      have hsent := run_sent hok
      have hT1 : ∀ (a b : AObj) (x : Heap), IsN (· ≠ H.length + 1) (H ++ (a :: b :: x)) (slv k o g ts.length c) ts := fun a b x => (hT0.old.mono fun q _ h => by omega).app _
      have hF1 : ∀ (a b : AObj) (x : Heap), IsLL (· ≠ H.length + 1) (H ++ (a :: b :: x)) (slv k2 o2 g2 fl.length c2) fl := fun a b x => (hF0.old.mono fun q _ h => by omega).app _
      refine loopW.of (by decide) (fun m e J => ∃ (i gs : Nat) (wl wm : Value) (x : Heap), e = [(0, slv k o g ts.length c), (11, slv (H.length + 1) 0 gs (runSt ts fl i).sent.length (runSt ts fl i).sent.length), (12, wl), (13, wm), (37, .int .i64 r), (38, .int .i64 i)] ∧
        J = H ++ (.cells 0 1 false (ints (List.replicate ts.length 0)) :: .cells gs 2 false (flat' S.cells (runSt ts fl i).sent) :: x) ∧ i ≤ r ∧ m = r - i ∧ IsLL (· ≠ H.length + 1) J wl (runSt ts fl i).left ∧ IsN (· ≠ H.length + 1) J wm (runSt ts fl i).may) r ⟨0, 0, _, _, [], rfl, rfl, by omega, rfl, hF1 _ _ _, ?_⟩ ?_
      · refine ⟨H.length, 0, 0, ts.length, by omega, by simp [runSt], Ints.new _ _ _ false _ ?_, by simp [runSt]⟩
        rw [get_new0]; rfl
      · rintro m e J ⟨i, gs, wl, wm, x, rfl, rfl, hi, rfl, hL, hM⟩
        by_cases hlt : i < r
        · have hRo := Round_spec ts (runSt ts fl i).may (runSt ts fl i).left (slv k o g ts.length c) wl wm _ _ (hT1 _ _ _) hL hM (hrun i).1 (hrun i).2
          have hsi := (hsent i).1
          have hst : runSt ts fl (i + 1) = stepSt ts (runSt ts fl i) := rfl
          unfold stepSt at hst
          have hsl := sentR_len (ts := ts) (may := (runSt ts fl i).may) (fun k => ((hrun i).1.flow k).1) ts.length
          have hsl2 : (sentR ts (runSt ts fl i).may (runSt ts fl i).left ts.length).length ≤ 6400 := by have := Nat.mul_le_mul_right 400 hn16; omega
          clear hsl hsent hrun hT0 hF0 hW hL hM
          generalize sentR ts (runSt ts fl i).may (runSt ts fl i).left ts.length = SR at *
          generalize leftR ts (runSt ts fl i).may (runSt ts fl i).left ts.length = LR at *
          generalize yetR ts (runSt ts fl i).may (runSt ts fl i).left ts.length = YR at *
          generalize (runSt ts fl i).sent = SI at *
          repeat' first | simp (disch := first | with_reducible assumption | omega) only [go_sem, Bool.true_and, Bool.and_true, Bool.and_self, Bool.false_and, Bool.and_false, Bool.true_or, Bool.or_true, Bool.false_or, Bool.or_false, ↓reduceIte, Nat.reduceEqDiff, Nat.reduceAdd, Nat.reduceMul, Nat.reduceSub, Nat.reduceBEq, Nat.reduceLeDiff, Nat.reduceLT, Nat.reduceMod, Nat.reduceDiv, Int.reduceToNat, Int.reducePow, Int.reduceMul, Int.reduceAdd, Int.reduceSub, Int.reduceLE, Int.reduceLT, Int.reduceNeg, Int.reduceDiv, Int.reduceMod, Int.reduceEq, Int.reduceBEq, Int.reduceBNe, f9, f9b, f9r0, f9r1, f9r2, f9r3, f9r4, f9r5, f9r6, f9r7, f9r8, f9r9, f9r10, f9r11, f9r12, f9r13, f9r14, f9r16, f9r17, f9r18, f9r19, f9r20, f9r21, f9r23, f9l0] | (refine BrW.of (fun hb => ?_) (fun hb => ?_) <;> (have hb' := hb; try simp only [decide_eq_true_eq, decide_eq_false_iff_not, beq_iff_eq, bne_iff_ne, beq_eq_false_iff_ne, bne_eq_false_iff_eq, Bool.not_eq_true', Bool.not_eq_false', Bool.not_eq_true, Bool.not_eq_false, Bool.and_eq_true, Bool.or_eq_true, Bool.and_eq_false_iff, Bool.or_eq_false_iff, Int.not_lt, Int.not_le, ne_eq, gt_iff_lt, ge_iff_le] at hb') <;> (try (exfalso; omega))) | (refine altW.of ?_ ?_) | (refine .of (hRo.mono ?_); rintro v _ ⟨a, b, c, rfl, ⟨X, rfl⟩, hS, hL, hM⟩)
          simp only [heap_assoc, List.cons_append, len_app, List.length_cons] at hS hL hM
          have hL2 := hL.mono (A' := (· ≠ H.length + 1)) (fun q _ h => by omega)
          have hM2 := hM.mono (A' := (· ≠ H.length + 1)) (fun q _ h => by omega)
          obtain ⟨ks, os, gss, cc, _, rfl, hTb, hcc⟩ := hS
          obtain ⟨roS, csS, hkS, q2, q3⟩ := hTb.at'
          have htS := Tbl.cells (enc := S.cells) (fun _ => rfl) q2 q3
          have fl1 := flatS_len SI
          have fl2 := flatS_take SI
          have hni : ¬ SI.length + SR.length ≤ SI.length ∨ SR.length = 0 := by omega
          have hfa := flat'_app (enc := S.cells) SI SR
          have hla : (SI ++ SR).length = SI.length + SR.length := List.length_append
          clear hTb hL hM q3 hRo
          by_cases hz : SR.length = 0
          · obtain rfl := List.eq_nil_of_length_eq_zero hz
            rw [List.append_nil] at hst
            simp only [List.length_nil] at *
            repeat' first | simp (disch := first | with_reducible assumption | omega) only [go_sem, Bool.true_and, Bool.and_true, Bool.and_self, Bool.false_and, Bool.and_false, Bool.true_or, Bool.or_true, Bool.false_or, Bool.or_false, ↓reduceIte, Nat.reduceEqDiff, Nat.reduceAdd, Nat.reduceMul, Nat.reduceSub, Nat.reduceBEq, Nat.reduceLeDiff, Nat.reduceLT, Nat.reduceMod, Nat.reduceDiv, Int.reduceToNat, Int.reducePow, Int.reduceMul, Int.reduceAdd, Int.reduceSub, Int.reduceLE, Int.reduceLT, Int.reduceNeg, Int.reduceDiv, Int.reduceMod, Int.reduceEq, Int.reduceBEq, Int.reduceBNe, f9, f9b, f9r0, f9r1, f9r2, f9r3, f9r4, f9r5, f9r6, f9r7, f9r8, f9r9, f9r10, f9r11, f9r12, f9r13, f9r14, f9r16, f9r17, f9r18, f9r19, f9r20, f9r21, f9r23, f9l0, hkS] | (refine BrW.of (fun hb => ?_) (fun hb => ?_) <;> (have hb' := hb; try simp only [decide_eq_true_eq, decide_eq_false_iff_not, beq_iff_eq, bne_iff_ne, beq_eq_false_iff_ne, bne_eq_false_iff_eq, Bool.not_eq_true', Bool.not_eq_false', Bool.not_eq_true, Bool.not_eq_false, Bool.and_eq_true, Bool.or_eq_true, Bool.and_eq_false_iff, Bool.or_eq_false_iff, Int.not_lt, Int.not_le, ne_eq, gt_iff_lt, ge_iff_le] at hb') <;> (try (exfalso; omega))) | (refine altW.of ?_ ?_)
            refine RdW.keep [0, 11, 12, 13, 37, 38] (r - (i + 1)) (by omega) ?_
            simp (disch := first | with_reducible assumption | omega) only [go_sem, Bool.true_and, Bool.and_true, Bool.and_self, Bool.false_and, Bool.and_false, Bool.true_or, Bool.or_true, Bool.false_or, Bool.or_false, ↓reduceIte, Nat.reduceEqDiff, Nat.reduceAdd, Nat.reduceMul, Nat.reduceSub, Nat.reduceBEq, Nat.reduceLeDiff, Nat.reduceLT, Nat.reduceMod, Nat.reduceDiv, Int.reduceToNat, Int.reducePow, Int.reduceMul, Int.reduceAdd, Int.reduceSub, Int.reduceLE, Int.reduceLT, Int.reduceNeg, Int.reduceDiv, Int.reduceMod, Int.reduceEq, Int.reduceBEq, Int.reduceBNe]
            exact ⟨i + 1, gs, b, c, x ++ X, by rw [hst]; rfl, by rw [hst], by omega, rfl, by rw [hst]; exact hL2, by rw [hst]; exact hM2⟩
          · have hni2 : ¬ SI.length + SR.length ≤ SI.length := by omega
            clear hni
            repeat' first | simp (disch := first | with_reducible assumption | omega) only [go_sem, Bool.true_and, Bool.and_true, Bool.and_self, Bool.false_and, Bool.and_false, Bool.true_or, Bool.or_true, Bool.false_or, Bool.or_false, ↓reduceIte, Nat.reduceEqDiff, Nat.reduceAdd, Nat.reduceMul, Nat.reduceSub, Nat.reduceBEq, Nat.reduceLeDiff, Nat.reduceLT, Nat.reduceMod, Nat.reduceDiv, Int.reduceToNat, Int.reducePow, Int.reduceMul, Int.reduceAdd, Int.reduceSub, Int.reduceLE, Int.reduceLT, Int.reduceNeg, Int.reduceDiv, Int.reduceMod, Int.reduceEq, Int.reduceBEq, Int.reduceBNe, f9, f9b, f9r0, f9r1, f9r2, f9r3, f9r4, f9r5, f9r6, f9r7, f9r8, f9r9, f9r10, f9r11, f9r12, f9r13, f9r14, f9r16, f9r17, f9r18, f9r19, f9r20, f9r21, f9r23, f9l0, hkS, hz, hni2, fl1, fl2, htS, hfa] | (refine BrW.of (fun hb => ?_) (fun hb => ?_) <;> (have hb' := hb; try simp only [decide_eq_true_eq, decide_eq_false_iff_not, beq_iff_eq, bne_iff_ne, beq_eq_false_iff_ne, bne_eq_false_iff_eq, Bool.not_eq_true', Bool.not_eq_false', Bool.not_eq_true, Bool.not_eq_false, Bool.and_eq_true, Bool.or_eq_true, Bool.and_eq_false_iff, Bool.or_eq_false_iff, Int.not_lt, Int.not_le, ne_eq, gt_iff_lt, ge_iff_le] at hb') <;> (try (exfalso; omega))) | (refine altW.of ?_ ?_)
            refine RdW.keep [0, 11, 12, 13, 37, 38] (r - (i + 1)) (by omega) ?_
            simp (disch := first | with_reducible assumption | omega) only [go_sem, Bool.true_and, Bool.and_true, Bool.and_self, Bool.false_and, Bool.and_false, Bool.true_or, Bool.or_true, Bool.false_or, Bool.or_false, ↓reduceIte, Nat.reduceEqDiff, Nat.reduceAdd, Nat.reduceMul, Nat.reduceSub, Nat.reduceBEq, Nat.reduceLeDiff, Nat.reduceLT, Nat.reduceMod, Nat.reduceDiv, Int.reduceToNat, Int.reducePow, Int.reduceMul, Int.reduceAdd, Int.reduceSub, Int.reduceLE, Int.reduceLT, Int.reduceNeg, Int.reduceDiv, Int.reduceMod, Int.reduceEq, Int.reduceBEq, Int.reduceBNe]
            refine ⟨i + 1, gs + 1, b, c, x ++ X, by rw [hst]; simp only [hla]; rfl, by rw [hst], by omega, rfl, ?_, ?_⟩
            · rw [hst]
              have := hL2.agree (but_agree H _ _ (AObj.cells (gs + 1) 2 false (flat' S.cells (SI ++ SR))) (x ++ X) [])
              rwa [List.append_nil] at this
            · rw [hst]
              have := hM2.agree (but_agree H _ _ (AObj.cells (gs + 1) 2 false (flat' S.cells (SI ++ SR))) (x ++ X) [])
              rwa [List.append_nil] at this
        · obtain rfl : i = r := by omega
          have hrl := run_lens ts fl hok.1.symm i
          have hro := (hrun i).1
          obtain ⟨k5, o5, g5, c5, vs5, _, rfl, hv5, hvl5, hc5, hin5⟩ := hL
          obtain ⟨ro5, cs5, hk5, hcl5, hcs5⟩ := hv5.cell
          have hS5 : IsS (fun _ => True) (H ++ (AObj.cells 0 1 false (ints (List.replicate ts.length 0)) :: .cells gs 2 false (flat' S.cells (runSt ts fl i).sent) :: x)) (slv (H.length + 1) 0 gs (runSt ts fl i).sent.length (runSt ts fl i).sent.length) (runSt ts fl i).sent :=
            .of trivial (Tbl.new (enc := S.cells) (s := 2) (d := s0) (fun _ => rfl) _ _ _ false _ (by rw [get_new]; rfl)) (Nat.le_refl _)
          have hM5 := hM.any
          have hLe := Le.app H (AObj.cells 0 1 false (ints (List.replicate ts.length 0)) :: .cells gs 2 false (flat' S.cells (runSt ts fl i).sent) :: x)
          generalize H ++ (AObj.cells 0 1 false (ints (List.replicate ts.length 0)) :: .cells gs 2 false (flat' S.cells (runSt ts fl i).sent) :: x) = G at *
          clear hM hsent hrun hT0 hF0 hW hT1 hF1
          obtain ⟨SV, hSV⟩ : ∃ SV, SV = slv (H.length + 1) 0 gs (runSt ts fl i).sent.length (runSt ts fl i).sent.length := ⟨_, rfl⟩
          rw [← hSV] at hS5 ⊢
          clear hSV
          repeat' first | simp (disch := first | with_reducible assumption | omega) only [go_sem, Bool.true_and, Bool.and_true, Bool.and_self, Bool.false_and, Bool.and_false, Bool.true_or, Bool.or_true, Bool.false_or, Bool.or_false, ↓reduceIte, Nat.reduceEqDiff, Nat.reduceAdd, Nat.reduceMul, Nat.reduceSub, Nat.reduceBEq, Nat.reduceLeDiff, Nat.reduceLT, Nat.reduceMod, Nat.reduceDiv, Int.reduceToNat, Int.reducePow, Int.reduceMul, Int.reduceAdd, Int.reduceSub, Int.reduceLE, Int.reduceLT, Int.reduceNeg, Int.reduceDiv, Int.reduceMod, Int.reduceEq, Int.reduceBEq, Int.reduceBNe, f9, f9b, f9r0, f9r1, f9r2, f9r3, f9r4, f9r5, f9r6, f9r7, f9r8, f9r9, f9r10, f9r11, f9r12, f9r13, f9r14, f9r16, f9r17, f9r18, f9r19, f9r20, f9r21, f9r23, f9l0, f9, f9b, f9r0, f9r1, f9r2, f9r3, f9r4, f9r5, f9r6, f9r7, f9r8, f9r9, f9r10, f9r11, f9r12, f9r13, f9r14, f9r16, f9r17, f9r18, f9r19, f9r20, f9r21, f9r23, hk5] | (refine BrW.of (fun hb => ?_) (fun hb => ?_) <;> (have hb' := hb; try simp only [decide_eq_true_eq, decide_eq_false_iff_not, beq_iff_eq, bne_iff_ne, beq_eq_false_iff_ne, bne_eq_false_iff_eq, Bool.not_eq_true', Bool.not_eq_false', Bool.not_eq_true, Bool.not_eq_false, Bool.and_eq_true, Bool.or_eq_true, Bool.and_eq_false_iff, Bool.or_eq_false_iff, Int.not_lt, Int.not_le, ne_eq, gt_iff_lt, ge_iff_le] at hb') <;> (try (exfalso; omega))) | (refine altW.of ?_ ?_)
          refine loopW.ghost 18 1 rfl ?_
          simp (disch := first | with_reducible assumption | omega) only [go_sem, Bool.true_and, Bool.and_true, Bool.and_self, Bool.false_and, Bool.and_false, Bool.true_or, Bool.or_true, Bool.false_or, Bool.or_false, ↓reduceIte, Nat.reduceEqDiff, Nat.reduceAdd, Nat.reduceMul, Nat.reduceSub, Nat.reduceBEq, Nat.reduceLeDiff, Nat.reduceLT, Nat.reduceMod, Nat.reduceDiv, Int.reduceToNat, Int.reducePow, Int.reduceMul, Int.reduceAdd, Int.reduceSub, Int.reduceLE, Int.reduceLT, Int.reduceNeg, Int.reduceDiv, Int.reduceMod, Int.reduceEq, Int.reduceBEq, Int.reduceBNe]
          refine loopW.of (by decide) (fun m e J => ∃ (q go : Nat) (ws : List Value) (x : Heap), e = [(11, SV), (13, wm), (18, slv G.length 0 go q q), (58, slv k5 o5 g5 (runSt ts fl i).left.length c5), (59, .int .i64 (runSt ts fl i).left.length), (60, .int .i64 q)] ∧
            J = G ++ (.cells go 1 false ws :: x) ∧ q ≤ (runSt ts fl i).left.length ∧ m = (runSt ts fl i).left.length - q ∧ ws.length = q ∧ ∀ p, p < q → IsN (G.length + 1 ≤ ·) J (ws.getD p v0) ((runSt ts fl i).left.getD p [])) (runSt ts fl i).left.length ⟨0, 0, [], [], rfl, rfl, by omega, rfl, rfl, fun p hp => by omega⟩ ?_
          rintro m e J ⟨q, go, ws, x, rfl, rfl, hq, rfl, hwl, hws⟩
          by_cases hlt : q < (runSt ts fl i).left.length
          · have e5 := hcs5 q (by omega)
            obtain ⟨k6, o6, g6, c6, _, hve, hs6, hc6⟩ := hin5 q hlt
            rw [hve] at e5
            obtain ⟨ro6, cs6, hk6, q2, q3⟩ := hs6.at'
            have ht6 := Tbl.cells (enc := ienc) (fun _ => rfl) q2 q3
            rw [flat'_ienc] at ht6
            simp only [Nat.mul_one] at q2 ht6
            have hl6 := (hro.flow q).1
            have hwt : ws.take q = ws := List.take_of_length_le (by omega)
            have hni : ¬ q + 1 ≤ q := by omega
            clear hin5 hcs5 q3 hs6 hS5 hM5 hve
            generalize hlq : (runSt ts fl i).left.getD q [] = l at *
            by_cases hz : l.length = 0
            · obtain rfl := List.eq_nil_of_length_eq_zero hz
              simp only [List.length_nil] at *
              repeat' first | simp (disch := first | with_reducible assumption | omega) only [go_sem, Bool.true_and, Bool.and_true, Bool.and_self, Bool.false_and, Bool.and_false, Bool.true_or, Bool.or_true, Bool.false_or, Bool.or_false, ↓reduceIte, Nat.reduceEqDiff, Nat.reduceAdd, Nat.reduceMul, Nat.reduceSub, Nat.reduceBEq, Nat.reduceLeDiff, Nat.reduceLT, Nat.reduceMod, Nat.reduceDiv, Int.reduceToNat, Int.reducePow, Int.reduceMul, Int.reduceAdd, Int.reduceSub, Int.reduceLE, Int.reduceLT, Int.reduceNeg, Int.reduceDiv, Int.reduceMod, Int.reduceEq, Int.reduceBEq, Int.reduceBNe, f9, f9b, f9r0, f9r1, f9r2, f9r3, f9r4, f9r5, f9r6, f9r7, f9r8, f9r9, f9r10, f9r11, f9r12, f9r13, f9r14, f9r16, f9r17, f9r18, f9r19, f9r20, f9r21, f9r23, f9l1, hk5, get_old hk5, e5, hk6, get_old hk6, hwl, hwt, hni] | (refine BrW.of (fun hb => ?_) (fun hb => ?_) <;> (have hb' := hb; try simp only [decide_eq_true_eq, decide_eq_false_iff_not, beq_iff_eq, bne_iff_ne, beq_eq_false_iff_ne, bne_eq_false_iff_eq, Bool.not_eq_true', Bool.not_eq_false', Bool.not_eq_true, Bool.not_eq_false, Bool.and_eq_true, Bool.or_eq_true, Bool.and_eq_false_iff, Bool.or_eq_false_iff, Int.not_lt, Int.not_le, ne_eq, gt_iff_lt, ge_iff_le] at hb') <;> (try (exfalso; omega))) | (refine altW.of ?_ ?_)
              refine RdW.keep [11, 13, 18, 58, 59, 60] ((runSt ts fl i).left.length - (q + 1)) (by omega) ?_
              simp (disch := first | with_reducible assumption | omega) only [go_sem, Bool.true_and, Bool.and_true, Bool.and_self, Bool.false_and, Bool.and_false, Bool.true_or, Bool.or_true, Bool.false_or, Bool.or_false, ↓reduceIte, Nat.reduceEqDiff, Nat.reduceAdd, Nat.reduceMul, Nat.reduceSub, Nat.reduceBEq, Nat.reduceLeDiff, Nat.reduceLT, Nat.reduceMod, Nat.reduceDiv, Int.reduceToNat, Int.reducePow, Int.reduceMul, Int.reduceAdd, Int.reduceSub, Int.reduceLE, Int.reduceLT, Int.reduceNeg, Int.reduceDiv, Int.reduceMod, Int.reduceEq, Int.reduceBEq, Int.reduceBNe]
              refine ⟨q + 1, go + 1, ws ++ [_], x ++ _, rfl, rfl, by omega, rfl, ?_, ws_step1 (F := fun p => (runSt ts fl i).left.getD p []) hwl hws ?_⟩
              · rw [List.length_append, hwl]; rfl
              · try simp only
                rw [hlq]
                exact new_at1 _ _ x _ 0 0 [] (Nat.le_refl _)
            · have hz2 : ¬ l.length ≤ 0 := by omega
              repeat' first | simp (disch := first | with_reducible assumption | omega) only [go_sem, Bool.true_and, Bool.and_true, Bool.and_self, Bool.false_and, Bool.and_false, Bool.true_or, Bool.or_true, Bool.false_or, Bool.or_false, ↓reduceIte, Nat.reduceEqDiff, Nat.reduceAdd, Nat.reduceMul, Nat.reduceSub, Nat.reduceBEq, Nat.reduceLeDiff, Nat.reduceLT, Nat.reduceMod, Nat.reduceDiv, Int.reduceToNat, Int.reducePow, Int.reduceMul, Int.reduceAdd, Int.reduceSub, Int.reduceLE, Int.reduceLT, Int.reduceNeg, Int.reduceDiv, Int.reduceMod, Int.reduceEq, Int.reduceBEq, Int.reduceBNe, f9, f9b, f9r0, f9r1, f9r2, f9r3, f9r4, f9r5, f9r6, f9r7, f9r8, f9r9, f9r10, f9r11, f9r12, f9r13, f9r14, f9r16, f9r17, f9r18, f9r19, f9r20, f9r21, f9r23, f9l1, hk5, get_old hk5, e5, hk6, get_old hk6, hwl, hwt, hni, hz, hz2, ht6] | (refine BrW.of (fun hb => ?_) (fun hb => ?_) <;> (have hb' := hb; try simp only [decide_eq_true_eq, decide_eq_false_iff_not, beq_iff_eq, bne_iff_ne, beq_eq_false_iff_ne, bne_eq_false_iff_eq, Bool.not_eq_true', Bool.not_eq_false', Bool.not_eq_true, Bool.not_eq_false, Bool.and_eq_true, Bool.or_eq_true, Bool.and_eq_false_iff, Bool.or_eq_false_iff, Int.not_lt, Int.not_le, ne_eq, gt_iff_lt, ge_iff_le] at hb') <;> (try (exfalso; omega))) | (refine altW.of ?_ ?_)
              refine RdW.keep [11, 13, 18, 58, 59, 60] ((runSt ts fl i).left.length - (q + 1)) (by omega) ?_
              simp (disch := first | with_reducible assumption | omega) only [go_sem, Bool.true_and, Bool.and_true, Bool.and_self, Bool.false_and, Bool.and_false, Bool.true_or, Bool.or_true, Bool.false_or, Bool.or_false, ↓reduceIte, Nat.reduceEqDiff, Nat.reduceAdd, Nat.reduceMul, Nat.reduceSub, Nat.reduceBEq, Nat.reduceLeDiff, Nat.reduceLT, Nat.reduceMod, Nat.reduceDiv, Int.reduceToNat, Int.reducePow, Int.reduceMul, Int.reduceAdd, Int.reduceSub, Int.reduceLE, Int.reduceLT, Int.reduceNeg, Int.reduceDiv, Int.reduceMod, Int.reduceEq, Int.reduceBEq, Int.reduceBNe]
              refine ⟨q + 1, go + 1, ws ++ [_], x ++ _, rfl, rfl, by omega, rfl, ?_, ws_step1 (F := fun p => (runSt ts fl i).left.getD p []) hwl hws ?_⟩
              · rw [List.length_append, hwl]; rfl
              · try simp only
                rw [hlq]
                exact new_at1 _ _ x _ 1 _ l (Nat.le_refl _)
          · obtain rfl : q = (runSt ts fl i).left.length := by omega
            repeat' first | simp (disch := first | with_reducible assumption | omega) only [go_sem, Bool.true_and, Bool.and_true, Bool.and_self, Bool.false_and, Bool.and_false, Bool.true_or, Bool.or_true, Bool.false_or, Bool.or_false, ↓reduceIte, Nat.reduceEqDiff, Nat.reduceAdd, Nat.reduceMul, Nat.reduceSub, Nat.reduceBEq, Nat.reduceLeDiff, Nat.reduceLT, Nat.reduceMod, Nat.reduceDiv, Int.reduceToNat, Int.reducePow, Int.reduceMul, Int.reduceAdd, Int.reduceSub, Int.reduceLE, Int.reduceLT, Int.reduceNeg, Int.reduceDiv, Int.reduceMod, Int.reduceEq, Int.reduceBEq, Int.reduceBNe, f9, f9b, f9r0, f9r1, f9r2, f9r3, f9r4, f9r5, f9r6, f9r7, f9r8, f9r9, f9r10, f9r11, f9r12, f9r13, f9r14, f9r16, f9r17, f9r18, f9r19, f9r20, f9r21, f9r23, f9l1, f9, f9b, f9r0, f9r1, f9r2, f9r3, f9r4, f9r5, f9r6, f9r7, f9r8, f9r9, f9r10, f9r11, f9r12, f9r13, f9r14, f9r16, f9r17, f9r18, f9r19, f9r20, f9r21, f9r23] | (refine BrW.of (fun hb => ?_) (fun hb => ?_) <;> (have hb' := hb; try simp only [decide_eq_true_eq, decide_eq_false_iff_not, beq_iff_eq, bne_iff_ne, beq_eq_false_iff_ne, bne_eq_false_iff_eq, Bool.not_eq_true', Bool.not_eq_false', Bool.not_eq_true, Bool.not_eq_false, Bool.and_eq_true, Bool.or_eq_true, Bool.and_eq_false_iff, Bool.or_eq_false_iff, Int.not_lt, Int.not_le, ne_eq, gt_iff_lt, ge_iff_le] at hb') <;> (try (exfalso; omega))) | (refine altW.of ?_ ?_)
            refine .here ⟨_, _, _, 0, rfl, hLe.trans (.app _ _), ⟨fun _ => ⟨hok, hR0, hR1⟩, fun _ => rfl⟩, fun h => absurd rfl h, fun _ => ⟨hS5.app _, ?_, hM5.app _⟩⟩
            exact ⟨G.length, 0, go, _, ws, trivial, rfl, Vals.new _ _ _ false _ (get_new0 _ _ _), hwl, Nat.le_refl _, fun p hp => (hws p hp).any⟩
    · repeat' first | simp (disch := first | with_reducible assumption | omega) only [go_sem, Bool.true_and, Bool.and_true, Bool.and_self, Bool.false_and, Bool.and_false, Bool.true_or, Bool.or_true, Bool.false_or, Bool.or_false, ↓reduceIte, Nat.reduceEqDiff, Nat.reduceAdd, Nat.reduceMul, Nat.reduceSub, Nat.reduceBEq, Nat.reduceLeDiff, Nat.reduceLT, Nat.reduceMod, Nat.reduceDiv, Int.reduceToNat, Int.reducePow, Int.reduceMul, Int.reduceAdd, Int.reduceSub, Int.reduceLE, Int.reduceLT, Int.reduceNeg, Int.reduceDiv, Int.reduceMod, Int.reduceEq, Int.reduceBEq, Int.reduceBNe, f9, f9b, f9r0, f9r1, f9r2, f9r3, f9r4, f9r5, f9r6, f9r7, f9r8, f9r9, f9r10, f9r11, f9r12, f9r13, f9r14, f9r16, f9r17, f9r18, f9r19, f9r20, f9r21, f9r23, hk] | (refine BrW.of (fun hb => ?_) (fun hb => ?_) <;> (have hb' := hb; try simp only [decide_eq_true_eq, decide_eq_false_iff_not, beq_iff_eq, bne_iff_ne, beq_eq_false_iff_ne, bne_eq_false_iff_eq, Bool.not_eq_true', Bool.not_eq_false', Bool.not_eq_true, Bool.not_eq_false, Bool.and_eq_true, Bool.or_eq_true, Bool.and_eq_false_iff, Bool.or_eq_false_iff, Int.not_lt, Int.not_le, ne_eq, gt_iff_lt, ge_iff_le] at hb') <;> (try (exfalso; omega))) | (refine altW.of ?_ ?_) | (refine .of (hW.mono ?_); rintro v H ⟨e, rfl, he, rfl⟩; obtain rfl := he.2 hok)
      all_goals exact .here ⟨_, _, _, 2, rfl, .refl _, ⟨fun h => by omega, fun h => absurd h.2 hR⟩, fun _ => rfl, fun h => by omega⟩
  · repeat' first | simp (disch := first | with_reducible assumption | omega) only [go_sem, Bool.true_and, Bool.and_true, Bool.and_self, Bool.false_and, Bool.and_false, Bool.true_or, Bool.or_true, Bool.false_or, Bool.or_false, ↓reduceIte, Nat.reduceEqDiff, Nat.reduceAdd, Nat.reduceMul, Nat.reduceSub, Nat.reduceBEq, Nat.reduceLeDiff, Nat.reduceLT, Nat.reduceMod, Nat.reduceDiv, Int.reduceToNat, Int.reducePow, Int.reduceMul, Int.reduceAdd, Int.reduceSub, Int.reduceLE, Int.reduceLT, Int.reduceNeg, Int.reduceDiv, Int.reduceMod, Int.reduceEq, Int.reduceBEq, Int.reduceBNe, f9, f9b, f9r0, f9r1, f9r2, f9r3, f9r4, f9r5, f9r6, f9r7, f9r8, f9r9, f9r10, f9r11, f9r12, f9r13, f9r14, f9r16, f9r17, f9r18, f9r19, f9r20, f9r21, f9r23, hk] | (refine BrW.of (fun hb => ?_) (fun hb => ?_) <;> (have hb' := hb; try simp only [decide_eq_true_eq, decide_eq_false_iff_not, beq_iff_eq, bne_iff_ne, beq_eq_false_iff_ne, bne_eq_false_iff_eq, Bool.not_eq_true', Bool.not_eq_false', Bool.not_eq_true, Bool.not_eq_false, Bool.and_eq_true, Bool.or_eq_true, Bool.and_eq_false_iff, Bool.or_eq_false_iff, Int.not_lt, Int.not_le, ne_eq, gt_iff_lt, ge_iff_le] at hb') <;> (try (exfalso; omega))) | (refine altW.of ?_ ?_) | (refine .of (hW.mono ?_); rintro v H ⟨e, rfl, he, rfl⟩; have hne : (e != 0) = true := by simpa using fun h => hok (he.1 h))
    all_goals first | exact .here ⟨_, _, _, _, rfl, .refl _, ⟨fun h => absurd (he.1 h) hok, fun h => absurd h.1 hok⟩, fun _ => rfl, fun h => absurd (he.1 h) hok⟩ | (exfalso; exact hok (he.1 (by simpa using hb')))
end Go.Proofs.Ythdpcloggedhfaa
