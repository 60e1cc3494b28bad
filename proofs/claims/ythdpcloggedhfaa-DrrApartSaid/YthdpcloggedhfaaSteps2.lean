import Derived.Test.YthdpcloggedhfaaSteps
set_option linter.unusedSimpArgs false
set_option linter.unusedVariables false
set_option maxHeartbeats 2000000
set_option maxRecDepth 20000
namespace Go.Proofs.Ythdpcloggedhfaa
open Go Go.Am
attribute [local irreducible] opsW Ww loopW callW drawW outW outDW gW cW BrW bothW vW resW DropW RdW dcallW altW Later.run

def S.cells (s : S) : List Value := [.int .i64 s.f, .int .i64 s.n]
abbrev IsS (A : Nat → Prop) (H : Heap) (w : Value) (l : List S) : Prop := IsT S.cells 2 s0 A H w l
theorem tail_agree (H : Heap) (a b c a' b' c' : AObj) (x y : Heap) : ∀ k, H.length + 3 ≤ k → ∀ o, (H ++ (a :: b :: c :: x))[k]? = some o → (H ++ (a' :: b' :: c' :: (x ++ y)))[k]? = some o := by
  intro k hk o h
  rw [List.getElem?_append_right (by omega)] at h ⊢
  obtain ⟨n, hn⟩ : ∃ n, k - H.length = n + 3 := ⟨k - H.length - 3, by omega⟩
  rw [hn] at h ⊢
  simp only [List.getElem?_cons_succ] at h ⊢
  exact get_old h y
theorem ws_step {J : Heap} {a b c a' b' c' : AObj} {x y : Heap} {ws : List Value} {i : Nat} {F : Nat → List Int} {v : Value} (hwl : ws.length = i) (hws : ∀ q, q < i → IsN (J.length + 3 ≤ ·) (J ++ (a :: b :: c :: x)) (ws.getD q v0) (F q))
    (hv : IsN (J.length + 3 ≤ ·) (J ++ (a' :: b' :: c' :: (x ++ y))) v (F i)) : ∀ q, q < i + 1 → IsN (J.length + 3 ≤ ·) (J ++ (a' :: b' :: c' :: (x ++ y))) ((ws ++ [v]).getD q v0) (F q) := fun q hq => by
  by_cases e : q = i
  · subst e
    rw [List.getD_eq_getElem?_getD, List.getElem?_append_right (by omega), hwl, Nat.sub_self]
    exact hv
  · rw [List.getD_eq_getElem?_getD, List.getElem?_append_left (by omega), ← List.getD_eq_getElem?_getD]
    exact (hws q (by omega)).agree (tail_agree J a b c a' b' c' x y)
theorem new_at (J : Heap) (a b c : AObj) (x z rest : Heap) (g cc : Nat) (l : List Int) (hl : l.length ≤ cc) : IsN (J.length + 3 ≤ ·) (J ++ (a :: b :: c :: (x ++ (z ++ (.cells g 1 false (ints l) :: rest))))) (slv (J.length + (x.length + z.length + 1 + 1 + 1)) 0 g l.length cc) l := by
  refine .of (by omega) (Ints.new _ _ _ false _ ?_) hl
  rw [get_new]
  simp only [List.getElem?_cons_succ]
  rw [← List.append_assoc, List.getElem?_append_right (by simp)]
  simp
theorem flatS_len (l : List S) : (flat' S.cells l).length = l.length * 2 := flat'_length (enc := S.cells) (s := 2) (fun _ => rfl) l
theorem flatS_snoc (l : List S) (s : S) : flat' S.cells l ++ [.int .i64 s.f, .int .i64 s.n] = flat' S.cells (l ++ [s]) := by rw [← flat'_app]; rfl
theorem flatS_take (l : List S) : (flat' S.cells l).take (l.length * 2) = flat' S.cells l := List.take_of_length_le (by rw [flatS_len]; omega)
theorem rowS_snoc (k : Nat) (l : List Int) (x : Int) : rowS k (l ++ [x]) = rowS k l ++ [⟨(k : Int), x⟩] := by simp [rowS]
theorem rowS_len (k : Nat) (l : List Int) : (rowS k l).length = l.length := by simp [rowS]

theorem Round_spec (ts may : List Int) (fl : List (List Int)) (wt wf wm : Value) (A : Nat → Prop) (H : Heap) (hT : IsN A H wt ts) (hF : IsLL A H wf fl) (hM : IsN A H wm may) (hok : okT ts fl) (hmay : okM ts may) :
    ACallK Try.prog 12 [wt, wf, wm] H (fun v H' => ∃ a b c, v = .tuple #[a, b, c, .int .i64 0] ∧ Le H H' ∧ IsS (H.length ≤ ·) H' a (sentR ts may fl ts.length) ∧ IsLL (H.length ≤ ·) H' b (leftR ts may fl ts.length) ∧ IsN (H.length ≤ ·) H' c (yetR ts may fl ts.length)) := by
  have hW := Wrong_spec ts fl wt wf A H hT hF (by have := hok.2.1; omega) (by have := hok.2.1; have := hok.1; omega) (fun i hi => by have := (hok.flow i).1; omega)
  have hsl := sentR_len (ts := ts) (may := may) (fun k => (hok.flow k).1)
  obtain ⟨k, o, g, c, _, rfl, hs, hc⟩ := hT
  obtain ⟨k2, o2, g2, c2, vs, _, rfl, hv, hvl, hc2, hin⟩ := hF
  obtain ⟨k3, o3, g3, c3, _, rfl, hs3, hc3⟩ := hM
  obtain ⟨ro, cs, hk, hcl, hcs⟩ := Ints.cell hs
  obtain ⟨ro2, cs2, hk2, hcl2, hcs2⟩ := hv.cell
  obtain ⟨ro3, cs3, hk3, hcl3, hcs3⟩ := Ints.cell hs3
  have hn16 := hok.2.1
  have hlen := hok.1
  have hlm := hmay.1
  refine .walkW f12_ok (by simp; decide) (by decide) ?_
  repeat' first | simp (disch := first | with_reducible assumption | omega) only [go_sem, Bool.true_and, Bool.and_true, Bool.and_self, Bool.false_and, Bool.and_false, Bool.true_or, Bool.or_true, Bool.false_or, Bool.or_false, ↓reduceIte, Nat.reduceEqDiff, Nat.reduceAdd, Nat.reduceMul, Nat.reduceSub, Nat.reduceBEq, Nat.reduceLeDiff, Nat.reduceLT, Nat.reduceMod, Nat.reduceDiv, Int.reduceToNat, Int.reducePow, Int.reduceMul, Int.reduceAdd, Int.reduceSub, Int.reduceLE, Int.reduceLT, Int.reduceNeg, Int.reduceDiv, Int.reduceMod, Int.reduceEq, Int.reduceBEq, Int.reduceBNe, f12, f12b, f12r0, f12r1, f12r2, f12r3, f12r4, f12r5, f12r6, f12r7, f12r8, f12r9, f12r10, f12r11, f12r12, f12r14, f12r15, f12r16, f12r17, f12r18, f12r19, f12r20, f12r21, f12r22, f12r23, f12r24, f12r25, f12r27, f12r28, f12r29, f12r31, hk, hk2, hk3] | (refine BrW.of (fun hb => ?_) (fun hb => ?_) <;> (have hb' := hb; try simp only [decide_eq_true_eq, decide_eq_false_iff_not, beq_iff_eq, bne_iff_ne, beq_eq_false_iff_ne, bne_eq_false_iff_eq, Bool.not_eq_true', Bool.not_eq_false', Bool.not_eq_true, Bool.not_eq_false, Bool.and_eq_true, Bool.or_eq_true, Bool.and_eq_false_iff, Bool.or_eq_false_iff, Int.not_lt, Int.not_le, ne_eq, gt_iff_lt, ge_iff_le] at hb') <;> (try (exfalso; omega))) | (refine altW.of ?_ ?_) | (refine .of (hW.mono ?_); rintro v H ⟨e, rfl, he, rfl⟩; obtain rfl := he.2 hok)
  refine loopW.of (by decide) (fun m e J => ∃ i : Nat, e = [(0, slv k o g ts.length c), (1, slv k2 o2 g2 fl.length c2), (2, slv k3 o3 g3 may.length c3), (10, .func (.func 17) #[] #[]), (46, slv k3 o3 g3 may.length c3), (47, .int .i64 may.length), (48, .int .i64 i)] ∧ J = H ∧ i ≤ may.length ∧ m = may.length - i) may.length ⟨0, rfl, rfl, by omega, rfl⟩ ?_
  rintro m e J ⟨i, rfl, rfl, hi, rfl⟩
  by_cases hlt : i < may.length
  · have e0 := hcs3 i hlt
    have hx := hmay.2 _ (getD_mem (d := (0 : Int)) hlt)
    clear hcs3 hcs2 hcs hin hsl
    generalize may.getD i 0 = x at *
    repeat' first | simp (disch := first | with_reducible assumption | omega) only [go_sem, Bool.true_and, Bool.and_true, Bool.and_self, Bool.false_and, Bool.and_false, Bool.true_or, Bool.or_true, Bool.false_or, Bool.or_false, ↓reduceIte, Nat.reduceEqDiff, Nat.reduceAdd, Nat.reduceMul, Nat.reduceSub, Nat.reduceBEq, Nat.reduceLeDiff, Nat.reduceLT, Nat.reduceMod, Nat.reduceDiv, Int.reduceToNat, Int.reducePow, Int.reduceMul, Int.reduceAdd, Int.reduceSub, Int.reduceLE, Int.reduceLT, Int.reduceNeg, Int.reduceDiv, Int.reduceMod, Int.reduceEq, Int.reduceBEq, Int.reduceBNe, f12, f12b, f12r0, f12r1, f12r2, f12r3, f12r4, f12r5, f12r6, f12r7, f12r8, f12r9, f12r10, f12r11, f12r12, f12r14, f12r15, f12r16, f12r17, f12r18, f12r19, f12r20, f12r21, f12r22, f12r23, f12r24, f12r25, f12r27, f12r28, f12r29, f12r31, f12l0, hk3, e0] | (refine BrW.of (fun hb => ?_) (fun hb => ?_) <;> (have hb' := hb; try simp only [decide_eq_true_eq, decide_eq_false_iff_not, beq_iff_eq, bne_iff_ne, beq_eq_false_iff_ne, bne_eq_false_iff_eq, Bool.not_eq_true', Bool.not_eq_false', Bool.not_eq_true, Bool.not_eq_false, Bool.and_eq_true, Bool.or_eq_true, Bool.and_eq_false_iff, Bool.or_eq_false_iff, Int.not_lt, Int.not_le, ne_eq, gt_iff_lt, ge_iff_le] at hb') <;> (try (exfalso; omega))) | (refine altW.of ?_ ?_)
    refine RdW.keep [0, 1, 2, 10, 46, 47, 48] (may.length - (i + 1)) (by omega) ?_
    simp (disch := first | with_reducible assumption | omega) only [go_sem, Bool.true_and, Bool.and_true, Bool.and_self, Bool.false_and, Bool.and_false, Bool.true_or, Bool.or_true, Bool.false_or, Bool.or_false, ↓reduceIte, Nat.reduceEqDiff, Nat.reduceAdd, Nat.reduceMul, Nat.reduceSub, Nat.reduceBEq, Nat.reduceLeDiff, Nat.reduceLT, Nat.reduceMod, Nat.reduceDiv, Int.reduceToNat, Int.reducePow, Int.reduceMul, Int.reduceAdd, Int.reduceSub, Int.reduceLE, Int.reduceLT, Int.reduceNeg, Int.reduceDiv, Int.reduceMod, Int.reduceEq, Int.reduceBEq, Int.reduceBNe]
    exact ⟨i + 1, rfl, by omega, rfl⟩
  · obtain rfl : i = may.length := by omega
    repeat' first | simp (disch := first | with_reducible assumption | omega) only [go_sem, Bool.true_and, Bool.and_true, Bool.and_self, Bool.false_and, Bool.and_false, Bool.true_or, Bool.or_true, Bool.false_or, Bool.or_false, ↓reduceIte, Nat.reduceEqDiff, Nat.reduceAdd, Nat.reduceMul, Nat.reduceSub, Nat.reduceBEq, Nat.reduceLeDiff, Nat.reduceLT, Nat.reduceMod, Nat.reduceDiv, Int.reduceToNat, Int.reducePow, Int.reduceMul, Int.reduceAdd, Int.reduceSub, Int.reduceLE, Int.reduceLT, Int.reduceNeg, Int.reduceDiv, Int.reduceMod, Int.reduceEq, Int.reduceBEq, Int.reduceBNe, f12, f12b, f12r0, f12r1, f12r2, f12r3, f12r4, f12r5, f12r6, f12r7, f12r8, f12r9, f12r10, f12r11, f12r12, f12r14, f12r15, f12r16, f12r17, f12r18, f12r19, f12r20, f12r21, f12r22, f12r23, f12r24, f12r25, f12r27, f12r28, f12r29, f12r31, f12l0, f12, f12b, f12r0, f12r1, f12r2, f12r3, f12r4, f12r5, f12r6, f12r7, f12r8, f12r9, f12r10, f12r11, f12r12, f12r14, f12r15, f12r16, f12r17, f12r18, f12r19, f12r20, f12r21, f12r22, f12r23, f12r24, f12r25, f12r27, f12r28, f12r29, f12r31, hk, hk2, hk3] | (refine BrW.of (fun hb => ?_) (fun hb => ?_) <;> (have hb' := hb; try simp only [decide_eq_true_eq, decide_eq_false_iff_not, beq_iff_eq, bne_iff_ne, beq_eq_false_iff_ne, bne_eq_false_iff_eq, Bool.not_eq_true', Bool.not_eq_false', Bool.not_eq_true, Bool.not_eq_false, Bool.and_eq_true, Bool.or_eq_true, Bool.and_eq_false_iff, Bool.or_eq_false_iff, Int.not_lt, Int.not_le, ne_eq, gt_iff_lt, ge_iff_le] at hb') <;> (try (exfalso; omega))) | (refine altW.of ?_ ?_)
    refine loopW.ghost 14 2 rfl ?_
    simp (disch := first | with_reducible assumption | omega) only [go_sem, Bool.true_and, Bool.and_true, Bool.and_self, Bool.false_and, Bool.and_false, Bool.true_or, Bool.or_true, Bool.false_or, Bool.or_false, ↓reduceIte, Nat.reduceEqDiff, Nat.reduceAdd, Nat.reduceMul, Nat.reduceSub, Nat.reduceBEq, Nat.reduceLeDiff, Nat.reduceLT, Nat.reduceMod, Nat.reduceDiv, Int.reduceToNat, Int.reducePow, Int.reduceMul, Int.reduceAdd, Int.reduceSub, Int.reduceLE, Int.reduceLT, Int.reduceNeg, Int.reduceDiv, Int.reduceMod, Int.reduceEq, Int.reduceBEq, Int.reduceBNe]
    refine loopW.ghost 15 1 rfl ?_
    simp (disch := first | with_reducible assumption | omega) only [go_sem, Bool.true_and, Bool.and_true, Bool.and_self, Bool.false_and, Bool.and_false, Bool.true_or, Bool.or_true, Bool.false_or, Bool.or_false, ↓reduceIte, Nat.reduceEqDiff, Nat.reduceAdd, Nat.reduceMul, Nat.reduceSub, Nat.reduceBEq, Nat.reduceLeDiff, Nat.reduceLT, Nat.reduceMod, Nat.reduceDiv, Int.reduceToNat, Int.reducePow, Int.reduceMul, Int.reduceAdd, Int.reduceSub, Int.reduceLE, Int.reduceLT, Int.reduceNeg, Int.reduceDiv, Int.reduceMod, Int.reduceEq, Int.reduceBEq, Int.reduceBNe]
    refine loopW.ghost 16 1 rfl ?_
    simp (disch := first | with_reducible assumption | omega) only [go_sem, Bool.true_and, Bool.and_true, Bool.and_self, Bool.false_and, Bool.and_false, Bool.true_or, Bool.or_true, Bool.false_or, Bool.or_false, ↓reduceIte, Nat.reduceEqDiff, Nat.reduceAdd, Nat.reduceMul, Nat.reduceSub, Nat.reduceBEq, Nat.reduceLeDiff, Nat.reduceLT, Nat.reduceMod, Nat.reduceDiv, Int.reduceToNat, Int.reducePow, Int.reduceMul, Int.reduceAdd, Int.reduceSub, Int.reduceLE, Int.reduceLT, Int.reduceNeg, Int.reduceDiv, Int.reduceMod, Int.reduceEq, Int.reduceBEq, Int.reduceBNe]
    refine loopW.of (by decide) (fun m e J' => ∃ (i gs gl gy : Nat) (ws : List Value) (x : Heap), e = [(0, slv k o g ts.length c), (2, slv k3 o3 g3 may.length c3), (14, slv J.length 0 gs (sentR ts may fl i).length (sentR ts may fl i).length), (15, slv (J.length + 1) 0 gl i i), (16, slv (J.length + 2) 0 gy i i), (65, slv k2 o2 g2 fl.length c2), (66, .int .i64 fl.length), (67, .int .i64 i)] ∧
      J' = J ++ (.cells gs 2 false (flat' S.cells (sentR ts may fl i)) :: .cells gl 1 false ws :: .cells gy 1 false (ints (yetR ts may fl i)) :: x) ∧ i ≤ fl.length ∧ m = fl.length - i ∧ ws.length = i ∧ ∀ q, q < i → IsN (J.length + 3 ≤ ·) J' (ws.getD q v0) (leftT (may.getD q 0 + ts.getD q 0) (fl.getD q []))) fl.length ⟨0, 0, 0, 0, [], [], rfl, rfl, by omega, rfl, rfl, fun q hq => by omega⟩ ?_
    rintro m e J' ⟨i, gs, gl, gy, ws, x, rfl, rfl, hi, rfl, hwl, hws⟩
    by_cases hlt : i < fl.length
    · have e0 := hcs i (by omega)
      have e1 := hcs2 i (by omega)
      have e3 := hcs3 i (by omega)
      obtain ⟨k4, o4, g4, c4, _, hve, hs4, hc4⟩ := hin i hlt
      rw [hve] at e1
      obtain ⟨ro4, cs4, hk4, hcl4, hcs4⟩ := Ints.cell hs4
      have ht := hok.turn (k := i) (by omega)
      have hf := hok.flow i
      have hx := hmay.2 _ (getD_mem (d := (0 : Int)) (l := may) (j := i) (by omega))
      have hTu := fun X => turn_spec (may.getD i 0 + ts.getD i 0) (fl.getD i []) k4 o4 g4 c4 (J ++ X) (hs4.app X) hc4 hf.1 (by omega) hf.2
      have hsn : sentR ts may fl (i + 1) = sentR ts may fl i ++ rowS i (outT (may.getD i 0 + ts.getD i 0) (fl.getD i [])) := rfl
      have hyn := yetR_succ ts may fl i
      have hyl := yetR_len ts may fl i
      have hsli := hsl i
      have htle := turnP_le (fl.getD i []) (may.getD i 0 + ts.getD i 0)
      have hdr := Tbl.drop hs4 (turnP (may.getD i 0 + ts.getD i 0) (fl.getD i [])).1 htle
      simp only [Nat.mul_one] at hdr
      have hwk : ws.length = i := hwl
      have hlq : (leftT (may.getD i 0 + ts.getD i 0) (fl.getD i [])) = (fl.getD i []).drop (turnP (may.getD i 0 + ts.getD i 0) (fl.getD i [])).1 := rfl
      have hout : outT (may.getD i 0 + ts.getD i 0) (fl.getD i []) = (fl.getD i []).take (turnP (may.getD i 0 + ts.getD i 0) (fl.getD i [])).1 := rfl
      rw [hout] at hsn
      rw [yetT] at *
      clear hcs hcs2 hcs3 hin hsl hok hmay
      generalize hl : fl.getD i [] = l at *
      generalize ha0 : may.getD i 0 = a0 at *
      generalize ht0 : ts.getD i 0 = t0 at *
      rw [hlq] at *
      generalize htp : turnP (a0 + t0) l = tp at *
      obtain ⟨K, Y0⟩ := tp
      have hlD : leftT (may.getD i 0 + ts.getD i 0) (fl.getD i []) = l.drop K := by rw [hl, ha0, ht0]; unfold leftT; rw [htp]
      clear hlq hout hve hl hb hb' htp ha0 ht0
      simp only at *
      generalize (if K = l.length then 0 else Y0) = Y at *
      repeat' first | simp (disch := first | with_reducible assumption | omega) only [go_sem, Bool.true_and, Bool.and_true, Bool.and_self, Bool.false_and, Bool.and_false, Bool.true_or, Bool.or_true, Bool.false_or, Bool.or_false, ↓reduceIte, Nat.reduceEqDiff, Nat.reduceAdd, Nat.reduceMul, Nat.reduceSub, Nat.reduceBEq, Nat.reduceLeDiff, Nat.reduceLT, Nat.reduceMod, Nat.reduceDiv, Int.reduceToNat, Int.reducePow, Int.reduceMul, Int.reduceAdd, Int.reduceSub, Int.reduceLE, Int.reduceLT, Int.reduceNeg, Int.reduceDiv, Int.reduceMod, Int.reduceEq, Int.reduceBEq, Int.reduceBNe, f12, f12b, f12r0, f12r1, f12r2, f12r3, f12r4, f12r5, f12r6, f12r7, f12r8, f12r9, f12r10, f12r11, f12r12, f12r14, f12r15, f12r16, f12r17, f12r18, f12r19, f12r20, f12r21, f12r22, f12r23, f12r24, f12r25, f12r27, f12r28, f12r29, f12r31, f12l2, hk, hk2, hk3, get_old hk, get_old hk2, get_old hk3, hk4, get_old hk4, e0, e1, e3] | (refine BrW.of (fun hb => ?_) (fun hb => ?_) <;> (have hb' := hb; try simp only [decide_eq_true_eq, decide_eq_false_iff_not, beq_iff_eq, bne_iff_ne, beq_eq_false_iff_ne, bne_eq_false_iff_eq, Bool.not_eq_true', Bool.not_eq_false', Bool.not_eq_true, Bool.not_eq_false, Bool.and_eq_true, Bool.or_eq_true, Bool.and_eq_false_iff, Bool.or_eq_false_iff, Int.not_lt, Int.not_le, ne_eq, gt_iff_lt, ge_iff_le] at hb') <;> (try (exfalso; omega))) | (refine altW.of ?_ ?_) | (refine dcallW.of _ _ (hTu _) ?_) | (refine callW.ex _ _ (hTu _) ?_)
      refine loopW.of (by decide) (fun m e J' => ∃ (j gs : Nat) (z : Heap), e = [(0, slv k o g ts.length c), (2, slv k3 o3 g3 may.length c3), (14, slv J.length 0 gs ((sentR ts may fl i).length + j) ((sentR ts may fl i).length + j)), (15, slv (J.length + 1) 0 gl i i), (16, slv (J.length + 2) 0 gy i i), (17, .int .i64 i), (18, slv k4 o4 g4 l.length c4), (19, slv k4 o4 g4 K c4), (20, .int .i64 Y), (65, slv k2 o2 g2 fl.length c2), (66, .int .i64 fl.length), (67, .int .i64 i), (86, slv k4 o4 g4 K c4), (87, .int .i64 K), (88, .int .i64 j)] ∧
        J' = J ++ (.cells gs 2 false (flat' S.cells (sentR ts may fl i ++ rowS i (l.take j))) :: .cells gl 1 false ws :: .cells gy 1 false (ints (yetR ts may fl i)) :: (x ++ z)) ∧ j ≤ K ∧ m = K - j) K ⟨0, gs, [], rfl, by simp [rowS], by omega, rfl⟩ ?_
      rintro m e J' ⟨j, gs, z, rfl, rfl, hj, rfl⟩
      generalize sentR ts may fl i = SI at *
      by_cases hjl : j < K
      · have e4 := hcs4 j (by omega)
        have hst := take_snoc 0 l j (by omega)
        have r1 : rowS i (l.take (j + 1)) = rowS i (l.take j) ++ [⟨(i : Int), l.getD j 0⟩] := by rw [hst, rowS_snoc]
        have r2 : (SI ++ rowS i (l.take j)).length = SI.length + j := by rw [List.length_append, rowS_len]; simp; omega
        have r3 := flatS_len (SI ++ rowS i (l.take j))
        have r4 := flatS_take (SI ++ rowS i (l.take j))
        have r5 := flatS_snoc (SI ++ rowS i (l.take j)) ⟨(i : Int), l.getD j 0⟩
        rw [List.append_assoc, ← r1] at r5
        simp only at r5
        rw [r2] at r3 r4
        have hni : ¬ SI.length + j + 1 ≤ SI.length + j := by omega
        have hmul : SI.length + j + 1 ≤ 8796093022208 := by omega
        clear hcs4 hTu hws hst r1 hsn r2
        generalize l.getD j 0 = y at *
        generalize flat' S.cells (SI ++ rowS i (l.take j)) = F1 at *
        generalize hF2 : flat' S.cells (SI ++ rowS i (l.take (j + 1))) = F2 at *
        repeat' first | simp (disch := first | with_reducible assumption | omega) only [go_sem, Bool.true_and, Bool.and_true, Bool.and_self, Bool.false_and, Bool.and_false, Bool.true_or, Bool.or_true, Bool.false_or, Bool.or_false, ↓reduceIte, Nat.reduceEqDiff, Nat.reduceAdd, Nat.reduceMul, Nat.reduceSub, Nat.reduceBEq, Nat.reduceLeDiff, Nat.reduceLT, Nat.reduceMod, Nat.reduceDiv, Int.reduceToNat, Int.reducePow, Int.reduceMul, Int.reduceAdd, Int.reduceSub, Int.reduceLE, Int.reduceLT, Int.reduceNeg, Int.reduceDiv, Int.reduceMod, Int.reduceEq, Int.reduceBEq, Int.reduceBNe, f12, f12b, f12r0, f12r1, f12r2, f12r3, f12r4, f12r5, f12r6, f12r7, f12r8, f12r9, f12r10, f12r11, f12r12, f12r14, f12r15, f12r16, f12r17, f12r18, f12r19, f12r20, f12r21, f12r22, f12r23, f12r24, f12r25, f12r27, f12r28, f12r29, f12r31, f12l1, hk4, get_old hk4, e4, r3, r4, hni] | (refine BrW.of (fun hb => ?_) (fun hb => ?_) <;> (have hb' := hb; try simp only [decide_eq_true_eq, decide_eq_false_iff_not, beq_iff_eq, bne_iff_ne, beq_eq_false_iff_ne, bne_eq_false_iff_eq, Bool.not_eq_true', Bool.not_eq_false', Bool.not_eq_true, Bool.not_eq_false, Bool.and_eq_true, Bool.or_eq_true, Bool.and_eq_false_iff, Bool.or_eq_false_iff, Int.not_lt, Int.not_le, ne_eq, gt_iff_lt, ge_iff_le] at hb') <;> (try (exfalso; omega))) | (refine altW.of ?_ ?_)
        refine RdW.keep [0, 2, 14, 15, 16, 17, 18, 19, 20, 65, 66, 67, 86, 87, 88] (K - (j + 1)) (by omega) ?_
        simp (disch := first | with_reducible assumption | omega) only [go_sem, Bool.true_and, Bool.and_true, Bool.and_self, Bool.false_and, Bool.and_false, Bool.true_or, Bool.or_true, Bool.false_or, Bool.or_false, ↓reduceIte, Nat.reduceEqDiff, Nat.reduceAdd, Nat.reduceMul, Nat.reduceSub, Nat.reduceBEq, Nat.reduceLeDiff, Nat.reduceLT, Nat.reduceMod, Nat.reduceDiv, Int.reduceToNat, Int.reducePow, Int.reduceMul, Int.reduceAdd, Int.reduceSub, Int.reduceLE, Int.reduceLT, Int.reduceNeg, Int.reduceDiv, Int.reduceMod, Int.reduceEq, Int.reduceBEq, Int.reduceBNe]
        exact ⟨j + 1, gs + 1, z ++ [AObj.cells 0 2 false [Value.int IntKind.i64 i, Value.int IntKind.i64 y]], rfl, by rw [hF2, r5], by omega, rfl⟩
      · obtain rfl : j = K := by omega
        obtain ⟨ro5, cs5, q1, q2, q3⟩ := hdr.at'
        rw [hk4] at q1
        cases q1
        have htk := Tbl.cells (enc := ienc) (fun _ => rfl) q2 q3
        rw [flat'_ienc, List.length_drop, Nat.mul_one] at htk
        simp only [List.length_drop, Nat.mul_one] at q2
        have hil := ints_length (yetR ts may fl i)
        rw [hyl] at hil
        have hit := ints_take (yetR ts may fl i) i (by omega)
        have his := ints_snoc (yetR ts may fl i) Y
        rw [← hyn] at his
        have hwt : ws.take i = ws := List.take_of_length_le (by omega)
        have hni : ¬ i + 1 ≤ i := by omega
        have hdl : (l.drop j).length = l.length - j := List.length_drop
        have hSL : SI.length + j = (sentR ts may fl (i + 1)).length := by rw [hsn, List.length_append, rowS_len]; simp; omega
        rw [← hsn, hSL]
        have hin5 := hyl
        clear hcs4 hTu hsn q3 hs4 hdr hs hs3 hv hW
        generalize hSN : sentR ts may fl (i + 1) = SN at *
        generalize hY2 : ints (yetR ts may fl (i + 1)) = Y2 at *
        generalize ints (yetR ts may fl i) = Y1 at *
        have hda := hlD
        by_cases hz : l.length - j = 0
        · have hdn : l.drop j = [] := List.drop_eq_nil_of_le (by omega)
          repeat' first | simp (disch := first | with_reducible assumption | omega) only [go_sem, Bool.true_and, Bool.and_true, Bool.and_self, Bool.false_and, Bool.and_false, Bool.true_or, Bool.or_true, Bool.false_or, Bool.or_false, ↓reduceIte, Nat.reduceEqDiff, Nat.reduceAdd, Nat.reduceMul, Nat.reduceSub, Nat.reduceBEq, Nat.reduceLeDiff, Nat.reduceLT, Nat.reduceMod, Nat.reduceDiv, Int.reduceToNat, Int.reducePow, Int.reduceMul, Int.reduceAdd, Int.reduceSub, Int.reduceLE, Int.reduceLT, Int.reduceNeg, Int.reduceDiv, Int.reduceMod, Int.reduceEq, Int.reduceBEq, Int.reduceBNe, f12, f12b, f12r0, f12r1, f12r2, f12r3, f12r4, f12r5, f12r6, f12r7, f12r8, f12r9, f12r10, f12r11, f12r12, f12r14, f12r15, f12r16, f12r17, f12r18, f12r19, f12r20, f12r21, f12r22, f12r23, f12r24, f12r25, f12r27, f12r28, f12r29, f12r31, f12l1, f12, f12b, f12r0, f12r1, f12r2, f12r3, f12r4, f12r5, f12r6, f12r7, f12r8, f12r9, f12r10, f12r11, f12r12, f12r14, f12r15, f12r16, f12r17, f12r18, f12r19, f12r20, f12r21, f12r22, f12r23, f12r24, f12r25, f12r27, f12r28, f12r29, f12r31, f12l2, hk4, get_old hk4, hz, htk, hil, hit, his, hwl, hwt, hni] | (refine BrW.of (fun hb => ?_) (fun hb => ?_) <;> (have hb' := hb; try simp only [decide_eq_true_eq, decide_eq_false_iff_not, beq_iff_eq, bne_iff_ne, beq_eq_false_iff_ne, bne_eq_false_iff_eq, Bool.not_eq_true', Bool.not_eq_false', Bool.not_eq_true, Bool.not_eq_false, Bool.and_eq_true, Bool.or_eq_true, Bool.and_eq_false_iff, Bool.or_eq_false_iff, Int.not_lt, Int.not_le, ne_eq, gt_iff_lt, ge_iff_le] at hb') <;> (try (exfalso; omega))) | (refine altW.of ?_ ?_)
          refine RdW.keep [0, 2, 14, 15, 16, 65, 66, 67] (fl.length - (i + 1)) (by omega) ?_
          simp (disch := first | with_reducible assumption | omega) only [go_sem, Bool.true_and, Bool.and_true, Bool.and_self, Bool.false_and, Bool.and_false, Bool.true_or, Bool.or_true, Bool.false_or, Bool.or_false, ↓reduceIte, Nat.reduceEqDiff, Nat.reduceAdd, Nat.reduceMul, Nat.reduceSub, Nat.reduceBEq, Nat.reduceLeDiff, Nat.reduceLT, Nat.reduceMod, Nat.reduceDiv, Int.reduceToNat, Int.reducePow, Int.reduceMul, Int.reduceAdd, Int.reduceSub, Int.reduceLE, Int.reduceLT, Int.reduceNeg, Int.reduceDiv, Int.reduceMod, Int.reduceEq, Int.reduceBEq, Int.reduceBNe]
          subst hSN hY2
          refine ⟨i + 1, gs, gl + 1, gy + 1, ws ++ [_], x ++ (z ++ _), rfl, rfl, by omega, rfl, ?_, ws_step (F := fun q => leftT (may.getD q 0 + ts.getD q 0) (fl.getD q [])) hwl hws ?_⟩
          · rw [List.length_append, hwl]; rfl
          · try simp only
            rw [hda, hdn]
            exact new_at _ _ _ _ x z _ 0 0 [] (Nat.le_refl _)
        · have hz2 : ¬ l.length - j ≤ 0 := by omega
          repeat' first | simp (disch := first | with_reducible assumption | omega) only [go_sem, Bool.true_and, Bool.and_true, Bool.and_self, Bool.false_and, Bool.and_false, Bool.true_or, Bool.or_true, Bool.false_or, Bool.or_false, ↓reduceIte, Nat.reduceEqDiff, Nat.reduceAdd, Nat.reduceMul, Nat.reduceSub, Nat.reduceBEq, Nat.reduceLeDiff, Nat.reduceLT, Nat.reduceMod, Nat.reduceDiv, Int.reduceToNat, Int.reducePow, Int.reduceMul, Int.reduceAdd, Int.reduceSub, Int.reduceLE, Int.reduceLT, Int.reduceNeg, Int.reduceDiv, Int.reduceMod, Int.reduceEq, Int.reduceBEq, Int.reduceBNe, f12, f12b, f12r0, f12r1, f12r2, f12r3, f12r4, f12r5, f12r6, f12r7, f12r8, f12r9, f12r10, f12r11, f12r12, f12r14, f12r15, f12r16, f12r17, f12r18, f12r19, f12r20, f12r21, f12r22, f12r23, f12r24, f12r25, f12r27, f12r28, f12r29, f12r31, f12l1, f12, f12b, f12r0, f12r1, f12r2, f12r3, f12r4, f12r5, f12r6, f12r7, f12r8, f12r9, f12r10, f12r11, f12r12, f12r14, f12r15, f12r16, f12r17, f12r18, f12r19, f12r20, f12r21, f12r22, f12r23, f12r24, f12r25, f12r27, f12r28, f12r29, f12r31, f12l2, hk4, get_old hk4, hz, hz2, htk, hil, hit, his, hwl, hwt, hni] | (refine BrW.of (fun hb => ?_) (fun hb => ?_) <;> (have hb' := hb; try simp only [decide_eq_true_eq, decide_eq_false_iff_not, beq_iff_eq, bne_iff_ne, beq_eq_false_iff_ne, bne_eq_false_iff_eq, Bool.not_eq_true', Bool.not_eq_false', Bool.not_eq_true, Bool.not_eq_false, Bool.and_eq_true, Bool.or_eq_true, Bool.and_eq_false_iff, Bool.or_eq_false_iff, Int.not_lt, Int.not_le, ne_eq, gt_iff_lt, ge_iff_le] at hb') <;> (try (exfalso; omega))) | (refine altW.of ?_ ?_)
          refine RdW.keep [0, 2, 14, 15, 16, 65, 66, 67] (fl.length - (i + 1)) (by omega) ?_
          simp (disch := first | with_reducible assumption | omega) only [go_sem, Bool.true_and, Bool.and_true, Bool.and_self, Bool.false_and, Bool.and_false, Bool.true_or, Bool.or_true, Bool.false_or, Bool.or_false, ↓reduceIte, Nat.reduceEqDiff, Nat.reduceAdd, Nat.reduceMul, Nat.reduceSub, Nat.reduceBEq, Nat.reduceLeDiff, Nat.reduceLT, Nat.reduceMod, Nat.reduceDiv, Int.reduceToNat, Int.reducePow, Int.reduceMul, Int.reduceAdd, Int.reduceSub, Int.reduceLE, Int.reduceLT, Int.reduceNeg, Int.reduceDiv, Int.reduceMod, Int.reduceEq, Int.reduceBEq, Int.reduceBNe]
          subst hSN hY2
          refine ⟨i + 1, gs, gl + 1, gy + 1, ws ++ [_], x ++ (z ++ _), rfl, rfl, by omega, rfl, ?_, ws_step (F := fun q => leftT (may.getD q 0 + ts.getD q 0) (fl.getD q [])) hwl hws ?_⟩
          · rw [List.length_append, hwl]; rfl
          · try simp only
            rw [hda, ← hdl]
            exact new_at _ _ _ _ x z _ 1 _ (l.drop j) (Nat.le_refl _)
    · obtain rfl : i = fl.length := by omega
      rw [hlen]
      have hwT : Vals (J ++ (AObj.cells gs 2 false (flat' S.cells (sentR ts may fl fl.length)) :: .cells gl 1 false ws :: .cells gy 1 false (ints (yetR ts may fl fl.length)) :: x)) (J.length + 1) 0 gl ws := Vals.new _ _ _ false _ (by rw [get_new]; rfl)
      repeat' first | simp (disch := first | with_reducible assumption | omega) only [go_sem, Bool.true_and, Bool.and_true, Bool.and_self, Bool.false_and, Bool.and_false, Bool.true_or, Bool.or_true, Bool.false_or, Bool.or_false, ↓reduceIte, Nat.reduceEqDiff, Nat.reduceAdd, Nat.reduceMul, Nat.reduceSub, Nat.reduceBEq, Nat.reduceLeDiff, Nat.reduceLT, Nat.reduceMod, Nat.reduceDiv, Int.reduceToNat, Int.reducePow, Int.reduceMul, Int.reduceAdd, Int.reduceSub, Int.reduceLE, Int.reduceLT, Int.reduceNeg, Int.reduceDiv, Int.reduceMod, Int.reduceEq, Int.reduceBEq, Int.reduceBNe, f12, f12b, f12r0, f12r1, f12r2, f12r3, f12r4, f12r5, f12r6, f12r7, f12r8, f12r9, f12r10, f12r11, f12r12, f12r14, f12r15, f12r16, f12r17, f12r18, f12r19, f12r20, f12r21, f12r22, f12r23, f12r24, f12r25, f12r27, f12r28, f12r29, f12r31, f12l2, f12, f12b, f12r0, f12r1, f12r2, f12r3, f12r4, f12r5, f12r6, f12r7, f12r8, f12r9, f12r10, f12r11, f12r12, f12r14, f12r15, f12r16, f12r17, f12r18, f12r19, f12r20, f12r21, f12r22, f12r23, f12r24, f12r25, f12r27, f12r28, f12r29, f12r31] | (refine BrW.of (fun hb => ?_) (fun hb => ?_) <;> (have hb' := hb; try simp only [decide_eq_true_eq, decide_eq_false_iff_not, beq_iff_eq, bne_iff_ne, beq_eq_false_iff_ne, bne_eq_false_iff_eq, Bool.not_eq_true', Bool.not_eq_false', Bool.not_eq_true, Bool.not_eq_false, Bool.and_eq_true, Bool.or_eq_true, Bool.and_eq_false_iff, Bool.or_eq_false_iff, Int.not_lt, Int.not_le, ne_eq, gt_iff_lt, ge_iff_le] at hb') <;> (try (exfalso; omega))) | (refine altW.of ?_ ?_)
      refine .here ⟨_, _, _, rfl, .app _ _, ?_, ?_, ?_⟩
      · exact .of (by omega) (Tbl.new (enc := S.cells) (s := 2) (d := s0) (fun _ => rfl) _ _ _ false _ (get_new0 _ _ _)) (Nat.le_refl _)
      · refine ⟨J.length + 1, 0, gl, fl.length, ws, by omega, by rw [leftR_len], hwT, by rw [leftR_len, hwl], by rw [leftR_len]; exact Nat.le_refl _, fun q hq => ?_⟩
        rw [leftR_len] at hq
        rw [leftR_get _ _ _ _ _ hq]
        exact (hws q hq).mono fun k _ h => by omega
      · have := yetR_len ts may fl fl.length
        refine ⟨J.length + 2, 0, gy, fl.length, by omega, by rw [this], Ints.new _ _ _ false _ (by rw [get_new]; rfl), by omega⟩
end Go.Proofs.Ythdpcloggedhfaa
