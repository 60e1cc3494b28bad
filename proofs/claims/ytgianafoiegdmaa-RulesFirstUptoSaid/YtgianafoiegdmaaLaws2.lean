import Derived.Test.YtgianafoiegdmaaLaws
import Derived.Test.YtgianafoiegdmaaSteps4
set_option linter.unusedSimpArgs false
set_option linter.unusedVariables false
set_option maxHeartbeats 2000000
set_option maxRecDepth 20000
namespace Go.Proofs.Ytgianafoiegdmaa
open Go Go.Am
attribute [local irreducible] opsW Ww loopW callW drawW outW outDW gW cW BrW bothW vW resW DropW RdW dcallW Later.run

theorem Index_nil (f : Value) (H : Heap) : ACallK Try.prog 15 [.slice none 0 0, f] H (fun v H' => v = .int .i64 (-1) ∧ H' = H) := by
  refine .walkW f15_ok (by simp; decide) (by decide) ?_
  repeat' first | simp (disch := first | with_reducible assumption | omega) only [go_sem, Bool.true_and, Bool.and_true, Bool.and_self, Bool.false_and, Bool.and_false, Bool.true_or, Bool.or_true, Bool.false_or, Bool.or_false, ↓reduceIte, Nat.reduceEqDiff, Nat.reduceAdd, Nat.reduceMul, Nat.reduceSub, Nat.reduceBEq, Nat.reduceLeDiff, Nat.reduceLT, Nat.reduceMod, Nat.reduceDiv, Int.reduceToNat, Int.reducePow, Int.reduceMul, Int.reduceAdd, Int.reduceSub, Int.reduceLE, Int.reduceLT, Int.reduceNeg, Int.reduceDiv, Int.reduceMod, Int.reduceEq, Int.reduceBEq, Int.reduceBNe, f15, f15b, f15r0, f15r1, f15r2, f15r3, f15r4, f15r5, f15r6, f15r8] | (refine BrW.of (fun hb => ?_) (fun hb => ?_) <;> (have hb' := hb; try simp only [decide_eq_true_eq, decide_eq_false_iff_not, beq_iff_eq, bne_iff_ne, beq_eq_false_iff_ne, bne_eq_false_iff_eq, Bool.not_eq_true', Bool.not_eq_false', Bool.not_eq_true, Bool.not_eq_false, Bool.and_eq_true, Bool.or_eq_true, Bool.and_eq_false_iff, Bool.or_eq_false_iff, Int.not_lt, Int.not_le, ne_eq, gt_iff_lt, ge_iff_le] at hb') <;> (try (exfalso; omega)))
  refine loopW.of (by decide) (fun m e J => e = [(0, .slice none 0 0), (1, f), (7, .int .i64 0), (8, .int .i64 0)] ∧ J = H) 0 ⟨rfl, rfl⟩ ?_
  rintro m e J ⟨rfl, rfl⟩
  repeat' first | simp (disch := first | with_reducible assumption | omega) only [go_sem, Bool.true_and, Bool.and_true, Bool.and_self, Bool.false_and, Bool.and_false, Bool.true_or, Bool.or_true, Bool.false_or, Bool.or_false, ↓reduceIte, Nat.reduceEqDiff, Nat.reduceAdd, Nat.reduceMul, Nat.reduceSub, Nat.reduceBEq, Nat.reduceLeDiff, Nat.reduceLT, Nat.reduceMod, Nat.reduceDiv, Int.reduceToNat, Int.reducePow, Int.reduceMul, Int.reduceAdd, Int.reduceSub, Int.reduceLE, Int.reduceLT, Int.reduceNeg, Int.reduceDiv, Int.reduceMod, Int.reduceEq, Int.reduceBEq, Int.reduceBNe, f15, f15b, f15r0, f15r1, f15r2, f15r3, f15r4, f15r5, f15r6, f15r8, f15l0, f15, f15b, f15r0, f15r1, f15r2, f15r3, f15r4, f15r5, f15r6, f15r8] | (refine BrW.of (fun hb => ?_) (fun hb => ?_) <;> (have hb' := hb; try simp only [decide_eq_true_eq, decide_eq_false_iff_not, beq_iff_eq, bne_iff_ne, beq_eq_false_iff_ne, bne_eq_false_iff_eq, Bool.not_eq_true', Bool.not_eq_false', Bool.not_eq_true, Bool.not_eq_false, Bool.and_eq_true, Bool.or_eq_true, Bool.and_eq_false_iff, Bool.or_eq_false_iff, Int.not_lt, Int.not_le, ne_eq, gt_iff_lt, ge_iff_le] at hb') <;> (try (exfalso; omega)))
  exact .here ⟨rfl, rfl⟩
theorem Contains_nil (f : Value) (H : Heap) : ACallK Try.prog 19 [.slice none 0 0, f] H (fun v H' => v = .bool false ∧ H' = H) := by
  refine .walkW f19_ok (by simp; decide) (by decide) ?_
  repeat' first | simp (disch := first | with_reducible assumption | omega) only [go_sem, Bool.true_and, Bool.and_true, Bool.and_self, Bool.false_and, Bool.and_false, Bool.true_or, Bool.or_true, Bool.false_or, Bool.or_false, ↓reduceIte, Nat.reduceEqDiff, Nat.reduceAdd, Nat.reduceMul, Nat.reduceSub, Nat.reduceBEq, Nat.reduceLeDiff, Nat.reduceLT, Nat.reduceMod, Nat.reduceDiv, Int.reduceToNat, Int.reducePow, Int.reduceMul, Int.reduceAdd, Int.reduceSub, Int.reduceLE, Int.reduceLT, Int.reduceNeg, Int.reduceDiv, Int.reduceMod, Int.reduceEq, Int.reduceBEq, Int.reduceBNe, f19, f19b, f19r0, f19r1] | (refine BrW.of (fun hb => ?_) (fun hb => ?_) <;> (have hb' := hb; try simp only [decide_eq_true_eq, decide_eq_false_iff_not, beq_iff_eq, bne_iff_ne, beq_eq_false_iff_ne, bne_eq_false_iff_eq, Bool.not_eq_true', Bool.not_eq_false', Bool.not_eq_true, Bool.not_eq_false, Bool.and_eq_true, Bool.or_eq_true, Bool.and_eq_false_iff, Bool.or_eq_false_iff, Int.not_lt, Int.not_le, ne_eq, gt_iff_lt, ge_iff_le] at hb') <;> (try (exfalso; omega))) | (refine .of ((Index_nil _ _).mono ?_); rintro v _ ⟨rfl, rfl⟩)
  all_goals exact .here ⟨rfl, rfl⟩
theorem Wrong_nil (H : Heap) : ACallK Try.prog 11 [.slice none 0 0] H (fun v H' => v = .int .i64 0 ∧ H' = H) := by
  refine .walkW f11_ok (by simp; decide) (by decide) ?_
  repeat' first | simp (disch := first | with_reducible assumption | omega) only [go_sem, Bool.true_and, Bool.and_true, Bool.and_self, Bool.false_and, Bool.and_false, Bool.true_or, Bool.or_true, Bool.false_or, Bool.or_false, ↓reduceIte, Nat.reduceEqDiff, Nat.reduceAdd, Nat.reduceMul, Nat.reduceSub, Nat.reduceBEq, Nat.reduceLeDiff, Nat.reduceLT, Nat.reduceMod, Nat.reduceDiv, Int.reduceToNat, Int.reducePow, Int.reduceMul, Int.reduceAdd, Int.reduceSub, Int.reduceLE, Int.reduceLT, Int.reduceNeg, Int.reduceDiv, Int.reduceMod, Int.reduceEq, Int.reduceBEq, Int.reduceBNe, f11, f11b, f11r0, f11r1, f11r2, f11r3] | (refine BrW.of (fun hb => ?_) (fun hb => ?_) <;> (have hb' := hb; try simp only [decide_eq_true_eq, decide_eq_false_iff_not, beq_iff_eq, bne_iff_ne, beq_eq_false_iff_ne, bne_eq_false_iff_eq, Bool.not_eq_true', Bool.not_eq_false', Bool.not_eq_true, Bool.not_eq_false, Bool.and_eq_true, Bool.or_eq_true, Bool.and_eq_false_iff, Bool.or_eq_false_iff, Int.not_lt, Int.not_le, ne_eq, gt_iff_lt, ge_iff_le] at hb') <;> (try (exfalso; omega))) | (refine .of ((Contains_nil _ _).mono ?_); rintro v _ ⟨rfl, rfl⟩)
  all_goals exact .here ⟨rfl, rfl⟩
theorem Class_nil (h : D) (H : Heap) : ACallK Try.prog 10 [.slice none 0 0, h.val] H (fun v H' => v = .tuple #[.int .i64 0, .int .i64 3] ∧ H' = H) := by
  refine .walkW f10_ok (by simp; decide) (by decide) ?_
  repeat' first | simp (disch := first | with_reducible assumption | omega) only [go_sem, Bool.true_and, Bool.and_true, Bool.and_self, Bool.false_and, Bool.and_false, Bool.true_or, Bool.or_true, Bool.false_or, Bool.or_false, ↓reduceIte, Nat.reduceEqDiff, Nat.reduceAdd, Nat.reduceMul, Nat.reduceSub, Nat.reduceBEq, Nat.reduceLeDiff, Nat.reduceLT, Nat.reduceMod, Nat.reduceDiv, Int.reduceToNat, Int.reducePow, Int.reduceMul, Int.reduceAdd, Int.reduceSub, Int.reduceLE, Int.reduceLT, Int.reduceNeg, Int.reduceDiv, Int.reduceMod, Int.reduceEq, Int.reduceBEq, Int.reduceBNe, f10, f10b, f10r0, f10r1, f10r2, f10r3, f10r4, f10r5, f10r6, f10r7, D.val, D.cells] | (refine BrW.of (fun hb => ?_) (fun hb => ?_) <;> (have hb' := hb; try simp only [decide_eq_true_eq, decide_eq_false_iff_not, beq_iff_eq, bne_iff_ne, beq_eq_false_iff_ne, bne_eq_false_iff_eq, Bool.not_eq_true', Bool.not_eq_false', Bool.not_eq_true, Bool.not_eq_false, Bool.and_eq_true, Bool.or_eq_true, Bool.and_eq_false_iff, Bool.or_eq_false_iff, Int.not_lt, Int.not_le, ne_eq, gt_iff_lt, ge_iff_le] at hb') <;> (try (exfalso; omega))) | (refine .of ((Wrong_nil _).mono ?_); rintro v _ ⟨rfl, rfl⟩) | (refine .of ((Index_nil _ _).mono ?_); rintro v _ ⟨rfl, rfl⟩)
  all_goals exact .back rfl ⟨rfl, rfl⟩
theorem fitsClo2_spec (r : R) (h : D) (K : Nat) (H : Heap) (hr : r.ok) (hh : h.ok) (hk : H[K]? = some (.cells 0 0 false (D.cells h))) :
    ACallK Try.prog 16 (r.val :: [.pointer (some ⟨K, 0, some 1⟩)]) H (fun v H' => v = .bool (fits r h) ∧ H' = H) := by
  have s1 := fun H' => Fits_spec r h H' hr hh
  refine .walkW f16_ok (by simp; decide) (by decide) ?_
  repeat' first | simp (disch := first | with_reducible assumption | omega) only [go_sem, Bool.true_and, Bool.and_true, Bool.and_self, Bool.false_and, Bool.and_false, Bool.true_or, Bool.or_true, Bool.false_or, Bool.or_false, ↓reduceIte, Nat.reduceEqDiff, Nat.reduceAdd, Nat.reduceMul, Nat.reduceSub, Nat.reduceBEq, Nat.reduceLeDiff, Nat.reduceLT, Nat.reduceMod, Nat.reduceDiv, Int.reduceToNat, Int.reducePow, Int.reduceMul, Int.reduceAdd, Int.reduceSub, Int.reduceLE, Int.reduceLT, Int.reduceNeg, Int.reduceDiv, Int.reduceMod, Int.reduceEq, Int.reduceBEq, Int.reduceBNe, f16, f16b, f16r0, f16r1, hk, get_old hk, R.val, R.cells, D.cells] | (refine BrW.of (fun hb => ?_) (fun hb => ?_) <;> (have hb' := hb; try simp only [decide_eq_true_eq, decide_eq_false_iff_not, beq_iff_eq, bne_iff_ne, beq_eq_false_iff_ne, bne_eq_false_iff_eq, Bool.not_eq_true', Bool.not_eq_false', Bool.not_eq_true, Bool.not_eq_false, Bool.and_eq_true, Bool.or_eq_true, Bool.and_eq_false_iff, Bool.or_eq_false_iff, Int.not_lt, Int.not_le, ne_eq, gt_iff_lt, ge_iff_le] at hb') <;> (try (exfalso; omega))) | (refine .of ((s1 _).mono ?_); rintro v _ ⟨rfl, rfl⟩)
  exact .back rfl ⟨rfl, rfl⟩

theorem first_more {l m : List R} {d : D} (h : (cls l d).2 = 0) (hw : wrong (l ++ m) = false) : wrong l = false ∧ cls (l ++ m) d = cls l d ∧ ∃ j : Nat, j < l.length ∧ idx (fun r => fits r d) l = j ∧ cls l d = ((l.getD j r0).cl, 0) := by
  have hwl := wrong_app hw
  have hc : cls l d = match first l d with | some r => (r.cl, 0) | none => (0, 3) := by unfold cls; rw [if_neg (by rw [hwl]; simp)]; cases first l d <;> rfl
  have hc2 : cls (l ++ m) d = match first (l ++ m) d with | some r => (r.cl, 0) | none => (0, 3) := by unfold cls; rw [if_neg (by rw [hw]; simp)]; cases first (l ++ m) d <;> rfl
  rcases first_idx l d with ⟨h1, _⟩ | ⟨j, h1, h2, h3⟩
  · rw [hc, h1] at h; simp at h
  · rw [first_app, h3] at hc2
    rw [h3] at hc
    exact ⟨hwl, by rw [hc2, hc]; rfl, j, h1, h2, hc⟩

theorem RulesFirst_args (H : Heap) (vals : List Value) (h : ArgsOk 1048576 H RulesFirstSh vals) : ACallK Try.prog 6 vals H fun v _ => v = .bool true := by
  obtain ⟨_, _, rfl, a1, h⟩ := h.cons
  obtain ⟨_, _, rfl, a2, h⟩ := h.cons
  obtain ⟨_, _, rfl, a3, h⟩ := h.cons
  obtain rfl := h.nil
  obtain ⟨k, c, l, rfl, hB, hlc, hs, hok⟩ := rows_of (enc := R.cells) (ok := R.ok) 14 (fun _ => rfl) r0 rfl (fun cs h => R.of cs h) a1
  obtain ⟨k2, c2, l2, rfl, hB2, hlc2, hs2, hok2⟩ := rows_of (enc := R.cells) (ok := R.ok) 14 (fun _ => rfl) r0 rfl (fun cs h => R.of cs h) a2
  obtain ⟨cs, rfl, hr⟩ := a3.agg
  obtain ⟨d, rfl, hd⟩ := D.of cs hr
  clear a1 a2 a3 h hr
  refine .walkW f6_ok (by simp; decide) (by decide) ?_
  have sc := fun X => Class_spec l d k 0 0 c (H ++ X) (hs.app X) (by omega) hok hd
  have hok3 : ∀ i, i < (l ++ l2).length → ((l ++ l2).getD i r0).ok := fun i hi => by
    rcases List.mem_append.1 (getD_mem (d := r0) hi) with h | h
    · obtain ⟨j, hj, e⟩ := mem_getD (d := r0) h; rw [← e]; exact hok j hj
    · obtain ⟨j, hj, e⟩ := mem_getD (d := r0) h; rw [← e]; exact hok2 j hj
  by_cases hp : 0 < l.length + l2.length
  · have hC := CatR_full l l2 (slv k 0 0 l.length c) (slv k2 0 0 l2.length c2) (H.length + 1) (H ++ [.cells 0 0 false (D.cells d), .cells 0 1 false [slv k 0 0 l.length c, slv k2 0 0 l2.length c2]]) (by rw [get_new]; rfl) (.inr ⟨_, _, _, _, rfl, hs.app _, hlc⟩) (.inr ⟨_, _, _, _, rfl, hs2.app _, hlc2⟩) hB hB2 hp
    have hC2 := CatR_full l l2 (slv k 0 0 l.length c) (slv k2 0 0 l2.length c2) (H.length + 3) (H ++ [.cells 0 0 false (D.cells d), .cells 0 1 false [slv k 0 0 l.length c, slv k2 0 0 l2.length c2], .cells 0 14 false (flat' R.cells (l ++ l2)), .cells 0 1 false [slv k 0 0 l.length c, slv k2 0 0 l2.length c2]]) (by rw [get_new]; rfl) (.inr ⟨_, _, _, _, rfl, hs.app _, hlc⟩) (.inr ⟨_, _, _, _, rfl, hs2.app _, hlc2⟩) hB hB2 hp
    simp only [List.append_assoc, List.cons_append, List.nil_append, List.length_append, List.length_cons, List.length_nil, Nat.zero_add, Nat.reduceAdd] at hC hC2
    have sN := Class_spec (l ++ l2) d (H.length + 2) 0 0 (l.length + l2.length) (H ++ [.cells 0 0 false (D.cells d), .cells 0 1 false [slv k 0 0 l.length c, slv k2 0 0 l2.length c2], .cells 0 14 false (flat' R.cells (l ++ l2))]) (Tbl.new (enc := R.cells) (s := 14) (d := r0) (fun _ => rfl) _ _ _ false _ (by rw [get_new]; rfl)) (by rw [List.length_append]; omega) hok3 hd
    have sW := Wrong_spec (l ++ l2) (H.length + 4) 0 0 (l.length + l2.length) (H ++ [.cells 0 0 false (D.cells d), .cells 0 1 false [slv k 0 0 l.length c, slv k2 0 0 l2.length c2], .cells 0 14 false (flat' R.cells (l ++ l2)), .cells 0 1 false [slv k 0 0 l.length c, slv k2 0 0 l2.length c2], .cells 0 14 false (flat' R.cells (l ++ l2))]) (Tbl.new (enc := R.cells) (s := 14) (d := r0) (fun _ => rfl) _ _ _ false _ (by rw [get_new]; rfl)) (by rw [List.length_append]; omega)
    rw [List.length_append] at sN sW
    by_cases he : (cls l d).2 = 0
    · cases hw : wrong (l ++ l2) with
      | true =>
        rw [hw, if_pos rfl] at sW
        have hc3 : cls (l ++ l2) d = (0, 2) := by unfold cls; rw [if_pos hw]
        rw [hc3] at sN
        generalize cls l d = ce at *
        obtain ⟨cc, e⟩ := ce
        simp only at he sc sN
        subst he
        clear hok3 hs hs2
        generalize flat' R.cells (l ++ l2) = F at *
        repeat' first | simp (disch := first | with_reducible assumption | omega) only [go_sem, Bool.true_and, Bool.and_true, Bool.and_self, Bool.false_and, Bool.and_false, Bool.true_or, Bool.or_true, Bool.false_or, Bool.or_false, ↓reduceIte, Nat.reduceEqDiff, Nat.reduceAdd, Nat.reduceMul, Nat.reduceSub, Nat.reduceBEq, Nat.reduceLeDiff, Nat.reduceLT, Nat.reduceMod, Nat.reduceDiv, Int.reduceToNat, Int.reducePow, Int.reduceMul, Int.reduceAdd, Int.reduceSub, Int.reduceLE, Int.reduceLT, Int.reduceNeg, Int.reduceDiv, Int.reduceMod, Int.reduceEq, Int.reduceBEq, Int.reduceBNe, f6, f6b, f6r0, f6r1, f6r2, f6r3, f6r4, f6r5, f6r6, f6r7, f6r8, D.cells] | (refine BrW.of (fun hb => ?_) (fun hb => ?_) <;> (have hb' := hb; try simp only [decide_eq_true_eq, decide_eq_false_iff_not, beq_iff_eq, bne_iff_ne, beq_eq_false_iff_ne, bne_eq_false_iff_eq, Bool.not_eq_true', Bool.not_eq_false', Bool.not_eq_true, Bool.not_eq_false, Bool.and_eq_true, Bool.or_eq_true, Bool.and_eq_false_iff, Bool.or_eq_false_iff, Int.not_lt, Int.not_le, ne_eq, gt_iff_lt, ge_iff_le] at hb') <;> (try (exfalso; omega))) | (refine .of ((alive _).mono ?_); rintro v _ ⟨rfl, rfl⟩) | (refine .of ((sc _).mono ?_); rintro v _ ⟨rfl, rfl⟩) | (refine dcallW.of _ _ hC ?_) | (refine dcallW.of _ _ sN ?_) | (refine .of (hC2.mono ?_); rintro v _ ⟨rfl, rfl⟩) | (refine .of (sW.mono ?_); rintro v _ ⟨rfl, rfl⟩)
        all_goals exact .here rfl
      | false =>
        rw [hw, if_neg (by simp)] at sW
        obtain ⟨_, h2, j, hj, hix, hc⟩ := first_more he hw
        rw [h2] at sN
        rw [hc] at sN sc
        obtain ⟨ro, cs, hk, hcl, hcs⟩ := hs.at'
        have hld := hcs j hj 13 (by omega)
        simp only [Nat.zero_add] at hld
        have hI := fun X => IndexF_spec (fun r => fits r d) 16 [.pointer (some ⟨H.length, 0, some 1⟩)] l k 0 0 c (H ++ (.cells 0 0 false (D.cells d) :: X)) (hs.app _) (by omega) (fun i hi => fitsClo2_spec _ d _ _ (hok i hi) hd (get_new0 _ _ _))
        rw [hix] at hI
        have hjt : ((j : Int)).toNat = j := by omega
        clear hok3 hs hs2 hok hok2 he h2 hc hw hcs hix
        generalize l.getD j r0 = rj at *
        simp only [R.cells, List.getElem?_cons_succ, List.getElem?_cons_zero] at hld
        generalize flat' R.cells (l ++ l2) = F at *
        repeat' first | simp (disch := first | with_reducible assumption | omega) only [go_sem, Bool.true_and, Bool.and_true, Bool.and_self, Bool.false_and, Bool.and_false, Bool.true_or, Bool.or_true, Bool.false_or, Bool.or_false, ↓reduceIte, Nat.reduceEqDiff, Nat.reduceAdd, Nat.reduceMul, Nat.reduceSub, Nat.reduceBEq, Nat.reduceLeDiff, Nat.reduceLT, Nat.reduceMod, Nat.reduceDiv, Int.reduceToNat, Int.reducePow, Int.reduceMul, Int.reduceAdd, Int.reduceSub, Int.reduceLE, Int.reduceLT, Int.reduceNeg, Int.reduceDiv, Int.reduceMod, Int.reduceEq, Int.reduceBEq, Int.reduceBNe, f6, f6b, f6r0, f6r1, f6r2, f6r3, f6r4, f6r5, f6r6, f6r7, f6r8, D.cells, hk, get_old hk, hld, hjt] | (refine BrW.of (fun hb => ?_) (fun hb => ?_) <;> (have hb' := hb; try simp only [decide_eq_true_eq, decide_eq_false_iff_not, beq_iff_eq, bne_iff_ne, beq_eq_false_iff_ne, bne_eq_false_iff_eq, Bool.not_eq_true', Bool.not_eq_false', Bool.not_eq_true, Bool.not_eq_false, Bool.and_eq_true, Bool.or_eq_true, Bool.and_eq_false_iff, Bool.or_eq_false_iff, Int.not_lt, Int.not_le, ne_eq, gt_iff_lt, ge_iff_le] at hb') <;> (try (exfalso; omega))) | (refine .of ((alive _).mono ?_); rintro v _ ⟨rfl, rfl⟩) | (refine .of ((sc _).mono ?_); rintro v _ ⟨rfl, rfl⟩) | (refine dcallW.of _ _ hC ?_) | (refine dcallW.of _ _ sN ?_) | (refine .of (hC2.mono ?_); rintro v _ ⟨rfl, rfl⟩) | (refine .of (sW.mono ?_); rintro v _ ⟨rfl, rfl⟩) | (refine .of ((hI _).mono ?_); rintro v _ ⟨rfl, rfl⟩)
        all_goals first | exact .here rfl | (exfalso; simp at hb'; omega) | (exfalso; simp at *; omega)
    · generalize cls l d = ce at *
      generalize cls (l ++ l2) d = ca at *
      obtain ⟨cc, e⟩ := ce
      obtain ⟨ca, f⟩ := ca
      simp only at he sc sN
      have z' : (e != 0) = true := by simpa using he
      clear hok3 hs hs2
      generalize flat' R.cells (l ++ l2) = F at *
      repeat' first | simp (disch := first | with_reducible assumption | omega) only [go_sem, Bool.true_and, Bool.and_true, Bool.and_self, Bool.false_and, Bool.and_false, Bool.true_or, Bool.or_true, Bool.false_or, Bool.or_false, ↓reduceIte, Nat.reduceEqDiff, Nat.reduceAdd, Nat.reduceMul, Nat.reduceSub, Nat.reduceBEq, Nat.reduceLeDiff, Nat.reduceLT, Nat.reduceMod, Nat.reduceDiv, Int.reduceToNat, Int.reducePow, Int.reduceMul, Int.reduceAdd, Int.reduceSub, Int.reduceLE, Int.reduceLT, Int.reduceNeg, Int.reduceDiv, Int.reduceMod, Int.reduceEq, Int.reduceBEq, Int.reduceBNe, f6, f6b, f6r0, f6r1, f6r2, f6r3, f6r4, f6r5, f6r6, f6r7, f6r8, D.cells, z'] | (refine BrW.of (fun hb => ?_) (fun hb => ?_) <;> (have hb' := hb; try simp only [decide_eq_true_eq, decide_eq_false_iff_not, beq_iff_eq, bne_iff_ne, beq_eq_false_iff_ne, bne_eq_false_iff_eq, Bool.not_eq_true', Bool.not_eq_false', Bool.not_eq_true, Bool.not_eq_false, Bool.and_eq_true, Bool.or_eq_true, Bool.and_eq_false_iff, Bool.or_eq_false_iff, Int.not_lt, Int.not_le, ne_eq, gt_iff_lt, ge_iff_le] at hb') <;> (try (exfalso; omega))) | (refine .of ((alive _).mono ?_); rintro v _ ⟨rfl, rfl⟩) | (refine .of ((sc _).mono ?_); rintro v _ ⟨rfl, rfl⟩) | (refine dcallW.of _ _ hC ?_) | (refine dcallW.of _ _ sN ?_)
      all_goals exact .here rfl
  · have e1 : l = [] := List.eq_nil_of_length_eq_zero (by omega)
    have e2 : l2 = [] := List.eq_nil_of_length_eq_zero (by omega)
    have hC := CatR_none l l2 (slv k 0 0 l.length c) (slv k2 0 0 l2.length c2) (H.length + 1) (H ++ [.cells 0 0 false (D.cells d), .cells 0 1 false [slv k 0 0 l.length c, slv k2 0 0 l2.length c2]]) (by rw [get_new]; rfl) (.inr ⟨_, _, _, _, rfl, hs.app _, hlc⟩) (.inr ⟨_, _, _, _, rfl, hs2.app _, hlc2⟩) hB hB2 (by omega)
    have hN := Class_nil d (H ++ [.cells 0 0 false (D.cells d), .cells 0 1 false [slv k 0 0 l.length c, slv k2 0 0 l2.length c2]])
    have hc : cls l d = (0, 3) := by rw [e1]; rfl
    rw [hc] at sc
    clear e1 e2 hok3 hs hs2
    repeat' first | simp (disch := first | with_reducible assumption | omega) only [go_sem, Bool.true_and, Bool.and_true, Bool.and_self, Bool.false_and, Bool.and_false, Bool.true_or, Bool.or_true, Bool.false_or, Bool.or_false, ↓reduceIte, Nat.reduceEqDiff, Nat.reduceAdd, Nat.reduceMul, Nat.reduceSub, Nat.reduceBEq, Nat.reduceLeDiff, Nat.reduceLT, Nat.reduceMod, Nat.reduceDiv, Int.reduceToNat, Int.reducePow, Int.reduceMul, Int.reduceAdd, Int.reduceSub, Int.reduceLE, Int.reduceLT, Int.reduceNeg, Int.reduceDiv, Int.reduceMod, Int.reduceEq, Int.reduceBEq, Int.reduceBNe, f6, f6b, f6r0, f6r1, f6r2, f6r3, f6r4, f6r5, f6r6, f6r7, f6r8, D.cells] | (refine BrW.of (fun hb => ?_) (fun hb => ?_) <;> (have hb' := hb; try simp only [decide_eq_true_eq, decide_eq_false_iff_not, beq_iff_eq, bne_iff_ne, beq_eq_false_iff_ne, bne_eq_false_iff_eq, Bool.not_eq_true', Bool.not_eq_false', Bool.not_eq_true, Bool.not_eq_false, Bool.and_eq_true, Bool.or_eq_true, Bool.and_eq_false_iff, Bool.or_eq_false_iff, Int.not_lt, Int.not_le, ne_eq, gt_iff_lt, ge_iff_le] at hb') <;> (try (exfalso; omega))) | (refine .of ((alive _).mono ?_); rintro v _ ⟨rfl, rfl⟩) | (refine .of ((sc _).mono ?_); rintro v _ ⟨rfl, rfl⟩) | (refine dcallW.of _ _ hC ?_) | (refine dcallW.of _ _ hN ?_)
    all_goals exact .here rfl
end Go.Proofs.Ytgianafoiegdmaa
