import Derived.Test.YthdpcloggedhfaaSteps5
import Derived.Test.YthdpcloggedhfaaLaws
set_option linter.unusedSimpArgs false
set_option linter.unusedVariables false
set_option maxHeartbeats 2000000
set_option maxRecDepth 20000
namespace Go.Proofs.Ythdpcloggedhfaa
open Go Go.Am
attribute [local irreducible] opsW Ww loopW callW drawW outW outDW gW cW BrW bothW vW resW DropW RdW dcallW Later.run

/-- A row of slices that grow, each in an object of its own. -/
structure Got (P n : Nat) (L : Nat → List Int) (J : Heap) : Prop where
  at' : ∃ (vs : List Value) (qf gf : Nat → Nat), J[P]? = some (.cells 0 1 false vs) ∧ vs.length = n ∧
    (∀ k, k < n → L k = [] → vs.getD k v0 = .slice none 0 0) ∧
    (∀ k, k < n → L k ≠ [] → vs.getD k v0 = slv (qf k) 0 (gf k) (L k).length (L k).length ∧ P < qf k ∧ J[qf k]? = some (.cells (gf k) 1 false (ints (L k)))) ∧
    (∀ k j, k < n → j < n → k ≠ j → L k ≠ [] → L j ≠ [] → qf k ≠ qf j)
theorem Got.app {P n : Nat} {L : Nat → List Int} {J : Heap} (h : Got P n L J) (X : Heap) : Got P n L (J ++ X) := by
  obtain ⟨vs, qf, gf, h1, h2, h3, h4, h5⟩ := h.at'
  exact ⟨vs, qf, gf, get_old h1 X, h2, h3, fun k hk hL => ⟨(h4 k hk hL).1, (h4 k hk hL).2.1, get_old (h4 k hk hL).2.2 X⟩, h5⟩
theorem getD_setV (l : List Value) (i k : Nat) (x : Value) (h : i < l.length) : (l.set i x).getD k v0 = if i = k then x else l.getD k v0 := by
  simp only [List.getD_eq_getElem?_getD]
  by_cases e : i = k
  · subst e; rw [if_pos rfl, List.getElem?_set_self h]; rfl
  · rw [if_neg e, List.getElem?_set_ne e]
/-- One that was none gets a new object. -/
theorem Got.fresh {P n : Nat} {L L' : Nat → List Int} {J : Heap} {vs : List Value} {qf gf : Nat → Nat} {f q g : Nat} {l : List Int} (X : Heap) (hP : J[P]? = some (.cells 0 1 false vs)) (hn : vs.length = n) (hf : f < n) (hq : J.length ≤ q)
    (h3 : ∀ k, k < n → L k = [] → vs.getD k v0 = .slice none 0 0)
    (h4 : ∀ k, k < n → L k ≠ [] → vs.getD k v0 = slv (qf k) 0 (gf k) (L k).length (L k).length ∧ P < qf k ∧ J[qf k]? = some (.cells (gf k) 1 false (ints (L k))))
    (h5 : ∀ k j, k < n → j < n → k ≠ j → L k ≠ [] → L j ≠ [] → qf k ≠ qf j)
    (hX : (J ++ X)[q]? = some (.cells g 1 false (ints l))) (hl : l ≠ []) (hLf : L' f = l) (hLo : ∀ k, k ≠ f → L' k = L k) :
    Got P n L' ((J ++ X).set P (.cells 0 1 false (vs.set f (slv q 0 g l.length l.length)))) := by
  have hPl := (List.getElem?_eq_some_iff.1 hP).1
  have hlt : ∀ k, k < n → L k ≠ [] → qf k < J.length := fun k hk hL => (List.getElem?_eq_some_iff.1 (h4 k hk hL).2.2).1
  refine ⟨vs.set f (slv q 0 g l.length l.length), fun k => if k = f then q else qf k, fun k => if k = f then g else gf k, ?_, by simpa using hn, fun k hk hL => ?_, fun k hk hL => ?_, fun k j hk hj hkj hLk hLj => ?_⟩
  · rw [List.getElem?_set_self (by simp; omega)]
  · by_cases e : k = f
    · subst e; rw [hLf] at hL; exact (hl hL).elim
    · rw [getD_setV _ _ _ _ (by omega), if_neg (Ne.symm e)]
      rw [hLo k e] at hL
      exact h3 k hk hL
  · by_cases e : k = f
    · subst e
      simp only [if_pos]
      rw [getD_setV _ _ _ _ (by omega), if_pos rfl, hLf, List.getElem?_set_ne (by omega)]
      exact ⟨rfl, by omega, hX⟩
    · simp only [if_neg e]
      rw [getD_setV _ _ _ _ (by omega), if_neg (Ne.symm e), hLo k e]
      rw [hLo k e] at hL
      obtain ⟨a, b, c⟩ := h4 k hk hL
      refine ⟨a, b, ?_⟩
      rw [List.getElem?_set_ne (by omega)]
      exact get_old c X
  · by_cases e : k = f
    · have e2 : j ≠ f := by omega
      rw [hLo j e2] at hLj
      simp only [if_pos e, if_neg e2]
      have := hlt j hj hLj
      omega
    · rw [hLo k e] at hLk
      by_cases e2 : j = f
      · simp only [if_neg e, if_pos e2]
        have := hlt k hk hLk
        omega
      · rw [hLo j e2] at hLj
        simp only [if_neg e, if_neg e2]
        exact h5 k j hk hj hkj hLk hLj
/-- One that was there grows in its place. -/
theorem Got.grow {P n : Nat} {L L' : Nat → List Int} {J : Heap} {vs : List Value} {qf gf : Nat → Nat} {f g : Nat} {l : List Int} (X : Heap) (hP : J[P]? = some (.cells 0 1 false vs)) (hn : vs.length = n) (hf : f < n) (hLn : L f ≠ [])
    (h3 : ∀ k, k < n → L k = [] → vs.getD k v0 = .slice none 0 0)
    (h4 : ∀ k, k < n → L k ≠ [] → vs.getD k v0 = slv (qf k) 0 (gf k) (L k).length (L k).length ∧ P < qf k ∧ J[qf k]? = some (.cells (gf k) 1 false (ints (L k))))
    (h5 : ∀ k j, k < n → j < n → k ≠ j → L k ≠ [] → L j ≠ [] → qf k ≠ qf j)
    (hl : l ≠ []) (hLf : L' f = l) (hLo : ∀ k, k ≠ f → L' k = L k) :
    Got P n L' (((J ++ X).set (qf f) (.cells g 1 false (ints l))).set P (.cells 0 1 false (vs.set f (slv (qf f) 0 g l.length l.length)))) := by
  have hPl := (List.getElem?_eq_some_iff.1 hP).1
  have hlt : ∀ k, k < n → L k ≠ [] → qf k < J.length := fun k hk hL => (List.getElem?_eq_some_iff.1 (h4 k hk hL).2.2).1
  have hPf := (h4 f hf hLn).2.1
  have hqf := hlt f hf hLn
  refine ⟨vs.set f (slv (qf f) 0 g l.length l.length), qf, fun k => if k = f then g else gf k, ?_, by simpa using hn, fun k hk hL => ?_, fun k hk hL => ?_, fun k j hk hj hkj hLk hLj => ?_⟩
  · rw [List.getElem?_set_self (by simp; omega)]
  · by_cases e : k = f
    · subst e; rw [hLf] at hL; exact (hl hL).elim
    · rw [getD_setV _ _ _ _ (by omega), if_neg (Ne.symm e)]
      rw [hLo k e] at hL
      exact h3 k hk hL
  · by_cases e : k = f
    · subst e
      simp only [if_pos]
      rw [getD_setV _ _ _ _ (by omega), if_pos rfl, hLf, List.getElem?_set_ne (by omega), List.getElem?_set_self (by simp; omega)]
      exact ⟨rfl, by omega, rfl⟩
    · simp only [if_neg e]
      rw [getD_setV _ _ _ _ (by omega), if_neg (Ne.symm e), hLo k e]
      rw [hLo k e] at hL
      obtain ⟨a, b, c⟩ := h4 k hk hL
      have := h5 k f hk hf e hL hLn
      refine ⟨a, b, ?_⟩
      rw [List.getElem?_set_ne (by omega), List.getElem?_set_ne (by omega)]
      exact get_old c X
  · have t : ∀ k, k < n → L' k ≠ [] → L k ≠ [] := fun k hk h => by
      by_cases e : k = f
      · rw [e]; exact hLn
      · rw [← hLo k e]; exact h
    exact h5 k j hk hj hkj (t k hk hLk) (t j hj hLj)

/-- Slices of slices that are the same, where some may be none. -/
theorem SameZ_spec (a : List (List Int)) (k o g c : Nat) (vs : List Value) (w : Value) (A' : Nat → Prop) (H : Heap) (hv : Vals H k o g vs) (hvl : vs.length = a.length) (hin : ∀ i, i < a.length → (vs.getD i v0 = .slice none 0 0 ∧ a.getD i [] = []) ∨ IsN (fun _ => True) H (vs.getD i v0) (a.getD i [])) (hB : IsLL A' H w a) (hl : a.length ≤ 9223372036854775807) (hf : ∀ i, i < a.length → (a.getD i []).length ≤ 9223372036854775807) : ACallK Try.prog 11 [slv k o g a.length c, w] H (fun v H' => v = .bool true ∧ H' = H) := by
  obtain ⟨k2, o2, g2, c2, vs2, _, rfl, hv2, hvl2, hc2, hin2⟩ := hB
  obtain ⟨ro, cs, hk, hcl, hcs⟩ := hv.cell
  obtain ⟨ro2, cs2, hk2, hcl2, hcs2⟩ := hv2.cell
  have hne : ∀ n : Int, (n != n) = false := fun n => by simp
  refine .walkW f11_ok (by simp; decide) (by decide) ?_
  repeat' first | simp (disch := first | with_reducible assumption | omega) only [go_sem, Bool.true_and, Bool.and_true, Bool.and_self, Bool.false_and, Bool.and_false, Bool.true_or, Bool.or_true, Bool.false_or, Bool.or_false, ↓reduceIte, Nat.reduceEqDiff, Nat.reduceAdd, Nat.reduceMul, Nat.reduceSub, Nat.reduceBEq, Nat.reduceLeDiff, Nat.reduceLT, Nat.reduceMod, Nat.reduceDiv, Int.reduceToNat, Int.reducePow, Int.reduceMul, Int.reduceAdd, Int.reduceSub, Int.reduceLE, Int.reduceLT, Int.reduceNeg, Int.reduceDiv, Int.reduceMod, Int.reduceEq, Int.reduceBEq, Int.reduceBNe, f11, f11b, f11r0, f11r1, f11r2, f11r3, f11r4, f11r5, f11r6, f11r7, f11r8, f11r9, f11r10, f11r11, f11r12, f11r13, f11r15, f11r17, hk, hk2, hne] | (refine BrW.of (fun hb => ?_) (fun hb => ?_) <;> (have hb' := hb; try simp only [decide_eq_true_eq, decide_eq_false_iff_not, beq_iff_eq, bne_iff_ne, beq_eq_false_iff_ne, bne_eq_false_iff_eq, Bool.not_eq_true', Bool.not_eq_false', Bool.not_eq_true, Bool.not_eq_false, Bool.and_eq_true, Bool.or_eq_true, Bool.and_eq_false_iff, Bool.or_eq_false_iff, Int.not_lt, Int.not_le, ne_eq, gt_iff_lt, ge_iff_le] at hb') <;> (try (exfalso; omega)))
  refine loopW.of (by decide) (fun m e J => ∃ i : Nat, e = [(0, slv k o g a.length c), (1, slv k2 o2 g2 a.length c2), (13, .int .i64 a.length), (14, .int .i64 i)] ∧ J = H ∧ i ≤ a.length ∧ m = a.length - i) a.length ⟨0, rfl, rfl, by omega, rfl⟩ ?_
  rintro m e J ⟨i, rfl, rfl, hi, rfl⟩
  by_cases hlt : i < a.length
  · have e0 := hcs i (by omega)
    have e1 := hcs2 i (by omega)
    obtain ⟨k4, o4, g4, c4, _, hve4, hs4, hc4⟩ := hin2 i hlt
    rw [hve4] at e1
    obtain ⟨ro4, cs4, hk4, hcl4, hcs4⟩ := Ints.cell hs4
    have hfi := hf i hlt
    have hini := hin i hlt
    clear hcs hcs2 hin hin2 hf
    generalize a.getD i [] = l at *
    rcases hini with ⟨hve, rfl⟩ | ⟨k3, o3, g3, c3, _, hve, hs3, hc3⟩
    · rw [hve] at e0
      simp only [List.length_nil] at *
      repeat' first | simp (disch := first | with_reducible assumption | omega) only [go_sem, Bool.true_and, Bool.and_true, Bool.and_self, Bool.false_and, Bool.and_false, Bool.true_or, Bool.or_true, Bool.false_or, Bool.or_false, ↓reduceIte, Nat.reduceEqDiff, Nat.reduceAdd, Nat.reduceMul, Nat.reduceSub, Nat.reduceBEq, Nat.reduceLeDiff, Nat.reduceLT, Nat.reduceMod, Nat.reduceDiv, Int.reduceToNat, Int.reducePow, Int.reduceMul, Int.reduceAdd, Int.reduceSub, Int.reduceLE, Int.reduceLT, Int.reduceNeg, Int.reduceDiv, Int.reduceMod, Int.reduceEq, Int.reduceBEq, Int.reduceBNe, f11, f11b, f11r0, f11r1, f11r2, f11r3, f11r4, f11r5, f11r6, f11r7, f11r8, f11r9, f11r10, f11r11, f11r12, f11r13, f11r15, f11r17, f11l1, hk, hk2, e0, e1, hk4, hne] | (refine BrW.of (fun hb => ?_) (fun hb => ?_) <;> (have hb' := hb; try simp only [decide_eq_true_eq, decide_eq_false_iff_not, beq_iff_eq, bne_iff_ne, beq_eq_false_iff_ne, bne_eq_false_iff_eq, Bool.not_eq_true', Bool.not_eq_false', Bool.not_eq_true, Bool.not_eq_false, Bool.and_eq_true, Bool.or_eq_true, Bool.and_eq_false_iff, Bool.or_eq_false_iff, Int.not_lt, Int.not_le, ne_eq, gt_iff_lt, ge_iff_le] at hb') <;> (try (exfalso; omega)))
      refine loopW.of (by decide) (fun m e J' => e = [(0, slv k o g a.length c), (1, slv k2 o2 g2 a.length c2), (5, .int .i64 i), (13, .int .i64 a.length), (14, .int .i64 i), (32, .int .i64 0), (33, .int .i64 0)] ∧ J' = J) 0 ⟨rfl, rfl⟩ ?_
      rintro m e J' ⟨rfl, rfl⟩
      repeat' first | simp (disch := first | with_reducible assumption | omega) only [go_sem, Bool.true_and, Bool.and_true, Bool.and_self, Bool.false_and, Bool.and_false, Bool.true_or, Bool.or_true, Bool.false_or, Bool.or_false, ↓reduceIte, Nat.reduceEqDiff, Nat.reduceAdd, Nat.reduceMul, Nat.reduceSub, Nat.reduceBEq, Nat.reduceLeDiff, Nat.reduceLT, Nat.reduceMod, Nat.reduceDiv, Int.reduceToNat, Int.reducePow, Int.reduceMul, Int.reduceAdd, Int.reduceSub, Int.reduceLE, Int.reduceLT, Int.reduceNeg, Int.reduceDiv, Int.reduceMod, Int.reduceEq, Int.reduceBEq, Int.reduceBNe, f11, f11b, f11r0, f11r1, f11r2, f11r3, f11r4, f11r5, f11r6, f11r7, f11r8, f11r9, f11r10, f11r11, f11r12, f11r13, f11r15, f11r17, f11l0, f11, f11b, f11r0, f11r1, f11r2, f11r3, f11r4, f11r5, f11r6, f11r7, f11r8, f11r9, f11r10, f11r11, f11r12, f11r13, f11r15, f11r17, f11l1] | (refine BrW.of (fun hb => ?_) (fun hb => ?_) <;> (have hb' := hb; try simp only [decide_eq_true_eq, decide_eq_false_iff_not, beq_iff_eq, bne_iff_ne, beq_eq_false_iff_ne, bne_eq_false_iff_eq, Bool.not_eq_true', Bool.not_eq_false', Bool.not_eq_true, Bool.not_eq_false, Bool.and_eq_true, Bool.or_eq_true, Bool.and_eq_false_iff, Bool.or_eq_false_iff, Int.not_lt, Int.not_le, ne_eq, gt_iff_lt, ge_iff_le] at hb') <;> (try (exfalso; omega)))
      refine RdW.keep [0, 1, 13, 14] (a.length - (i + 1)) (by omega) ?_
      simp (disch := first | with_reducible assumption | omega) only [go_sem, Bool.true_and, Bool.and_true, Bool.and_self, Bool.false_and, Bool.and_false, Bool.true_or, Bool.or_true, Bool.false_or, Bool.or_false, ↓reduceIte, Nat.reduceEqDiff, Nat.reduceAdd, Nat.reduceMul, Nat.reduceSub, Nat.reduceBEq, Nat.reduceLeDiff, Nat.reduceLT, Nat.reduceMod, Nat.reduceDiv, Int.reduceToNat, Int.reducePow, Int.reduceMul, Int.reduceAdd, Int.reduceSub, Int.reduceLE, Int.reduceLT, Int.reduceNeg, Int.reduceDiv, Int.reduceMod, Int.reduceEq, Int.reduceBEq, Int.reduceBNe]
      exact ⟨i + 1, rfl, by omega, rfl⟩
    · rw [hve] at e0
      obtain ⟨ro3, cs3, hk3, hcl3, hcs3⟩ := Ints.cell hs3
      repeat' first | simp (disch := first | with_reducible assumption | omega) only [go_sem, Bool.true_and, Bool.and_true, Bool.and_self, Bool.false_and, Bool.and_false, Bool.true_or, Bool.or_true, Bool.false_or, Bool.or_false, ↓reduceIte, Nat.reduceEqDiff, Nat.reduceAdd, Nat.reduceMul, Nat.reduceSub, Nat.reduceBEq, Nat.reduceLeDiff, Nat.reduceLT, Nat.reduceMod, Nat.reduceDiv, Int.reduceToNat, Int.reducePow, Int.reduceMul, Int.reduceAdd, Int.reduceSub, Int.reduceLE, Int.reduceLT, Int.reduceNeg, Int.reduceDiv, Int.reduceMod, Int.reduceEq, Int.reduceBEq, Int.reduceBNe, f11, f11b, f11r0, f11r1, f11r2, f11r3, f11r4, f11r5, f11r6, f11r7, f11r8, f11r9, f11r10, f11r11, f11r12, f11r13, f11r15, f11r17, f11l1, hk, hk2, e0, e1, hk3, hk4, hne] | (refine BrW.of (fun hb => ?_) (fun hb => ?_) <;> (have hb' := hb; try simp only [decide_eq_true_eq, decide_eq_false_iff_not, beq_iff_eq, bne_iff_ne, beq_eq_false_iff_ne, bne_eq_false_iff_eq, Bool.not_eq_true', Bool.not_eq_false', Bool.not_eq_true, Bool.not_eq_false, Bool.and_eq_true, Bool.or_eq_true, Bool.and_eq_false_iff, Bool.or_eq_false_iff, Int.not_lt, Int.not_le, ne_eq, gt_iff_lt, ge_iff_le] at hb') <;> (try (exfalso; omega)))
      refine loopW.of (by decide) (fun m e J' => ∃ j : Nat, e = [(0, slv k o g a.length c), (1, slv k2 o2 g2 a.length c2), (5, .int .i64 i), (13, .int .i64 a.length), (14, .int .i64 i), (32, .int .i64 l.length), (33, .int .i64 j)] ∧ J' = J ∧ j ≤ l.length ∧ m = l.length - j) l.length ⟨0, rfl, rfl, by omega, rfl⟩ ?_
      rintro m e J' ⟨j, rfl, rfl, hj, rfl⟩
      by_cases hlj : j < l.length
      · have e3 := hcs3 j hlj
        have e4 := hcs4 j hlj
        clear hcs3 hcs4
        generalize l.getD j 0 = x at *
        repeat' first | simp (disch := first | with_reducible assumption | omega) only [go_sem, Bool.true_and, Bool.and_true, Bool.and_self, Bool.false_and, Bool.and_false, Bool.true_or, Bool.or_true, Bool.false_or, Bool.or_false, ↓reduceIte, Nat.reduceEqDiff, Nat.reduceAdd, Nat.reduceMul, Nat.reduceSub, Nat.reduceBEq, Nat.reduceLeDiff, Nat.reduceLT, Nat.reduceMod, Nat.reduceDiv, Int.reduceToNat, Int.reducePow, Int.reduceMul, Int.reduceAdd, Int.reduceSub, Int.reduceLE, Int.reduceLT, Int.reduceNeg, Int.reduceDiv, Int.reduceMod, Int.reduceEq, Int.reduceBEq, Int.reduceBNe, f11, f11b, f11r0, f11r1, f11r2, f11r3, f11r4, f11r5, f11r6, f11r7, f11r8, f11r9, f11r10, f11r11, f11r12, f11r13, f11r15, f11r17, f11l0, hk, hk2, e0, e1, hk3, hk4, e3, e4, hne] | (refine BrW.of (fun hb => ?_) (fun hb => ?_) <;> (have hb' := hb; try simp only [decide_eq_true_eq, decide_eq_false_iff_not, beq_iff_eq, bne_iff_ne, beq_eq_false_iff_ne, bne_eq_false_iff_eq, Bool.not_eq_true', Bool.not_eq_false', Bool.not_eq_true, Bool.not_eq_false, Bool.and_eq_true, Bool.or_eq_true, Bool.and_eq_false_iff, Bool.or_eq_false_iff, Int.not_lt, Int.not_le, ne_eq, gt_iff_lt, ge_iff_le] at hb') <;> (try (exfalso; omega)))
        refine RdW.keep [0, 1, 5, 13, 14, 32, 33] (l.length - (j + 1)) (by omega) ?_
        simp (disch := first | with_reducible assumption | omega) only [go_sem, Bool.true_and, Bool.and_true, Bool.and_self, Bool.false_and, Bool.and_false, Bool.true_or, Bool.or_true, Bool.false_or, Bool.or_false, ↓reduceIte, Nat.reduceEqDiff, Nat.reduceAdd, Nat.reduceMul, Nat.reduceSub, Nat.reduceBEq, Nat.reduceLeDiff, Nat.reduceLT, Nat.reduceMod, Nat.reduceDiv, Int.reduceToNat, Int.reducePow, Int.reduceMul, Int.reduceAdd, Int.reduceSub, Int.reduceLE, Int.reduceLT, Int.reduceNeg, Int.reduceDiv, Int.reduceMod, Int.reduceEq, Int.reduceBEq, Int.reduceBNe]
        exact ⟨j + 1, rfl, by omega, rfl⟩
      · obtain rfl : j = l.length := by omega
        repeat' first | simp (disch := first | with_reducible assumption | omega) only [go_sem, Bool.true_and, Bool.and_true, Bool.and_self, Bool.false_and, Bool.and_false, Bool.true_or, Bool.or_true, Bool.false_or, Bool.or_false, ↓reduceIte, Nat.reduceEqDiff, Nat.reduceAdd, Nat.reduceMul, Nat.reduceSub, Nat.reduceBEq, Nat.reduceLeDiff, Nat.reduceLT, Nat.reduceMod, Nat.reduceDiv, Int.reduceToNat, Int.reducePow, Int.reduceMul, Int.reduceAdd, Int.reduceSub, Int.reduceLE, Int.reduceLT, Int.reduceNeg, Int.reduceDiv, Int.reduceMod, Int.reduceEq, Int.reduceBEq, Int.reduceBNe, f11, f11b, f11r0, f11r1, f11r2, f11r3, f11r4, f11r5, f11r6, f11r7, f11r8, f11r9, f11r10, f11r11, f11r12, f11r13, f11r15, f11r17, f11l0, f11, f11b, f11r0, f11r1, f11r2, f11r3, f11r4, f11r5, f11r6, f11r7, f11r8, f11r9, f11r10, f11r11, f11r12, f11r13, f11r15, f11r17, f11l1] | (refine BrW.of (fun hb => ?_) (fun hb => ?_) <;> (have hb' := hb; try simp only [decide_eq_true_eq, decide_eq_false_iff_not, beq_iff_eq, bne_iff_ne, beq_eq_false_iff_ne, bne_eq_false_iff_eq, Bool.not_eq_true', Bool.not_eq_false', Bool.not_eq_true, Bool.not_eq_false, Bool.and_eq_true, Bool.or_eq_true, Bool.and_eq_false_iff, Bool.or_eq_false_iff, Int.not_lt, Int.not_le, ne_eq, gt_iff_lt, ge_iff_le] at hb') <;> (try (exfalso; omega)))
        refine RdW.keep [0, 1, 13, 14] (a.length - (i + 1)) (by omega) ?_
        simp (disch := first | with_reducible assumption | omega) only [go_sem, Bool.true_and, Bool.and_true, Bool.and_self, Bool.false_and, Bool.and_false, Bool.true_or, Bool.or_true, Bool.false_or, Bool.or_false, ↓reduceIte, Nat.reduceEqDiff, Nat.reduceAdd, Nat.reduceMul, Nat.reduceSub, Nat.reduceBEq, Nat.reduceLeDiff, Nat.reduceLT, Nat.reduceMod, Nat.reduceDiv, Int.reduceToNat, Int.reducePow, Int.reduceMul, Int.reduceAdd, Int.reduceSub, Int.reduceLE, Int.reduceLT, Int.reduceNeg, Int.reduceDiv, Int.reduceMod, Int.reduceEq, Int.reduceBEq, Int.reduceBNe]
        exact ⟨i + 1, rfl, by omega, rfl⟩
  · obtain rfl : i = a.length := by omega
    repeat' first | simp (disch := first | with_reducible assumption | omega) only [go_sem, Bool.true_and, Bool.and_true, Bool.and_self, Bool.false_and, Bool.and_false, Bool.true_or, Bool.or_true, Bool.false_or, Bool.or_false, ↓reduceIte, Nat.reduceEqDiff, Nat.reduceAdd, Nat.reduceMul, Nat.reduceSub, Nat.reduceBEq, Nat.reduceLeDiff, Nat.reduceLT, Nat.reduceMod, Nat.reduceDiv, Int.reduceToNat, Int.reducePow, Int.reduceMul, Int.reduceAdd, Int.reduceSub, Int.reduceLE, Int.reduceLT, Int.reduceNeg, Int.reduceDiv, Int.reduceMod, Int.reduceEq, Int.reduceBEq, Int.reduceBNe, f11, f11b, f11r0, f11r1, f11r2, f11r3, f11r4, f11r5, f11r6, f11r7, f11r8, f11r9, f11r10, f11r11, f11r12, f11r13, f11r15, f11r17, f11l1, f11, f11b, f11r0, f11r1, f11r2, f11r3, f11r4, f11r5, f11r6, f11r7, f11r8, f11r9, f11r10, f11r11, f11r12, f11r13, f11r15, f11r17] | (refine BrW.of (fun hb => ?_) (fun hb => ?_) <;> (have hb' := hb; try simp only [decide_eq_true_eq, decide_eq_false_iff_not, beq_iff_eq, bne_iff_ne, beq_eq_false_iff_ne, bne_eq_false_iff_eq, Bool.not_eq_true', Bool.not_eq_false', Bool.not_eq_true, Bool.not_eq_false, Bool.and_eq_true, Bool.or_eq_true, Bool.and_eq_false_iff, Bool.or_eq_false_iff, Int.not_lt, Int.not_le, ne_eq, gt_iff_lt, ge_iff_le] at hb') <;> (try (exfalso; omega)))
    exact .here ⟨rfl, rfl⟩

theorem ofF_snocL (k : Nat) (l : List S) (s : S) : ofF k (l ++ [s]) = if s.f = (k : Int) then ofF k l ++ [s.n] else ofF k l := by
  rw [ofF_app]
  unfold ofF
  by_cases h : s.f = (k : Int)
  · simp [h]
  · simp [h]
theorem nils_flat (n : Nat) : (List.replicate n [Value.slice none 0 0]).flatten = List.replicate n (.slice none 0 0) := by
  induction n with
  | zero => rfl
  | succ n ih => simp [List.replicate_succ, ih]
theorem ofF_len (k : Nat) (l : List S) : (ofF k l).length ≤ l.length := by unfold ofF; rw [List.length_map]; exact List.length_filter_le _ _
theorem set_self {l : List Value} {i : Nat} {v : Value} (h : l[i]? = some v) : l.set i v = l := by
  refine List.ext_getElem? fun j => ?_
  by_cases e : i = j
  · subst e; rw [List.getElem?_set_self (List.getElem?_eq_some_iff.1 h).1, h]
  · rw [List.getElem?_set_ne e]
theorem set_selfH {l : Heap} {i : Nat} {v : AObj} (h : l[i]? = some v) : l.set i v = l := by
  refine List.ext_getElem? fun j => ?_
  by_cases e : i = j
  · subst e; rw [List.getElem?_set_self (List.getElem?_eq_some_iff.1 h).1, h]
  · rw [List.getElem?_set_ne e]
theorem set_old (J X : Heap) (P : Nat) (x : AObj) (G : Heap) (hG : G.length = P) (h : ∀ j, j < P → J[j]? = G[j]?) (hP : P < J.length) : ∀ j, j < P → ((J ++ X).set P x)[j]? = G[j]? := fun j hj => by
  rw [List.getElem?_set_ne (by omega), List.getElem?_append_left (by omega)]; exact h j hj
theorem DrrOrder_args (H : Heap) (vals : List Value) (h : ArgsOk maxLen H DrrOrderSh vals) : ACallK Try.prog 4 vals H fun v _ => v = .bool true := by
  obtain ⟨wt, _, rfl, a1, h⟩ := h.cons
  obtain ⟨wf, _, rfl, a2, h⟩ := h.cons
  obtain ⟨_, _, rfl, a3, h⟩ := h.cons
  obtain rfl := h.nil
  obtain ⟨ts, hT, hB, hB1⟩ := IsN.ofArg a1
  obtain ⟨fl, hF, hB2, hB3⟩ := IsLL.ofArg a2
  obtain ⟨R, rfl, hRr⟩ := a3.cell.int_inv
  have hm : maxLen ≤ 9223372036854775807 := by decide
  clear a1 a2 a3 h
  refine .walkW f4_ok (by simp; decide) (by decide) ?_
  repeat' first | simp (disch := first | with_reducible assumption | omega) only [go_sem, Bool.true_and, Bool.and_true, Bool.and_self, Bool.false_and, Bool.and_false, Bool.true_or, Bool.or_true, Bool.false_or, Bool.or_false, ↓reduceIte, Nat.reduceEqDiff, Nat.reduceAdd, Nat.reduceMul, Nat.reduceSub, Nat.reduceBEq, Nat.reduceLeDiff, Nat.reduceLT, Nat.reduceMod, Nat.reduceDiv, Int.reduceToNat, Int.reducePow, Int.reduceMul, Int.reduceAdd, Int.reduceSub, Int.reduceLE, Int.reduceLT, Int.reduceNeg, Int.reduceDiv, Int.reduceMod, Int.reduceEq, Int.reduceBEq, Int.reduceBNe, f4, f4b, f4r0, f4r1, f4r2, f4r3, f4r4, f4r5, f4r6, f4r7, f4r8, f4r9, f4r10, f4r11, f4r12, f4r13, f4r15, f4r16, f4r17, f4r18, f4r19, f4r20, f4r21, f4r23] | (refine BrW.of (fun hb => ?_) (fun hb => ?_) <;> (have hb' := hb; try simp only [decide_eq_true_eq, decide_eq_false_iff_not, beq_iff_eq, bne_iff_ne, beq_eq_false_iff_ne, bne_eq_false_iff_eq, Bool.not_eq_true', Bool.not_eq_false', Bool.not_eq_true, Bool.not_eq_false, Bool.and_eq_true, Bool.or_eq_true, Bool.and_eq_false_iff, Bool.or_eq_false_iff, Int.not_lt, Int.not_le, ne_eq, gt_iff_lt, ge_iff_le] at hb') <;> (try (exfalso; omega))) | (refine .of ((alive _).mono ?_); rintro v H ⟨rfl, rfl⟩)
  have hfb : ∀ i, i < fl.length → (fl.getD i []).length ≤ 9223372036854775807 := fun i hi => by have := (hB3 i hi).1; omega
  refine .of ((Rounds_spec ts fl R wt wf (fun _ => True) H hT hF (by omega) (by omega) hfb).mono ?_)
  rintro v G ⟨a, b, c, e, rfl, hLe, he, hn, hy⟩
  have hF1 := hF.le hLe
  by_cases z : e = 0
  · obtain ⟨hok, hR0, hR1⟩ := he.1 z
    obtain ⟨hS, hL, hM⟩ := hy z
    subst z
    obtain ⟨r, rfl⟩ := Int.eq_ofNat_of_zero_le hR0
    simp only [Int.toNat_natCast] at hS hL hM
    have hlens := run_lens ts fl hok.1.symm r
    have hflow := fun k hk => run_flow ts fl k hk r
    have hsent := run_sent hok r
    have hfair := fun k => (run_fair (t := ts.getD k 0))
    have hfew := sent_few hok r
    have hn16 := hok.2.1
    have hall : ∀ k, k < ts.length → ofF k (runSt ts fl r).sent ++ (runSt ts fl r).left.getD k [] = fl.getD k [] := fun k hk => by
      obtain ⟨w1, w2, w3⟩ := hflow k hk
      rw [w1, w3]
      exact (run_fair (t := ts.getD k 0) (by have := hok.turn hk; omega) (fl.getD k []) (fun x hx => ((hok.flow k).2 x hx).1) r).1.all
    have hF2 := hF1
    obtain ⟨k, o, g, cp, _, rfl, hs, hc⟩ := hS
    obtain ⟨ro, cs, hk, hcl, hcs⟩ := STb_cell hs
    obtain ⟨k2, o2, g2, c2, vs2, _, rfl, hv2, hvl2, hc2, hin2⟩ := hL
    obtain ⟨ro2, cs2, hk2, hcl2, hcs2⟩ := hv2.cell
    obtain ⟨k3, o3, g3, c3, vs3, _, rfl, hv3, hvl3, hc3, hin3⟩ := hF1
    obtain ⟨ro3, cs3, hk3, hcl3, hcs3⟩ := hv3.cell
    have hlf := fun i => (hok.flow i).1
    have hll := fun i => ((run_ok hok r).1.flow i).1
    clear hT hF he hn hy hLe hM hfair hflow hB1 hB3 hfb
    generalize runSt ts fl r = st at *
    obtain ⟨sent, left, may⟩ := st
    simp only at *
    obtain ⟨hl1, hl2⟩ := hlens
    have hlen := hok.1
    have zf := nils_flat fl.length
    repeat' first | simp (disch := first | with_reducible assumption | omega) only [go_sem, Bool.true_and, Bool.and_true, Bool.and_self, Bool.false_and, Bool.and_false, Bool.true_or, Bool.or_true, Bool.false_or, Bool.or_false, ↓reduceIte, Nat.reduceEqDiff, Nat.reduceAdd, Nat.reduceMul, Nat.reduceSub, Nat.reduceBEq, Nat.reduceLeDiff, Nat.reduceLT, Nat.reduceMod, Nat.reduceDiv, Int.reduceToNat, Int.reducePow, Int.reduceMul, Int.reduceAdd, Int.reduceSub, Int.reduceLE, Int.reduceLT, Int.reduceNeg, Int.reduceDiv, Int.reduceMod, Int.reduceEq, Int.reduceBEq, Int.reduceBNe, f4, f4b, f4r0, f4r1, f4r2, f4r3, f4r4, f4r5, f4r6, f4r7, f4r8, f4r9, f4r10, f4r11, f4r12, f4r13, f4r15, f4r16, f4r17, f4r18, f4r19, f4r20, f4r21, f4r23, hk, hk2, hk3, get_old hk] | (refine BrW.of (fun hb => ?_) (fun hb => ?_) <;> (have hb' := hb; try simp only [decide_eq_true_eq, decide_eq_false_iff_not, beq_iff_eq, bne_iff_ne, beq_eq_false_iff_ne, bne_eq_false_iff_eq, Bool.not_eq_true', Bool.not_eq_false', Bool.not_eq_true, Bool.not_eq_false, Bool.and_eq_true, Bool.or_eq_true, Bool.and_eq_false_iff, Bool.or_eq_false_iff, Int.not_lt, Int.not_le, ne_eq, gt_iff_lt, ge_iff_le] at hb') <;> (try (exfalso; omega)))
    rw [zf]
    have hPk := (List.getElem?_eq_some_iff.1 hk).1
    have hPk2 := (List.getElem?_eq_some_iff.1 hk2).1
    have hPk3 := (List.getElem?_eq_some_iff.1 hk3).1
    obtain ⟨P, hPe⟩ : ∃ P, G.length = P := ⟨_, rfl⟩
    rw [hPe] at hPk hPk2 hPk3 ⊢
    refine loopW.of (by decide) (fun m e J => ∃ (i : Nat), e = [(1, slv k3 o3 g3 fl.length c3), (8, slv k2 o2 g2 left.length c2), (11, slv P 0 0 fl.length fl.length), (31, slv k o g sent.length cp), (32, .int .i64 sent.length), (33, .int .i64 i)] ∧ i ≤ sent.length ∧ m = sent.length - i ∧ (∀ j, j < P → J[j]? = G[j]?) ∧
      Got P fl.length (fun k => ofF k (sent.take i)) J) sent.length ⟨0, rfl, by omega, rfl, ?_, ?_⟩ ?_
    · intro j hj
      rw [List.getElem?_append_left (by omega)]
    · refine ⟨List.replicate fl.length v0, fun _ => 0, fun _ => 0, ?_, by simp, fun k hk _ => ?_, fun k hk h => absurd rfl h, fun k j _ _ _ h => absurd rfl h⟩
      · rw [← hPe]; exact get_new0 _ _ _
      · simp [hk]; rfl
    · rintro m e J ⟨i, rfl, hi, rfl, hold, hG⟩
      by_cases hlt : i < sent.length
      · have e0 := hcs i hlt
        obtain ⟨f, hf, hsf, hsn⟩ := hsent.2 _ (getD_mem (d := s0) hlt)
        have hst := take_snoc s0 sent i hlt
        have hkJ := (hold k hPk).trans hk
        obtain ⟨vs, qf, gf, hP, hn, h3, h4, h5⟩ := hG.at'
        have hev : vs[f]? = some (vs.getD f v0) := by rw [List.getD_eq_getElem?_getD, List.getElem?_eq_getElem (by omega)]; rfl
        have hPJ := (List.getElem?_eq_some_iff.1 hP).1
        generalize sent.getD i s0 = s at *
        obtain ⟨sf, sn⟩ := s
        simp only [S.cells] at e0 hsf hsn
        subst hsf
        have hLo : ∀ k, k ≠ f → ofF k (sent.take (i + 1)) = ofF k (sent.take i) := fun k hk => by
          rw [hst, ofF_snocL, if_neg (by simp; omega)]
        have hLf : ofF f (sent.take (i + 1)) = ofF f (sent.take i) ++ [sn] := by rw [hst, ofF_snocL, if_pos rfl]
        by_cases hz : ofF f (sent.take i) = []
        · have hvf := h3 f (by omega) hz
          rw [hvf] at hev
          clear hG hcs hall
          repeat' first | simp (disch := first | with_reducible assumption | omega) only [go_sem, Bool.true_and, Bool.and_true, Bool.and_self, Bool.false_and, Bool.and_false, Bool.true_or, Bool.or_true, Bool.false_or, Bool.or_false, ↓reduceIte, Nat.reduceEqDiff, Nat.reduceAdd, Nat.reduceMul, Nat.reduceSub, Nat.reduceBEq, Nat.reduceLeDiff, Nat.reduceLT, Nat.reduceMod, Nat.reduceDiv, Int.reduceToNat, Int.reducePow, Int.reduceMul, Int.reduceAdd, Int.reduceSub, Int.reduceLE, Int.reduceLT, Int.reduceNeg, Int.reduceDiv, Int.reduceMod, Int.reduceEq, Int.reduceBEq, Int.reduceBNe, f4, f4b, f4r0, f4r1, f4r2, f4r3, f4r4, f4r5, f4r6, f4r7, f4r8, f4r9, f4r10, f4r11, f4r12, f4r13, f4r15, f4r16, f4r17, f4r18, f4r19, f4r20, f4r21, f4r23, f4l0, hkJ, get_old hkJ, ↓e0, hP, get_old hP, hev] | (refine BrW.of (fun hb => ?_) (fun hb => ?_) <;> (have hb' := hb; try simp only [decide_eq_true_eq, decide_eq_false_iff_not, beq_iff_eq, bne_iff_ne, beq_eq_false_iff_ne, bne_eq_false_iff_eq, Bool.not_eq_true', Bool.not_eq_false', Bool.not_eq_true, Bool.not_eq_false, Bool.and_eq_true, Bool.or_eq_true, Bool.and_eq_false_iff, Bool.or_eq_false_iff, Int.not_lt, Int.not_le, ne_eq, gt_iff_lt, ge_iff_le] at hb') <;> (try (exfalso; omega)))
          refine RdW.keep [1, 8, 11, 31, 32, 33] (sent.length - (i + 1)) (by omega) ?_
          simp (disch := first | with_reducible assumption | omega) only [go_sem, Bool.true_and, Bool.and_true, Bool.and_self, Bool.false_and, Bool.and_false, Bool.true_or, Bool.or_true, Bool.false_or, Bool.or_false, ↓reduceIte, Nat.reduceEqDiff, Nat.reduceAdd, Nat.reduceMul, Nat.reduceSub, Nat.reduceBEq, Nat.reduceLeDiff, Nat.reduceLT, Nat.reduceMod, Nat.reduceDiv, Int.reduceToNat, Int.reducePow, Int.reduceMul, Int.reduceAdd, Int.reduceSub, Int.reduceLE, Int.reduceLT, Int.reduceNeg, Int.reduceDiv, Int.reduceMod, Int.reduceEq, Int.reduceBEq, Int.reduceBNe]
          refine ⟨i + 1, rfl, by omega, rfl, set_old J _ P _ G hPe hold hPJ, Got.fresh (L := fun k => ofF k (sent.take i)) (g := 0) (l := [sn]) _ hP hn (by omega) (Nat.le_add_right _ 2) h3 h4 h5 (by rw [get_new]; rfl) (by simp) ?_ hLo⟩
          rw [hLf, hz]; rfl
        · obtain ⟨hvf, hqP, hq⟩ := h4 f (by omega) hz
          rw [hvf] at hev
          have il := ints_length (ofF f (sent.take i))
          have it := ints_take (ofF f (sent.take i)) _ (Nat.le_refl _)
          have hbl : (ofF f (sent.take i)).length ≤ 6400 := by have := ofF_len f (sent.take i); simp at this; omega
          have hni : ¬ (ofF f (sent.take i)).length + 1 ≤ (ofF f (sent.take i)).length := by omega
          have hsn2 := ints_snoc (ofF f (sent.take i)) sn
          have hP2 : ∀ X x, ((J ++ X).set (qf f) x)[P]? = some (.cells 0 1 false vs) := fun X x => (get_set_miss (by omega)).trans (get_old hP X)
          have hqJ := (List.getElem?_eq_some_iff.1 hq).1
          have hJL : ∀ A B x, ((J ++ [A, B]).set (qf f) x)[J.length]? = some A := fun A B x => (get_set_miss (by omega)).trans (get_new0 J A [B])
          clear hG hcs hall
          repeat' first | simp (disch := first | with_reducible assumption | omega) only [go_sem, Bool.true_and, Bool.and_true, Bool.and_self, Bool.false_and, Bool.and_false, Bool.true_or, Bool.or_true, Bool.false_or, Bool.or_false, ↓reduceIte, Nat.reduceEqDiff, Nat.reduceAdd, Nat.reduceMul, Nat.reduceSub, Nat.reduceBEq, Nat.reduceLeDiff, Nat.reduceLT, Nat.reduceMod, Nat.reduceDiv, Int.reduceToNat, Int.reducePow, Int.reduceMul, Int.reduceAdd, Int.reduceSub, Int.reduceLE, Int.reduceLT, Int.reduceNeg, Int.reduceDiv, Int.reduceMod, Int.reduceEq, Int.reduceBEq, Int.reduceBNe, f4, f4b, f4r0, f4r1, f4r2, f4r3, f4r4, f4r5, f4r6, f4r7, f4r8, f4r9, f4r10, f4r11, f4r12, f4r13, f4r15, f4r16, f4r17, f4r18, f4r19, f4r20, f4r21, f4r23, f4l0, hkJ, get_old hkJ, ↓e0, hP, get_old hP, hev, hq, get_old hq, il, it, hni, hsn2, hP2, hJL] | (refine BrW.of (fun hb => ?_) (fun hb => ?_) <;> (have hb' := hb; try simp only [decide_eq_true_eq, decide_eq_false_iff_not, beq_iff_eq, bne_iff_ne, beq_eq_false_iff_ne, bne_eq_false_iff_eq, Bool.not_eq_true', Bool.not_eq_false', Bool.not_eq_true, Bool.not_eq_false, Bool.and_eq_true, Bool.or_eq_true, Bool.and_eq_false_iff, Bool.or_eq_false_iff, Int.not_lt, Int.not_le, ne_eq, gt_iff_lt, ge_iff_le] at hb') <;> (try (exfalso; omega)))
          refine RdW.keep [1, 8, 11, 31, 32, 33] (sent.length - (i + 1)) (by omega) ?_
          simp (disch := first | with_reducible assumption | omega) only [go_sem, Bool.true_and, Bool.and_true, Bool.and_self, Bool.false_and, Bool.and_false, Bool.true_or, Bool.or_true, Bool.false_or, Bool.or_false, ↓reduceIte, Nat.reduceEqDiff, Nat.reduceAdd, Nat.reduceMul, Nat.reduceSub, Nat.reduceBEq, Nat.reduceLeDiff, Nat.reduceLT, Nat.reduceMod, Nat.reduceDiv, Int.reduceToNat, Int.reducePow, Int.reduceMul, Int.reduceAdd, Int.reduceSub, Int.reduceLE, Int.reduceLT, Int.reduceNeg, Int.reduceDiv, Int.reduceMod, Int.reduceEq, Int.reduceBEq, Int.reduceBNe]
          have hgl : (ofF f (sent.take i) ++ [sn]).length = (ofF f (sent.take i)).length + 1 := by simp
          have hGr := Got.grow (L := fun k => ofF k (sent.take i)) (L' := fun k => ofF k (sent.take (i + 1))) (g := gf f + 1) [AObj.cells 0 0 false [Value.int IntKind.i64 f, Value.int IntKind.i64 sn], AObj.cells 0 1 false [Value.int IntKind.i64 sn]] hP hn (by omega) hz h3 h4 h5 (by simp) hLf hLo
          rw [hgl] at hGr
          refine ⟨i + 1, rfl, by omega, rfl, fun j hj => ?_, hGr⟩
          rw [List.getElem?_set_ne (by omega), List.getElem?_set_ne (by omega), List.getElem?_append_left (by omega)]
          exact hold j hj
      · obtain rfl : i = sent.length := by omega
        rw [List.take_length] at hG
        have hkJ := (hold k2 hPk2).trans hk2
        repeat' first | simp (disch := first | with_reducible assumption | omega) only [go_sem, Bool.true_and, Bool.and_true, Bool.and_self, Bool.false_and, Bool.and_false, Bool.true_or, Bool.or_true, Bool.false_or, Bool.or_false, ↓reduceIte, Nat.reduceEqDiff, Nat.reduceAdd, Nat.reduceMul, Nat.reduceSub, Nat.reduceBEq, Nat.reduceLeDiff, Nat.reduceLT, Nat.reduceMod, Nat.reduceDiv, Int.reduceToNat, Int.reducePow, Int.reduceMul, Int.reduceAdd, Int.reduceSub, Int.reduceLE, Int.reduceLT, Int.reduceNeg, Int.reduceDiv, Int.reduceMod, Int.reduceEq, Int.reduceBEq, Int.reduceBNe, f4, f4b, f4r0, f4r1, f4r2, f4r3, f4r4, f4r5, f4r6, f4r7, f4r8, f4r9, f4r10, f4r11, f4r12, f4r13, f4r15, f4r16, f4r17, f4r18, f4r19, f4r20, f4r21, f4r23, f4l0, f4, f4b, f4r0, f4r1, f4r2, f4r3, f4r4, f4r5, f4r6, f4r7, f4r8, f4r9, f4r10, f4r11, f4r12, f4r13, f4r15, f4r16, f4r17, f4r18, f4r19, f4r20, f4r21, f4r23, hkJ] | (refine BrW.of (fun hb => ?_) (fun hb => ?_) <;> (have hb' := hb; try simp only [decide_eq_true_eq, decide_eq_false_iff_not, beq_iff_eq, bne_iff_ne, beq_eq_false_iff_ne, bne_eq_false_iff_eq, Bool.not_eq_true', Bool.not_eq_false', Bool.not_eq_true, Bool.not_eq_false, Bool.and_eq_true, Bool.or_eq_true, Bool.and_eq_false_iff, Bool.or_eq_false_iff, Int.not_lt, Int.not_le, ne_eq, gt_iff_lt, ge_iff_le] at hb') <;> (try (exfalso; omega)))
        refine loopW.of (by decide) (fun m e J => ∃ (i : Nat), e = [(1, slv k3 o3 g3 fl.length c3), (8, slv k2 o2 g2 left.length c2), (11, slv P 0 0 fl.length fl.length), (62, .int .i64 left.length), (63, .int .i64 i)] ∧ i ≤ left.length ∧ m = left.length - i ∧ (∀ j, j < P → J[j]? = G[j]?) ∧
          Got P fl.length (fun k => if k < i then fl.getD k [] else ofF k sent) J) left.length ⟨0, rfl, by omega, rfl, hold, by simpa using hG⟩ ?_
        clear hold hG hkJ
        rintro m e J ⟨i, rfl, hi, rfl, hold, hG⟩
        by_cases hlt : i < left.length
        · have e2 := hcs2 i (by omega)
          obtain ⟨k4, o4, g4, c4, _, hve, hs4, hc4⟩ := hin2 i hlt
          rw [hve] at e2
          obtain ⟨ro4, cs4, hk4, q2, q3⟩ := hs4.at'
          have hk4l := (List.getElem?_eq_some_iff.1 hk4).1
          have ht4 := Tbl.cells (enc := ienc) (fun _ => rfl) q2 q3
          rw [flat'_ienc] at ht4
          simp only [Nat.mul_one] at q2 ht4
          have hkJ := (hold k2 hPk2).trans hk2
          have hkJ4 := (hold k4 (by omega)).trans hk4
          have hli := hll i
          have hal := hall i (by omega)
          have hfi := hlf i
          obtain ⟨L, hLd⟩ : ∃ L : Nat → List Int, L = fun k => if k < i then fl.getD k [] else ofF k sent := ⟨_, rfl⟩
          have hLi : L i = ofF i sent := by rw [hLd]; simp
          obtain ⟨L', hLd'⟩ : ∃ L : Nat → List Int, L = fun k => if k < i + 1 then fl.getD k [] else ofF k sent := ⟨_, rfl⟩
          have hLi' : L' i = ofF i sent ++ left.getD i [] := by rw [hLd', hal]; simp
          have hLo : ∀ k, k ≠ i → L' k = L k := fun k hk => by
            rw [hLd, hLd']
            by_cases h1 : k < i
            · simp [h1, show k < i + 1 by omega]
            · simp [h1, show ¬ k < i + 1 by omega]
          have hG : Got P fl.length L J := by rw [hLd]; exact hG
          obtain ⟨vs, qf, gf, hP, hn, h3, h4, h5⟩ := hG.at'
          have hev : vs[i]? = some (vs.getD i v0) := by rw [List.getD_eq_getElem?_getD, List.getElem?_eq_getElem (by omega)]; rfl
          have hPJ := (List.getElem?_eq_some_iff.1 hP).1
          rw [← hLi] at hLi'
          have hPe2 := hPe
          clear hLd hall hcs2 hin2 hin3 hcs hcs3 q3 hs4 hve hlf hll
          generalize left.getD i [] = l at *
          by_cases hz : l.length = 0
          · obtain rfl := List.eq_nil_of_length_eq_zero hz
            rw [List.append_nil] at hLi'
            have hLL : L' = L := funext fun k => by
              by_cases e : k = i
              · rw [e]; exact hLi'
              · exact hLo k e
            rw [hLL] at hLd'
            simp only [List.length_nil] at *
            have hss := set_self hev
            have hsH := set_selfH hP
            by_cases hz2 : L i = []
            · have hvf := h3 i (by omega) hz2
              rw [hvf] at hev hss
              repeat' first | simp (disch := first | with_reducible assumption | omega) only [go_sem, Bool.true_and, Bool.and_true, Bool.and_self, Bool.false_and, Bool.and_false, Bool.true_or, Bool.or_true, Bool.false_or, Bool.or_false, ↓reduceIte, Nat.reduceEqDiff, Nat.reduceAdd, Nat.reduceMul, Nat.reduceSub, Nat.reduceBEq, Nat.reduceLeDiff, Nat.reduceLT, Nat.reduceMod, Nat.reduceDiv, Int.reduceToNat, Int.reducePow, Int.reduceMul, Int.reduceAdd, Int.reduceSub, Int.reduceLE, Int.reduceLT, Int.reduceNeg, Int.reduceDiv, Int.reduceMod, Int.reduceEq, Int.reduceBEq, Int.reduceBNe, f4, f4b, f4r0, f4r1, f4r2, f4r3, f4r4, f4r5, f4r6, f4r7, f4r8, f4r9, f4r10, f4r11, f4r12, f4r13, f4r15, f4r16, f4r17, f4r18, f4r19, f4r20, f4r21, f4r23, f4l1, hkJ, get_old hkJ, e2, hP, get_old hP, hev, hkJ4, hss, hsH] | (refine BrW.of (fun hb => ?_) (fun hb => ?_) <;> (have hb' := hb; try simp only [decide_eq_true_eq, decide_eq_false_iff_not, beq_iff_eq, bne_iff_ne, beq_eq_false_iff_ne, bne_eq_false_iff_eq, Bool.not_eq_true', Bool.not_eq_false', Bool.not_eq_true, Bool.not_eq_false, Bool.and_eq_true, Bool.or_eq_true, Bool.and_eq_false_iff, Bool.or_eq_false_iff, Int.not_lt, Int.not_le, ne_eq, gt_iff_lt, ge_iff_le] at hb') <;> (try (exfalso; omega)))
              refine RdW.keep [1, 8, 11, 62, 63] (left.length - (i + 1)) (by omega) ?_
              simp (disch := first | with_reducible assumption | omega) only [go_sem, Bool.true_and, Bool.and_true, Bool.and_self, Bool.false_and, Bool.and_false, Bool.true_or, Bool.or_true, Bool.false_or, Bool.or_false, ↓reduceIte, Nat.reduceEqDiff, Nat.reduceAdd, Nat.reduceMul, Nat.reduceSub, Nat.reduceBEq, Nat.reduceLeDiff, Nat.reduceLT, Nat.reduceMod, Nat.reduceDiv, Int.reduceToNat, Int.reducePow, Int.reduceMul, Int.reduceAdd, Int.reduceSub, Int.reduceLE, Int.reduceLT, Int.reduceNeg, Int.reduceDiv, Int.reduceMod, Int.reduceEq, Int.reduceBEq, Int.reduceBNe]
              exact ⟨i + 1, rfl, by omega, rfl, hold, by rw [← hLd']; exact hG⟩
            · obtain ⟨hvf, hqP, hq⟩ := h4 i (by omega) hz2
              rw [hvf] at hev hss
              repeat' first | simp (disch := first | with_reducible assumption | omega) only [go_sem, Bool.true_and, Bool.and_true, Bool.and_self, Bool.false_and, Bool.and_false, Bool.true_or, Bool.or_true, Bool.false_or, Bool.or_false, ↓reduceIte, Nat.reduceEqDiff, Nat.reduceAdd, Nat.reduceMul, Nat.reduceSub, Nat.reduceBEq, Nat.reduceLeDiff, Nat.reduceLT, Nat.reduceMod, Nat.reduceDiv, Int.reduceToNat, Int.reducePow, Int.reduceMul, Int.reduceAdd, Int.reduceSub, Int.reduceLE, Int.reduceLT, Int.reduceNeg, Int.reduceDiv, Int.reduceMod, Int.reduceEq, Int.reduceBEq, Int.reduceBNe, f4, f4b, f4r0, f4r1, f4r2, f4r3, f4r4, f4r5, f4r6, f4r7, f4r8, f4r9, f4r10, f4r11, f4r12, f4r13, f4r15, f4r16, f4r17, f4r18, f4r19, f4r20, f4r21, f4r23, f4l1, hkJ, get_old hkJ, e2, hP, get_old hP, hev, hkJ4, hq, hss, hsH] | (refine BrW.of (fun hb => ?_) (fun hb => ?_) <;> (have hb' := hb; try simp only [decide_eq_true_eq, decide_eq_false_iff_not, beq_iff_eq, bne_iff_ne, beq_eq_false_iff_ne, bne_eq_false_iff_eq, Bool.not_eq_true', Bool.not_eq_false', Bool.not_eq_true, Bool.not_eq_false, Bool.and_eq_true, Bool.or_eq_true, Bool.and_eq_false_iff, Bool.or_eq_false_iff, Int.not_lt, Int.not_le, ne_eq, gt_iff_lt, ge_iff_le] at hb') <;> (try (exfalso; omega)))
              refine RdW.keep [1, 8, 11, 62, 63] (left.length - (i + 1)) (by omega) ?_
              simp (disch := first | with_reducible assumption | omega) only [go_sem, Bool.true_and, Bool.and_true, Bool.and_self, Bool.false_and, Bool.and_false, Bool.true_or, Bool.or_true, Bool.false_or, Bool.or_false, ↓reduceIte, Nat.reduceEqDiff, Nat.reduceAdd, Nat.reduceMul, Nat.reduceSub, Nat.reduceBEq, Nat.reduceLeDiff, Nat.reduceLT, Nat.reduceMod, Nat.reduceDiv, Int.reduceToNat, Int.reducePow, Int.reduceMul, Int.reduceAdd, Int.reduceSub, Int.reduceLE, Int.reduceLT, Int.reduceNeg, Int.reduceDiv, Int.reduceMod, Int.reduceEq, Int.reduceBEq, Int.reduceBNe]
              exact ⟨i + 1, rfl, by omega, rfl, hold, by rw [← hLd']; exact hG⟩
          · have hln : l ≠ [] := fun h => hz (by rw [h]; rfl)
            by_cases hz2 : L i = []
            · have hvf := h3 i (by omega) hz2
              rw [hvf] at hev
              rw [hz2, List.nil_append] at hLi'
              repeat' first | simp (disch := first | with_reducible assumption | omega) only [go_sem, Bool.true_and, Bool.and_true, Bool.and_self, Bool.false_and, Bool.and_false, Bool.true_or, Bool.or_true, Bool.false_or, Bool.or_false, ↓reduceIte, Nat.reduceEqDiff, Nat.reduceAdd, Nat.reduceMul, Nat.reduceSub, Nat.reduceBEq, Nat.reduceLeDiff, Nat.reduceLT, Nat.reduceMod, Nat.reduceDiv, Int.reduceToNat, Int.reducePow, Int.reduceMul, Int.reduceAdd, Int.reduceSub, Int.reduceLE, Int.reduceLT, Int.reduceNeg, Int.reduceDiv, Int.reduceMod, Int.reduceEq, Int.reduceBEq, Int.reduceBNe, f4, f4b, f4r0, f4r1, f4r2, f4r3, f4r4, f4r5, f4r6, f4r7, f4r8, f4r9, f4r10, f4r11, f4r12, f4r13, f4r15, f4r16, f4r17, f4r18, f4r19, f4r20, f4r21, f4r23, f4l1, hkJ, get_old hkJ, e2, hP, get_old hP, hev, hkJ4, hz, ht4] | (refine BrW.of (fun hb => ?_) (fun hb => ?_) <;> (have hb' := hb; try simp only [decide_eq_true_eq, decide_eq_false_iff_not, beq_iff_eq, bne_iff_ne, beq_eq_false_iff_ne, bne_eq_false_iff_eq, Bool.not_eq_true', Bool.not_eq_false', Bool.not_eq_true, Bool.not_eq_false, Bool.and_eq_true, Bool.or_eq_true, Bool.and_eq_false_iff, Bool.or_eq_false_iff, Int.not_lt, Int.not_le, ne_eq, gt_iff_lt, ge_iff_le] at hb') <;> (try (exfalso; omega)))
              refine RdW.keep [1, 8, 11, 62, 63] (left.length - (i + 1)) (by omega) ?_
              simp (disch := first | with_reducible assumption | omega) only [go_sem, Bool.true_and, Bool.and_true, Bool.and_self, Bool.false_and, Bool.and_false, Bool.true_or, Bool.or_true, Bool.false_or, Bool.or_false, ↓reduceIte, Nat.reduceEqDiff, Nat.reduceAdd, Nat.reduceMul, Nat.reduceSub, Nat.reduceBEq, Nat.reduceLeDiff, Nat.reduceLT, Nat.reduceMod, Nat.reduceDiv, Int.reduceToNat, Int.reducePow, Int.reduceMul, Int.reduceAdd, Int.reduceSub, Int.reduceLE, Int.reduceLT, Int.reduceNeg, Int.reduceDiv, Int.reduceMod, Int.reduceEq, Int.reduceBEq, Int.reduceBNe]
              exact ⟨i + 1, rfl, by omega, rfl, set_old J _ P _ G hPe hold hPJ, by rw [← hLd']; exact Got.fresh (L := L) (g := 0) (l := l) _ hP hn (by omega) (Nat.le_refl _) h3 h4 h5 (get_new0 _ _ _) hln hLi' hLo⟩
            · obtain ⟨hvf, hqP, hq⟩ := h4 i (by omega) hz2
              rw [hvf] at hev
              have il := ints_length (L i)
              have it := ints_take (L i) _ (Nat.le_refl _)
              have hbl : (L i).length ≤ 6400 := by have := ofF_len i sent; rw [hLi]; omega
              have hni : ¬ (L i).length + l.length ≤ (L i).length := by omega
              have hsn2 := ints_app (L i) l
              have hP2 : ∀ x, (J.set (qf i) x)[P]? = some (.cells 0 1 false vs) := fun x => (get_set_miss (by omega)).trans hP
              have hqJ := (List.getElem?_eq_some_iff.1 hq).1
              repeat' first | simp (disch := first | with_reducible assumption | omega) only [go_sem, Bool.true_and, Bool.and_true, Bool.and_self, Bool.false_and, Bool.and_false, Bool.true_or, Bool.or_true, Bool.false_or, Bool.or_false, ↓reduceIte, Nat.reduceEqDiff, Nat.reduceAdd, Nat.reduceMul, Nat.reduceSub, Nat.reduceBEq, Nat.reduceLeDiff, Nat.reduceLT, Nat.reduceMod, Nat.reduceDiv, Int.reduceToNat, Int.reducePow, Int.reduceMul, Int.reduceAdd, Int.reduceSub, Int.reduceLE, Int.reduceLT, Int.reduceNeg, Int.reduceDiv, Int.reduceMod, Int.reduceEq, Int.reduceBEq, Int.reduceBNe, f4, f4b, f4r0, f4r1, f4r2, f4r3, f4r4, f4r5, f4r6, f4r7, f4r8, f4r9, f4r10, f4r11, f4r12, f4r13, f4r15, f4r16, f4r17, f4r18, f4r19, f4r20, f4r21, f4r23, f4l1, hkJ, get_old hkJ, e2, hP, get_old hP, hev, hkJ4, hz, ht4, hq, il, it, hni, hsn2, hP2] | (refine BrW.of (fun hb => ?_) (fun hb => ?_) <;> (have hb' := hb; try simp only [decide_eq_true_eq, decide_eq_false_iff_not, beq_iff_eq, bne_iff_ne, beq_eq_false_iff_ne, bne_eq_false_iff_eq, Bool.not_eq_true', Bool.not_eq_false', Bool.not_eq_true, Bool.not_eq_false, Bool.and_eq_true, Bool.or_eq_true, Bool.and_eq_false_iff, Bool.or_eq_false_iff, Int.not_lt, Int.not_le, ne_eq, gt_iff_lt, ge_iff_le] at hb') <;> (try (exfalso; omega)))
              refine RdW.keep [1, 8, 11, 62, 63] (left.length - (i + 1)) (by omega) ?_
              simp (disch := first | with_reducible assumption | omega) only [go_sem, Bool.true_and, Bool.and_true, Bool.and_self, Bool.false_and, Bool.and_false, Bool.true_or, Bool.or_true, Bool.false_or, Bool.or_false, ↓reduceIte, Nat.reduceEqDiff, Nat.reduceAdd, Nat.reduceMul, Nat.reduceSub, Nat.reduceBEq, Nat.reduceLeDiff, Nat.reduceLT, Nat.reduceMod, Nat.reduceDiv, Int.reduceToNat, Int.reducePow, Int.reduceMul, Int.reduceAdd, Int.reduceSub, Int.reduceLE, Int.reduceLT, Int.reduceNeg, Int.reduceDiv, Int.reduceMod, Int.reduceEq, Int.reduceBEq, Int.reduceBNe]
              have hgl : (L i ++ l).length = (L i).length + l.length := List.length_append
              have hGr := Got.grow (L := L) (L' := L') (g := gf i + 1) [] hP hn (by omega) hz2 h3 h4 h5 (by simp [hz2]) hLi' hLo
              rw [hgl, List.append_nil] at hGr
              refine ⟨i + 1, rfl, by omega, rfl, fun j hj => ?_, by rw [← hLd']; exact hGr⟩
              rw [List.getElem?_set_ne (by omega), List.getElem?_set_ne (by omega)]
              exact hold j hj
        · obtain rfl : i = left.length := by omega
          obtain ⟨vs, qf, gf, hP, hn, h3, h4, h5⟩ := hG.at'
          have hFJ : IsLL (· < P) J (slv k3 o3 g3 fl.length c3) fl := (hF2.old.mono (A' := (· < P)) (fun k hk _ => by omega)).agree (fun k hk o h => (hold k hk).trans h)
          have hSz := SameZ_spec fl P 0 0 fl.length vs _ _ J (Vals.new _ _ _ false _ hP) hn (fun i hi => by
            by_cases e : fl.getD i [] = []
            · have hLi : (if i < left.length then fl.getD i [] else ofF i sent) = [] := by rw [if_pos (by omega)]; exact e
              exact .inl ⟨h3 i hi hLi, e⟩
            · have hLi : (if i < left.length then fl.getD i [] else ofF i sent) = fl.getD i [] := if_pos (by omega)
              obtain ⟨a, b, c⟩ := h4 i hi (by rw [hLi]; exact e)
              rw [hLi] at a c
              exact .inr ⟨qf i, 0, gf i, _, trivial, a, Ints.new _ _ _ false _ c, Nat.le_refl _⟩) hFJ (by omega) (fun i _ => by have := hlf i; omega)
          repeat' first | simp (disch := first | with_reducible assumption | omega) only [go_sem, Bool.true_and, Bool.and_true, Bool.and_self, Bool.false_and, Bool.and_false, Bool.true_or, Bool.or_true, Bool.false_or, Bool.or_false, ↓reduceIte, Nat.reduceEqDiff, Nat.reduceAdd, Nat.reduceMul, Nat.reduceSub, Nat.reduceBEq, Nat.reduceLeDiff, Nat.reduceLT, Nat.reduceMod, Nat.reduceDiv, Int.reduceToNat, Int.reducePow, Int.reduceMul, Int.reduceAdd, Int.reduceSub, Int.reduceLE, Int.reduceLT, Int.reduceNeg, Int.reduceDiv, Int.reduceMod, Int.reduceEq, Int.reduceBEq, Int.reduceBNe, f4, f4b, f4r0, f4r1, f4r2, f4r3, f4r4, f4r5, f4r6, f4r7, f4r8, f4r9, f4r10, f4r11, f4r12, f4r13, f4r15, f4r16, f4r17, f4r18, f4r19, f4r20, f4r21, f4r23, f4l1, f4, f4b, f4r0, f4r1, f4r2, f4r3, f4r4, f4r5, f4r6, f4r7, f4r8, f4r9, f4r10, f4r11, f4r12, f4r13, f4r15, f4r16, f4r17, f4r18, f4r19, f4r20, f4r21, f4r23] | (refine BrW.of (fun hb => ?_) (fun hb => ?_) <;> (have hb' := hb; try simp only [decide_eq_true_eq, decide_eq_false_iff_not, beq_iff_eq, bne_iff_ne, beq_eq_false_iff_ne, bne_eq_false_iff_eq, Bool.not_eq_true', Bool.not_eq_false', Bool.not_eq_true, Bool.not_eq_false, Bool.and_eq_true, Bool.or_eq_true, Bool.and_eq_false_iff, Bool.or_eq_false_iff, Int.not_lt, Int.not_le, ne_eq, gt_iff_lt, ge_iff_le] at hb') <;> (try (exfalso; omega))) | (refine .of (hSz.mono ?_); rintro v _ ⟨rfl, rfl⟩)
          exact .here rfl
  · have z' : (e != 0) = true := by simpa using z
    repeat' first | simp (disch := first | with_reducible assumption | omega) only [go_sem, Bool.true_and, Bool.and_true, Bool.and_self, Bool.false_and, Bool.and_false, Bool.true_or, Bool.or_true, Bool.false_or, Bool.or_false, ↓reduceIte, Nat.reduceEqDiff, Nat.reduceAdd, Nat.reduceMul, Nat.reduceSub, Nat.reduceBEq, Nat.reduceLeDiff, Nat.reduceLT, Nat.reduceMod, Nat.reduceDiv, Int.reduceToNat, Int.reducePow, Int.reduceMul, Int.reduceAdd, Int.reduceSub, Int.reduceLE, Int.reduceLT, Int.reduceNeg, Int.reduceDiv, Int.reduceMod, Int.reduceEq, Int.reduceBEq, Int.reduceBNe, f4, f4b, f4r0, f4r1, f4r2, f4r3, f4r4, f4r5, f4r6, f4r7, f4r8, f4r9, f4r10, f4r11, f4r12, f4r13, f4r15, f4r16, f4r17, f4r18, f4r19, f4r20, f4r21, f4r23, z'] | (refine BrW.of (fun hb => ?_) (fun hb => ?_) <;> (have hb' := hb; try simp only [decide_eq_true_eq, decide_eq_false_iff_not, beq_iff_eq, bne_iff_ne, beq_eq_false_iff_ne, bne_eq_false_iff_eq, Bool.not_eq_true', Bool.not_eq_false', Bool.not_eq_true, Bool.not_eq_false, Bool.and_eq_true, Bool.or_eq_true, Bool.and_eq_false_iff, Bool.or_eq_false_iff, Int.not_lt, Int.not_le, ne_eq, gt_iff_lt, ge_iff_le] at hb') <;> (try (exfalso; omega)))
    all_goals exact .here rfl
end Go.Proofs.Ythdpcloggedhfaa
