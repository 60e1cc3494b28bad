import Derived.Test.YtiflaenenlcidaaLaws2
set_option linter.unusedSimpArgs false
set_option linter.unusedVariables false
set_option maxHeartbeats 1000000
set_option maxRecDepth 20000
namespace Go.Proofs.Ytiflaenenlcidaa
open Go Go.Am
attribute [local irreducible] opsW Ww loopW callW drawW outW outDW gW cW BrW bothW vW resW DropW RdW dcallW altW Later.run

theorem CloneP_spec (l : List Px) (k o g c : Nat) (H : Heap) (hs : Tbl Px Px.cells 6 p0 H k o g l) (hl : l.length ≤ 1099511627776) (hc : l.length ≤ c) :
    ACallK Try.prog 9 [slv k o g l.length c] H (fun v H' => ∃ g', v = slv H.length 0 g' l.length l.length ∧ H' = H ++ [.cells g' 6 false (flat' Px.cells l)]) := by
  obtain ⟨ro, cs, hk, hle, hcs⟩ := hs.at'
  have ht := Tbl.cells (enc := Px.cells) (fun _ => rfl) hle hcs
  try simp only [Nat.mul_one] at ht
  refine .walkW f9_ok (by simp; decide) (by decide) ?_
  have hkn := get_old hk
  simp (disch := first | with_reducible assumption | omega) only [go_sem, Bool.true_and, Bool.and_true, Bool.and_self, Bool.false_and, Bool.and_false, Bool.true_or, Bool.or_true, Bool.false_or, Bool.or_false, ↓reduceIte, Nat.reduceEqDiff, Nat.reduceAdd, Nat.reduceMul, Nat.reduceSub, Nat.reduceBEq, Nat.reduceLeDiff, Nat.reduceLT, Nat.reduceMod, Nat.reduceDiv, Int.reduceToNat, Int.reducePow, Int.reduceMul, Int.reduceAdd, Int.reduceSub, Int.reduceLE, Int.reduceLT, Int.reduceNeg, Int.reduceDiv, Int.reduceMod, Int.reduceEq, Int.reduceBEq, Int.reduceBNe, f9, f9b, f9r0, f9r1, f9r2, f9r3, hk]
  refine .of ?_ (fun hn => ?_)
  · by_cases hz : l.length = 0
    · have hb : flat' Px.cells l = [] := by rw [List.length_eq_zero_iff.1 hz]; rfl
      simp (disch := first | with_reducible assumption | omega) only [go_sem, Bool.true_and, Bool.and_true, Bool.and_self, Bool.false_and, Bool.and_false, Bool.true_or, Bool.or_true, Bool.false_or, Bool.or_false, ↓reduceIte, Nat.reduceEqDiff, Nat.reduceAdd, Nat.reduceMul, Nat.reduceSub, Nat.reduceBEq, Nat.reduceLeDiff, Nat.reduceLT, Nat.reduceMod, Nat.reduceDiv, Int.reduceToNat, Int.reducePow, Int.reduceMul, Int.reduceAdd, Int.reduceSub, Int.reduceLE, Int.reduceLT, Int.reduceNeg, Int.reduceDiv, Int.reduceMod, Int.reduceEq, Int.reduceBEq, Int.reduceBNe, f9, f9b, f9r0, f9r1, f9r2, f9r3, hk, hkn, hz]
      exact .here ⟨0, by rw [hz], by rw [hb]⟩
    · have hz' : ¬ l.length ≤ 0 := by omega
      simp (disch := first | with_reducible assumption | omega) only [go_sem, Bool.true_and, Bool.and_true, Bool.and_self, Bool.false_and, Bool.and_false, Bool.true_or, Bool.or_true, Bool.false_or, Bool.or_false, ↓reduceIte, Nat.reduceEqDiff, Nat.reduceAdd, Nat.reduceMul, Nat.reduceSub, Nat.reduceBEq, Nat.reduceLeDiff, Nat.reduceLT, Nat.reduceMod, Nat.reduceDiv, Int.reduceToNat, Int.reducePow, Int.reduceMul, Int.reduceAdd, Int.reduceSub, Int.reduceLE, Int.reduceLT, Int.reduceNeg, Int.reduceDiv, Int.reduceMod, Int.reduceEq, Int.reduceBEq, Int.reduceBNe, f9, f9b, f9r0, f9r1, f9r2, f9r3, hk, hkn, hz, hz', ht, List.take_zero, List.drop_nil]
      exact .here ⟨1, rfl, rfl⟩
  · have hz : l.length = 0 := by have : c = 0 := by simpa using hn
                                 omega
    have hb : flat' Px.cells l = [] := by rw [List.length_eq_zero_iff.1 hz]; rfl
    simp (disch := first | with_reducible assumption | omega) only [go_sem, Bool.true_and, Bool.and_true, Bool.and_self, Bool.false_and, Bool.and_false, Bool.true_or, Bool.or_true, Bool.false_or, Bool.or_false, ↓reduceIte, Nat.reduceEqDiff, Nat.reduceAdd, Nat.reduceMul, Nat.reduceSub, Nat.reduceBEq, Nat.reduceLeDiff, Nat.reduceLT, Nat.reduceMod, Nat.reduceDiv, Int.reduceToNat, Int.reducePow, Int.reduceMul, Int.reduceAdd, Int.reduceSub, Int.reduceLE, Int.reduceLT, Int.reduceNeg, Int.reduceDiv, Int.reduceMod, Int.reduceEq, Int.reduceBEq, Int.reduceBNe, f9, f9b, f9r0, f9r1, f9r2, f9r3, hk]
    refine .ghost 6 false ⟨0, by rw [hz], by rw [hb]⟩

theorem EqualI_spec (a b : List Int) (k o g c k' o' g' c' : Nat) (H : Heap) (ha : Tbl Int ienc 1 0 H k o g a) (hb : Tbl Int ienc 1 0 H k' o' g' b) (hla : a.length ≤ 9223372036854775807) (hlb : b.length ≤ 9223372036854775807) :
    ACallK Try.prog 14 [slv k o g a.length c, slv k' o' g' b.length c'] H (fun v H' => v = .bool (decide (a = b)) ∧ H' = H) := by
  obtain ⟨ro, cs, hk, hcl, hcs⟩ := ha.at'
  obtain ⟨ro', cs', hk', hcl', hcs'⟩ := hb.at'
  refine .walkW f14_ok (by simp; decide) (by decide) ?_
  by_cases hl : a.length = b.length
  · repeat' first | simp (disch := first | with_reducible assumption | omega) only [go_sem, Bool.true_and, Bool.and_true, Bool.and_self, Bool.false_and, Bool.and_false, Bool.true_or, Bool.or_true, Bool.false_or, Bool.or_false, ↓reduceIte, Nat.reduceEqDiff, Nat.reduceAdd, Nat.reduceMul, Nat.reduceSub, Nat.reduceBEq, Nat.reduceLeDiff, Nat.reduceLT, Nat.reduceMod, Nat.reduceDiv, Int.reduceToNat, Int.reducePow, Int.reduceMul, Int.reduceAdd, Int.reduceSub, Int.reduceLE, Int.reduceLT, Int.reduceNeg, Int.reduceDiv, Int.reduceMod, Int.reduceEq, Int.reduceBEq, Int.reduceBNe, f14, f14b, f14r0, f14r1, f14r2, f14r3, f14r4, f14r5, f14r6, f14r7, f14r8, f14r10, hk, hk'] | (refine BrW.of (fun hb => ?_) (fun hb => ?_) <;> (have hb' := hb; try simp only [decide_eq_true_eq, decide_eq_false_iff_not, beq_iff_eq, bne_iff_ne, beq_eq_false_iff_ne, bne_eq_false_iff_eq, Bool.not_eq_true', Bool.not_eq_false', Bool.not_eq_true, Bool.not_eq_false, Bool.and_eq_true, Bool.or_eq_true, Bool.and_eq_false_iff, Bool.or_eq_false_iff, Int.not_lt, Int.not_le, ne_eq, gt_iff_lt, ge_iff_le] at hb') <;> (try (exfalso; omega))) | (refine altW.of ?_ ?_)
    refine loopW.of (by decide) (fun m e H'' => ∃ i : Nat, e = [(0, slv k o g a.length c), (1, slv k' o' g' b.length c'), (12, .int .i64 a.length), (13, .int .i64 i)] ∧ H'' = H ∧ i ≤ a.length ∧ m = a.length - i ∧ a.take i = b.take i) a.length ⟨0, rfl, rfl, by omega, rfl, rfl⟩ ?_
    rintro m e H'' ⟨i, rfl, rfl, hi, rfl, hinv⟩
    by_cases hlt : i < a.length
    · have hltb : i < b.length := by omega
      have e0 : cs[o + i]? = some (Value.int .i64 (a.getD i 0)) := by have := hcs i hlt 0 (by omega); simpa [ienc] using this
      have e1 : cs'[o' + i]? = some (Value.int .i64 (b.getD i 0)) := by have := hcs' i hltb 0 (by omega); simpa [ienc] using this
      by_cases hxy : a.getD i 0 = b.getD i 0
      · have hbb : (a.getD i 0 != b.getD i 0) = false := by rw [hxy]; simp
        have hbq : (a.getD i 0 == b.getD i 0) = true := by rw [hxy]; simp
        have hnext : a.take (i + 1) = b.take (i + 1) := by rw [take_snoc 0 a i hlt, take_snoc 0 b i hltb, hinv, hxy]
        clear hxy
        generalize a.getD i 0 = x at *
        generalize b.getD i 0 = y at *
        repeat' first | simp (disch := first | with_reducible assumption | omega) only [go_sem, Bool.true_and, Bool.and_true, Bool.and_self, Bool.false_and, Bool.and_false, Bool.true_or, Bool.or_true, Bool.false_or, Bool.or_false, ↓reduceIte, Nat.reduceEqDiff, Nat.reduceAdd, Nat.reduceMul, Nat.reduceSub, Nat.reduceBEq, Nat.reduceLeDiff, Nat.reduceLT, Nat.reduceMod, Nat.reduceDiv, Int.reduceToNat, Int.reducePow, Int.reduceMul, Int.reduceAdd, Int.reduceSub, Int.reduceLE, Int.reduceLT, Int.reduceNeg, Int.reduceDiv, Int.reduceMod, Int.reduceEq, Int.reduceBEq, Int.reduceBNe, f14, f14b, f14r0, f14r1, f14r2, f14r3, f14r4, f14r5, f14r6, f14r7, f14r8, f14r10, f14l0, hk, hk', e0, e1, hbb, hbq] | (refine BrW.of (fun hb => ?_) (fun hb => ?_) <;> (have hb' := hb; try simp only [decide_eq_true_eq, decide_eq_false_iff_not, beq_iff_eq, bne_iff_ne, beq_eq_false_iff_ne, bne_eq_false_iff_eq, Bool.not_eq_true', Bool.not_eq_false', Bool.not_eq_true, Bool.not_eq_false, Bool.and_eq_true, Bool.or_eq_true, Bool.and_eq_false_iff, Bool.or_eq_false_iff, Int.not_lt, Int.not_le, ne_eq, gt_iff_lt, ge_iff_le] at hb') <;> (try (exfalso; omega))) | (refine altW.of ?_ ?_)
        refine RdW.keep [0, 1, 12, 13] (a.length - (i + 1)) (by omega) ?_
        simp (disch := first | with_reducible assumption | omega) only [go_sem, Bool.true_and, Bool.and_true, Bool.and_self, Bool.false_and, Bool.and_false, Bool.true_or, Bool.or_true, Bool.false_or, Bool.or_false, ↓reduceIte, Nat.reduceEqDiff, Nat.reduceAdd, Nat.reduceMul, Nat.reduceSub, Nat.reduceBEq, Nat.reduceLeDiff, Nat.reduceLT, Nat.reduceMod, Nat.reduceDiv, Int.reduceToNat, Int.reducePow, Int.reduceMul, Int.reduceAdd, Int.reduceSub, Int.reduceLE, Int.reduceLT, Int.reduceNeg, Int.reduceDiv, Int.reduceMod, Int.reduceEq, Int.reduceBEq, Int.reduceBNe]
        exact ⟨i + 1, rfl, by omega, rfl, hnext⟩
      · have hbb : (a.getD i 0 != b.getD i 0) = true := by simpa using hxy
        have hbq : (a.getD i 0 == b.getD i 0) = false := by simpa using hxy
        have hne : decide (a = b) = false := by simp; rintro rfl; exact hxy rfl
        clear hxy
        generalize a.getD i 0 = x at *
        generalize b.getD i 0 = y at *
        repeat' first | simp (disch := first | with_reducible assumption | omega) only [go_sem, Bool.true_and, Bool.and_true, Bool.and_self, Bool.false_and, Bool.and_false, Bool.true_or, Bool.or_true, Bool.false_or, Bool.or_false, ↓reduceIte, Nat.reduceEqDiff, Nat.reduceAdd, Nat.reduceMul, Nat.reduceSub, Nat.reduceBEq, Nat.reduceLeDiff, Nat.reduceLT, Nat.reduceMod, Nat.reduceDiv, Int.reduceToNat, Int.reducePow, Int.reduceMul, Int.reduceAdd, Int.reduceSub, Int.reduceLE, Int.reduceLT, Int.reduceNeg, Int.reduceDiv, Int.reduceMod, Int.reduceEq, Int.reduceBEq, Int.reduceBNe, f14, f14b, f14r0, f14r1, f14r2, f14r3, f14r4, f14r5, f14r6, f14r7, f14r8, f14r10, f14l0, f14, f14b, f14r0, f14r1, f14r2, f14r3, f14r4, f14r5, f14r6, f14r7, f14r8, f14r10, hk, hk', e0, e1, hbb, hbq] | (refine BrW.of (fun hb => ?_) (fun hb => ?_) <;> (have hb' := hb; try simp only [decide_eq_true_eq, decide_eq_false_iff_not, beq_iff_eq, bne_iff_ne, beq_eq_false_iff_ne, bne_eq_false_iff_eq, Bool.not_eq_true', Bool.not_eq_false', Bool.not_eq_true, Bool.not_eq_false, Bool.and_eq_true, Bool.or_eq_true, Bool.and_eq_false_iff, Bool.or_eq_false_iff, Int.not_lt, Int.not_le, ne_eq, gt_iff_lt, ge_iff_le] at hb') <;> (try (exfalso; omega))) | (refine altW.of ?_ ?_)
        exact .here ⟨by rw [hne], rfl⟩
    · obtain rfl : i = a.length := by omega
      have heq : decide (a = b) = true := by
        rw [List.take_length, hl, List.take_length] at hinv
        simpa using hinv
      repeat' first | simp (disch := first | with_reducible assumption | omega) only [go_sem, Bool.true_and, Bool.and_true, Bool.and_self, Bool.false_and, Bool.and_false, Bool.true_or, Bool.or_true, Bool.false_or, Bool.or_false, ↓reduceIte, Nat.reduceEqDiff, Nat.reduceAdd, Nat.reduceMul, Nat.reduceSub, Nat.reduceBEq, Nat.reduceLeDiff, Nat.reduceLT, Nat.reduceMod, Nat.reduceDiv, Int.reduceToNat, Int.reducePow, Int.reduceMul, Int.reduceAdd, Int.reduceSub, Int.reduceLE, Int.reduceLT, Int.reduceNeg, Int.reduceDiv, Int.reduceMod, Int.reduceEq, Int.reduceBEq, Int.reduceBNe, f14, f14b, f14r0, f14r1, f14r2, f14r3, f14r4, f14r5, f14r6, f14r7, f14r8, f14r10, f14l0, f14, f14b, f14r0, f14r1, f14r2, f14r3, f14r4, f14r5, f14r6, f14r7, f14r8, f14r10, hk, hk'] | (refine BrW.of (fun hb => ?_) (fun hb => ?_) <;> (have hb' := hb; try simp only [decide_eq_true_eq, decide_eq_false_iff_not, beq_iff_eq, bne_iff_ne, beq_eq_false_iff_ne, bne_eq_false_iff_eq, Bool.not_eq_true', Bool.not_eq_false', Bool.not_eq_true, Bool.not_eq_false, Bool.and_eq_true, Bool.or_eq_true, Bool.and_eq_false_iff, Bool.or_eq_false_iff, Int.not_lt, Int.not_le, ne_eq, gt_iff_lt, ge_iff_le] at hb') <;> (try (exfalso; omega))) | (refine altW.of ?_ ?_)
      exact .here ⟨by rw [heq], rfl⟩
  · have hne : decide (a = b) = false := by simp; rintro rfl; exact hl rfl
    repeat' first | simp (disch := first | with_reducible assumption | omega) only [go_sem, Bool.true_and, Bool.and_true, Bool.and_self, Bool.false_and, Bool.and_false, Bool.true_or, Bool.or_true, Bool.false_or, Bool.or_false, ↓reduceIte, Nat.reduceEqDiff, Nat.reduceAdd, Nat.reduceMul, Nat.reduceSub, Nat.reduceBEq, Nat.reduceLeDiff, Nat.reduceLT, Nat.reduceMod, Nat.reduceDiv, Int.reduceToNat, Int.reducePow, Int.reduceMul, Int.reduceAdd, Int.reduceSub, Int.reduceLE, Int.reduceLT, Int.reduceNeg, Int.reduceDiv, Int.reduceMod, Int.reduceEq, Int.reduceBEq, Int.reduceBNe, f14, f14b, f14r0, f14r1, f14r2, f14r3, f14r4, f14r5, f14r6, f14r7, f14r8, f14r10, hk, hk'] | (refine BrW.of (fun hb => ?_) (fun hb => ?_) <;> (have hb' := hb; try simp only [decide_eq_true_eq, decide_eq_false_iff_not, beq_iff_eq, bne_iff_ne, beq_eq_false_iff_ne, bne_eq_false_iff_eq, Bool.not_eq_true', Bool.not_eq_false', Bool.not_eq_true, Bool.not_eq_false, Bool.and_eq_true, Bool.or_eq_true, Bool.and_eq_false_iff, Bool.or_eq_false_iff, Int.not_lt, Int.not_le, ne_eq, gt_iff_lt, ge_iff_le] at hb') <;> (try (exfalso; omega))) | (refine altW.of ?_ ?_)
    all_goals exact .here ⟨by rw [hne], rfl⟩

theorem EqualB_spec (a b : List Bool) (k o g c k' o' g' c' : Nat) (H : Heap) (ha : Tbl Bool benc 1 false H k o g a) (hb : Tbl Bool benc 1 false H k' o' g' b) (hla : a.length ≤ 9223372036854775807) (hlb : b.length ≤ 9223372036854775807) :
    ACallK Try.prog 15 [slv k o g a.length c, slv k' o' g' b.length c'] H (fun v H' => v = .bool (decide (a = b)) ∧ H' = H) := by
  obtain ⟨ro, cs, hk, hcl, hcs⟩ := ha.at'
  obtain ⟨ro', cs', hk', hcl', hcs'⟩ := hb.at'
  refine .walkW f15_ok (by simp; decide) (by decide) ?_
  by_cases hl : a.length = b.length
  · repeat' first | simp (disch := first | with_reducible assumption | omega) only [go_sem, Bool.true_and, Bool.and_true, Bool.and_self, Bool.false_and, Bool.and_false, Bool.true_or, Bool.or_true, Bool.false_or, Bool.or_false, ↓reduceIte, Nat.reduceEqDiff, Nat.reduceAdd, Nat.reduceMul, Nat.reduceSub, Nat.reduceBEq, Nat.reduceLeDiff, Nat.reduceLT, Nat.reduceMod, Nat.reduceDiv, Int.reduceToNat, Int.reducePow, Int.reduceMul, Int.reduceAdd, Int.reduceSub, Int.reduceLE, Int.reduceLT, Int.reduceNeg, Int.reduceDiv, Int.reduceMod, Int.reduceEq, Int.reduceBEq, Int.reduceBNe, f15, f15b, f15r0, f15r1, f15r2, f15r3, f15r4, f15r5, f15r6, f15r7, f15r8, f15r10, hk, hk'] | (refine BrW.of (fun hb => ?_) (fun hb => ?_) <;> (have hb' := hb; try simp only [decide_eq_true_eq, decide_eq_false_iff_not, beq_iff_eq, bne_iff_ne, beq_eq_false_iff_ne, bne_eq_false_iff_eq, Bool.not_eq_true', Bool.not_eq_false', Bool.not_eq_true, Bool.not_eq_false, Bool.and_eq_true, Bool.or_eq_true, Bool.and_eq_false_iff, Bool.or_eq_false_iff, Int.not_lt, Int.not_le, ne_eq, gt_iff_lt, ge_iff_le] at hb') <;> (try (exfalso; omega))) | (refine altW.of ?_ ?_)
    refine loopW.of (by decide) (fun m e H'' => ∃ i : Nat, e = [(0, slv k o g a.length c), (1, slv k' o' g' b.length c'), (12, .int .i64 a.length), (13, .int .i64 i)] ∧ H'' = H ∧ i ≤ a.length ∧ m = a.length - i ∧ a.take i = b.take i) a.length ⟨0, rfl, rfl, by omega, rfl, rfl⟩ ?_
    rintro m e H'' ⟨i, rfl, rfl, hi, rfl, hinv⟩
    by_cases hlt : i < a.length
    · have hltb : i < b.length := by omega
      have e0 : cs[o + i]? = some (Value.bool (a.getD i false)) := by have := hcs i hlt 0 (by omega); simpa [benc] using this
      have e1 : cs'[o' + i]? = some (Value.bool (b.getD i false)) := by have := hcs' i hltb 0 (by omega); simpa [benc] using this
      by_cases hxy : a.getD i false = b.getD i false
      · have hbb : (a.getD i false != b.getD i false) = false := by rw [hxy]; simp
        have hbq : (a.getD i false == b.getD i false) = true := by rw [hxy]; simp
        have hnext : a.take (i + 1) = b.take (i + 1) := by rw [take_snoc false a i hlt, take_snoc false b i hltb, hinv, hxy]
        clear hxy
        generalize a.getD i false = x at *
        generalize b.getD i false = y at *
        repeat' first | simp (disch := first | with_reducible assumption | omega) only [go_sem, Bool.true_and, Bool.and_true, Bool.and_self, Bool.false_and, Bool.and_false, Bool.true_or, Bool.or_true, Bool.false_or, Bool.or_false, ↓reduceIte, Nat.reduceEqDiff, Nat.reduceAdd, Nat.reduceMul, Nat.reduceSub, Nat.reduceBEq, Nat.reduceLeDiff, Nat.reduceLT, Nat.reduceMod, Nat.reduceDiv, Int.reduceToNat, Int.reducePow, Int.reduceMul, Int.reduceAdd, Int.reduceSub, Int.reduceLE, Int.reduceLT, Int.reduceNeg, Int.reduceDiv, Int.reduceMod, Int.reduceEq, Int.reduceBEq, Int.reduceBNe, f15, f15b, f15r0, f15r1, f15r2, f15r3, f15r4, f15r5, f15r6, f15r7, f15r8, f15r10, f15l0, hk, hk', e0, e1, hbb, hbq] | (refine BrW.of (fun hb => ?_) (fun hb => ?_) <;> (have hb' := hb; try simp only [decide_eq_true_eq, decide_eq_false_iff_not, beq_iff_eq, bne_iff_ne, beq_eq_false_iff_ne, bne_eq_false_iff_eq, Bool.not_eq_true', Bool.not_eq_false', Bool.not_eq_true, Bool.not_eq_false, Bool.and_eq_true, Bool.or_eq_true, Bool.and_eq_false_iff, Bool.or_eq_false_iff, Int.not_lt, Int.not_le, ne_eq, gt_iff_lt, ge_iff_le] at hb') <;> (try (exfalso; omega))) | (refine altW.of ?_ ?_)
        refine RdW.keep [0, 1, 12, 13] (a.length - (i + 1)) (by omega) ?_
        simp (disch := first | with_reducible assumption | omega) only [go_sem, Bool.true_and, Bool.and_true, Bool.and_self, Bool.false_and, Bool.and_false, Bool.true_or, Bool.or_true, Bool.false_or, Bool.or_false, ↓reduceIte, Nat.reduceEqDiff, Nat.reduceAdd, Nat.reduceMul, Nat.reduceSub, Nat.reduceBEq, Nat.reduceLeDiff, Nat.reduceLT, Nat.reduceMod, Nat.reduceDiv, Int.reduceToNat, Int.reducePow, Int.reduceMul, Int.reduceAdd, Int.reduceSub, Int.reduceLE, Int.reduceLT, Int.reduceNeg, Int.reduceDiv, Int.reduceMod, Int.reduceEq, Int.reduceBEq, Int.reduceBNe]
        exact ⟨i + 1, rfl, by omega, rfl, hnext⟩
      · have hbb : (a.getD i false != b.getD i false) = true := by simpa using hxy
        have hbq : (a.getD i false == b.getD i false) = false := by simpa using hxy
        have hne : decide (a = b) = false := by simp; rintro rfl; exact hxy rfl
        clear hxy
        generalize a.getD i false = x at *
        generalize b.getD i false = y at *
        repeat' first | simp (disch := first | with_reducible assumption | omega) only [go_sem, Bool.true_and, Bool.and_true, Bool.and_self, Bool.false_and, Bool.and_false, Bool.true_or, Bool.or_true, Bool.false_or, Bool.or_false, ↓reduceIte, Nat.reduceEqDiff, Nat.reduceAdd, Nat.reduceMul, Nat.reduceSub, Nat.reduceBEq, Nat.reduceLeDiff, Nat.reduceLT, Nat.reduceMod, Nat.reduceDiv, Int.reduceToNat, Int.reducePow, Int.reduceMul, Int.reduceAdd, Int.reduceSub, Int.reduceLE, Int.reduceLT, Int.reduceNeg, Int.reduceDiv, Int.reduceMod, Int.reduceEq, Int.reduceBEq, Int.reduceBNe, f15, f15b, f15r0, f15r1, f15r2, f15r3, f15r4, f15r5, f15r6, f15r7, f15r8, f15r10, f15l0, f15, f15b, f15r0, f15r1, f15r2, f15r3, f15r4, f15r5, f15r6, f15r7, f15r8, f15r10, hk, hk', e0, e1, hbb, hbq] | (refine BrW.of (fun hb => ?_) (fun hb => ?_) <;> (have hb' := hb; try simp only [decide_eq_true_eq, decide_eq_false_iff_not, beq_iff_eq, bne_iff_ne, beq_eq_false_iff_ne, bne_eq_false_iff_eq, Bool.not_eq_true', Bool.not_eq_false', Bool.not_eq_true, Bool.not_eq_false, Bool.and_eq_true, Bool.or_eq_true, Bool.and_eq_false_iff, Bool.or_eq_false_iff, Int.not_lt, Int.not_le, ne_eq, gt_iff_lt, ge_iff_le] at hb') <;> (try (exfalso; omega))) | (refine altW.of ?_ ?_)
        exact .here ⟨by rw [hne], rfl⟩
    · obtain rfl : i = a.length := by omega
      have heq : decide (a = b) = true := by
        rw [List.take_length, hl, List.take_length] at hinv
        simpa using hinv
      repeat' first | simp (disch := first | with_reducible assumption | omega) only [go_sem, Bool.true_and, Bool.and_true, Bool.and_self, Bool.false_and, Bool.and_false, Bool.true_or, Bool.or_true, Bool.false_or, Bool.or_false, ↓reduceIte, Nat.reduceEqDiff, Nat.reduceAdd, Nat.reduceMul, Nat.reduceSub, Nat.reduceBEq, Nat.reduceLeDiff, Nat.reduceLT, Nat.reduceMod, Nat.reduceDiv, Int.reduceToNat, Int.reducePow, Int.reduceMul, Int.reduceAdd, Int.reduceSub, Int.reduceLE, Int.reduceLT, Int.reduceNeg, Int.reduceDiv, Int.reduceMod, Int.reduceEq, Int.reduceBEq, Int.reduceBNe, f15, f15b, f15r0, f15r1, f15r2, f15r3, f15r4, f15r5, f15r6, f15r7, f15r8, f15r10, f15l0, f15, f15b, f15r0, f15r1, f15r2, f15r3, f15r4, f15r5, f15r6, f15r7, f15r8, f15r10, hk, hk'] | (refine BrW.of (fun hb => ?_) (fun hb => ?_) <;> (have hb' := hb; try simp only [decide_eq_true_eq, decide_eq_false_iff_not, beq_iff_eq, bne_iff_ne, beq_eq_false_iff_ne, bne_eq_false_iff_eq, Bool.not_eq_true', Bool.not_eq_false', Bool.not_eq_true, Bool.not_eq_false, Bool.and_eq_true, Bool.or_eq_true, Bool.and_eq_false_iff, Bool.or_eq_false_iff, Int.not_lt, Int.not_le, ne_eq, gt_iff_lt, ge_iff_le] at hb') <;> (try (exfalso; omega))) | (refine altW.of ?_ ?_)
      exact .here ⟨by rw [heq], rfl⟩
  · have hne : decide (a = b) = false := by simp; rintro rfl; exact hl rfl
    repeat' first | simp (disch := first | with_reducible assumption | omega) only [go_sem, Bool.true_and, Bool.and_true, Bool.and_self, Bool.false_and, Bool.and_false, Bool.true_or, Bool.or_true, Bool.false_or, Bool.or_false, ↓reduceIte, Nat.reduceEqDiff, Nat.reduceAdd, Nat.reduceMul, Nat.reduceSub, Nat.reduceBEq, Nat.reduceLeDiff, Nat.reduceLT, Nat.reduceMod, Nat.reduceDiv, Int.reduceToNat, Int.reducePow, Int.reduceMul, Int.reduceAdd, Int.reduceSub, Int.reduceLE, Int.reduceLT, Int.reduceNeg, Int.reduceDiv, Int.reduceMod, Int.reduceEq, Int.reduceBEq, Int.reduceBNe, f15, f15b, f15r0, f15r1, f15r2, f15r3, f15r4, f15r5, f15r6, f15r7, f15r8, f15r10, hk, hk'] | (refine BrW.of (fun hb => ?_) (fun hb => ?_) <;> (have hb' := hb; try simp only [decide_eq_true_eq, decide_eq_false_iff_not, beq_iff_eq, bne_iff_ne, beq_eq_false_iff_ne, bne_eq_false_iff_eq, Bool.not_eq_true', Bool.not_eq_false', Bool.not_eq_true, Bool.not_eq_false, Bool.and_eq_true, Bool.or_eq_true, Bool.and_eq_false_iff, Bool.or_eq_false_iff, Int.not_lt, Int.not_le, ne_eq, gt_iff_lt, ge_iff_le] at hb') <;> (try (exfalso; omega))) | (refine altW.of ?_ ?_)
    all_goals exact .here ⟨by rw [hne], rfl⟩


theorem vals_get (l : List Px) (ls : List A) (i : Nat) (h : i < ls.length) : (vals' l ls).getD i 0 = (found l (ls.getD i a0) 32).getD 0 := by
  simp [vals', List.getD_eq_getElem?_getD, h]
theorem oks_get (l : List Px) (ls : List A) (i : Nat) (h : i < ls.length) : (oks' l ls).getD i false = (found l (ls.getD i a0) 32).isSome := by
  simp [oks', List.getD_eq_getElem?_getD, h]

theorem TrieAll_args (H : Heap) (vals : List Value) (h : ArgsOk 1048576 H TrieAllSh vals) : ACallK Try.prog 3 vals H fun v _ => v = .bool true := by
  obtain ⟨_, _, rfl, a1, h⟩ := h.cons
  obtain ⟨_, _, rfl, a2, h⟩ := h.cons
  obtain ⟨_, _, rfl, a3, h⟩ := h.cons
  obtain rfl := h.nil
  obtain ⟨k, c, l, rfl, hB, hlc, hs, hok⟩ := rows_of (enc := Px.cells) (ok := fun x => x.ad.ok) 6 (fun _ => rfl) p0 rfl (fun cs h => Px.of h) a1
  obtain ⟨ka, ca, ls, rfl, hA, hlca, ha, hao⟩ := rows_of (enc := A.cells) (ok := A.ok) 4 (fun _ => rfl) a0 rfl (fun cs h => A.of h) a2
  obtain ⟨to, rfl, _⟩ := a3.cell.int_inv
  clear a1 a2 a3 h
  have hok' : ∀ x ∈ l, x.ad.ok := fun x hx => by obtain ⟨j, hj, rfl⟩ := mem_getD (d := p0) hx; exact hok j hj
  have hao' : ∀ x ∈ ls, x.ok := fun x hx => by obtain ⟨j, hj, rfl⟩ := mem_getD (d := a0) hx; exact hao j hj
  obtain ⟨R, hRd⟩ : ∃ R : Px, R = ⟨⟨0, 0, 0, 0⟩, 0, to⟩ := ⟨_, rfl⟩
  have hmok : ∀ x ∈ l ++ [R], x.ad.ok := fun x hx => by
    rcases List.mem_append.1 hx with hx | hx
    · exact hok' x hx
    · rw [List.mem_singleton.1 hx, hRd]; simp [A.ok]
  refine .walkW f3_ok (by simp; decide) (by decide) ?_
  have hni : ¬ l.length + 1 ≤ l.length := by omega
  have htk : (flat' Px.cells l).take (l.length * 6) = flat' Px.cells l := List.take_of_length_le (by rw [flat'_length (s := 6) (fun _ => rfl)]; omega)
  have hfl := flat'_length (enc := Px.cells) (s := 6) (fun _ => rfl) l
  have hap : flat' Px.cells l ++ [.int .u8 0, .int .u8 0, .int .u8 0, .int .u8 0, .int .i64 0, .int .i64 to] = flat' Px.cells (l ++ [R]) := by rw [← flat'_app, hRd]; rfl
  repeat' first | simp (disch := first | with_reducible assumption | omega) only [go_sem, Bool.true_and, Bool.and_true, Bool.and_self, Bool.false_and, Bool.and_false, Bool.true_or, Bool.or_true, Bool.false_or, Bool.or_false, ↓reduceIte, Nat.reduceEqDiff, Nat.reduceAdd, Nat.reduceMul, Nat.reduceSub, Nat.reduceBEq, Nat.reduceLeDiff, Nat.reduceLT, Nat.reduceMod, Nat.reduceDiv, Int.reduceToNat, Int.reducePow, Int.reduceMul, Int.reduceAdd, Int.reduceSub, Int.reduceLE, Int.reduceLT, Int.reduceNeg, Int.reduceDiv, Int.reduceMod, Int.reduceEq, Int.reduceBEq, Int.reduceBNe, f3, f3b, f3r0, f3r1, f3r2, f3r3, f3r4, f3r5, f3r6, f3r7, f3r8, f3r9, f3r10, f3r11, f3r12, f3r13, f3r14, f3r15, f3r17, hni, htk, hfl, hap] | (refine BrW.of (fun hb => ?_) (fun hb => ?_) <;> (have hb' := hb; try simp only [decide_eq_true_eq, decide_eq_false_iff_not, beq_iff_eq, bne_iff_ne, beq_eq_false_iff_ne, bne_eq_false_iff_eq, Bool.not_eq_true', Bool.not_eq_false', Bool.not_eq_true, Bool.not_eq_false, Bool.and_eq_true, Bool.or_eq_true, Bool.and_eq_false_iff, Bool.or_eq_false_iff, Int.not_lt, Int.not_le, ne_eq, gt_iff_lt, ge_iff_le] at hb') <;> (try (exfalso; omega))) | (refine altW.of ?_ ?_) | (refine .of ((alive _).mono ?_); rintro v H ⟨rfl, rfl⟩) | (refine .of ((CloneP_spec l k 0 0 c _ hs (by omega) hlc).mono ?_); rintro v _ ⟨g1, rfl, rfl⟩)
  have hm : ∀ X, Ps (H ++ (.cells (g1 + 1) 6 false (flat' Px.cells (l ++ [R])) :: X)) H.length 0 (g1 + 1) (l ++ [R]) := fun X => Tbl.new (enc := Px.cells) (s := 6) (d := p0) (fun _ => rfl) _ _ _ false _ (get_new0 _ _ _)
  have sF1 := fun H' hs' ha' => Find_u l ls k 0 0 c ka 0 0 ca H' hs' hlc (by omega) hok' ha' hA hao'
  have sF2 := fun H' hs' ha' => Find_u (l ++ [R]) ls H.length 0 (g1 + 1) (l.length + 1) ka 0 0 ca H' hs' (by simp) (by simp; omega) hmok ha' hA hao'
  rw [show (l ++ [R]).length = l.length + 1 by simp] at sF2
  refine .of ((sF1 _ (hs.app _) (ha.app _)).mono ?_)
  rintro v H1 ⟨x1, x2, e, rfl, hle, he1, he2, he3⟩
  repeat' first | simp (disch := first | with_reducible assumption | omega) only [go_sem, Bool.true_and, Bool.and_true, Bool.and_self, Bool.false_and, Bool.and_false, Bool.true_or, Bool.or_true, Bool.false_or, Bool.or_false, ↓reduceIte, Nat.reduceEqDiff, Nat.reduceAdd, Nat.reduceMul, Nat.reduceSub, Nat.reduceBEq, Nat.reduceLeDiff, Nat.reduceLT, Nat.reduceMod, Nat.reduceDiv, Int.reduceToNat, Int.reducePow, Int.reduceMul, Int.reduceAdd, Int.reduceSub, Int.reduceLE, Int.reduceLT, Int.reduceNeg, Int.reduceDiv, Int.reduceMod, Int.reduceEq, Int.reduceBEq, Int.reduceBNe, f3, f3b, f3r0, f3r1, f3r2, f3r3, f3r4, f3r5, f3r6, f3r7, f3r8, f3r9, f3r10, f3r11, f3r12, f3r13, f3r14, f3r15, f3r17] | (refine BrW.of (fun hb => ?_) (fun hb => ?_) <;> (have hb' := hb; try simp only [decide_eq_true_eq, decide_eq_false_iff_not, beq_iff_eq, bne_iff_ne, beq_eq_false_iff_ne, bne_eq_false_iff_eq, Bool.not_eq_true', Bool.not_eq_false', Bool.not_eq_true, Bool.not_eq_false, Bool.and_eq_true, Bool.or_eq_true, Bool.and_eq_false_iff, Bool.or_eq_false_iff, Int.not_lt, Int.not_le, ne_eq, gt_iff_lt, ge_iff_le] at hb') <;> (try (exfalso; omega))) | (refine altW.of ?_ ?_)
  refine .of ((sF2 _ (Tbl.le (hm _) hle) (Tbl.le (ha.app _) hle)).mono ?_)
  rintro v H2 ⟨y1, y2, f, rfl, hle2, hf1, hf2, hf3⟩
  have ha2 := Tbl.le (Tbl.le (ha.app _) hle) hle2
  clear sF1 sF2
  by_cases z1 : e = 0
  · by_cases z2 : f = 0
    · obtain ⟨q1, p1, q2, p2, rfl, rfl, hI, hO⟩ := he3 z1
      obtain ⟨q3, p3, q4, p4, rfl, rfl, hI2, hO2⟩ := hf3 z2
      have hlaw := fun a => found_all (to := to) (he1.1 z1) (by rw [← hRd]; exact hf1.1 z2) hok' a
      rw [← hRd] at hlaw
      obtain ⟨ro, cs, hk, hcl, hcs⟩ := ha2.at'
      obtain ⟨r1, s1, k1, _, u1⟩ := Ints.cell (hI.le hle2)
      obtain ⟨r2, s2, k2, _, u2⟩ := Bools.cell (hO.le hle2)
      obtain ⟨r3, s3, k3, _, u3⟩ := Ints.cell hI2
      obtain ⟨r4, s4, k4, _, u4⟩ := Bools.cell hO2
      simp only [Nat.zero_add] at u1 u2 u3 u4
      subst z1 z2
      repeat' first | simp (disch := first | with_reducible assumption | omega) only [go_sem, Bool.true_and, Bool.and_true, Bool.and_self, Bool.false_and, Bool.and_false, Bool.true_or, Bool.or_true, Bool.false_or, Bool.or_false, ↓reduceIte, Nat.reduceEqDiff, Nat.reduceAdd, Nat.reduceMul, Nat.reduceSub, Nat.reduceBEq, Nat.reduceLeDiff, Nat.reduceLT, Nat.reduceMod, Nat.reduceDiv, Int.reduceToNat, Int.reducePow, Int.reduceMul, Int.reduceAdd, Int.reduceSub, Int.reduceLE, Int.reduceLT, Int.reduceNeg, Int.reduceDiv, Int.reduceMod, Int.reduceEq, Int.reduceBEq, Int.reduceBNe, f3, f3b, f3r0, f3r1, f3r2, f3r3, f3r4, f3r5, f3r6, f3r7, f3r8, f3r9, f3r10, f3r11, f3r12, f3r13, f3r14, f3r15, f3r17, hk, k1, k2, k3, k4] | (refine BrW.of (fun hb => ?_) (fun hb => ?_) <;> (have hb' := hb; try simp only [decide_eq_true_eq, decide_eq_false_iff_not, beq_iff_eq, bne_iff_ne, beq_eq_false_iff_ne, bne_eq_false_iff_eq, Bool.not_eq_true', Bool.not_eq_false', Bool.not_eq_true, Bool.not_eq_false, Bool.and_eq_true, Bool.or_eq_true, Bool.and_eq_false_iff, Bool.or_eq_false_iff, Int.not_lt, Int.not_le, ne_eq, gt_iff_lt, ge_iff_le] at hb') <;> (try (exfalso; omega))) | (refine altW.of ?_ ?_)
      refine loopW.of (by decide) (fun m e J => ∃ i : Nat, e = [(2, .int .i64 to), (8, slv q1 0 p1 ls.length ls.length), (9, slv q2 0 p2 ls.length ls.length), (11, slv q3 0 p3 ls.length ls.length), (12, slv q4 0 p4 ls.length ls.length), (70, .int .i64 ls.length), (71, .int .i64 i)] ∧ J = H2 ∧ i ≤ ls.length ∧ m = ls.length - i) ls.length ⟨0, rfl, rfl, by omega, rfl⟩ ?_
      rintro m e J ⟨i, rfl, rfl, hi, rfl⟩
      by_cases hlt : i < ls.length
      · have c1 := u1 i (by simp [vals']; omega)
        have c2 := u2 i (by simp [oks']; omega)
        have c3 := u3 i (by simp [vals']; omega)
        have c4 := u4 i (by simp [oks']; omega)
        rw [vals_get _ _ _ hlt] at c1 c3
        rw [oks_get _ _ _ hlt] at c2 c4
        rw [hlaw] at c3 c4
        simp only [Option.getD_some, Option.isSome_some] at c3 c4
        generalize found l (ls.getD i a0) 32 = fo at *
        cases fo with
        | none =>
          simp only [Option.getD_none, Option.isSome_none] at c1 c2 c3
          repeat' first | simp (disch := first | with_reducible assumption | omega) only [go_sem, Bool.true_and, Bool.and_true, Bool.and_self, Bool.false_and, Bool.and_false, Bool.true_or, Bool.or_true, Bool.false_or, Bool.or_false, ↓reduceIte, Nat.reduceEqDiff, Nat.reduceAdd, Nat.reduceMul, Nat.reduceSub, Nat.reduceBEq, Nat.reduceLeDiff, Nat.reduceLT, Nat.reduceMod, Nat.reduceDiv, Int.reduceToNat, Int.reducePow, Int.reduceMul, Int.reduceAdd, Int.reduceSub, Int.reduceLE, Int.reduceLT, Int.reduceNeg, Int.reduceDiv, Int.reduceMod, Int.reduceEq, Int.reduceBEq, Int.reduceBNe, f3, f3b, f3r0, f3r1, f3r2, f3r3, f3r4, f3r5, f3r6, f3r7, f3r8, f3r9, f3r10, f3r11, f3r12, f3r13, f3r14, f3r15, f3r17, f3l0, k1, k2, k3, k4, c1, c2, c3, c4] | (refine BrW.of (fun hb => ?_) (fun hb => ?_) <;> (have hb' := hb; try simp only [decide_eq_true_eq, decide_eq_false_iff_not, beq_iff_eq, bne_iff_ne, beq_eq_false_iff_ne, bne_eq_false_iff_eq, Bool.not_eq_true', Bool.not_eq_false', Bool.not_eq_true, Bool.not_eq_false, Bool.and_eq_true, Bool.or_eq_true, Bool.and_eq_false_iff, Bool.or_eq_false_iff, Int.not_lt, Int.not_le, ne_eq, gt_iff_lt, ge_iff_le] at hb') <;> (try (exfalso; omega))) | (refine altW.of ?_ ?_)
          refine RdW.keep [2, 8, 9, 11, 12, 70, 71] (ls.length - (i + 1)) (by omega) ?_
          simp (disch := first | with_reducible assumption | omega) only [go_sem, Bool.true_and, Bool.and_true, Bool.and_self, Bool.false_and, Bool.and_false, Bool.true_or, Bool.or_true, Bool.false_or, Bool.or_false, ↓reduceIte, Nat.reduceEqDiff, Nat.reduceAdd, Nat.reduceMul, Nat.reduceSub, Nat.reduceBEq, Nat.reduceLeDiff, Nat.reduceLT, Nat.reduceMod, Nat.reduceDiv, Int.reduceToNat, Int.reducePow, Int.reduceMul, Int.reduceAdd, Int.reduceSub, Int.reduceLE, Int.reduceLT, Int.reduceNeg, Int.reduceDiv, Int.reduceMod, Int.reduceEq, Int.reduceBEq, Int.reduceBNe]
          exact ⟨i + 1, rfl, by omega, rfl⟩
        | some w =>
          simp only [Option.getD_some, Option.isSome_some] at c1 c2 c3
          repeat' first | simp (disch := first | with_reducible assumption | omega) only [go_sem, Bool.true_and, Bool.and_true, Bool.and_self, Bool.false_and, Bool.and_false, Bool.true_or, Bool.or_true, Bool.false_or, Bool.or_false, ↓reduceIte, Nat.reduceEqDiff, Nat.reduceAdd, Nat.reduceMul, Nat.reduceSub, Nat.reduceBEq, Nat.reduceLeDiff, Nat.reduceLT, Nat.reduceMod, Nat.reduceDiv, Int.reduceToNat, Int.reducePow, Int.reduceMul, Int.reduceAdd, Int.reduceSub, Int.reduceLE, Int.reduceLT, Int.reduceNeg, Int.reduceDiv, Int.reduceMod, Int.reduceEq, Int.reduceBEq, Int.reduceBNe, f3, f3b, f3r0, f3r1, f3r2, f3r3, f3r4, f3r5, f3r6, f3r7, f3r8, f3r9, f3r10, f3r11, f3r12, f3r13, f3r14, f3r15, f3r17, f3l0, k1, k2, k3, k4, c1, c2, c3, c4] | (refine BrW.of (fun hb => ?_) (fun hb => ?_) <;> (have hb' := hb; try simp only [decide_eq_true_eq, decide_eq_false_iff_not, beq_iff_eq, bne_iff_ne, beq_eq_false_iff_ne, bne_eq_false_iff_eq, Bool.not_eq_true', Bool.not_eq_false', Bool.not_eq_true, Bool.not_eq_false, Bool.and_eq_true, Bool.or_eq_true, Bool.and_eq_false_iff, Bool.or_eq_false_iff, Int.not_lt, Int.not_le, ne_eq, gt_iff_lt, ge_iff_le] at hb') <;> (try (exfalso; omega))) | (refine altW.of ?_ ?_)
          refine RdW.keep [2, 8, 9, 11, 12, 70, 71] (ls.length - (i + 1)) (by omega) ?_
          simp (disch := first | with_reducible assumption | omega) only [go_sem, Bool.true_and, Bool.and_true, Bool.and_self, Bool.false_and, Bool.and_false, Bool.true_or, Bool.or_true, Bool.false_or, Bool.or_false, ↓reduceIte, Nat.reduceEqDiff, Nat.reduceAdd, Nat.reduceMul, Nat.reduceSub, Nat.reduceBEq, Nat.reduceLeDiff, Nat.reduceLT, Nat.reduceMod, Nat.reduceDiv, Int.reduceToNat, Int.reducePow, Int.reduceMul, Int.reduceAdd, Int.reduceSub, Int.reduceLE, Int.reduceLT, Int.reduceNeg, Int.reduceDiv, Int.reduceMod, Int.reduceEq, Int.reduceBEq, Int.reduceBNe]
          exact ⟨i + 1, rfl, by omega, rfl⟩
      · repeat' first | simp (disch := first | with_reducible assumption | omega) only [go_sem, Bool.true_and, Bool.and_true, Bool.and_self, Bool.false_and, Bool.and_false, Bool.true_or, Bool.or_true, Bool.false_or, Bool.or_false, ↓reduceIte, Nat.reduceEqDiff, Nat.reduceAdd, Nat.reduceMul, Nat.reduceSub, Nat.reduceBEq, Nat.reduceLeDiff, Nat.reduceLT, Nat.reduceMod, Nat.reduceDiv, Int.reduceToNat, Int.reducePow, Int.reduceMul, Int.reduceAdd, Int.reduceSub, Int.reduceLE, Int.reduceLT, Int.reduceNeg, Int.reduceDiv, Int.reduceMod, Int.reduceEq, Int.reduceBEq, Int.reduceBNe, f3, f3b, f3r0, f3r1, f3r2, f3r3, f3r4, f3r5, f3r6, f3r7, f3r8, f3r9, f3r10, f3r11, f3r12, f3r13, f3r14, f3r15, f3r17, f3l0, f3, f3b, f3r0, f3r1, f3r2, f3r3, f3r4, f3r5, f3r6, f3r7, f3r8, f3r9, f3r10, f3r11, f3r12, f3r13, f3r14, f3r15, f3r17] | (refine BrW.of (fun hb => ?_) (fun hb => ?_) <;> (have hb' := hb; try simp only [decide_eq_true_eq, decide_eq_false_iff_not, beq_iff_eq, bne_iff_ne, beq_eq_false_iff_ne, bne_eq_false_iff_eq, Bool.not_eq_true', Bool.not_eq_false', Bool.not_eq_true, Bool.not_eq_false, Bool.and_eq_true, Bool.or_eq_true, Bool.and_eq_false_iff, Bool.or_eq_false_iff, Int.not_lt, Int.not_le, ne_eq, gt_iff_lt, ge_iff_le] at hb') <;> (try (exfalso; omega))) | (refine altW.of ?_ ?_)
        exact .here rfl
    · have z2' : (f != 0) = true := by simpa using z2
      subst z1
      repeat' first | simp (disch := first | with_reducible assumption | omega) only [go_sem, Bool.true_and, Bool.and_true, Bool.and_self, Bool.false_and, Bool.and_false, Bool.true_or, Bool.or_true, Bool.false_or, Bool.or_false, ↓reduceIte, Nat.reduceEqDiff, Nat.reduceAdd, Nat.reduceMul, Nat.reduceSub, Nat.reduceBEq, Nat.reduceLeDiff, Nat.reduceLT, Nat.reduceMod, Nat.reduceDiv, Int.reduceToNat, Int.reducePow, Int.reduceMul, Int.reduceAdd, Int.reduceSub, Int.reduceLE, Int.reduceLT, Int.reduceNeg, Int.reduceDiv, Int.reduceMod, Int.reduceEq, Int.reduceBEq, Int.reduceBNe, f3, f3b, f3r0, f3r1, f3r2, f3r3, f3r4, f3r5, f3r6, f3r7, f3r8, f3r9, f3r10, f3r11, f3r12, f3r13, f3r14, f3r15, f3r17, z2'] | (refine BrW.of (fun hb => ?_) (fun hb => ?_) <;> (have hb' := hb; try simp only [decide_eq_true_eq, decide_eq_false_iff_not, beq_iff_eq, bne_iff_ne, beq_eq_false_iff_ne, bne_eq_false_iff_eq, Bool.not_eq_true', Bool.not_eq_false', Bool.not_eq_true, Bool.not_eq_false, Bool.and_eq_true, Bool.or_eq_true, Bool.and_eq_false_iff, Bool.or_eq_false_iff, Int.not_lt, Int.not_le, ne_eq, gt_iff_lt, ge_iff_le] at hb') <;> (try (exfalso; omega))) | (refine altW.of ?_ ?_)
      all_goals exact .here rfl
  · have z1' : (e != 0) = true := by simpa using z1
    repeat' first | simp (disch := first | with_reducible assumption | omega) only [go_sem, Bool.true_and, Bool.and_true, Bool.and_self, Bool.false_and, Bool.and_false, Bool.true_or, Bool.or_true, Bool.false_or, Bool.or_false, ↓reduceIte, Nat.reduceEqDiff, Nat.reduceAdd, Nat.reduceMul, Nat.reduceSub, Nat.reduceBEq, Nat.reduceLeDiff, Nat.reduceLT, Nat.reduceMod, Nat.reduceDiv, Int.reduceToNat, Int.reducePow, Int.reduceMul, Int.reduceAdd, Int.reduceSub, Int.reduceLE, Int.reduceLT, Int.reduceNeg, Int.reduceDiv, Int.reduceMod, Int.reduceEq, Int.reduceBEq, Int.reduceBNe, f3, f3b, f3r0, f3r1, f3r2, f3r3, f3r4, f3r5, f3r6, f3r7, f3r8, f3r9, f3r10, f3r11, f3r12, f3r13, f3r14, f3r15, f3r17, z1'] | (refine BrW.of (fun hb => ?_) (fun hb => ?_) <;> (have hb' := hb; try simp only [decide_eq_true_eq, decide_eq_false_iff_not, beq_iff_eq, bne_iff_ne, beq_eq_false_iff_ne, bne_eq_false_iff_eq, Bool.not_eq_true', Bool.not_eq_false', Bool.not_eq_true, Bool.not_eq_false, Bool.and_eq_true, Bool.or_eq_true, Bool.and_eq_false_iff, Bool.or_eq_false_iff, Int.not_lt, Int.not_le, ne_eq, gt_iff_lt, ge_iff_le] at hb') <;> (try (exfalso; omega))) | (refine altW.of ?_ ?_)
    all_goals exact .here rfl
end Go.Proofs.Ytiflaenenlcidaa
