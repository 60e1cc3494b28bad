import Derived.Test.YtmdlieinanjnaaaSteps
import Derived.Test.YtmdlieinanjnaaaBase
set_option linter.unusedSimpArgs false
set_option linter.unusedVariables false
set_option maxHeartbeats 1000000
namespace Go.Proofs.Ytmdlieinanjnaaa
open Go Go.Am
attribute [local irreducible] opsW Ww loopW callW drawW outW outDW gW cW BrW bothW vW resW DropW RdW dcallW Later.run

theorem CloneX_spec (l : List X) (k o g c : Nat) (H : Heap) (hs : Tbl X X.cells 2 x0 H k o g l) (hl : l.length ≤ 1099511627776) (hc : l.length ≤ c) :
    ACallK Try.prog 11 [slv k o g l.length c] H (fun v H' => ∃ g', v = slv H.length 0 g' l.length l.length ∧ H' = H ++ [.cells g' 2 false (flat' X.cells l)]) := by
  obtain ⟨ro, cs, hk, hle, hcs⟩ := hs.at'
  have ht := Tbl.cells (enc := X.cells) (fun _ => rfl) hle hcs
  try simp only [Nat.mul_one] at ht
  refine .walkW f11_ok (by simp; decide) (by decide) ?_
  have hkn := get_old hk
  simp (disch := first | with_reducible assumption | omega) only [go_sem, Bool.true_and, Bool.and_true, Bool.and_self, Bool.false_and, Bool.and_false, Bool.true_or, Bool.or_true, Bool.false_or, Bool.or_false, ↓reduceIte, Nat.reduceEqDiff, Nat.reduceAdd, Nat.reduceMul, Nat.reduceSub, Nat.reduceBEq, Nat.reduceLeDiff, Nat.reduceLT, Nat.reduceMod, Nat.reduceDiv, Int.reduceToNat, Int.reducePow, Int.reduceMul, Int.reduceAdd, Int.reduceSub, Int.reduceLE, Int.reduceLT, Int.reduceNeg, Int.reduceDiv, Int.reduceMod, Int.reduceEq, Int.reduceBEq, Int.reduceBNe, f11, f11b, f11r0, f11r1, f11r2, f11r3, hk]
  refine .of ?_ (fun hn => ?_)
  · by_cases hz : l.length = 0
    · have hb : flat' X.cells l = [] := by rw [List.length_eq_zero_iff.1 hz]; rfl
      simp (disch := first | with_reducible assumption | omega) only [go_sem, Bool.true_and, Bool.and_true, Bool.and_self, Bool.false_and, Bool.and_false, Bool.true_or, Bool.or_true, Bool.false_or, Bool.or_false, ↓reduceIte, Nat.reduceEqDiff, Nat.reduceAdd, Nat.reduceMul, Nat.reduceSub, Nat.reduceBEq, Nat.reduceLeDiff, Nat.reduceLT, Nat.reduceMod, Nat.reduceDiv, Int.reduceToNat, Int.reducePow, Int.reduceMul, Int.reduceAdd, Int.reduceSub, Int.reduceLE, Int.reduceLT, Int.reduceNeg, Int.reduceDiv, Int.reduceMod, Int.reduceEq, Int.reduceBEq, Int.reduceBNe, f11, f11b, f11r0, f11r1, f11r2, f11r3, hk, hkn, hz]
      exact .here ⟨0, by rw [hz], by rw [hb]⟩
    · have hz' : ¬ l.length ≤ 0 := by omega
      simp (disch := first | with_reducible assumption | omega) only [go_sem, Bool.true_and, Bool.and_true, Bool.and_self, Bool.false_and, Bool.and_false, Bool.true_or, Bool.or_true, Bool.false_or, Bool.or_false, ↓reduceIte, Nat.reduceEqDiff, Nat.reduceAdd, Nat.reduceMul, Nat.reduceSub, Nat.reduceBEq, Nat.reduceLeDiff, Nat.reduceLT, Nat.reduceMod, Nat.reduceDiv, Int.reduceToNat, Int.reducePow, Int.reduceMul, Int.reduceAdd, Int.reduceSub, Int.reduceLE, Int.reduceLT, Int.reduceNeg, Int.reduceDiv, Int.reduceMod, Int.reduceEq, Int.reduceBEq, Int.reduceBNe, f11, f11b, f11r0, f11r1, f11r2, f11r3, hk, hkn, hz, hz', ht, List.take_zero, List.drop_nil]
      exact .here ⟨1, rfl, rfl⟩
  · have hz : l.length = 0 := by have : c = 0 := by simpa using hn
                                 omega
    have hb : flat' X.cells l = [] := by rw [List.length_eq_zero_iff.1 hz]; rfl
    simp (disch := first | with_reducible assumption | omega) only [go_sem, Bool.true_and, Bool.and_true, Bool.and_self, Bool.false_and, Bool.and_false, Bool.true_or, Bool.or_true, Bool.false_or, Bool.or_false, ↓reduceIte, Nat.reduceEqDiff, Nat.reduceAdd, Nat.reduceMul, Nat.reduceSub, Nat.reduceBEq, Nat.reduceLeDiff, Nat.reduceLT, Nat.reduceMod, Nat.reduceDiv, Int.reduceToNat, Int.reducePow, Int.reduceMul, Int.reduceAdd, Int.reduceSub, Int.reduceLE, Int.reduceLT, Int.reduceNeg, Int.reduceDiv, Int.reduceMod, Int.reduceEq, Int.reduceBEq, Int.reduceBNe, f11, f11b, f11r0, f11r1, f11r2, f11r3, hk]
    refine .ghost 2 false ⟨0, by rw [hz], by rw [hb]⟩

theorem EqualB_spec (a b : List Bool) (k o g c k' o' g' c' : Nat) (H : Heap) (ha : Tbl Bool benc 1 false H k o g a) (hb : Tbl Bool benc 1 false H k' o' g' b) (hla : a.length ≤ 9223372036854775807) (hlb : b.length ≤ 9223372036854775807) :
    ACallK Try.prog 10 [slv k o g a.length c, slv k' o' g' b.length c'] H (fun v H' => v = .bool (decide (a = b)) ∧ H' = H) := by
  obtain ⟨ro, cs, hk, hcl, hcs⟩ := ha.at'
  obtain ⟨ro', cs', hk', hcl', hcs'⟩ := hb.at'
  refine .walkW f10_ok (by simp; decide) (by decide) ?_
  by_cases hl : a.length = b.length
  · repeat' first | simp (disch := first | with_reducible assumption | omega) only [go_sem, Bool.true_and, Bool.and_true, Bool.and_self, Bool.false_and, Bool.and_false, Bool.true_or, Bool.or_true, Bool.false_or, Bool.or_false, ↓reduceIte, Nat.reduceEqDiff, Nat.reduceAdd, Nat.reduceMul, Nat.reduceSub, Nat.reduceBEq, Nat.reduceLeDiff, Nat.reduceLT, Nat.reduceMod, Nat.reduceDiv, Int.reduceToNat, Int.reducePow, Int.reduceMul, Int.reduceAdd, Int.reduceSub, Int.reduceLE, Int.reduceLT, Int.reduceNeg, Int.reduceDiv, Int.reduceMod, Int.reduceEq, Int.reduceBEq, Int.reduceBNe, f10, f10b, f10r0, f10r1, f10r2, f10r3, f10r4, f10r5, f10r6, f10r7, f10r8, f10r10, hk, hk'] | (refine BrW.of (fun hb => ?_) (fun hb => ?_) <;> (have hb' := hb; try simp only [decide_eq_true_eq, decide_eq_false_iff_not, beq_iff_eq, bne_iff_ne, beq_eq_false_iff_ne, bne_eq_false_iff_eq, Bool.not_eq_true', Bool.not_eq_false', Bool.not_eq_true, Bool.not_eq_false, Bool.and_eq_true, Bool.or_eq_true, Bool.and_eq_false_iff, Bool.or_eq_false_iff, Int.not_lt, Int.not_le, ne_eq, gt_iff_lt, ge_iff_le] at hb') <;> (try (exfalso; omega)))
    refine loopW.of (by decide) (fun m e H'' => ∃ i : Nat, e = [(0, slv k o g a.length c), (1, slv k' o' g' b.length c'), (12, .int .i64 a.length), (13, .int .i64 i)] ∧ H'' = H ∧ i ≤ a.length ∧ m = a.length - i ∧ a.take i = b.take i) a.length ⟨0, rfl, rfl, by omega, rfl, rfl⟩ ?_
    rintro m e H'' ⟨i, rfl, rfl, hi, rfl, hinv⟩
    by_cases hlt : i < a.length
    · have hltb : i < b.length := by omega
      have e0 : cs[o + i]? = some (Value.bool (a.getD i false)) := by have := hcs i hlt 0 (by omega); simpa [benc] using this
      have e1 : cs'[o' + i]? = some (Value.bool (b.getD i false)) := by have := hcs' i hltb 0 (by omega); simpa [benc] using this
      by_cases hxy : a.getD i false = b.getD i false
      · have hbb : (a.getD i false != b.getD i false) = false := by rw [hxy]; simp
        have hbq : (a.getD i false == b.getD i false) = true := by rw [hxy]; simp
        have hnext : a.take (i + 1) = b.take (i + 1) := by rw [take_snoc false a i hlt, take_snoc false b i hltb, hinv, hxy]
        clear hxy
        generalize a.getD i false = x at *
        generalize b.getD i false = y at *
        repeat' first | simp (disch := first | with_reducible assumption | omega) only [go_sem, Bool.true_and, Bool.and_true, Bool.and_self, Bool.false_and, Bool.and_false, Bool.true_or, Bool.or_true, Bool.false_or, Bool.or_false, ↓reduceIte, Nat.reduceEqDiff, Nat.reduceAdd, Nat.reduceMul, Nat.reduceSub, Nat.reduceBEq, Nat.reduceLeDiff, Nat.reduceLT, Nat.reduceMod, Nat.reduceDiv, Int.reduceToNat, Int.reducePow, Int.reduceMul, Int.reduceAdd, Int.reduceSub, Int.reduceLE, Int.reduceLT, Int.reduceNeg, Int.reduceDiv, Int.reduceMod, Int.reduceEq, Int.reduceBEq, Int.reduceBNe, f10, f10b, f10r0, f10r1, f10r2, f10r3, f10r4, f10r5, f10r6, f10r7, f10r8, f10r10, f10l0, hk, hk', e0, e1, hbb, hbq] | (refine BrW.of (fun hb => ?_) (fun hb => ?_) <;> (have hb' := hb; try simp only [decide_eq_true_eq, decide_eq_false_iff_not, beq_iff_eq, bne_iff_ne, beq_eq_false_iff_ne, bne_eq_false_iff_eq, Bool.not_eq_true', Bool.not_eq_false', Bool.not_eq_true, Bool.not_eq_false, Bool.and_eq_true, Bool.or_eq_true, Bool.and_eq_false_iff, Bool.or_eq_false_iff, Int.not_lt, Int.not_le, ne_eq, gt_iff_lt, ge_iff_le] at hb') <;> (try (exfalso; omega)))
        refine RdW.keep [0, 1, 12, 13] (a.length - (i + 1)) (by omega) ?_
        simp (disch := first | with_reducible assumption | omega) only [go_sem, Bool.true_and, Bool.and_true, Bool.and_self, Bool.false_and, Bool.and_false, Bool.true_or, Bool.or_true, Bool.false_or, Bool.or_false, ↓reduceIte, Nat.reduceEqDiff, Nat.reduceAdd, Nat.reduceMul, Nat.reduceSub, Nat.reduceBEq, Nat.reduceLeDiff, Nat.reduceLT, Nat.reduceMod, Nat.reduceDiv, Int.reduceToNat, Int.reducePow, Int.reduceMul, Int.reduceAdd, Int.reduceSub, Int.reduceLE, Int.reduceLT, Int.reduceNeg, Int.reduceDiv, Int.reduceMod, Int.reduceEq, Int.reduceBEq, Int.reduceBNe]
        exact ⟨i + 1, rfl, by omega, rfl, hnext⟩
      · have hbb : (a.getD i false != b.getD i false) = true := by simpa using hxy
        have hbq : (a.getD i false == b.getD i false) = false := by simpa using hxy
        have hne : decide (a = b) = false := by simp; rintro rfl; exact hxy rfl
        clear hxy
        generalize a.getD i false = x at *
        generalize b.getD i false = y at *
        repeat' first | simp (disch := first | with_reducible assumption | omega) only [go_sem, Bool.true_and, Bool.and_true, Bool.and_self, Bool.false_and, Bool.and_false, Bool.true_or, Bool.or_true, Bool.false_or, Bool.or_false, ↓reduceIte, Nat.reduceEqDiff, Nat.reduceAdd, Nat.reduceMul, Nat.reduceSub, Nat.reduceBEq, Nat.reduceLeDiff, Nat.reduceLT, Nat.reduceMod, Nat.reduceDiv, Int.reduceToNat, Int.reducePow, Int.reduceMul, Int.reduceAdd, Int.reduceSub, Int.reduceLE, Int.reduceLT, Int.reduceNeg, Int.reduceDiv, Int.reduceMod, Int.reduceEq, Int.reduceBEq, Int.reduceBNe, f10, f10b, f10r0, f10r1, f10r2, f10r3, f10r4, f10r5, f10r6, f10r7, f10r8, f10r10, f10l0, f10, f10b, f10r0, f10r1, f10r2, f10r3, f10r4, f10r5, f10r6, f10r7, f10r8, f10r10, hk, hk', e0, e1, hbb, hbq] | (refine BrW.of (fun hb => ?_) (fun hb => ?_) <;> (have hb' := hb; try simp only [decide_eq_true_eq, decide_eq_false_iff_not, beq_iff_eq, bne_iff_ne, beq_eq_false_iff_ne, bne_eq_false_iff_eq, Bool.not_eq_true', Bool.not_eq_false', Bool.not_eq_true, Bool.not_eq_false, Bool.and_eq_true, Bool.or_eq_true, Bool.and_eq_false_iff, Bool.or_eq_false_iff, Int.not_lt, Int.not_le, ne_eq, gt_iff_lt, ge_iff_le] at hb') <;> (try (exfalso; omega)))
        exact .here ⟨by rw [hne], rfl⟩
    · obtain rfl : i = a.length := by omega
      have heq : decide (a = b) = true := by
        rw [List.take_length, hl, List.take_length] at hinv
        simpa using hinv
      repeat' first | simp (disch := first | with_reducible assumption | omega) only [go_sem, Bool.true_and, Bool.and_true, Bool.and_self, Bool.false_and, Bool.and_false, Bool.true_or, Bool.or_true, Bool.false_or, Bool.or_false, ↓reduceIte, Nat.reduceEqDiff, Nat.reduceAdd, Nat.reduceMul, Nat.reduceSub, Nat.reduceBEq, Nat.reduceLeDiff, Nat.reduceLT, Nat.reduceMod, Nat.reduceDiv, Int.reduceToNat, Int.reducePow, Int.reduceMul, Int.reduceAdd, Int.reduceSub, Int.reduceLE, Int.reduceLT, Int.reduceNeg, Int.reduceDiv, Int.reduceMod, Int.reduceEq, Int.reduceBEq, Int.reduceBNe, f10, f10b, f10r0, f10r1, f10r2, f10r3, f10r4, f10r5, f10r6, f10r7, f10r8, f10r10, f10l0, f10, f10b, f10r0, f10r1, f10r2, f10r3, f10r4, f10r5, f10r6, f10r7, f10r8, f10r10, hk, hk'] | (refine BrW.of (fun hb => ?_) (fun hb => ?_) <;> (have hb' := hb; try simp only [decide_eq_true_eq, decide_eq_false_iff_not, beq_iff_eq, bne_iff_ne, beq_eq_false_iff_ne, bne_eq_false_iff_eq, Bool.not_eq_true', Bool.not_eq_false', Bool.not_eq_true, Bool.not_eq_false, Bool.and_eq_true, Bool.or_eq_true, Bool.and_eq_false_iff, Bool.or_eq_false_iff, Int.not_lt, Int.not_le, ne_eq, gt_iff_lt, ge_iff_le] at hb') <;> (try (exfalso; omega)))
      exact .here ⟨by rw [heq], rfl⟩
  · have hne : decide (a = b) = false := by simp; rintro rfl; exact hl rfl
    repeat' first | simp (disch := first | with_reducible assumption | omega) only [go_sem, Bool.true_and, Bool.and_true, Bool.and_self, Bool.false_and, Bool.and_false, Bool.true_or, Bool.or_true, Bool.false_or, Bool.or_false, ↓reduceIte, Nat.reduceEqDiff, Nat.reduceAdd, Nat.reduceMul, Nat.reduceSub, Nat.reduceBEq, Nat.reduceLeDiff, Nat.reduceLT, Nat.reduceMod, Nat.reduceDiv, Int.reduceToNat, Int.reducePow, Int.reduceMul, Int.reduceAdd, Int.reduceSub, Int.reduceLE, Int.reduceLT, Int.reduceNeg, Int.reduceDiv, Int.reduceMod, Int.reduceEq, Int.reduceBEq, Int.reduceBNe, f10, f10b, f10r0, f10r1, f10r2, f10r3, f10r4, f10r5, f10r6, f10r7, f10r8, f10r10, hk, hk'] | (refine BrW.of (fun hb => ?_) (fun hb => ?_) <;> (have hb' := hb; try simp only [decide_eq_true_eq, decide_eq_false_iff_not, beq_iff_eq, bne_iff_ne, beq_eq_false_iff_ne, bne_eq_false_iff_eq, Bool.not_eq_true', Bool.not_eq_false', Bool.not_eq_true, Bool.not_eq_false, Bool.and_eq_true, Bool.or_eq_true, Bool.and_eq_false_iff, Bool.or_eq_false_iff, Int.not_lt, Int.not_le, ne_eq, gt_iff_lt, ge_iff_le] at hb') <;> (try (exfalso; omega)))
    all_goals exact .here ⟨by rw [hne], rfl⟩


theorem X.of {B : Nat} {H : Heap} (cs : List Value) (h : RowOk B H [.int .i64, .int .i64] cs) : ∃ s : X, cs = s.cells ∧ (-9223372036854775808 ≤ s.at' ∧ s.at' ≤ 9223372036854775807) := by
  obtain ⟨_, _, rfl, c0, h⟩ := h.cons_inv
  obtain ⟨_, _, rfl, c1, h⟩ := h.cons_inv
  obtain rfl := h.nil_inv
  obtain ⟨n0, rfl, h0⟩ := c0.int_inv
  obtain ⟨n1, rfl, h1⟩ := c1.int_inv
  exact ⟨⟨n0, n1⟩, rfl, h0⟩

theorem Gap_any (iv n : Int) (H : Heap) : ACallK Try.prog 9 [.int .i64 iv, .int .i64 n] H (fun v H' => ∃ a e, v = .tuple #[.int .i64 a, .int .i64 e] ∧ H' = H) := by
  by_cases h : 1 ≤ iv ∧ iv ≤ 1048576 ∧ 1 ≤ n ∧ n ≤ 400
  · exact (Gap_spec iv n H ⟨h.1, h.2.1⟩ h.2.2).mono fun v H' ⟨h1, h2⟩ => ⟨_, _, h1, h2⟩
  · exact (Gap_bad iv n H h).mono fun v H' ⟨h1, h2⟩ => ⟨_, _, h1, h2⟩

theorem RedGaps_args (H : Heap) (vals : List Value) (h : ArgsOk maxLen H RedGapsSh vals) : ACallK Try.prog 4 vals H fun v _ => v = .bool true := by
  obtain ⟨_, _, rfl, a1, h⟩ := h.cons
  obtain ⟨_, _, rfl, a2, h⟩ := h.cons
  obtain rfl := h.nil
  obtain ⟨iv, rfl, hiv⟩ := a1.cell.int_inv
  obtain ⟨n, rfl, hn⟩ := a2.cell.int_inv
  have hiv' : -9223372036854775808 ≤ iv ∧ iv ≤ 9223372036854775807 := hiv
  have hn' : -9223372036854775808 ≤ n ∧ n ≤ 9223372036854775807 := hn
  clear hiv hn
  refine .walkW f4_ok (by simp; decide) (by decide) ?_
  by_cases h1 : 1 ≤ iv ∧ iv ≤ 1048576 ∧ 1 ≤ n ∧ n ≤ 400
  · obtain ⟨h1, h2, h3, h4⟩ := h1
    obtain ⟨g0, g1⟩ := gap_range h1 h3
    have g2 := gap_mono h1 h3
    obtain ⟨g3, g4⟩ := gap_four h1 h3
    obtain ⟨g5, g6⟩ := gap_range (iv := iv) (n := 4 * n) h1 (by omega)
    by_cases h5 : n + 1 ≤ 400
    · by_cases h6 : 4 * n ≤ 400
      · repeat' first | simp (disch := first | with_reducible assumption | omega) only [go_sem, Bool.true_and, Bool.and_true, Bool.and_self, Bool.false_and, Bool.and_false, Bool.true_or, Bool.or_true, Bool.false_or, Bool.or_false, ↓reduceIte, Nat.reduceEqDiff, Nat.reduceAdd, Nat.reduceMul, Nat.reduceSub, Nat.reduceBEq, Nat.reduceLeDiff, Nat.reduceLT, Nat.reduceMod, Nat.reduceDiv, Int.reduceToNat, Int.reducePow, Int.reduceMul, Int.reduceAdd, Int.reduceSub, Int.reduceLE, Int.reduceLT, Int.reduceNeg, Int.reduceDiv, Int.reduceMod, Int.reduceEq, Int.reduceBEq, Int.reduceBNe, f4, f4b, f4r0, f4r1, f4r2, f4r3, f4r4, f4r5, f4r6, f4r7, f4r8] | (refine BrW.of (fun hb => ?_) (fun hb => ?_) <;> (have hb' := hb; try simp only [decide_eq_true_eq, decide_eq_false_iff_not, beq_iff_eq, bne_iff_ne, beq_eq_false_iff_ne, bne_eq_false_iff_eq, Bool.not_eq_true', Bool.not_eq_false', Bool.not_eq_true, Bool.not_eq_false, Bool.and_eq_true, Bool.or_eq_true, Bool.and_eq_false_iff, Bool.or_eq_false_iff, Int.not_lt, Int.not_le, ne_eq, gt_iff_lt, ge_iff_le] at hb') <;> (try (exfalso; omega))) | (refine .of ((alive _).mono ?_); rintro v H ⟨rfl, rfl⟩) | (refine .of ((Gap_spec iv n _ ⟨h1, h2⟩ ⟨h3, h4⟩).mono ?_); rintro v H ⟨rfl, rfl⟩) | (refine .of ((Gap_spec iv (n + 1) _ ⟨h1, h2⟩ (by omega)).mono ?_); rintro v H ⟨rfl, rfl⟩) | (refine .of ((Gap_spec iv (4 * n) _ ⟨h1, h2⟩ (by omega)).mono ?_); rintro v H ⟨rfl, rfl⟩)
        all_goals exact .here (by (first | with_reducible rfl | (congr 1; first | with_reducible rfl | omega | (rw [Bool.eq_iff_iff]; simp only [decide_eq_true_eq, decide_eq_false_iff_not, beq_iff_eq, bne_iff_ne, beq_eq_false_iff_ne, bne_eq_false_iff_eq, Bool.not_eq_true', Bool.not_eq_false', Bool.not_eq_true, Bool.not_eq_false, Bool.and_eq_true, Bool.or_eq_true, Bool.and_eq_false_iff, Bool.or_eq_false_iff, Int.not_lt, Int.not_le, ne_eq, gt_iff_lt, ge_iff_le, Bool.and_false, Bool.false_and, Bool.or_true, Bool.true_or, Bool.false_eq_true, true_iff, iff_true, false_iff, iff_false, eq_self, not_true_eq_false, not_false_eq_true]; try omega))))
      · repeat' first | simp (disch := first | with_reducible assumption | omega) only [go_sem, Bool.true_and, Bool.and_true, Bool.and_self, Bool.false_and, Bool.and_false, Bool.true_or, Bool.or_true, Bool.false_or, Bool.or_false, ↓reduceIte, Nat.reduceEqDiff, Nat.reduceAdd, Nat.reduceMul, Nat.reduceSub, Nat.reduceBEq, Nat.reduceLeDiff, Nat.reduceLT, Nat.reduceMod, Nat.reduceDiv, Int.reduceToNat, Int.reducePow, Int.reduceMul, Int.reduceAdd, Int.reduceSub, Int.reduceLE, Int.reduceLT, Int.reduceNeg, Int.reduceDiv, Int.reduceMod, Int.reduceEq, Int.reduceBEq, Int.reduceBNe, f4, f4b, f4r0, f4r1, f4r2, f4r3, f4r4, f4r5, f4r6, f4r7, f4r8] | (refine BrW.of (fun hb => ?_) (fun hb => ?_) <;> (have hb' := hb; try simp only [decide_eq_true_eq, decide_eq_false_iff_not, beq_iff_eq, bne_iff_ne, beq_eq_false_iff_ne, bne_eq_false_iff_eq, Bool.not_eq_true', Bool.not_eq_false', Bool.not_eq_true, Bool.not_eq_false, Bool.and_eq_true, Bool.or_eq_true, Bool.and_eq_false_iff, Bool.or_eq_false_iff, Int.not_lt, Int.not_le, ne_eq, gt_iff_lt, ge_iff_le] at hb') <;> (try (exfalso; omega))) | (refine .of ((alive _).mono ?_); rintro v H ⟨rfl, rfl⟩) | (refine .of ((Gap_spec iv n _ ⟨h1, h2⟩ ⟨h3, h4⟩).mono ?_); rintro v H ⟨rfl, rfl⟩) | (refine .of ((Gap_spec iv (n + 1) _ ⟨h1, h2⟩ (by omega)).mono ?_); rintro v H ⟨rfl, rfl⟩) | (refine .of ((Gap_bad iv (4 * n) _ (by omega)).mono ?_); rintro v H ⟨rfl, rfl⟩)
        all_goals exact .here (by (first | with_reducible rfl | (congr 1; first | with_reducible rfl | omega | (rw [Bool.eq_iff_iff]; simp only [decide_eq_true_eq, decide_eq_false_iff_not, beq_iff_eq, bne_iff_ne, beq_eq_false_iff_ne, bne_eq_false_iff_eq, Bool.not_eq_true', Bool.not_eq_false', Bool.not_eq_true, Bool.not_eq_false, Bool.and_eq_true, Bool.or_eq_true, Bool.and_eq_false_iff, Bool.or_eq_false_iff, Int.not_lt, Int.not_le, ne_eq, gt_iff_lt, ge_iff_le, Bool.and_false, Bool.false_and, Bool.or_true, Bool.true_or, Bool.false_eq_true, true_iff, iff_true, false_iff, iff_false, eq_self, not_true_eq_false, not_false_eq_true]; try omega))))
    · repeat' first | simp (disch := first | with_reducible assumption | omega) only [go_sem, Bool.true_and, Bool.and_true, Bool.and_self, Bool.false_and, Bool.and_false, Bool.true_or, Bool.or_true, Bool.false_or, Bool.or_false, ↓reduceIte, Nat.reduceEqDiff, Nat.reduceAdd, Nat.reduceMul, Nat.reduceSub, Nat.reduceBEq, Nat.reduceLeDiff, Nat.reduceLT, Nat.reduceMod, Nat.reduceDiv, Int.reduceToNat, Int.reducePow, Int.reduceMul, Int.reduceAdd, Int.reduceSub, Int.reduceLE, Int.reduceLT, Int.reduceNeg, Int.reduceDiv, Int.reduceMod, Int.reduceEq, Int.reduceBEq, Int.reduceBNe, f4, f4b, f4r0, f4r1, f4r2, f4r3, f4r4, f4r5, f4r6, f4r7, f4r8] | (refine BrW.of (fun hb => ?_) (fun hb => ?_) <;> (have hb' := hb; try simp only [decide_eq_true_eq, decide_eq_false_iff_not, beq_iff_eq, bne_iff_ne, beq_eq_false_iff_ne, bne_eq_false_iff_eq, Bool.not_eq_true', Bool.not_eq_false', Bool.not_eq_true, Bool.not_eq_false, Bool.and_eq_true, Bool.or_eq_true, Bool.and_eq_false_iff, Bool.or_eq_false_iff, Int.not_lt, Int.not_le, ne_eq, gt_iff_lt, ge_iff_le] at hb') <;> (try (exfalso; omega))) | (refine .of ((alive _).mono ?_); rintro v H ⟨rfl, rfl⟩) | (refine .of ((Gap_spec iv n _ ⟨h1, h2⟩ ⟨h3, h4⟩).mono ?_); rintro v H ⟨rfl, rfl⟩) | (refine .of ((Gap_bad iv (n + 1) _ (by omega)).mono ?_); rintro v H ⟨rfl, rfl⟩) | (refine .of ((Gap_bad iv (4 * n) _ (by omega)).mono ?_); rintro v H ⟨rfl, rfl⟩)
      all_goals exact .here (by (first | with_reducible rfl | (congr 1; first | with_reducible rfl | omega | (rw [Bool.eq_iff_iff]; simp only [decide_eq_true_eq, decide_eq_false_iff_not, beq_iff_eq, bne_iff_ne, beq_eq_false_iff_ne, bne_eq_false_iff_eq, Bool.not_eq_true', Bool.not_eq_false', Bool.not_eq_true, Bool.not_eq_false, Bool.and_eq_true, Bool.or_eq_true, Bool.and_eq_false_iff, Bool.or_eq_false_iff, Int.not_lt, Int.not_le, ne_eq, gt_iff_lt, ge_iff_le, Bool.and_false, Bool.false_and, Bool.or_true, Bool.true_or, Bool.false_eq_true, true_iff, iff_true, false_iff, iff_false, eq_self, not_true_eq_false, not_false_eq_true]; try omega))))
  · repeat' first | simp (disch := first | with_reducible assumption | omega) only [go_sem, Bool.true_and, Bool.and_true, Bool.and_self, Bool.false_and, Bool.and_false, Bool.true_or, Bool.or_true, Bool.false_or, Bool.or_false, ↓reduceIte, Nat.reduceEqDiff, Nat.reduceAdd, Nat.reduceMul, Nat.reduceSub, Nat.reduceBEq, Nat.reduceLeDiff, Nat.reduceLT, Nat.reduceMod, Nat.reduceDiv, Int.reduceToNat, Int.reducePow, Int.reduceMul, Int.reduceAdd, Int.reduceSub, Int.reduceLE, Int.reduceLT, Int.reduceNeg, Int.reduceDiv, Int.reduceMod, Int.reduceEq, Int.reduceBEq, Int.reduceBNe, f4, f4b, f4r0, f4r1, f4r2, f4r3, f4r4, f4r5, f4r6, f4r7, f4r8] | (refine BrW.of (fun hb => ?_) (fun hb => ?_) <;> (have hb' := hb; try simp only [decide_eq_true_eq, decide_eq_false_iff_not, beq_iff_eq, bne_iff_ne, beq_eq_false_iff_ne, bne_eq_false_iff_eq, Bool.not_eq_true', Bool.not_eq_false', Bool.not_eq_true, Bool.not_eq_false, Bool.and_eq_true, Bool.or_eq_true, Bool.and_eq_false_iff, Bool.or_eq_false_iff, Int.not_lt, Int.not_le, ne_eq, gt_iff_lt, ge_iff_le] at hb') <;> (try (exfalso; omega))) | (refine .of ((alive _).mono ?_); rintro v H ⟨rfl, rfl⟩) | (refine .of ((Gap_bad iv n _ h1).mono ?_); rintro v H ⟨rfl, rfl⟩) | (refine .of ((Gap_any iv _ _).mono ?_); rintro v H ⟨a, e, rfl, rfl⟩)
    all_goals exact .here (by (first | with_reducible rfl | (congr 1; first | with_reducible rfl | omega | (rw [Bool.eq_iff_iff]; simp only [decide_eq_true_eq, decide_eq_false_iff_not, beq_iff_eq, bne_iff_ne, beq_eq_false_iff_ne, bne_eq_false_iff_eq, Bool.not_eq_true', Bool.not_eq_false', Bool.not_eq_true, Bool.not_eq_false, Bool.and_eq_true, Bool.or_eq_true, Bool.and_eq_false_iff, Bool.or_eq_false_iff, Int.not_lt, Int.not_le, ne_eq, gt_iff_lt, ge_iff_le, Bool.and_false, Bool.false_and, Bool.or_true, Bool.true_or, Bool.false_eq_true, true_iff, iff_true, false_iff, iff_false, eq_self, not_true_eq_false, not_false_eq_true]; try omega))))

theorem RedFine_args (H : Heap) (vals : List Value) (h : ArgsOk maxLen H RedFineSh vals) : ACallK Try.prog 3 vals H fun v _ => v = .bool true := by
  obtain ⟨_, _, rfl, a1, h⟩ := h.cons
  obtain ⟨_, _, rfl, a2, h⟩ := h.cons
  obtain ⟨_, _, rfl, a3, h⟩ := h.cons
  obtain rfl := h.nil
  obtain ⟨tg, rfl, htg⟩ := a1.cell.int_inv
  obtain ⟨iv, rfl, hiv⟩ := a2.cell.int_inv
  obtain ⟨k, c, l, rfl, hB, hlc, hs, hok⟩ := rows_of (enc := X.cells) (ok := fun s => -9223372036854775808 ≤ s.at' ∧ s.at' ≤ 9223372036854775807) 2 (fun _ => rfl) x0 rfl (fun cs h => X.of cs h) a3
  clear a1 a2 a3 htg hiv h
  obtain ⟨ro, cs, hk, hcl, hcs⟩ := Xs.cell hs
  simp only [Nat.zero_add] at hcs
  have hkl := hs.lt
  have hB' : l.length ≤ 9223372036854775807 := hB
  refine .walkW f3_ok (by simp; decide) (by decide) ?_
  by_cases hg : good tg iv l
  · repeat' first | simp (disch := first | with_reducible assumption | omega) only [go_sem, Bool.true_and, Bool.and_true, Bool.and_self, Bool.false_and, Bool.and_false, Bool.true_or, Bool.or_true, Bool.false_or, Bool.or_false, ↓reduceIte, Nat.reduceEqDiff, Nat.reduceAdd, Nat.reduceMul, Nat.reduceSub, Nat.reduceBEq, Nat.reduceLeDiff, Nat.reduceLT, Nat.reduceMod, Nat.reduceDiv, Int.reduceToNat, Int.reducePow, Int.reduceMul, Int.reduceAdd, Int.reduceSub, Int.reduceLE, Int.reduceLT, Int.reduceNeg, Int.reduceDiv, Int.reduceMod, Int.reduceEq, Int.reduceBEq, Int.reduceBNe, f3, f3b, f3r0, f3r1, f3r2, f3r3, f3r4, f3r5, f3r6, f3r7, f3r8, f3r9, f3r10, f3r11, f3r12, f3r13, f3r14, f3r15, f3r16, f3r17, f3r18, f3r20, hk, get_old hk] | (refine BrW.of (fun hb => ?_) (fun hb => ?_) <;> (have hb' := hb; try simp only [decide_eq_true_eq, decide_eq_false_iff_not, beq_iff_eq, bne_iff_ne, beq_eq_false_iff_ne, bne_eq_false_iff_eq, Bool.not_eq_true', Bool.not_eq_false', Bool.not_eq_true, Bool.not_eq_false, Bool.and_eq_true, Bool.or_eq_true, Bool.and_eq_false_iff, Bool.or_eq_false_iff, Int.not_lt, Int.not_le, ne_eq, gt_iff_lt, ge_iff_le] at hb') <;> (try (exfalso; omega))) | (refine .of ((alive _).mono ?_); rintro v H ⟨rfl, rfl⟩) | (refine .of ((Play_spec tg iv l k 0 0 c _ hs hg).mono ?_); rintro v _ (⟨hr, rfl, x, rfl⟩ | ⟨out, g', o1, hr, rfl, rfl⟩))
    · exact .here (by (first | with_reducible rfl | (congr 1; first | with_reducible rfl | omega | (rw [Bool.eq_iff_iff]; simp only [decide_eq_true_eq, decide_eq_false_iff_not, beq_iff_eq, bne_iff_ne, beq_eq_false_iff_ne, bne_eq_false_iff_eq, Bool.not_eq_true', Bool.not_eq_false', Bool.not_eq_true, Bool.not_eq_false, Bool.and_eq_true, Bool.or_eq_true, Bool.and_eq_false_iff, Bool.or_eq_false_iff, Int.not_lt, Int.not_le, ne_eq, gt_iff_lt, ge_iff_le, Bool.and_false, Bool.false_and, Bool.or_true, Bool.true_or, Bool.false_eq_true, true_iff, iff_true, false_iff, iff_false, eq_self, not_true_eq_false, not_false_eq_true]; try omega))))
    · have hol := run_length hr
      obtain ⟨p1, p2, p3, p4, p5⟩ := hg
      have hI0 : Inv iv 0 0 .zero := Inv.zero 0 (by omega) (by omega)
      have hdr := fun i => run_drop (tg := tg) ⟨p3, p4⟩ i hr hI0
      refine loopW.of (by decide) (fun m e H'' => ∃ (i : Nat) (last : Int) (s : St), e = [(0, .int .i64 tg), (1, .int .i64 iv), (7, slv (H.length + 1) 0 g' l.length l.length), (9, .int .i64 s.since), (37, slv k 0 0 l.length c), (38, .int .i64 l.length), (39, .int .i64 i)] ∧
        (∃ x, H'' = H ++ [o1, .cells g' 1 false (bools out)] ++ x) ∧ i ≤ l.length ∧ m = l.length - i ∧ Inv iv last i s ∧ run tg iv last s (l.drop i) = some (out.drop i)) l.length ⟨0, 0, .zero, rfl, ⟨[], by simp⟩, by omega, rfl, hI0, by simpa using hr⟩ ?_
      rintro m e H'' ⟨i, last, s, rfl, ⟨x, rfl⟩, hi, rfl, hI, hinv⟩
      by_cases hlt : i < l.length
      · obtain ⟨e0, e1⟩ := hcs i hlt
        have ew := bools_get out i (by omega)
        rw [drop_cons x0 l i hlt, drop_cons false out i (by omega), run_cons] at hinv
        generalize hx : l.getD i x0 = y at *
        by_cases hok : okX last y
        · rw [if_pos hok] at hinv
          obtain ⟨o, h1, h2⟩ := Option.map_eq_some_iff.1 hinv
          simp only [List.cons.injEq] at h2
          obtain ⟨h2, h3⟩ := h2
          rw [h3] at h1
          obtain ⟨q1, q2⟩ := step_since (tg := tg) hI hok
          have hI' := hI.after (tg := tg) ⟨p3, p4⟩ hok
          rw [h2] at q2
          generalize (step tg iv s y).1 = s' at *
          generalize out.getD i false = b at *
          have t0 := hI.s0
          have t1 := hI.s1
          have t2 := hI.l0
          have t3 := hI.l1
          obtain ⟨x0', x1', x2', x3'⟩ := hok
          clear hdr hinv
          by_cases c1 : y.wa < tg
          · rw [if_pos c1] at q1
            cases b with
            | true => have := q2 rfl; omega
            | false =>
              clear q2
              repeat' first | simp (disch := first | with_reducible assumption | omega) only [go_sem, Bool.true_and, Bool.and_true, Bool.and_self, Bool.false_and, Bool.and_false, Bool.true_or, Bool.or_true, Bool.false_or, Bool.or_false, ↓reduceIte, Nat.reduceEqDiff, Nat.reduceAdd, Nat.reduceMul, Nat.reduceSub, Nat.reduceBEq, Nat.reduceLeDiff, Nat.reduceLT, Nat.reduceMod, Nat.reduceDiv, Int.reduceToNat, Int.reducePow, Int.reduceMul, Int.reduceAdd, Int.reduceSub, Int.reduceLE, Int.reduceLT, Int.reduceNeg, Int.reduceDiv, Int.reduceMod, Int.reduceEq, Int.reduceBEq, Int.reduceBNe, f3, f3b, f3r0, f3r1, f3r2, f3r3, f3r4, f3r5, f3r6, f3r7, f3r8, f3r9, f3r10, f3r11, f3r12, f3r13, f3r14, f3r15, f3r16, f3r17, f3r18, f3r20, f3l0, hk, get_old hk, e0, e1, ew] | (refine BrW.of (fun hb => ?_) (fun hb => ?_) <;> (have hb' := hb; try simp only [decide_eq_true_eq, decide_eq_false_iff_not, beq_iff_eq, bne_iff_ne, beq_eq_false_iff_ne, bne_eq_false_iff_eq, Bool.not_eq_true', Bool.not_eq_false', Bool.not_eq_true, Bool.not_eq_false, Bool.and_eq_true, Bool.or_eq_true, Bool.and_eq_false_iff, Bool.or_eq_false_iff, Int.not_lt, Int.not_le, ne_eq, gt_iff_lt, ge_iff_le] at hb') <;> (try (exfalso; omega)))
              refine RdW.keep [0, 1, 7, 9, 37, 38, 39] (l.length - (i + 1)) (by omega) ?_
              simp (disch := first | with_reducible assumption | omega) only [go_sem, Bool.true_and, Bool.and_true, Bool.and_self, Bool.false_and, Bool.and_false, Bool.true_or, Bool.or_true, Bool.false_or, Bool.or_false, ↓reduceIte, Nat.reduceEqDiff, Nat.reduceAdd, Nat.reduceMul, Nat.reduceSub, Nat.reduceBEq, Nat.reduceLeDiff, Nat.reduceLT, Nat.reduceMod, Nat.reduceDiv, Int.reduceToNat, Int.reducePow, Int.reduceMul, Int.reduceAdd, Int.reduceSub, Int.reduceLE, Int.reduceLT, Int.reduceNeg, Int.reduceDiv, Int.reduceMod, Int.reduceEq, Int.reduceBEq, Int.reduceBNe]
              exact ⟨i + 1, y.at', s', by rw [q1]; rfl, ⟨_, rfl⟩, by omega, rfl, hI', h1⟩
          · rw [if_neg c1] at q1
            by_cases c2 : s.since < 0
            · rw [if_pos c2] at q1
              cases b with
              | true => have := q2 rfl; omega
              | false =>
                clear q2
                repeat' first | simp (disch := first | with_reducible assumption | omega) only [go_sem, Bool.true_and, Bool.and_true, Bool.and_self, Bool.false_and, Bool.and_false, Bool.true_or, Bool.or_true, Bool.false_or, Bool.or_false, ↓reduceIte, Nat.reduceEqDiff, Nat.reduceAdd, Nat.reduceMul, Nat.reduceSub, Nat.reduceBEq, Nat.reduceLeDiff, Nat.reduceLT, Nat.reduceMod, Nat.reduceDiv, Int.reduceToNat, Int.reducePow, Int.reduceMul, Int.reduceAdd, Int.reduceSub, Int.reduceLE, Int.reduceLT, Int.reduceNeg, Int.reduceDiv, Int.reduceMod, Int.reduceEq, Int.reduceBEq, Int.reduceBNe, f3, f3b, f3r0, f3r1, f3r2, f3r3, f3r4, f3r5, f3r6, f3r7, f3r8, f3r9, f3r10, f3r11, f3r12, f3r13, f3r14, f3r15, f3r16, f3r17, f3r18, f3r20, f3l0, hk, get_old hk, e0, e1, ew] | (refine BrW.of (fun hb => ?_) (fun hb => ?_) <;> (have hb' := hb; try simp only [decide_eq_true_eq, decide_eq_false_iff_not, beq_iff_eq, bne_iff_ne, beq_eq_false_iff_ne, bne_eq_false_iff_eq, Bool.not_eq_true', Bool.not_eq_false', Bool.not_eq_true, Bool.not_eq_false, Bool.and_eq_true, Bool.or_eq_true, Bool.and_eq_false_iff, Bool.or_eq_false_iff, Int.not_lt, Int.not_le, ne_eq, gt_iff_lt, ge_iff_le] at hb') <;> (try (exfalso; omega)))
                refine RdW.keep [0, 1, 7, 9, 37, 38, 39] (l.length - (i + 1)) (by omega) ?_
                simp (disch := first | with_reducible assumption | omega) only [go_sem, Bool.true_and, Bool.and_true, Bool.and_self, Bool.false_and, Bool.and_false, Bool.true_or, Bool.or_true, Bool.false_or, Bool.or_false, ↓reduceIte, Nat.reduceEqDiff, Nat.reduceAdd, Nat.reduceMul, Nat.reduceSub, Nat.reduceBEq, Nat.reduceLeDiff, Nat.reduceLT, Nat.reduceMod, Nat.reduceDiv, Int.reduceToNat, Int.reducePow, Int.reduceMul, Int.reduceAdd, Int.reduceSub, Int.reduceLE, Int.reduceLT, Int.reduceNeg, Int.reduceDiv, Int.reduceMod, Int.reduceEq, Int.reduceBEq, Int.reduceBNe]
                exact ⟨i + 1, y.at', s', by rw [q1]; rfl, ⟨_, rfl⟩, by omega, rfl, hI', h1⟩
            · rw [if_neg c2] at q1
              cases b with
              | true =>
                have q3 := q2 rfl
                clear q2
                repeat' first | simp (disch := first | with_reducible assumption | omega) only [go_sem, Bool.true_and, Bool.and_true, Bool.and_self, Bool.false_and, Bool.and_false, Bool.true_or, Bool.or_true, Bool.false_or, Bool.or_false, ↓reduceIte, Nat.reduceEqDiff, Nat.reduceAdd, Nat.reduceMul, Nat.reduceSub, Nat.reduceBEq, Nat.reduceLeDiff, Nat.reduceLT, Nat.reduceMod, Nat.reduceDiv, Int.reduceToNat, Int.reducePow, Int.reduceMul, Int.reduceAdd, Int.reduceSub, Int.reduceLE, Int.reduceLT, Int.reduceNeg, Int.reduceDiv, Int.reduceMod, Int.reduceEq, Int.reduceBEq, Int.reduceBNe, f3, f3b, f3r0, f3r1, f3r2, f3r3, f3r4, f3r5, f3r6, f3r7, f3r8, f3r9, f3r10, f3r11, f3r12, f3r13, f3r14, f3r15, f3r16, f3r17, f3r18, f3r20, f3l0, hk, get_old hk, e0, e1, ew] | (refine BrW.of (fun hb => ?_) (fun hb => ?_) <;> (have hb' := hb; try simp only [decide_eq_true_eq, decide_eq_false_iff_not, beq_iff_eq, bne_iff_ne, beq_eq_false_iff_ne, bne_eq_false_iff_eq, Bool.not_eq_true', Bool.not_eq_false', Bool.not_eq_true, Bool.not_eq_false, Bool.and_eq_true, Bool.or_eq_true, Bool.and_eq_false_iff, Bool.or_eq_false_iff, Int.not_lt, Int.not_le, ne_eq, gt_iff_lt, ge_iff_le] at hb') <;> (try (exfalso; omega)))
                refine RdW.keep [0, 1, 7, 9, 37, 38, 39] (l.length - (i + 1)) (by omega) ?_
                simp (disch := first | with_reducible assumption | omega) only [go_sem, Bool.true_and, Bool.and_true, Bool.and_self, Bool.false_and, Bool.and_false, Bool.true_or, Bool.or_true, Bool.false_or, Bool.or_false, ↓reduceIte, Nat.reduceEqDiff, Nat.reduceAdd, Nat.reduceMul, Nat.reduceSub, Nat.reduceBEq, Nat.reduceLeDiff, Nat.reduceLT, Nat.reduceMod, Nat.reduceDiv, Int.reduceToNat, Int.reducePow, Int.reduceMul, Int.reduceAdd, Int.reduceSub, Int.reduceLE, Int.reduceLT, Int.reduceNeg, Int.reduceDiv, Int.reduceMod, Int.reduceEq, Int.reduceBEq, Int.reduceBNe]
                exact ⟨i + 1, y.at', s', by rw [q1]; rfl, ⟨_, rfl⟩, by omega, rfl, hI', h1⟩
              | false =>
                clear q2
                repeat' first | simp (disch := first | with_reducible assumption | omega) only [go_sem, Bool.true_and, Bool.and_true, Bool.and_self, Bool.false_and, Bool.and_false, Bool.true_or, Bool.or_true, Bool.false_or, Bool.or_false, ↓reduceIte, Nat.reduceEqDiff, Nat.reduceAdd, Nat.reduceMul, Nat.reduceSub, Nat.reduceBEq, Nat.reduceLeDiff, Nat.reduceLT, Nat.reduceMod, Nat.reduceDiv, Int.reduceToNat, Int.reducePow, Int.reduceMul, Int.reduceAdd, Int.reduceSub, Int.reduceLE, Int.reduceLT, Int.reduceNeg, Int.reduceDiv, Int.reduceMod, Int.reduceEq, Int.reduceBEq, Int.reduceBNe, f3, f3b, f3r0, f3r1, f3r2, f3r3, f3r4, f3r5, f3r6, f3r7, f3r8, f3r9, f3r10, f3r11, f3r12, f3r13, f3r14, f3r15, f3r16, f3r17, f3r18, f3r20, f3l0, hk, get_old hk, e0, e1, ew] | (refine BrW.of (fun hb => ?_) (fun hb => ?_) <;> (have hb' := hb; try simp only [decide_eq_true_eq, decide_eq_false_iff_not, beq_iff_eq, bne_iff_ne, beq_eq_false_iff_ne, bne_eq_false_iff_eq, Bool.not_eq_true', Bool.not_eq_false', Bool.not_eq_true, Bool.not_eq_false, Bool.and_eq_true, Bool.or_eq_true, Bool.and_eq_false_iff, Bool.or_eq_false_iff, Int.not_lt, Int.not_le, ne_eq, gt_iff_lt, ge_iff_le] at hb') <;> (try (exfalso; omega)))
                refine RdW.keep [0, 1, 7, 9, 37, 38, 39] (l.length - (i + 1)) (by omega) ?_
                simp (disch := first | with_reducible assumption | omega) only [go_sem, Bool.true_and, Bool.and_true, Bool.and_self, Bool.false_and, Bool.and_false, Bool.true_or, Bool.or_true, Bool.false_or, Bool.or_false, ↓reduceIte, Nat.reduceEqDiff, Nat.reduceAdd, Nat.reduceMul, Nat.reduceSub, Nat.reduceBEq, Nat.reduceLeDiff, Nat.reduceLT, Nat.reduceMod, Nat.reduceDiv, Int.reduceToNat, Int.reducePow, Int.reduceMul, Int.reduceAdd, Int.reduceSub, Int.reduceLE, Int.reduceLT, Int.reduceNeg, Int.reduceDiv, Int.reduceMod, Int.reduceEq, Int.reduceBEq, Int.reduceBNe]
                exact ⟨i + 1, y.at', s', by rw [q1]; rfl, ⟨_, rfl⟩, by omega, rfl, hI', h1⟩
        · rw [if_neg hok] at hinv; cases hinv
      · obtain rfl : i = l.length := by omega
        repeat' first | simp (disch := first | with_reducible assumption | omega) only [go_sem, Bool.true_and, Bool.and_true, Bool.and_self, Bool.false_and, Bool.and_false, Bool.true_or, Bool.or_true, Bool.false_or, Bool.or_false, ↓reduceIte, Nat.reduceEqDiff, Nat.reduceAdd, Nat.reduceMul, Nat.reduceSub, Nat.reduceBEq, Nat.reduceLeDiff, Nat.reduceLT, Nat.reduceMod, Nat.reduceDiv, Int.reduceToNat, Int.reducePow, Int.reduceMul, Int.reduceAdd, Int.reduceSub, Int.reduceLE, Int.reduceLT, Int.reduceNeg, Int.reduceDiv, Int.reduceMod, Int.reduceEq, Int.reduceBEq, Int.reduceBNe, f3, f3b, f3r0, f3r1, f3r2, f3r3, f3r4, f3r5, f3r6, f3r7, f3r8, f3r9, f3r10, f3r11, f3r12, f3r13, f3r14, f3r15, f3r16, f3r17, f3r18, f3r20, f3l0, f3, f3b, f3r0, f3r1, f3r2, f3r3, f3r4, f3r5, f3r6, f3r7, f3r8, f3r9, f3r10, f3r11, f3r12, f3r13, f3r14, f3r15, f3r16, f3r17, f3r18, f3r20] | (refine BrW.of (fun hb => ?_) (fun hb => ?_) <;> (have hb' := hb; try simp only [decide_eq_true_eq, decide_eq_false_iff_not, beq_iff_eq, bne_iff_ne, beq_eq_false_iff_ne, bne_eq_false_iff_eq, Bool.not_eq_true', Bool.not_eq_false', Bool.not_eq_true, Bool.not_eq_false, Bool.and_eq_true, Bool.or_eq_true, Bool.and_eq_false_iff, Bool.or_eq_false_iff, Int.not_lt, Int.not_le, ne_eq, gt_iff_lt, ge_iff_le] at hb') <;> (try (exfalso; omega)))
        exact .here rfl
  · repeat' first | simp (disch := first | with_reducible assumption | omega) only [go_sem, Bool.true_and, Bool.and_true, Bool.and_self, Bool.false_and, Bool.and_false, Bool.true_or, Bool.or_true, Bool.false_or, Bool.or_false, ↓reduceIte, Nat.reduceEqDiff, Nat.reduceAdd, Nat.reduceMul, Nat.reduceSub, Nat.reduceBEq, Nat.reduceLeDiff, Nat.reduceLT, Nat.reduceMod, Nat.reduceDiv, Int.reduceToNat, Int.reducePow, Int.reduceMul, Int.reduceAdd, Int.reduceSub, Int.reduceLE, Int.reduceLT, Int.reduceNeg, Int.reduceDiv, Int.reduceMod, Int.reduceEq, Int.reduceBEq, Int.reduceBNe, f3, f3b, f3r0, f3r1, f3r2, f3r3, f3r4, f3r5, f3r6, f3r7, f3r8, f3r9, f3r10, f3r11, f3r12, f3r13, f3r14, f3r15, f3r16, f3r17, f3r18, f3r20, hk, get_old hk] | (refine BrW.of (fun hb => ?_) (fun hb => ?_) <;> (have hb' := hb; try simp only [decide_eq_true_eq, decide_eq_false_iff_not, beq_iff_eq, bne_iff_ne, beq_eq_false_iff_ne, bne_eq_false_iff_eq, Bool.not_eq_true', Bool.not_eq_false', Bool.not_eq_true, Bool.not_eq_false, Bool.and_eq_true, Bool.or_eq_true, Bool.and_eq_false_iff, Bool.or_eq_false_iff, Int.not_lt, Int.not_le, ne_eq, gt_iff_lt, ge_iff_le] at hb') <;> (try (exfalso; omega))) | (refine .of ((alive _).mono ?_); rintro v H ⟨rfl, rfl⟩) | (refine .of ((Play_wrong tg iv l k 0 0 c _ hs hg).mono ?_); rintro v _ ⟨rfl, rfl⟩)
    all_goals exact .here (by (first | with_reducible rfl | (congr 1; first | with_reducible rfl | omega | (rw [Bool.eq_iff_iff]; simp only [decide_eq_true_eq, decide_eq_false_iff_not, beq_iff_eq, bne_iff_ne, beq_eq_false_iff_ne, bne_eq_false_iff_eq, Bool.not_eq_true', Bool.not_eq_false', Bool.not_eq_true, Bool.not_eq_false, Bool.and_eq_true, Bool.or_eq_true, Bool.and_eq_false_iff, Bool.or_eq_false_iff, Int.not_lt, Int.not_le, ne_eq, gt_iff_lt, ge_iff_le, Bool.and_false, Bool.false_and, Bool.or_true, Bool.true_or, Bool.false_eq_true, true_iff, iff_true, false_iff, iff_false, eq_self, not_true_eq_false, not_false_eq_true]; try omega))))

theorem Xs.take {H : Heap} {k o g : Nat} {l : List X} (h : Xs H k o g l) (n : Nat) : Xs H k o g (l.take n) := Tbl.take h n

theorem RedAhead_args (H : Heap) (vals : List Value) (h : ArgsOk maxLen H RedAheadSh vals) : ACallK Try.prog 5 vals H fun v _ => v = .bool true := by
  obtain ⟨_, _, rfl, a1, h⟩ := h.cons
  obtain ⟨_, _, rfl, a2, h⟩ := h.cons
  obtain ⟨_, _, rfl, a3, h⟩ := h.cons
  obtain ⟨_, _, rfl, a4, h⟩ := h.cons
  obtain rfl := h.nil
  obtain ⟨tg, rfl, htg⟩ := a1.cell.int_inv
  obtain ⟨iv, rfl, hiv⟩ := a2.cell.int_inv
  obtain ⟨n, rfl, hn⟩ := a4.cell.int_inv
  obtain ⟨k, c, l, rfl, hB, hlc, hs, hok⟩ := rows_of (enc := X.cells) (ok := fun s => -9223372036854775808 ≤ s.at' ∧ s.at' ≤ 9223372036854775807) 2 (fun _ => rfl) x0 rfl (fun cs h => X.of cs h) a3
  clear a1 a2 a3 a4 htg hiv hn h
  obtain ⟨ro, cs, hk, hcl, hcs⟩ := Xs.cell hs
  simp only [Nat.zero_add] at hcs
  have hkl := hs.lt
  have hB' : l.length ≤ 9223372036854775807 := hB
  refine .walkW f5_ok (by simp; decide) (by decide) ?_
  by_cases hg : good tg iv l
  · by_cases hn : 0 ≤ n ∧ n ≤ l.length
    · obtain ⟨hn0, hn1⟩ := hn
      obtain ⟨n, rfl⟩ := Int.eq_ofNat_of_zero_le hn0
      have htl : (l.take n).length = n := by simp; omega
      have hg2 : good tg iv (l.take n) := by obtain ⟨p1, p2, p3, p4, p5⟩ := hg; exact ⟨p1, p2, p3, p4, by omega⟩
      have hsp := fun H' (h : Xs H' k 0 0 l) => Play_spec tg iv (l.take n) k 0 0 c H' (h.take n) hg2
      rw [htl] at hsp
      repeat' first | simp (disch := first | with_reducible assumption | omega) only [go_sem, Bool.true_and, Bool.and_true, Bool.and_self, Bool.false_and, Bool.and_false, Bool.true_or, Bool.or_true, Bool.false_or, Bool.or_false, ↓reduceIte, Nat.reduceEqDiff, Nat.reduceAdd, Nat.reduceMul, Nat.reduceSub, Nat.reduceBEq, Nat.reduceLeDiff, Nat.reduceLT, Nat.reduceMod, Nat.reduceDiv, Int.reduceToNat, Int.reducePow, Int.reduceMul, Int.reduceAdd, Int.reduceSub, Int.reduceLE, Int.reduceLT, Int.reduceNeg, Int.reduceDiv, Int.reduceMod, Int.reduceEq, Int.reduceBEq, Int.reduceBNe, f5, f5b, f5r0, f5r1, f5r2, f5r3, f5r4, f5r5, f5r6, f5r7, hk, get_old hk] | (refine BrW.of (fun hb => ?_) (fun hb => ?_) <;> (have hb' := hb; try simp only [decide_eq_true_eq, decide_eq_false_iff_not, beq_iff_eq, bne_iff_ne, beq_eq_false_iff_ne, bne_eq_false_iff_eq, Bool.not_eq_true', Bool.not_eq_false', Bool.not_eq_true, Bool.not_eq_false, Bool.and_eq_true, Bool.or_eq_true, Bool.and_eq_false_iff, Bool.or_eq_false_iff, Int.not_lt, Int.not_le, ne_eq, gt_iff_lt, ge_iff_le] at hb') <;> (try (exfalso; omega))) | (refine .of ((alive _).mono ?_); rintro v H ⟨rfl, rfl⟩) | (refine .of ((Play_spec tg iv l k 0 0 c _ hs hg).mono ?_); rintro v _ (⟨hr, rfl, x, rfl⟩ | ⟨out, g', o1, hr, rfl, rfl⟩)) | (refine .of ((hsp _ (hs.app _)).mono ?_); rintro v _ (⟨hr', rfl, x', rfl⟩ | ⟨out', g'', o1', hr', rfl, rfl⟩))
      · exact .here rfl
      · have := run_take n hr; rw [hr'] at this; cases this
      · have h1 := run_take n hr
        rw [hr'] at h1
        obtain rfl : out' = out.take n := by simpa using h1
        have hol := run_length hr
        have hotl : (out.take n).length = n := by simp; omega
        clear hr'
        have t1 : Bools (H ++ [o1, .cells g' 1 false (bools out), o1', .cells g'' 1 false (bools (out.take n))]) (H.length + 1) 0 g' (out.take n) := (Bools.new _ _ _ false out (by rw [get_new]; rfl)).take n
        have t2 : Bools (H ++ [o1, .cells g' 1 false (bools out), o1', .cells g'' 1 false (bools (out.take n))]) (H.length + 2 + 1) 0 g'' (out.take n) := Bools.new _ _ _ false _ (by rw [show H.length + 2 + 1 = H.length + 3 from rfl, get_new]; rfl)
        have hsp2 := EqualB_spec (out.take n) (out.take n) _ 0 g' l.length _ 0 g'' n _ t1 t2 (by omega) (by omega)
        rw [hotl] at hsp2
        refine .of (hsp2.mono ?_)
        rintro v _ ⟨rfl, rfl⟩
        simp (disch := first | with_reducible assumption | omega) only [go_sem, Bool.true_and, Bool.and_true, Bool.and_self, Bool.false_and, Bool.and_false, Bool.true_or, Bool.or_true, Bool.false_or, Bool.or_false, ↓reduceIte, Nat.reduceEqDiff, Nat.reduceAdd, Nat.reduceMul, Nat.reduceSub, Nat.reduceBEq, Nat.reduceLeDiff, Nat.reduceLT, Nat.reduceMod, Nat.reduceDiv, Int.reduceToNat, Int.reducePow, Int.reduceMul, Int.reduceAdd, Int.reduceSub, Int.reduceLE, Int.reduceLT, Int.reduceNeg, Int.reduceDiv, Int.reduceMod, Int.reduceEq, Int.reduceBEq, Int.reduceBNe, f5, f5b, f5r0, f5r1, f5r2, f5r3, f5r4, f5r5, f5r6, f5r7]
        exact .here rfl
    · by_cases hn0 : n < 0
      · clear hn
        repeat' first | simp (disch := first | with_reducible assumption | omega) only [go_sem, Bool.true_and, Bool.and_true, Bool.and_self, Bool.false_and, Bool.and_false, Bool.true_or, Bool.or_true, Bool.false_or, Bool.or_false, ↓reduceIte, Nat.reduceEqDiff, Nat.reduceAdd, Nat.reduceMul, Nat.reduceSub, Nat.reduceBEq, Nat.reduceLeDiff, Nat.reduceLT, Nat.reduceMod, Nat.reduceDiv, Int.reduceToNat, Int.reducePow, Int.reduceMul, Int.reduceAdd, Int.reduceSub, Int.reduceLE, Int.reduceLT, Int.reduceNeg, Int.reduceDiv, Int.reduceMod, Int.reduceEq, Int.reduceBEq, Int.reduceBNe, f5, f5b, f5r0, f5r1, f5r2, f5r3, f5r4, f5r5, f5r6, f5r7, hk, get_old hk] | (refine BrW.of (fun hb => ?_) (fun hb => ?_) <;> (have hb' := hb; try simp only [decide_eq_true_eq, decide_eq_false_iff_not, beq_iff_eq, bne_iff_ne, beq_eq_false_iff_ne, bne_eq_false_iff_eq, Bool.not_eq_true', Bool.not_eq_false', Bool.not_eq_true, Bool.not_eq_false, Bool.and_eq_true, Bool.or_eq_true, Bool.and_eq_false_iff, Bool.or_eq_false_iff, Int.not_lt, Int.not_le, ne_eq, gt_iff_lt, ge_iff_le] at hb') <;> (try (exfalso; omega))) | (refine .of ((alive _).mono ?_); rintro v H ⟨rfl, rfl⟩) | (refine .of ((Play_spec tg iv l k 0 0 c _ hs hg).mono ?_); rintro v _ (⟨hr, rfl, x, rfl⟩ | ⟨out, g', o1, hr, rfl, rfl⟩))
        all_goals exact .here rfl
      · have hn1 : (l.length : Int) < n := by omega
        clear hn
        repeat' first | simp (disch := first | with_reducible assumption | omega) only [go_sem, Bool.true_and, Bool.and_true, Bool.and_self, Bool.false_and, Bool.and_false, Bool.true_or, Bool.or_true, Bool.false_or, Bool.or_false, ↓reduceIte, Nat.reduceEqDiff, Nat.reduceAdd, Nat.reduceMul, Nat.reduceSub, Nat.reduceBEq, Nat.reduceLeDiff, Nat.reduceLT, Nat.reduceMod, Nat.reduceDiv, Int.reduceToNat, Int.reducePow, Int.reduceMul, Int.reduceAdd, Int.reduceSub, Int.reduceLE, Int.reduceLT, Int.reduceNeg, Int.reduceDiv, Int.reduceMod, Int.reduceEq, Int.reduceBEq, Int.reduceBNe, f5, f5b, f5r0, f5r1, f5r2, f5r3, f5r4, f5r5, f5r6, f5r7, hk, get_old hk] | (refine BrW.of (fun hb => ?_) (fun hb => ?_) <;> (have hb' := hb; try simp only [decide_eq_true_eq, decide_eq_false_iff_not, beq_iff_eq, bne_iff_ne, beq_eq_false_iff_ne, bne_eq_false_iff_eq, Bool.not_eq_true', Bool.not_eq_false', Bool.not_eq_true, Bool.not_eq_false, Bool.and_eq_true, Bool.or_eq_true, Bool.and_eq_false_iff, Bool.or_eq_false_iff, Int.not_lt, Int.not_le, ne_eq, gt_iff_lt, ge_iff_le] at hb') <;> (try (exfalso; omega))) | (refine .of ((alive _).mono ?_); rintro v H ⟨rfl, rfl⟩) | (refine .of ((Play_spec tg iv l k 0 0 c _ hs hg).mono ?_); rintro v _ (⟨hr, rfl, x, rfl⟩ | ⟨out, g', o1, hr, rfl, rfl⟩))
        all_goals exact .here rfl
  · repeat' first | simp (disch := first | with_reducible assumption | omega) only [go_sem, Bool.true_and, Bool.and_true, Bool.and_self, Bool.false_and, Bool.and_false, Bool.true_or, Bool.or_true, Bool.false_or, Bool.or_false, ↓reduceIte, Nat.reduceEqDiff, Nat.reduceAdd, Nat.reduceMul, Nat.reduceSub, Nat.reduceBEq, Nat.reduceLeDiff, Nat.reduceLT, Nat.reduceMod, Nat.reduceDiv, Int.reduceToNat, Int.reducePow, Int.reduceMul, Int.reduceAdd, Int.reduceSub, Int.reduceLE, Int.reduceLT, Int.reduceNeg, Int.reduceDiv, Int.reduceMod, Int.reduceEq, Int.reduceBEq, Int.reduceBNe, f5, f5b, f5r0, f5r1, f5r2, f5r3, f5r4, f5r5, f5r6, f5r7, hk, get_old hk] | (refine BrW.of (fun hb => ?_) (fun hb => ?_) <;> (have hb' := hb; try simp only [decide_eq_true_eq, decide_eq_false_iff_not, beq_iff_eq, bne_iff_ne, beq_eq_false_iff_ne, bne_eq_false_iff_eq, Bool.not_eq_true', Bool.not_eq_false', Bool.not_eq_true, Bool.not_eq_false, Bool.and_eq_true, Bool.or_eq_true, Bool.and_eq_false_iff, Bool.or_eq_false_iff, Int.not_lt, Int.not_le, ne_eq, gt_iff_lt, ge_iff_le] at hb') <;> (try (exfalso; omega))) | (refine .of ((alive _).mono ?_); rintro v H ⟨rfl, rfl⟩) | (refine .of ((Play_wrong tg iv l k 0 0 c _ hs hg).mono ?_); rintro v _ ⟨rfl, rfl⟩)
    all_goals exact .here (by (first | with_reducible rfl | (congr 1; first | with_reducible rfl | omega | (rw [Bool.eq_iff_iff]; simp only [decide_eq_true_eq, decide_eq_false_iff_not, beq_iff_eq, bne_iff_ne, beq_eq_false_iff_ne, bne_eq_false_iff_eq, Bool.not_eq_true', Bool.not_eq_false', Bool.not_eq_true, Bool.not_eq_false, Bool.and_eq_true, Bool.or_eq_true, Bool.and_eq_false_iff, Bool.or_eq_false_iff, Int.not_lt, Int.not_le, ne_eq, gt_iff_lt, ge_iff_le, Bool.and_false, Bool.false_and, Bool.or_true, Bool.true_or, Bool.false_eq_true, true_iff, iff_true, false_iff, iff_false, eq_self, not_true_eq_false, not_false_eq_true]; try omega))))

end Go.Proofs.Ytmdlieinanjnaaa
