import Derived.Test.YtabcjhpgamhpoaaLaws
import Derived.Test.YtabcjhpgamhpoaaPlain2
set_option linter.unusedSimpArgs false
set_option linter.unusedVariables false
set_option maxHeartbeats 2000000
set_option maxRecDepth 20000
namespace Go.Proofs.Ytabcjhpgamhpoaa
open Go Go.Am
attribute [local irreducible] opsW Ww loopW callW drawW outW outDW gW cW BrW bothW vW resW DropW RdW dcallW altW forkW splitW Later.run

theorem list_of {H : Heap} {v : Value} (h : ArgOk maxLen H (false, [.slice [.int .i64]]) v) : ∃ k c, ∃ l : List Int, v = slv k 0 0 l.length c ∧ l.length ≤ 9223372036854775807 ∧ l.length ≤ c ∧ Ints H k 0 0 l ∧ ∀ i, i < l.length → -9223372036854775808 ≤ l.getD i 0 ∧ l.getD i 0 ≤ 9223372036854775807 := by
  obtain ⟨k, c, l, h1, h2, h3, h4, h5⟩ := ints_of h
  exact ⟨k, c, l, h1, Nat.le_trans h2 (by decide), h3, h4, h5⟩
theorem HeavyNear_args (H : Heap) (vals : List Value) (h : ArgsOk maxLen H HeavyNearSh vals) : ACallK Try.prog 3 vals H fun v _ => v = .bool true := by
  obtain ⟨_, _, rfl, a1, h⟩ := h.cons
  obtain ⟨_, _, rfl, a2, h⟩ := h.cons
  obtain ⟨_, _, rfl, a3, h⟩ := h.cons
  obtain rfl := h.nil
  obtain ⟨kk, rfl, hkk⟩ := int_of a1
  obtain ⟨k, c, ids, rfl, hB, hlc, hs, hok⟩ := list_of a2
  obtain ⟨id, rfl, hid⟩ := int_of a3
  clear a1 a2 a3 h
  have hA := All_spec kk ids k 0 0 c H hs (by omega)
  obtain ⟨ro, cs, hk, _, _⟩ := hs.at'
  refine .walkW f3_ok (by simp; decide) (by decide) ?_
  repeat' first | simp (disch := first | with_reducible assumption | omega) only [go_sem, Bool.true_and, Bool.and_true, Bool.and_self, Bool.false_and, Bool.and_false, Bool.true_or, Bool.or_true, Bool.false_or, Bool.or_false, ↓reduceIte, Nat.reduceEqDiff, Nat.reduceAdd, Nat.reduceMul, Nat.reduceSub, Nat.reduceBEq, Nat.reduceLeDiff, Nat.reduceLT, Nat.reduceMod, Nat.reduceDiv, Int.reduceToNat, Int.reducePow, Int.reduceMul, Int.reduceAdd, Int.reduceSub, Int.reduceLE, Int.reduceLT, Int.reduceNeg, Int.reduceDiv, Int.reduceMod, Int.reduceEq, Int.reduceBEq, Int.reduceBNe, f3, f3b, f3r0, f3r1, f3r2, f3r3, f3r4, f3r5, f3r6, f3r7] | (refine BrW.of (fun hb => ?_) (fun hb => ?_) <;> (have hb' := hb; try simp only [decide_eq_true_eq, decide_eq_false_iff_not, beq_iff_eq, bne_iff_ne, beq_eq_false_iff_ne, bne_eq_false_iff_eq, Bool.not_eq_true', Bool.not_eq_false', Bool.not_eq_true, Bool.not_eq_false, Bool.and_eq_true, Bool.or_eq_true, Bool.and_eq_false_iff, Bool.or_eq_false_iff, Int.not_lt, Int.not_le, ne_eq, gt_iff_lt, ge_iff_le] at hb') <;> (try (exfalso; omega))) | (refine altW.of ?_ ?_) | (refine .of ((alive _).mono ?_); rintro v H ⟨rfl, rfl⟩)
  refine .of (hA.mono ?_)
  rintro v G (⟨hne, rfl, rfl⟩ | ⟨h0, kj, g', rfl, hG, hLe⟩)
  · repeat' first | simp (disch := first | with_reducible assumption | omega) only [go_sem, Bool.true_and, Bool.and_true, Bool.and_self, Bool.false_and, Bool.and_false, Bool.true_or, Bool.or_true, Bool.false_or, Bool.or_false, ↓reduceIte, Nat.reduceEqDiff, Nat.reduceAdd, Nat.reduceMul, Nat.reduceSub, Nat.reduceBEq, Nat.reduceLeDiff, Nat.reduceLT, Nat.reduceMod, Nat.reduceDiv, Int.reduceToNat, Int.reducePow, Int.reduceMul, Int.reduceAdd, Int.reduceSub, Int.reduceLE, Int.reduceLT, Int.reduceNeg, Int.reduceDiv, Int.reduceMod, Int.reduceEq, Int.reduceBEq, Int.reduceBNe, f3, f3b, f3r0, f3r1, f3r2, f3r3, f3r4, f3r5, f3r6, f3r7, hne] | (refine BrW.of (fun hb => ?_) (fun hb => ?_) <;> (have hb' := hb; try simp only [decide_eq_true_eq, decide_eq_false_iff_not, beq_iff_eq, bne_iff_ne, beq_eq_false_iff_ne, bne_eq_false_iff_eq, Bool.not_eq_true', Bool.not_eq_false', Bool.not_eq_true, Bool.not_eq_false, Bool.and_eq_true, Bool.or_eq_true, Bool.and_eq_false_iff, Bool.or_eq_false_iff, Int.not_lt, Int.not_le, ne_eq, gt_iff_lt, ge_iff_le] at hb') <;> (try (exfalso; omega))) | (refine altW.of ?_ ?_)
    exact .here rfl
  · have hr : 1 ≤ kk ∧ kk ≤ 400 := by
      by_cases hr : 1 ≤ kk ∧ kk ≤ 400
      · exact hr
      · rw [all_bad kk ids hr] at h0; exact absurd h0 (by show ¬ (2 : Int) = 0; omega)
    obtain ⟨n2, n3, n4, n5⟩ := near2 kk ids hr h0 id
    have hsG := hs.le hLe
    have hkG := hLe.get hk
    have hC := OkC.tbl hG
    have hT := times_spec ids id k 0 0 c G hsG (by omega)
    have hl4 : (allP kk ids).1.length ≤ 400 := by have := n5.1.2.2; omega
    have hN := count_spec (allP kk ids).1 id kj 0 g' (allP kk ids).1.length G hC (by omega)
    have hQ := Right_spec kk (allP kk ids).1 kj 0 g' (allP kk ids).1.length G hC (by omega)
    rw [decide_eq_true n5] at hQ
    have t1 := times_le ids id
    generalize (allP kk ids).1 = l at *
    generalize times ids id = T at *
    generalize cnt l id = C at *
    have m1 : 0 ≤ (T - C) * (kk + 1) := Int.mul_nonneg (by omega) (by omega)
    repeat' first | simp (disch := first | with_reducible assumption | omega) only [go_sem, Bool.true_and, Bool.and_true, Bool.and_self, Bool.false_and, Bool.and_false, Bool.true_or, Bool.or_true, Bool.false_or, Bool.or_false, ↓reduceIte, Nat.reduceEqDiff, Nat.reduceAdd, Nat.reduceMul, Nat.reduceSub, Nat.reduceBEq, Nat.reduceLeDiff, Nat.reduceLT, Nat.reduceMod, Nat.reduceDiv, Int.reduceToNat, Int.reducePow, Int.reduceMul, Int.reduceAdd, Int.reduceSub, Int.reduceLE, Int.reduceLT, Int.reduceNeg, Int.reduceDiv, Int.reduceMod, Int.reduceEq, Int.reduceBEq, Int.reduceBNe, f3, f3b, f3r0, f3r1, f3r2, f3r3, f3r4, f3r5, f3r6, f3r7, hkG] | (refine BrW.of (fun hb => ?_) (fun hb => ?_) <;> (have hb' := hb; try simp only [decide_eq_true_eq, decide_eq_false_iff_not, beq_iff_eq, bne_iff_ne, beq_eq_false_iff_ne, bne_eq_false_iff_eq, Bool.not_eq_true', Bool.not_eq_false', Bool.not_eq_true, Bool.not_eq_false, Bool.and_eq_true, Bool.or_eq_true, Bool.and_eq_false_iff, Bool.or_eq_false_iff, Int.not_lt, Int.not_le, ne_eq, gt_iff_lt, ge_iff_le] at hb') <;> (try (exfalso; omega))) | (refine altW.of ?_ ?_) | (refine dcallW.of _ _ hT ?_) | (refine callW.ex _ _ hT ?_) | (refine dcallW.of _ _ hN ?_) | (refine callW.ex _ _ hN ?_) | (refine dcallW.of _ _ hQ ?_) | (refine callW.ex _ _ hQ ?_)
    all_goals first | exact .here rfl | (exfalso; omega)
end Go.Proofs.Ytabcjhpgamhpoaa
