import Derived.Test.YteopnmfdncjbhaaTab
import Derived.Test.YteopnmfdncjbhaaPlain
set_option linter.unusedSimpArgs false
set_option linter.unusedVariables false
set_option maxHeartbeats 1000000
namespace Go.Proofs.Yteopnmfdncjbhaa
open Go Go.Am
attribute [local irreducible] opsW Ww loopW callW drawW outW outDW gW cW BrW bothW vW resW DropW RdW dcallW Later.run

def M.cells (m : M) : List Value := [.int .i64 m.co, .int .i64 m.bu, .int .i64 m.ex, .int .i64 m.fi, .int .i64 m.se, .int .i64 m.at']
def M.val (m : M) : Value := .agg #[.int .i64 m.co, .int .i64 m.bu, .int .i64 m.ex, .int .i64 m.fi, .int .i64 m.se, .int .i64 m.at']
def S.cells (s : S) : List Value := [.int .i64 s.at', .int .i64 s.by']
def S.val (s : S) : Value := .agg #[.int .i64 s.at', .int .i64 s.by']

theorem fits_spec (n most : Int) (H : Heap) : ACallK Try.prog 13 [.int .i64 n, .int .i64 most] H (fun v H' => v = .bool (decide (0 ≤ n ∧ n ≤ most)) ∧ H' = H) := by
  refine .walkW f13_ok (by simp; decide) (by decide) ?_
  repeat' first | simp (disch := first | with_reducible assumption | omega) only [go_sem, Bool.true_and, Bool.and_true, Bool.and_self, Bool.false_and, Bool.and_false, Bool.true_or, Bool.or_true, Bool.false_or, Bool.or_false, ↓reduceIte, Nat.reduceEqDiff, Nat.reduceAdd, Nat.reduceMul, Nat.reduceSub, Nat.reduceBEq, Nat.reduceLeDiff, Nat.reduceLT, Nat.reduceMod, Nat.reduceDiv, Int.reduceToNat, Int.reducePow, Int.reduceMul, Int.reduceAdd, Int.reduceSub, Int.reduceLE, Int.reduceLT, Int.reduceNeg, Int.reduceDiv, Int.reduceMod, Int.reduceEq, Int.reduceBEq, Int.reduceBNe, f13, f13b, f13r0, f13r1] | (refine BrW.of (fun hb => ?_) (fun hb => ?_) <;> (have hb' := hb; try simp only [decide_eq_true_eq, decide_eq_false_iff_not, beq_iff_eq, bne_iff_ne, beq_eq_false_iff_ne, bne_eq_false_iff_eq, Bool.not_eq_true', Bool.not_eq_false', Bool.not_eq_true, Bool.not_eq_false, Bool.and_eq_true, Bool.or_eq_true, Bool.and_eq_false_iff, Bool.or_eq_false_iff, Int.not_lt, Int.not_le, ne_eq, gt_iff_lt, ge_iff_le] at hb') <;> (try (exfalso; omega)))
  all_goals exact .here ⟨by (first | with_reducible rfl | (congr 1; first | with_reducible rfl | omega | (rw [Bool.eq_iff_iff]; simp only [decide_eq_true_eq, decide_eq_false_iff_not, beq_iff_eq, bne_iff_ne, beq_eq_false_iff_ne, bne_eq_false_iff_eq, Bool.not_eq_true', Bool.not_eq_false', Bool.not_eq_true, Bool.not_eq_false, Bool.and_eq_true, Bool.or_eq_true, Bool.and_eq_false_iff, Bool.or_eq_false_iff, Int.not_lt, Int.not_le, ne_eq, gt_iff_lt, ge_iff_le, Bool.and_false, Bool.false_and, Bool.or_true, Bool.true_or, Bool.false_eq_true, true_iff, iff_true, false_iff, iff_false, eq_self, not_true_eq_false, not_false_eq_true]; try omega))), rfl⟩

theorem Right_spec (m : M) (H : Heap) : ACallK Try.prog 10 [m.val] H (fun v H' => v = .bool (decide m.right) ∧ H' = H) := by
  refine .walkW f10_ok (by simp; decide) (by decide) ?_
  repeat' first | simp (disch := first | with_reducible assumption | omega) only [go_sem, Bool.true_and, Bool.and_true, Bool.and_self, Bool.false_and, Bool.and_false, Bool.true_or, Bool.or_true, Bool.false_or, Bool.or_false, ↓reduceIte, Nat.reduceEqDiff, Nat.reduceAdd, Nat.reduceMul, Nat.reduceSub, Nat.reduceBEq, Nat.reduceLeDiff, Nat.reduceLT, Nat.reduceMod, Nat.reduceDiv, Int.reduceToNat, Int.reducePow, Int.reduceMul, Int.reduceAdd, Int.reduceSub, Int.reduceLE, Int.reduceLT, Int.reduceNeg, Int.reduceDiv, Int.reduceMod, Int.reduceEq, Int.reduceBEq, Int.reduceBNe, f10, f10b, f10r0, f10r1, f10r2, M.val] | (refine BrW.of (fun hb => ?_) (fun hb => ?_) <;> (have hb' := hb; try simp only [decide_eq_true_eq, decide_eq_false_iff_not, beq_iff_eq, bne_iff_ne, beq_eq_false_iff_ne, bne_eq_false_iff_eq, Bool.not_eq_true', Bool.not_eq_false', Bool.not_eq_true, Bool.not_eq_false, Bool.and_eq_true, Bool.or_eq_true, Bool.and_eq_false_iff, Bool.or_eq_false_iff, Int.not_lt, Int.not_le, ne_eq, gt_iff_lt, ge_iff_le] at hb') <;> (try (exfalso; omega))) | (refine .of ((fits_spec _ _ _).mono ?_); rintro v _ ⟨rfl, rfl⟩)
  all_goals exact .back rfl ⟨by (first | with_reducible rfl | (congr 1; first | with_reducible rfl | omega | (rw [Bool.eq_iff_iff]; simp only [decide_eq_true_eq, decide_eq_false_iff_not, beq_iff_eq, bne_iff_ne, beq_eq_false_iff_ne, bne_eq_false_iff_eq, Bool.not_eq_true', Bool.not_eq_false', Bool.not_eq_true, Bool.not_eq_false, Bool.and_eq_true, Bool.or_eq_true, Bool.and_eq_false_iff, Bool.or_eq_false_iff, Int.not_lt, Int.not_le, ne_eq, gt_iff_lt, ge_iff_le, Bool.and_false, Bool.false_and, Bool.or_true, Bool.true_or, Bool.false_eq_true, true_iff, iff_true, false_iff, iff_false, eq_self, not_true_eq_false, not_false_eq_true]; try simp only [M.right]; try omega))), rfl⟩

theorem no_spec (e : Int) (H : Heap) : ACallK Try.prog 12 [.int .i64 e] H (fun v H' => v = .tuple #[M.zero.val, .int .i64 0, .int .i64 e] ∧ H' = H) := by
  refine .walkW f12_ok (by simp; decide) (by decide) ?_
  repeat' first | simp (disch := first | with_reducible assumption | omega) only [go_sem, Bool.true_and, Bool.and_true, Bool.and_self, Bool.false_and, Bool.and_false, Bool.true_or, Bool.or_true, Bool.false_or, Bool.or_false, ↓reduceIte, Nat.reduceEqDiff, Nat.reduceAdd, Nat.reduceMul, Nat.reduceSub, Nat.reduceBEq, Nat.reduceLeDiff, Nat.reduceLT, Nat.reduceMod, Nat.reduceDiv, Int.reduceToNat, Int.reducePow, Int.reduceMul, Int.reduceAdd, Int.reduceSub, Int.reduceLE, Int.reduceLT, Int.reduceNeg, Int.reduceDiv, Int.reduceMod, Int.reduceEq, Int.reduceBEq, Int.reduceBNe, f12, f12b, f12r0, f12r1] | (refine BrW.of (fun hb => ?_) (fun hb => ?_) <;> (have hb' := hb; try simp only [decide_eq_true_eq, decide_eq_false_iff_not, beq_iff_eq, bne_iff_ne, beq_eq_false_iff_ne, bne_eq_false_iff_eq, Bool.not_eq_true', Bool.not_eq_false', Bool.not_eq_true, Bool.not_eq_false, Bool.and_eq_true, Bool.or_eq_true, Bool.and_eq_false_iff, Bool.or_eq_false_iff, Int.not_lt, Int.not_le, ne_eq, gt_iff_lt, ge_iff_le] at hb') <;> (try (exfalso; omega)))
  exact .back rfl ⟨rfl, rfl⟩

/-- What Colour hands back. -/
def colour (m : M) (s : S) (had : Int) : M × Int × Int :=
  if good m s had then ((taken (filled m s) s had).1, (taken (filled m s) s had).2, 0) else (M.zero, 0, err m had)
def ans (r : M × Int × Int) : Value := .tuple #[r.1.val, .int .i64 r.2.1, .int .i64 r.2.2]

theorem Colour_spec (m : M) (s : S) (had : Int) (H : Heap) : ACallK Try.prog 9 [m.val, s.val, .int .i64 had] H (fun v H' => v = ans (colour m s had) ∧ H' = H) := by
  refine .walkW f9_ok (by simp; decide) (by decide) ?_
  by_cases hg : good m s had
  · have hr := come_range hg
    have hp : 0 ≤ (s.at' - m.at') * m.co ∧ (s.at' - m.at') * m.co ≤ 1152921504606846976 := by
      obtain ⟨⟨h1, h2, _, _, _, _, _, _, _, _, h11, h12⟩, _, _, h15, h16, _⟩ := hg
      refine ⟨Int.mul_nonneg (by omega) h1, ?_⟩
      have := Int.mul_le_mul (show s.at' - m.at' ≤ 1099511627776 by omega) h2 h1 (by omega)
      omega
    have hg' := hg
    have hR : (!decide m.right) = false := by simp [hg.1]
    simp only [good, M.right] at hg'
    have hc := hr
    unfold come at hc
    repeat' first | simp (disch := first | with_reducible assumption | omega) only [go_sem, Bool.true_and, Bool.and_true, Bool.and_self, Bool.false_and, Bool.and_false, Bool.true_or, Bool.or_true, Bool.false_or, Bool.or_false, ↓reduceIte, Nat.reduceEqDiff, Nat.reduceAdd, Nat.reduceMul, Nat.reduceSub, Nat.reduceBEq, Nat.reduceLeDiff, Nat.reduceLT, Nat.reduceMod, Nat.reduceDiv, Int.reduceToNat, Int.reducePow, Int.reduceMul, Int.reduceAdd, Int.reduceSub, Int.reduceLE, Int.reduceLT, Int.reduceNeg, Int.reduceDiv, Int.reduceMod, Int.reduceEq, Int.reduceBEq, Int.reduceBNe, f9, f9b, f9r0, f9r1, f9r2, f9r3, f9r4, f9r5, f9r6, f9r7, f9r8, f9r9, f9r10, f9r11, f9r12, f9r13, f9r14, f9r15, f9r16, f9r17, f9r18, f9r19, f9r20, f9r21, f9r22, f9r23, M.val, S.val] | (refine BrW.of (fun hb => ?_) (fun hb => ?_) <;> (have hb' := hb; try simp only [decide_eq_true_eq, decide_eq_false_iff_not, beq_iff_eq, bne_iff_ne, beq_eq_false_iff_ne, bne_eq_false_iff_eq, Bool.not_eq_true', Bool.not_eq_false', Bool.not_eq_true, Bool.not_eq_false, Bool.and_eq_true, Bool.or_eq_true, Bool.and_eq_false_iff, Bool.or_eq_false_iff, Int.not_lt, Int.not_le, ne_eq, gt_iff_lt, ge_iff_le] at hb') <;> (try (exfalso; omega))) | (refine .of ((Right_spec m _).mono ?_); rintro v _ ⟨rfl, rfl⟩)
    all_goals exact .back rfl ⟨by (first | with_reducible rfl | ((try simp (disch := first | with_reducible assumption | omega) only [if_pos, if_neg, ans, colour, hg, taken, filled, come, M.val]) <;> repeat' first | with_reducible rfl | omega | congr 1)), rfl⟩
  · by_cases h1 : m.right
    · have hR : (!decide m.right) = false := by simp [h1]
      have hc : (had < 1 ∨ 3 < had) ∨ (1 ≤ had ∧ had ≤ 3 ∧ (s.at' < m.at' ∨ 1099511627776 < s.at' ∨ s.by' < 0 ∨ 1048576 < s.by')) := by
        unfold good at hg
        by_cases h2 : 1 ≤ had ∧ had ≤ 3
        · refine .inr ⟨h2.1, h2.2, ?_⟩
          by_cases h3 : s.at' < m.at' ∨ 1099511627776 < s.at' ∨ s.by' < 0 ∨ 1048576 < s.by'
          · exact h3
          · exact (hg ⟨h1, by omega⟩).elim
        · exact .inl (by omega)
      repeat' first | simp (disch := first | with_reducible assumption | omega) only [go_sem, Bool.true_and, Bool.and_true, Bool.and_self, Bool.false_and, Bool.and_false, Bool.true_or, Bool.or_true, Bool.false_or, Bool.or_false, ↓reduceIte, Nat.reduceEqDiff, Nat.reduceAdd, Nat.reduceMul, Nat.reduceSub, Nat.reduceBEq, Nat.reduceLeDiff, Nat.reduceLT, Nat.reduceMod, Nat.reduceDiv, Int.reduceToNat, Int.reducePow, Int.reduceMul, Int.reduceAdd, Int.reduceSub, Int.reduceLE, Int.reduceLT, Int.reduceNeg, Int.reduceDiv, Int.reduceMod, Int.reduceEq, Int.reduceBEq, Int.reduceBNe, f9, f9b, f9r0, f9r1, f9r2, f9r3, f9r4, f9r5, f9r6, f9r7, f9r8, f9r9, f9r10, f9r11, f9r12, f9r13, f9r14, f9r15, f9r16, f9r17, f9r18, f9r19, f9r20, f9r21, f9r22, f9r23, M.val, S.val] | (refine BrW.of (fun hb => ?_) (fun hb => ?_) <;> (have hb' := hb; try simp only [decide_eq_true_eq, decide_eq_false_iff_not, beq_iff_eq, bne_iff_ne, beq_eq_false_iff_ne, bne_eq_false_iff_eq, Bool.not_eq_true', Bool.not_eq_false', Bool.not_eq_true, Bool.not_eq_false, Bool.and_eq_true, Bool.or_eq_true, Bool.and_eq_false_iff, Bool.or_eq_false_iff, Int.not_lt, Int.not_le, ne_eq, gt_iff_lt, ge_iff_le] at hb') <;> (try (exfalso; omega))) | (refine .of ((Right_spec m _).mono ?_); rintro v _ ⟨rfl, rfl⟩) | (refine .of ((no_spec _ _).mono ?_); rintro v _ ⟨rfl, rfl⟩)
      all_goals exact .back rfl ⟨by (first | with_reducible rfl | ((try simp (disch := first | with_reducible assumption | omega) only [if_pos, if_neg, ans, colour, hg, err, if_false, h1, not_true_eq_false, M.zero, M.val]) <;> repeat' first | with_reducible rfl | omega | congr 1)), rfl⟩
    · have hR : (!decide m.right) = true := by simp [h1]
      repeat' first | simp (disch := first | with_reducible assumption | omega) only [go_sem, Bool.true_and, Bool.and_true, Bool.and_self, Bool.false_and, Bool.and_false, Bool.true_or, Bool.or_true, Bool.false_or, Bool.or_false, ↓reduceIte, Nat.reduceEqDiff, Nat.reduceAdd, Nat.reduceMul, Nat.reduceSub, Nat.reduceBEq, Nat.reduceLeDiff, Nat.reduceLT, Nat.reduceMod, Nat.reduceDiv, Int.reduceToNat, Int.reducePow, Int.reduceMul, Int.reduceAdd, Int.reduceSub, Int.reduceLE, Int.reduceLT, Int.reduceNeg, Int.reduceDiv, Int.reduceMod, Int.reduceEq, Int.reduceBEq, Int.reduceBNe, f9, f9b, f9r0, f9r1, f9r2, f9r3, f9r4, f9r5, f9r6, f9r7, f9r8, f9r9, f9r10, f9r11, f9r12, f9r13, f9r14, f9r15, f9r16, f9r17, f9r18, f9r19, f9r20, f9r21, f9r22, f9r23, M.val, S.val] | (refine BrW.of (fun hb => ?_) (fun hb => ?_) <;> (have hb' := hb; try simp only [decide_eq_true_eq, decide_eq_false_iff_not, beq_iff_eq, bne_iff_ne, beq_eq_false_iff_ne, bne_eq_false_iff_eq, Bool.not_eq_true', Bool.not_eq_false', Bool.not_eq_true, Bool.not_eq_false, Bool.and_eq_true, Bool.or_eq_true, Bool.and_eq_false_iff, Bool.or_eq_false_iff, Int.not_lt, Int.not_le, ne_eq, gt_iff_lt, ge_iff_le] at hb') <;> (try (exfalso; omega))) | (refine .of ((Right_spec m _).mono ?_); rintro v _ ⟨rfl, rfl⟩) | (refine .of ((no_spec _ _).mono ?_); rintro v _ ⟨rfl, rfl⟩)
      all_goals exact .back rfl ⟨by (first | with_reducible rfl | ((try simp (disch := first | with_reducible assumption | omega) only [if_pos, if_neg, ans, colour, hg, err, if_false, h1, not_false_eq_true, if_true, M.zero, M.val]) <;> repeat' first | with_reducible rfl | omega | congr 1)), rfl⟩
end Go.Proofs.Yteopnmfdncjbhaa
