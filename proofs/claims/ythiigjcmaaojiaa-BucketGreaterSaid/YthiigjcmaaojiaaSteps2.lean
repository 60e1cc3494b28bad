import Derived.Test.YthiigjcmaaojiaaSteps
set_option linter.unusedSimpArgs false
set_option linter.unusedVariables false
set_option maxHeartbeats 1000000
namespace Go.Proofs.Ythiigjcmaaojiaa
open Go Go.Am
attribute [local irreducible] opsW Ww loopW callW drawW outW outDW gW cW BrW bothW vW resW DropW RdW dcallW Later.run

theorem fill_ok {b : Bk} {t : Int} (h : (fillB b t).2 = 0) : b.right ∧ okT b t ∧ fillB b t = (filled b t, 0) := by
  unfold fillB at h ⊢
  by_cases hr : b.right
  · by_cases ht : okT b t
    · exact ⟨hr, ht, by rw [if_pos hr, if_pos ht]⟩
    · rw [if_pos hr, if_neg ht] at h; simp at h
  · rw [if_neg hr] at h; simp at h

theorem Take_spec (b : Bk) (s : S) (H : Heap) : ACallK Try.prog 10 [b.val, s.val] H (fun v H' => v = ansT (takeB b s) ∧ H' = H) := by
  refine .walkW f10_ok (by simp; decide) (by decide) ?_
  by_cases hf : (fillB b s.at').2 = 0
  · obtain ⟨hr, ht, hF⟩ := fill_ok hf
    by_cases hb : okB s.by'
    · have hc := hr.cost hb
      have hb' := hb
      unfold okB at hb'
      have hlv : 0 ≤ (filled b s.at').lv ∧ (filled b s.at').lv ≤ 1099511627776 := by have h1 := filled_right hr ht; have h2 := h1.prod; unfold Bk.right at h1; omega
      have hden : (filled b s.at').den = b.den := rfl
      by_cases hl : s.by' * b.den ≤ (filled b s.at').lv
      · rw [show takeB b s = ({ filled b s.at' with lv := (filled b s.at').lv - s.by' * b.den }, true, 0) by rw [takeB, if_pos hf, if_pos hb, if_pos hl]]
        repeat' first | simp (disch := first | with_reducible assumption | omega) only [go_sem, Bool.true_and, Bool.and_true, Bool.and_self, Bool.false_and, Bool.and_false, Bool.true_or, Bool.or_true, Bool.false_or, Bool.or_false, ↓reduceIte, Nat.reduceEqDiff, Nat.reduceAdd, Nat.reduceMul, Nat.reduceSub, Nat.reduceBEq, Nat.reduceLeDiff, Nat.reduceLT, Nat.reduceMod, Nat.reduceDiv, Int.reduceToNat, Int.reducePow, Int.reduceMul, Int.reduceAdd, Int.reduceSub, Int.reduceLE, Int.reduceLT, Int.reduceNeg, Int.reduceDiv, Int.reduceMod, Int.reduceEq, Int.reduceBEq, Int.reduceBNe, f10, f10b, f10r0, f10r1, f10r2, f10r3, f10r4, f10r5, f10r6, f10r7, f10r8, f10r9, Bk.val, S.val] | (refine BrW.of (fun hb => ?_) (fun hb => ?_) <;> (have hb' := hb; try simp only [decide_eq_true_eq, decide_eq_false_iff_not, beq_iff_eq, bne_iff_ne, beq_eq_false_iff_ne, bne_eq_false_iff_eq, Bool.not_eq_true', Bool.not_eq_false', Bool.not_eq_true, Bool.not_eq_false, Bool.and_eq_true, Bool.or_eq_true, Bool.and_eq_false_iff, Bool.or_eq_false_iff, Int.not_lt, Int.not_le, ne_eq, gt_iff_lt, ge_iff_le] at hb') <;> (try (exfalso; omega))) | (refine .of ((Fill_spec b s.at' _).mono ?_); rintro v _ ⟨rfl, rfl⟩; rw [hF]; simp only [ansB, Bk.val, hden])
        all_goals exact .back rfl ⟨by (first | with_reducible rfl | ((try simp (disch := first | with_reducible assumption | omega) only [if_pos, if_neg, ansT, Bk.val]) <;> repeat' first | with_reducible rfl | omega | congr 1)), rfl⟩
      · rw [show takeB b s = (filled b s.at', false, 0) by rw [takeB, if_pos hf, if_pos hb, if_neg hl]]
        repeat' first | simp (disch := first | with_reducible assumption | omega) only [go_sem, Bool.true_and, Bool.and_true, Bool.and_self, Bool.false_and, Bool.and_false, Bool.true_or, Bool.or_true, Bool.false_or, Bool.or_false, ↓reduceIte, Nat.reduceEqDiff, Nat.reduceAdd, Nat.reduceMul, Nat.reduceSub, Nat.reduceBEq, Nat.reduceLeDiff, Nat.reduceLT, Nat.reduceMod, Nat.reduceDiv, Int.reduceToNat, Int.reducePow, Int.reduceMul, Int.reduceAdd, Int.reduceSub, Int.reduceLE, Int.reduceLT, Int.reduceNeg, Int.reduceDiv, Int.reduceMod, Int.reduceEq, Int.reduceBEq, Int.reduceBNe, f10, f10b, f10r0, f10r1, f10r2, f10r3, f10r4, f10r5, f10r6, f10r7, f10r8, f10r9, Bk.val, S.val] | (refine BrW.of (fun hb => ?_) (fun hb => ?_) <;> (have hb' := hb; try simp only [decide_eq_true_eq, decide_eq_false_iff_not, beq_iff_eq, bne_iff_ne, beq_eq_false_iff_ne, bne_eq_false_iff_eq, Bool.not_eq_true', Bool.not_eq_false', Bool.not_eq_true, Bool.not_eq_false, Bool.and_eq_true, Bool.or_eq_true, Bool.and_eq_false_iff, Bool.or_eq_false_iff, Int.not_lt, Int.not_le, ne_eq, gt_iff_lt, ge_iff_le] at hb') <;> (try (exfalso; omega))) | (refine .of ((Fill_spec b s.at' _).mono ?_); rintro v _ ⟨rfl, rfl⟩; rw [hF]; simp only [ansB, Bk.val, hden])
        all_goals exact .back rfl ⟨by (first | with_reducible rfl | ((try simp (disch := first | with_reducible assumption | omega) only [if_pos, if_neg, ansT, Bk.val]) <;> repeat' first | with_reducible rfl | omega | congr 1)), rfl⟩
    · rw [show takeB b s = (Bk.zero, false, 2) by rw [takeB, if_pos hf, if_neg hb]]
      have hb' : s.by' < 0 ∨ 1048576 < s.by' := by unfold okB at hb; omega
      repeat' first | simp (disch := first | with_reducible assumption | omega) only [go_sem, Bool.true_and, Bool.and_true, Bool.and_self, Bool.false_and, Bool.and_false, Bool.true_or, Bool.or_true, Bool.false_or, Bool.or_false, ↓reduceIte, Nat.reduceEqDiff, Nat.reduceAdd, Nat.reduceMul, Nat.reduceSub, Nat.reduceBEq, Nat.reduceLeDiff, Nat.reduceLT, Nat.reduceMod, Nat.reduceDiv, Int.reduceToNat, Int.reducePow, Int.reduceMul, Int.reduceAdd, Int.reduceSub, Int.reduceLE, Int.reduceLT, Int.reduceNeg, Int.reduceDiv, Int.reduceMod, Int.reduceEq, Int.reduceBEq, Int.reduceBNe, f10, f10b, f10r0, f10r1, f10r2, f10r3, f10r4, f10r5, f10r6, f10r7, f10r8, f10r9, Bk.val, S.val] | (refine BrW.of (fun hb => ?_) (fun hb => ?_) <;> (have hb' := hb; try simp only [decide_eq_true_eq, decide_eq_false_iff_not, beq_iff_eq, bne_iff_ne, beq_eq_false_iff_ne, bne_eq_false_iff_eq, Bool.not_eq_true', Bool.not_eq_false', Bool.not_eq_true, Bool.not_eq_false, Bool.and_eq_true, Bool.or_eq_true, Bool.and_eq_false_iff, Bool.or_eq_false_iff, Int.not_lt, Int.not_le, ne_eq, gt_iff_lt, ge_iff_le] at hb') <;> (try (exfalso; omega))) | (refine .of ((Fill_spec b s.at' _).mono ?_); rintro v _ ⟨rfl, rfl⟩; rw [hF]; simp only [ansB, Bk.val])
      all_goals exact .back rfl ⟨by (first | with_reducible rfl | ((try simp (disch := first | with_reducible assumption | omega) only [if_pos, if_neg, ansT, Bk.zero, Bk.val]) <;> repeat' first | with_reducible rfl | omega | congr 1)), rfl⟩
  · rw [show takeB b s = (Bk.zero, false, (fillB b s.at').2) by rw [takeB, if_neg hf]]
    have hf' : ((fillB b s.at').2 != 0) = true := by simpa using hf
    repeat' first | simp (disch := first | with_reducible assumption | omega) only [go_sem, Bool.true_and, Bool.and_true, Bool.and_self, Bool.false_and, Bool.and_false, Bool.true_or, Bool.or_true, Bool.false_or, Bool.or_false, ↓reduceIte, Nat.reduceEqDiff, Nat.reduceAdd, Nat.reduceMul, Nat.reduceSub, Nat.reduceBEq, Nat.reduceLeDiff, Nat.reduceLT, Nat.reduceMod, Nat.reduceDiv, Int.reduceToNat, Int.reducePow, Int.reduceMul, Int.reduceAdd, Int.reduceSub, Int.reduceLE, Int.reduceLT, Int.reduceNeg, Int.reduceDiv, Int.reduceMod, Int.reduceEq, Int.reduceBEq, Int.reduceBNe, f10, f10b, f10r0, f10r1, f10r2, f10r3, f10r4, f10r5, f10r6, f10r7, f10r8, f10r9, Bk.val, S.val] | (refine BrW.of (fun hb => ?_) (fun hb => ?_) <;> (have hb' := hb; try simp only [decide_eq_true_eq, decide_eq_false_iff_not, beq_iff_eq, bne_iff_ne, beq_eq_false_iff_ne, bne_eq_false_iff_eq, Bool.not_eq_true', Bool.not_eq_false', Bool.not_eq_true, Bool.not_eq_false, Bool.and_eq_true, Bool.or_eq_true, Bool.and_eq_false_iff, Bool.or_eq_false_iff, Int.not_lt, Int.not_le, ne_eq, gt_iff_lt, ge_iff_le] at hb') <;> (try (exfalso; omega))) | (refine .of ((Fill_spec b s.at' _).mono ?_); rintro v _ ⟨rfl, rfl⟩; simp only [ansB, Bk.val])
    all_goals exact .back rfl ⟨by (first | with_reducible rfl | ((try simp (disch := first | with_reducible assumption | omega) only [if_pos, if_neg, ansT, Bk.zero, Bk.val]) <;> repeat' first | with_reducible rfl | omega | congr 1)), rfl⟩

end Go.Proofs.Ythiigjcmaaojiaa
