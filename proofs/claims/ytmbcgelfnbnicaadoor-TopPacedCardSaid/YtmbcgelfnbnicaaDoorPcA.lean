import Derived.Test.YtmbcgelfnbnicaaDoorFns
import Derived.Test.YtmbcgelfnbnicaaDoorLib
import Derived.Test.YtmbcgelfnbnicaaDoorPcPlain
set_option linter.unusedSimpArgs false
set_option linter.unusedVariables false
set_option maxHeartbeats 2000000
set_option maxRecDepth 20000
namespace Go.Proofs.YtmbcgelfnbnicaaDoor.Pc
open Go Go.Am
attribute [local irreducible] opsW Ww loopW callW drawW outW outDW gW cW BrW bothW vW resW DropW RdW dcallW altW forkW splitW Later.run
def Bk.cells (b : Bk) : List Value := [.int .i64 b.num, .int .i64 b.den, .int .i64 b.bu, .int .i64 b.lv, .int .i64 b.at']
def Bk.val (b : Bk) : Value := .agg #[.int .i64 b.num, .int .i64 b.den, .int .i64 b.bu, .int .i64 b.lv, .int .i64 b.at']
def S.cells (s : S) : List Value := [.int .i64 s.at', .int .i64 s.by']
def S.val (s : S) : Value := .agg #[.int .i64 s.at', .int .i64 s.by']
def ansB (r : Bk × Int) : Value := .tuple #[r.1.val, .int .i64 r.2]
def ansT (r : Bk × Bool × Int) : Value := .tuple #[r.1.val, .bool r.2.1, .int .i64 r.2.2]
def ansR (r : Int × Bool × Int) : Value := .tuple #[.int .i64 r.1, .bool r.2.1, .int .i64 r.2.2]

theorem RightB_spec (b : Bk) (H : Heap) : ACallK Tryd.prog 39 [b.val] H (fun v H' => v = .bool (decide b.right) ∧ H' = H) := by
  refine .walkW f39_ok (by simp; decide) (by decide) ?_
  by_cases hc : 0 ≤ b.bu ∧ b.bu ≤ 1048576 ∧ 1 ≤ b.den ∧ b.den ≤ 1048576
  · have hp : 0 ≤ b.bu * b.den ∧ b.bu * b.den ≤ 1099511627776 := by
      refine ⟨Int.mul_nonneg hc.1 (by omega), ?_⟩
      have := Int.mul_le_mul hc.2.1 hc.2.2.2 (by omega) (by omega)
      omega
    repeat' first | simp (disch := first | with_reducible assumption | omega) only [go_sem, Bool.true_and, Bool.and_true, Bool.and_self, Bool.false_and, Bool.and_false, Bool.true_or, Bool.or_true, Bool.false_or, Bool.or_false, ↓reduceIte, Nat.reduceEqDiff, Nat.reduceAdd, Nat.reduceMul, Nat.reduceSub, Nat.reduceBEq, Nat.reduceLeDiff, Nat.reduceLT, Nat.reduceMod, Nat.reduceDiv, Int.reduceToNat, Int.reducePow, Int.reduceMul, Int.reduceAdd, Int.reduceSub, Int.reduceLE, Int.reduceLT, Int.reduceNeg, Int.reduceDiv, Int.reduceMod, Int.reduceEq, Int.reduceBEq, Int.reduceBNe, f39, f39b, f39r0, f39r1, Bk.val] | (refine BrW.of (fun hb => ?_) (fun hb => ?_) <;> (have hb' := hb; try simp only [decide_eq_true_eq, decide_eq_false_iff_not, beq_iff_eq, bne_iff_ne, beq_eq_false_iff_ne, bne_eq_false_iff_eq, Bool.not_eq_true', Bool.not_eq_false', Bool.not_eq_true, Bool.not_eq_false, Bool.and_eq_true, Bool.or_eq_true, Bool.and_eq_false_iff, Bool.or_eq_false_iff, Int.not_lt, Int.not_le, ne_eq, gt_iff_lt, ge_iff_le] at hb') <;> (try (exfalso; omega))) | (refine altW.of ?_ ?_)
    all_goals exact .back rfl ⟨by (first | with_reducible rfl | (congr 1; first | with_reducible rfl | omega | (rw [Bool.eq_iff_iff]; simp only [decide_eq_true_eq, decide_eq_false_iff_not, beq_iff_eq, bne_iff_ne, beq_eq_false_iff_ne, bne_eq_false_iff_eq, Bool.not_eq_true', Bool.not_eq_false', Bool.not_eq_true, Bool.not_eq_false, Bool.and_eq_true, Bool.or_eq_true, Bool.and_eq_false_iff, Bool.or_eq_false_iff, Int.not_lt, Int.not_le, ne_eq, gt_iff_lt, ge_iff_le, Bool.and_false, Bool.false_and, Bool.or_true, Bool.true_or, Bool.false_eq_true, true_iff, iff_true, false_iff, iff_false, eq_self, not_true_eq_false, not_false_eq_true]; try simp only [Bk.right]; try omega))), rfl⟩
  · have hf : decide b.right = false := decide_eq_false fun h => hc ⟨h.2.2.2.2.1, h.2.2.2.2.2.1, h.2.2.1, h.2.2.2.1⟩
    rw [hf]
    repeat' first | simp (disch := first | with_reducible assumption | omega) only [go_sem, Bool.true_and, Bool.and_true, Bool.and_self, Bool.false_and, Bool.and_false, Bool.true_or, Bool.or_true, Bool.false_or, Bool.or_false, ↓reduceIte, Nat.reduceEqDiff, Nat.reduceAdd, Nat.reduceMul, Nat.reduceSub, Nat.reduceBEq, Nat.reduceLeDiff, Nat.reduceLT, Nat.reduceMod, Nat.reduceDiv, Int.reduceToNat, Int.reducePow, Int.reduceMul, Int.reduceAdd, Int.reduceSub, Int.reduceLE, Int.reduceLT, Int.reduceNeg, Int.reduceDiv, Int.reduceMod, Int.reduceEq, Int.reduceBEq, Int.reduceBNe, f39, f39b, f39r0, f39r1, Bk.val] | (refine BrW.of (fun hb => ?_) (fun hb => ?_) <;> (have hb' := hb; try simp only [decide_eq_true_eq, decide_eq_false_iff_not, beq_iff_eq, bne_iff_ne, beq_eq_false_iff_ne, bne_eq_false_iff_eq, Bool.not_eq_true', Bool.not_eq_false', Bool.not_eq_true, Bool.not_eq_false, Bool.and_eq_true, Bool.or_eq_true, Bool.and_eq_false_iff, Bool.or_eq_false_iff, Int.not_lt, Int.not_le, ne_eq, gt_iff_lt, ge_iff_le] at hb') <;> (try (exfalso; omega))) | (refine altW.of ?_ ?_)
    all_goals exact .back rfl ⟨by (first | with_reducible rfl | (congr 1; first | with_reducible rfl | omega | (rw [Bool.eq_iff_iff]; simp only [decide_eq_true_eq, decide_eq_false_iff_not, beq_iff_eq, bne_iff_ne, beq_eq_false_iff_ne, bne_eq_false_iff_eq, Bool.not_eq_true', Bool.not_eq_false', Bool.not_eq_true, Bool.not_eq_false, Bool.and_eq_true, Bool.or_eq_true, Bool.and_eq_false_iff, Bool.or_eq_false_iff, Int.not_lt, Int.not_le, ne_eq, gt_iff_lt, ge_iff_le, Bool.and_false, Bool.false_and, Bool.or_true, Bool.true_or, Bool.false_eq_true, true_iff, iff_true, false_iff, iff_false, eq_self, not_true_eq_false, not_false_eq_true]; try omega))), rfl⟩

theorem Fill_spec (b : Bk) (t : Int) (H : Heap) : ACallK Tryd.prog 42 [b.val, .int .i64 t] H (fun v H' => v = ansB (fillB b t) ∧ H' = H) := by
  refine .walkW f42_ok (by simp; decide) (by decide) ?_
  by_cases hr : b.right
  · have hR : (!decide b.right) = false := by simp [hr]
    by_cases ht : okT b t
    · rw [show fillB b t = (filled b t, 0) by rw [fillB, if_pos hr, if_pos ht]]
      have p := hr.prod
      have g := hr.gone ht
      have l1 := fun h => hr.less (t := t) h
      have l2 := fun h => hr.more (t := t) h
      have hr' := hr
      unfold Bk.right at hr'
      have ht' := ht
      unfold okT at ht'
      have hz : b.num = 0 → (t - b.at') * b.num = 0 := fun h => by rw [h, Int.mul_zero]
      have hd : 0 < b.num → 0 ≤ (b.bu * b.den - b.lv) / b.num := fun h => Int.ediv_nonneg (by omega) (by omega)
      repeat' first | simp (disch := first | with_reducible assumption | omega) only [go_sem, Bool.true_and, Bool.and_true, Bool.and_self, Bool.false_and, Bool.and_false, Bool.true_or, Bool.or_true, Bool.false_or, Bool.or_false, ↓reduceIte, Nat.reduceEqDiff, Nat.reduceAdd, Nat.reduceMul, Nat.reduceSub, Nat.reduceBEq, Nat.reduceLeDiff, Nat.reduceLT, Nat.reduceMod, Nat.reduceDiv, Int.reduceToNat, Int.reducePow, Int.reduceMul, Int.reduceAdd, Int.reduceSub, Int.reduceLE, Int.reduceLT, Int.reduceNeg, Int.reduceDiv, Int.reduceMod, Int.reduceEq, Int.reduceBEq, Int.reduceBNe, f42, f42b, f42r0, f42r1, f42r2, f42r3, f42r4, f42r5, f42r6, f42r7, f42r8, f42r9, f42r10, f42r11, Bk.val] | (refine BrW.of (fun hb => ?_) (fun hb => ?_) <;> (have hb' := hb; try simp only [decide_eq_true_eq, decide_eq_false_iff_not, beq_iff_eq, bne_iff_ne, beq_eq_false_iff_ne, bne_eq_false_iff_eq, Bool.not_eq_true', Bool.not_eq_false', Bool.not_eq_true, Bool.not_eq_false, Bool.and_eq_true, Bool.or_eq_true, Bool.and_eq_false_iff, Bool.or_eq_false_iff, Int.not_lt, Int.not_le, ne_eq, gt_iff_lt, ge_iff_le] at hb') <;> (try (exfalso; omega))) | (refine altW.of ?_ ?_) | (refine .of ((RightB_spec b _).mono ?_); rintro v _ ⟨rfl, rfl⟩)
      all_goals exact .back rfl ⟨by (first | with_reducible rfl | ((try simp (disch := first | with_reducible assumption | omega) only [if_pos, if_neg, ansB, filled, Bk.val]) <;> repeat' first | with_reducible rfl | omega | congr 1)), rfl⟩
    · rw [show fillB b t = (Bk.zero, 2) by rw [fillB, if_pos hr, if_neg ht]]
      have ht' : t < b.at' ∨ 1099511627776 < t := by unfold okT at ht; omega
      repeat' first | simp (disch := first | with_reducible assumption | omega) only [go_sem, Bool.true_and, Bool.and_true, Bool.and_self, Bool.false_and, Bool.and_false, Bool.true_or, Bool.or_true, Bool.false_or, Bool.or_false, ↓reduceIte, Nat.reduceEqDiff, Nat.reduceAdd, Nat.reduceMul, Nat.reduceSub, Nat.reduceBEq, Nat.reduceLeDiff, Nat.reduceLT, Nat.reduceMod, Nat.reduceDiv, Int.reduceToNat, Int.reducePow, Int.reduceMul, Int.reduceAdd, Int.reduceSub, Int.reduceLE, Int.reduceLT, Int.reduceNeg, Int.reduceDiv, Int.reduceMod, Int.reduceEq, Int.reduceBEq, Int.reduceBNe, f42, f42b, f42r0, f42r1, f42r2, f42r3, f42r4, f42r5, f42r6, f42r7, f42r8, f42r9, f42r10, f42r11, Bk.val] | (refine BrW.of (fun hb => ?_) (fun hb => ?_) <;> (have hb' := hb; try simp only [decide_eq_true_eq, decide_eq_false_iff_not, beq_iff_eq, bne_iff_ne, beq_eq_false_iff_ne, bne_eq_false_iff_eq, Bool.not_eq_true', Bool.not_eq_false', Bool.not_eq_true, Bool.not_eq_false, Bool.and_eq_true, Bool.or_eq_true, Bool.and_eq_false_iff, Bool.or_eq_false_iff, Int.not_lt, Int.not_le, ne_eq, gt_iff_lt, ge_iff_le] at hb') <;> (try (exfalso; omega))) | (refine altW.of ?_ ?_) | (refine .of ((RightB_spec b _).mono ?_); rintro v _ ⟨rfl, rfl⟩)
      all_goals exact .back rfl ⟨by (first | with_reducible rfl | ((try simp (disch := first | with_reducible assumption | omega) only [if_pos, if_neg, ansB, Bk.zero, Bk.val]) <;> repeat' first | with_reducible rfl | omega | congr 1)), rfl⟩
  · have hR : (!decide b.right) = true := by simp [hr]
    rw [show fillB b t = (Bk.zero, 1) by rw [fillB, if_neg hr]]
    repeat' first | simp (disch := first | with_reducible assumption | omega) only [go_sem, Bool.true_and, Bool.and_true, Bool.and_self, Bool.false_and, Bool.and_false, Bool.true_or, Bool.or_true, Bool.false_or, Bool.or_false, ↓reduceIte, Nat.reduceEqDiff, Nat.reduceAdd, Nat.reduceMul, Nat.reduceSub, Nat.reduceBEq, Nat.reduceLeDiff, Nat.reduceLT, Nat.reduceMod, Nat.reduceDiv, Int.reduceToNat, Int.reducePow, Int.reduceMul, Int.reduceAdd, Int.reduceSub, Int.reduceLE, Int.reduceLT, Int.reduceNeg, Int.reduceDiv, Int.reduceMod, Int.reduceEq, Int.reduceBEq, Int.reduceBNe, f42, f42b, f42r0, f42r1, f42r2, f42r3, f42r4, f42r5, f42r6, f42r7, f42r8, f42r9, f42r10, f42r11, Bk.val] | (refine BrW.of (fun hb => ?_) (fun hb => ?_) <;> (have hb' := hb; try simp only [decide_eq_true_eq, decide_eq_false_iff_not, beq_iff_eq, bne_iff_ne, beq_eq_false_iff_ne, bne_eq_false_iff_eq, Bool.not_eq_true', Bool.not_eq_false', Bool.not_eq_true, Bool.not_eq_false, Bool.and_eq_true, Bool.or_eq_true, Bool.and_eq_false_iff, Bool.or_eq_false_iff, Int.not_lt, Int.not_le, ne_eq, gt_iff_lt, ge_iff_le] at hb') <;> (try (exfalso; omega))) | (refine altW.of ?_ ?_) | (refine .of ((RightB_spec b _).mono ?_); rintro v _ ⟨rfl, rfl⟩)
    all_goals exact .back rfl ⟨by (first | with_reducible rfl | ((try simp (disch := first | with_reducible assumption | omega) only [if_pos, if_neg, ansB, Bk.zero, Bk.val]) <;> repeat' first | with_reducible rfl | omega | congr 1)), rfl⟩

theorem fill_ok {b : Bk} {t : Int} (h : (fillB b t).2 = 0) : b.right ∧ okT b t ∧ fillB b t = (filled b t, 0) := by
  unfold fillB at h ⊢
  by_cases hr : b.right
  · by_cases ht : okT b t
    · exact ⟨hr, ht, by rw [if_pos hr, if_pos ht]⟩
    · rw [if_pos hr, if_neg ht] at h; simp at h
  · rw [if_neg hr] at h; simp at h

theorem Take_spec (b : Bk) (s : S) (H : Heap) : ACallK Tryd.prog 55 [b.val, s.val] H (fun v H' => v = ansT (takeB b s) ∧ H' = H) := by
  refine .walkW f55_ok (by simp; decide) (by decide) ?_
  by_cases hf : (fillB b s.at').2 = 0
  · obtain ⟨hr, ht, hF⟩ := fill_ok hf
    by_cases hb : okB s.by'
    · have hc := hr.cost hb
      have hb' := hb
      unfold okB at hb'
      have hlv : 0 ≤ (filled b s.at').lv ∧ (filled b s.at').lv ≤ 1099511627776 := by have h1 := filled_right hr ht; have h2 := h1.prod; unfold Bk.right at h1; omega
      have hden : (filled b s.at').den = b.den := rfl
      by_cases hl : s.by' * b.den ≤ (filled b s.at').lv
      · rw [show takeB b s = ({ filled b s.at' with lv := (filled b s.at').lv - s.by' * b.den }, true, 0) by rw [takeB, if_pos hf, if_pos hb, if_pos hl]]
        repeat' first | simp (disch := first | with_reducible assumption | omega) only [go_sem, Bool.true_and, Bool.and_true, Bool.and_self, Bool.false_and, Bool.and_false, Bool.true_or, Bool.or_true, Bool.false_or, Bool.or_false, ↓reduceIte, Nat.reduceEqDiff, Nat.reduceAdd, Nat.reduceMul, Nat.reduceSub, Nat.reduceBEq, Nat.reduceLeDiff, Nat.reduceLT, Nat.reduceMod, Nat.reduceDiv, Int.reduceToNat, Int.reducePow, Int.reduceMul, Int.reduceAdd, Int.reduceSub, Int.reduceLE, Int.reduceLT, Int.reduceNeg, Int.reduceDiv, Int.reduceMod, Int.reduceEq, Int.reduceBEq, Int.reduceBNe, f55, f55b, f55r0, f55r1, f55r2, f55r3, f55r4, f55r5, f55r6, f55r7, f55r8, f55r9, Bk.val, S.val] | (refine BrW.of (fun hb => ?_) (fun hb => ?_) <;> (have hb' := hb; try simp only [decide_eq_true_eq, decide_eq_false_iff_not, beq_iff_eq, bne_iff_ne, beq_eq_false_iff_ne, bne_eq_false_iff_eq, Bool.not_eq_true', Bool.not_eq_false', Bool.not_eq_true, Bool.not_eq_false, Bool.and_eq_true, Bool.or_eq_true, Bool.and_eq_false_iff, Bool.or_eq_false_iff, Int.not_lt, Int.not_le, ne_eq, gt_iff_lt, ge_iff_le] at hb') <;> (try (exfalso; omega))) | (refine altW.of ?_ ?_) | (refine .of ((Fill_spec b s.at' _).mono ?_); rintro v _ ⟨rfl, rfl⟩; rw [hF]; simp only [ansB, Bk.val, hden])
        all_goals exact .back rfl ⟨by (first | with_reducible rfl | ((try simp (disch := first | with_reducible assumption | omega) only [if_pos, if_neg, ansT, Bk.val]) <;> repeat' first | with_reducible rfl | omega | congr 1)), rfl⟩
      · rw [show takeB b s = (filled b s.at', false, 0) by rw [takeB, if_pos hf, if_pos hb, if_neg hl]]
        repeat' first | simp (disch := first | with_reducible assumption | omega) only [go_sem, Bool.true_and, Bool.and_true, Bool.and_self, Bool.false_and, Bool.and_false, Bool.true_or, Bool.or_true, Bool.false_or, Bool.or_false, ↓reduceIte, Nat.reduceEqDiff, Nat.reduceAdd, Nat.reduceMul, Nat.reduceSub, Nat.reduceBEq, Nat.reduceLeDiff, Nat.reduceLT, Nat.reduceMod, Nat.reduceDiv, Int.reduceToNat, Int.reducePow, Int.reduceMul, Int.reduceAdd, Int.reduceSub, Int.reduceLE, Int.reduceLT, Int.reduceNeg, Int.reduceDiv, Int.reduceMod, Int.reduceEq, Int.reduceBEq, Int.reduceBNe, f55, f55b, f55r0, f55r1, f55r2, f55r3, f55r4, f55r5, f55r6, f55r7, f55r8, f55r9, Bk.val, S.val] | (refine BrW.of (fun hb => ?_) (fun hb => ?_) <;> (have hb' := hb; try simp only [decide_eq_true_eq, decide_eq_false_iff_not, beq_iff_eq, bne_iff_ne, beq_eq_false_iff_ne, bne_eq_false_iff_eq, Bool.not_eq_true', Bool.not_eq_false', Bool.not_eq_true, Bool.not_eq_false, Bool.and_eq_true, Bool.or_eq_true, Bool.and_eq_false_iff, Bool.or_eq_false_iff, Int.not_lt, Int.not_le, ne_eq, gt_iff_lt, ge_iff_le] at hb') <;> (try (exfalso; omega))) | (refine altW.of ?_ ?_) | (refine .of ((Fill_spec b s.at' _).mono ?_); rintro v _ ⟨rfl, rfl⟩; rw [hF]; simp only [ansB, Bk.val, hden])
        all_goals exact .back rfl ⟨by (first | with_reducible rfl | ((try simp (disch := first | with_reducible assumption | omega) only [if_pos, if_neg, ansT, Bk.val]) <;> repeat' first | with_reducible rfl | omega | congr 1)), rfl⟩
    · rw [show takeB b s = (Bk.zero, false, 2) by rw [takeB, if_pos hf, if_neg hb]]
      have hb' : s.by' < 0 ∨ 1048576 < s.by' := by unfold okB at hb; omega
      repeat' first | simp (disch := first | with_reducible assumption | omega) only [go_sem, Bool.true_and, Bool.and_true, Bool.and_self, Bool.false_and, Bool.and_false, Bool.true_or, Bool.or_true, Bool.false_or, Bool.or_false, ↓reduceIte, Nat.reduceEqDiff, Nat.reduceAdd, Nat.reduceMul, Nat.reduceSub, Nat.reduceBEq, Nat.reduceLeDiff, Nat.reduceLT, Nat.reduceMod, Nat.reduceDiv, Int.reduceToNat, Int.reducePow, Int.reduceMul, Int.reduceAdd, Int.reduceSub, Int.reduceLE, Int.reduceLT, Int.reduceNeg, Int.reduceDiv, Int.reduceMod, Int.reduceEq, Int.reduceBEq, Int.reduceBNe, f55, f55b, f55r0, f55r1, f55r2, f55r3, f55r4, f55r5, f55r6, f55r7, f55r8, f55r9, Bk.val, S.val] | (refine BrW.of (fun hb => ?_) (fun hb => ?_) <;> (have hb' := hb; try simp only [decide_eq_true_eq, decide_eq_false_iff_not, beq_iff_eq, bne_iff_ne, beq_eq_false_iff_ne, bne_eq_false_iff_eq, Bool.not_eq_true', Bool.not_eq_false', Bool.not_eq_true, Bool.not_eq_false, Bool.and_eq_true, Bool.or_eq_true, Bool.and_eq_false_iff, Bool.or_eq_false_iff, Int.not_lt, Int.not_le, ne_eq, gt_iff_lt, ge_iff_le] at hb') <;> (try (exfalso; omega))) | (refine altW.of ?_ ?_) | (refine .of ((Fill_spec b s.at' _).mono ?_); rintro v _ ⟨rfl, rfl⟩; rw [hF]; simp only [ansB, Bk.val])
      all_goals exact .back rfl ⟨by (first | with_reducible rfl | ((try simp (disch := first | with_reducible assumption | omega) only [if_pos, if_neg, ansT, Bk.zero, Bk.val]) <;> repeat' first | with_reducible rfl | omega | congr 1)), rfl⟩
  · rw [show takeB b s = (Bk.zero, false, (fillB b s.at').2) by rw [takeB, if_neg hf]]
    have hf' : ((fillB b s.at').2 != 0) = true := by simpa using hf
    repeat' first | simp (disch := first | with_reducible assumption | omega) only [go_sem, Bool.true_and, Bool.and_true, Bool.and_self, Bool.false_and, Bool.and_false, Bool.true_or, Bool.or_true, Bool.false_or, Bool.or_false, ↓reduceIte, Nat.reduceEqDiff, Nat.reduceAdd, Nat.reduceMul, Nat.reduceSub, Nat.reduceBEq, Nat.reduceLeDiff, Nat.reduceLT, Nat.reduceMod, Nat.reduceDiv, Int.reduceToNat, Int.reducePow, Int.reduceMul, Int.reduceAdd, Int.reduceSub, Int.reduceLE, Int.reduceLT, Int.reduceNeg, Int.reduceDiv, Int.reduceMod, Int.reduceEq, Int.reduceBEq, Int.reduceBNe, f55, f55b, f55r0, f55r1, f55r2, f55r3, f55r4, f55r5, f55r6, f55r7, f55r8, f55r9, Bk.val, S.val] | (refine BrW.of (fun hb => ?_) (fun hb => ?_) <;> (have hb' := hb; try simp only [decide_eq_true_eq, decide_eq_false_iff_not, beq_iff_eq, bne_iff_ne, beq_eq_false_iff_ne, bne_eq_false_iff_eq, Bool.not_eq_true', Bool.not_eq_false', Bool.not_eq_true, Bool.not_eq_false, Bool.and_eq_true, Bool.or_eq_true, Bool.and_eq_false_iff, Bool.or_eq_false_iff, Int.not_lt, Int.not_le, ne_eq, gt_iff_lt, ge_iff_le] at hb') <;> (try (exfalso; omega))) | (refine altW.of ?_ ?_) | (refine .of ((Fill_spec b s.at' _).mono ?_); rintro v _ ⟨rfl, rfl⟩; simp only [ansB, Bk.val])
    all_goals exact .back rfl ⟨by (first | with_reducible rfl | ((try simp (disch := first | with_reducible assumption | omega) only [if_pos, if_neg, ansT, Bk.zero, Bk.val]) <;> repeat' first | with_reducible rfl | omega | congr 1)), rfl⟩

def full (n d b : Int) : Bk := ⟨n, d, b, b * d, 0⟩
def may (n d b : Int) : Bk := ⟨n, d, b, 0, 0⟩
theorem full_right {n d b : Int} (h : (may n d b).right) : (full n d b).right := by
  have := h.prod
  obtain ⟨h1, h2, h3, h4, h5, h6, h7, h8, h9, h10⟩ := h
  exact ⟨h1, h2, h3, h4, h5, h6, this.1, Int.le_refl _, h9, h10⟩
theorem Full_spec (n d b : Int) (H : Heap) : ACallK Tryd.prog 23 [.int .i64 n, .int .i64 d, .int .i64 b] H (fun v H' => v = ansB (if (may n d b).right then (full n d b, 0) else (Bk.zero, 2)) ∧ H' = H) := by
  by_cases hr : (may n d b).right
  · rw [if_pos hr]
    have hR : (!decide (may n d b).right) = false := by simp [hr]
    have hp := hr.prod
    simp only [may] at hp
    refine .walkW f23_ok (by simp; decide) (by decide) ?_
    repeat' first | simp (disch := first | with_reducible assumption | omega) only [go_sem, Bool.true_and, Bool.and_true, Bool.and_self, Bool.false_and, Bool.and_false, Bool.true_or, Bool.or_true, Bool.false_or, Bool.or_false, ↓reduceIte, Nat.reduceEqDiff, Nat.reduceAdd, Nat.reduceMul, Nat.reduceSub, Nat.reduceBEq, Nat.reduceLeDiff, Nat.reduceLT, Nat.reduceMod, Nat.reduceDiv, Int.reduceToNat, Int.reducePow, Int.reduceMul, Int.reduceAdd, Int.reduceSub, Int.reduceLE, Int.reduceLT, Int.reduceNeg, Int.reduceDiv, Int.reduceMod, Int.reduceEq, Int.reduceBEq, Int.reduceBNe, f23, f23b, f23r0, f23r1, f23r2, f23r3, f23r4, f23r5, Bk.val, Bk.cells] | (refine BrW.of (fun hb => ?_) (fun hb => ?_) <;> (have hb' := hb; try simp only [decide_eq_true_eq, decide_eq_false_iff_not, beq_iff_eq, bne_iff_ne, beq_eq_false_iff_ne, bne_eq_false_iff_eq, Bool.not_eq_true', Bool.not_eq_false', Bool.not_eq_true, Bool.not_eq_false, Bool.and_eq_true, Bool.or_eq_true, Bool.and_eq_false_iff, Bool.or_eq_false_iff, Int.not_lt, Int.not_le, ne_eq, gt_iff_lt, ge_iff_le] at hb') <;> (try (exfalso; omega))) | (refine altW.of ?_ ?_) | (refine .of ((RightB_spec (may n d b) _).mono ?_); rintro v _ ⟨rfl, rfl⟩)
    all_goals exact .back rfl ⟨rfl, rfl⟩
  · rw [if_neg hr]
    have hR : (!decide (may n d b).right) = true := by simp [hr]
    refine .walkW f23_ok (by simp; decide) (by decide) ?_
    repeat' first | simp (disch := first | with_reducible assumption | omega) only [go_sem, Bool.true_and, Bool.and_true, Bool.and_self, Bool.false_and, Bool.and_false, Bool.true_or, Bool.or_true, Bool.false_or, Bool.or_false, ↓reduceIte, Nat.reduceEqDiff, Nat.reduceAdd, Nat.reduceMul, Nat.reduceSub, Nat.reduceBEq, Nat.reduceLeDiff, Nat.reduceLT, Nat.reduceMod, Nat.reduceDiv, Int.reduceToNat, Int.reducePow, Int.reduceMul, Int.reduceAdd, Int.reduceSub, Int.reduceLE, Int.reduceLT, Int.reduceNeg, Int.reduceDiv, Int.reduceMod, Int.reduceEq, Int.reduceBEq, Int.reduceBNe, f23, f23b, f23r0, f23r1, f23r2, f23r3, f23r4, f23r5, Bk.val, Bk.cells] | (refine BrW.of (fun hb => ?_) (fun hb => ?_) <;> (have hb' := hb; try simp only [decide_eq_true_eq, decide_eq_false_iff_not, beq_iff_eq, bne_iff_ne, beq_eq_false_iff_ne, bne_eq_false_iff_eq, Bool.not_eq_true', Bool.not_eq_false', Bool.not_eq_true, Bool.not_eq_false, Bool.and_eq_true, Bool.or_eq_true, Bool.and_eq_false_iff, Bool.or_eq_false_iff, Int.not_lt, Int.not_le, ne_eq, gt_iff_lt, ge_iff_le] at hb') <;> (try (exfalso; omega))) | (refine altW.of ?_ ?_) | (refine .of ((RightB_spec (may n d b) _).mono ?_); rintro v _ ⟨rfl, rfl⟩)
    all_goals exact .back rfl ⟨rfl, rfl⟩



/-- A slice of whole numbers, or none at all. -/
def IsI (H : Heap) (w : Value) (l : List Int) : Prop := (w = .slice none 0 0 ∧ l = []) ∨ ∃ k o g c, w = slv k o g l.length c ∧ Ints H k o g l ∧ l.length ≤ c
theorem IsI.app {H : Heap} {w : Value} {l : List Int} (h : IsI H w l) (X : Heap) : IsI (H ++ X) w l := by
  rcases h with h | ⟨k, o, g, c, h1, h2, h3⟩
  · exact .inl h
  · exact .inr ⟨k, o, g, c, h1, h2.app X, h3⟩
theorem IsI.le {H H' : Heap} {w : Value} {l : List Int} (h : IsI H w l) (hl : Le H H') : IsI H' w l := by
  obtain ⟨X, rfl⟩ := hl
  exact h.app X
def Q.val (q : Q) (w : Value) : Value := .agg #[w, .int .i64 q.mo, .int .i64 q.mb, .int .i64 q.dr]
def Q.cells (q : Q) (w : Value) : List Value := [w, .int .i64 q.mo, .int .i64 q.mb, .int .i64 q.dr]
def O.cells (o : O) : List Value := [.int .i64 o.k, .int .i64 o.n]
def O.val (o : O) : Value := .agg #[.int .i64 o.k, .int .i64 o.n]

theorem sum_take (l : List Int) (i : Nat) (h : i < l.length) : (l.take (i + 1)).sum = (l.take i).sum + l.getD i 0 := by
  rw [take_snoc 0 l i h]; simp
theorem take_bound {l : List Int} (h : ∀ x ∈ l, 1 ≤ x ∧ x ≤ 1500) (i : Nat) : 0 ≤ (l.take i).sum ∧ (l.take i).sum ≤ 1500 * l.length := by
  have := sum_bound (l.take i) fun x hx => h x (List.mem_of_mem_take hx)
  have h2 : (l.take i).length ≤ l.length := by simp; omega
  omega

theorem Sum_spec (l : List Int) (w : Value) (H : Heap) (hI : IsI H w l) (hl : l.length ≤ 400) (hb : ∀ x ∈ l, 1 ≤ x ∧ x ≤ 1500) : ACallK Tryd.prog 54 [w] H (fun v H' => v = .int .i64 l.sum ∧ H' = H) := by
  refine .walkW f54_ok (by simp; decide) (by decide) ?_
  rcases hI with ⟨rfl, rfl⟩ | ⟨k, o, g, c, rfl, hs, hc⟩
  · repeat' first | simp (disch := first | with_reducible assumption | omega) only [go_sem, Bool.true_and, Bool.and_true, Bool.and_self, Bool.false_and, Bool.and_false, Bool.true_or, Bool.or_true, Bool.false_or, Bool.or_false, ↓reduceIte, Nat.reduceEqDiff, Nat.reduceAdd, Nat.reduceMul, Nat.reduceSub, Nat.reduceBEq, Nat.reduceLeDiff, Nat.reduceLT, Nat.reduceMod, Nat.reduceDiv, Int.reduceToNat, Int.reducePow, Int.reduceMul, Int.reduceAdd, Int.reduceSub, Int.reduceLE, Int.reduceLT, Int.reduceNeg, Int.reduceDiv, Int.reduceMod, Int.reduceEq, Int.reduceBEq, Int.reduceBNe, f54, f54b, f54r0, f54r1, f54r2, f54r3, f54r4, f54r5, f54r6, f54r8] | (refine BrW.of (fun hb => ?_) (fun hb => ?_) <;> (have hb' := hb; try simp only [decide_eq_true_eq, decide_eq_false_iff_not, beq_iff_eq, bne_iff_ne, beq_eq_false_iff_ne, bne_eq_false_iff_eq, Bool.not_eq_true', Bool.not_eq_false', Bool.not_eq_true, Bool.not_eq_false, Bool.and_eq_true, Bool.or_eq_true, Bool.and_eq_false_iff, Bool.or_eq_false_iff, Int.not_lt, Int.not_le, ne_eq, gt_iff_lt, ge_iff_le] at hb') <;> (try (exfalso; omega))) | (refine altW.of ?_ ?_)
    refine loopW.of (by decide) (fun m e J => e = [(3, .int .i64 0), (6, .slice none 0 0), (7, .int .i64 0), (8, .int .i64 0)] ∧ J = H) 0 ⟨rfl, rfl⟩ ?_
    rintro m e J ⟨rfl, rfl⟩
    repeat' first | simp (disch := first | with_reducible assumption | omega) only [go_sem, Bool.true_and, Bool.and_true, Bool.and_self, Bool.false_and, Bool.and_false, Bool.true_or, Bool.or_true, Bool.false_or, Bool.or_false, ↓reduceIte, Nat.reduceEqDiff, Nat.reduceAdd, Nat.reduceMul, Nat.reduceSub, Nat.reduceBEq, Nat.reduceLeDiff, Nat.reduceLT, Nat.reduceMod, Nat.reduceDiv, Int.reduceToNat, Int.reducePow, Int.reduceMul, Int.reduceAdd, Int.reduceSub, Int.reduceLE, Int.reduceLT, Int.reduceNeg, Int.reduceDiv, Int.reduceMod, Int.reduceEq, Int.reduceBEq, Int.reduceBNe, f54, f54b, f54r0, f54r1, f54r2, f54r3, f54r4, f54r5, f54r6, f54r8, f54l0, f54, f54b, f54r0, f54r1, f54r2, f54r3, f54r4, f54r5, f54r6, f54r8] | (refine BrW.of (fun hb => ?_) (fun hb => ?_) <;> (have hb' := hb; try simp only [decide_eq_true_eq, decide_eq_false_iff_not, beq_iff_eq, bne_iff_ne, beq_eq_false_iff_ne, bne_eq_false_iff_eq, Bool.not_eq_true', Bool.not_eq_false', Bool.not_eq_true, Bool.not_eq_false, Bool.and_eq_true, Bool.or_eq_true, Bool.and_eq_false_iff, Bool.or_eq_false_iff, Int.not_lt, Int.not_le, ne_eq, gt_iff_lt, ge_iff_le] at hb') <;> (try (exfalso; omega))) | (refine altW.of ?_ ?_)
    exact .here ⟨rfl, rfl⟩
  · obtain ⟨ro, cs, hk, hcl, hcs⟩ := hs.cell
    repeat' first | simp (disch := first | with_reducible assumption | omega) only [go_sem, Bool.true_and, Bool.and_true, Bool.and_self, Bool.false_and, Bool.and_false, Bool.true_or, Bool.or_true, Bool.false_or, Bool.or_false, ↓reduceIte, Nat.reduceEqDiff, Nat.reduceAdd, Nat.reduceMul, Nat.reduceSub, Nat.reduceBEq, Nat.reduceLeDiff, Nat.reduceLT, Nat.reduceMod, Nat.reduceDiv, Int.reduceToNat, Int.reducePow, Int.reduceMul, Int.reduceAdd, Int.reduceSub, Int.reduceLE, Int.reduceLT, Int.reduceNeg, Int.reduceDiv, Int.reduceMod, Int.reduceEq, Int.reduceBEq, Int.reduceBNe, f54, f54b, f54r0, f54r1, f54r2, f54r3, f54r4, f54r5, f54r6, f54r8, hk] | (refine BrW.of (fun hb => ?_) (fun hb => ?_) <;> (have hb' := hb; try simp only [decide_eq_true_eq, decide_eq_false_iff_not, beq_iff_eq, bne_iff_ne, beq_eq_false_iff_ne, bne_eq_false_iff_eq, Bool.not_eq_true', Bool.not_eq_false', Bool.not_eq_true, Bool.not_eq_false, Bool.and_eq_true, Bool.or_eq_true, Bool.and_eq_false_iff, Bool.or_eq_false_iff, Int.not_lt, Int.not_le, ne_eq, gt_iff_lt, ge_iff_le] at hb') <;> (try (exfalso; omega))) | (refine altW.of ?_ ?_)
    refine loopW.of (by decide) (fun m e J => ∃ i : Nat, e = [(3, .int .i64 (l.take i).sum), (6, slv k o g l.length c), (7, .int .i64 l.length), (8, .int .i64 i)] ∧ J = H ∧ i ≤ l.length ∧ m = l.length - i) l.length ⟨0, rfl, rfl, by omega, rfl⟩ ?_
    rintro m e J ⟨i, rfl, rfl, hi, rfl⟩
    by_cases hlt : i < l.length
    · have e0 := hcs i hlt
      have hx := hb _ (getD_mem (d := 0) hlt)
      have hst := sum_take l i hlt
      have b1 := take_bound hb i
      generalize (l.take i).sum = S at *
      generalize l.getD i 0 = x at *
      clear hb hcs
      repeat' first | simp (disch := first | with_reducible assumption | omega) only [go_sem, Bool.true_and, Bool.and_true, Bool.and_self, Bool.false_and, Bool.and_false, Bool.true_or, Bool.or_true, Bool.false_or, Bool.or_false, ↓reduceIte, Nat.reduceEqDiff, Nat.reduceAdd, Nat.reduceMul, Nat.reduceSub, Nat.reduceBEq, Nat.reduceLeDiff, Nat.reduceLT, Nat.reduceMod, Nat.reduceDiv, Int.reduceToNat, Int.reducePow, Int.reduceMul, Int.reduceAdd, Int.reduceSub, Int.reduceLE, Int.reduceLT, Int.reduceNeg, Int.reduceDiv, Int.reduceMod, Int.reduceEq, Int.reduceBEq, Int.reduceBNe, f54, f54b, f54r0, f54r1, f54r2, f54r3, f54r4, f54r5, f54r6, f54r8, f54l0, hk, e0] | (refine BrW.of (fun hb => ?_) (fun hb => ?_) <;> (have hb' := hb; try simp only [decide_eq_true_eq, decide_eq_false_iff_not, beq_iff_eq, bne_iff_ne, beq_eq_false_iff_ne, bne_eq_false_iff_eq, Bool.not_eq_true', Bool.not_eq_false', Bool.not_eq_true, Bool.not_eq_false, Bool.and_eq_true, Bool.or_eq_true, Bool.and_eq_false_iff, Bool.or_eq_false_iff, Int.not_lt, Int.not_le, ne_eq, gt_iff_lt, ge_iff_le] at hb') <;> (try (exfalso; omega))) | (refine altW.of ?_ ?_)
      refine RdW.keep [3, 6, 7, 8] (l.length - (i + 1)) (by omega) ?_
      simp (disch := first | with_reducible assumption | omega) only [go_sem, Bool.true_and, Bool.and_true, Bool.and_self, Bool.false_and, Bool.and_false, Bool.true_or, Bool.or_true, Bool.false_or, Bool.or_false, ↓reduceIte, Nat.reduceEqDiff, Nat.reduceAdd, Nat.reduceMul, Nat.reduceSub, Nat.reduceBEq, Nat.reduceLeDiff, Nat.reduceLT, Nat.reduceMod, Nat.reduceDiv, Int.reduceToNat, Int.reducePow, Int.reduceMul, Int.reduceAdd, Int.reduceSub, Int.reduceLE, Int.reduceLT, Int.reduceNeg, Int.reduceDiv, Int.reduceMod, Int.reduceEq, Int.reduceBEq, Int.reduceBNe]
      exact ⟨i + 1, by rw [hst]; rfl, by omega, rfl⟩
    · obtain rfl : i = l.length := by omega
      rw [List.take_length]
      repeat' first | simp (disch := first | with_reducible assumption | omega) only [go_sem, Bool.true_and, Bool.and_true, Bool.and_self, Bool.false_and, Bool.and_false, Bool.true_or, Bool.or_true, Bool.false_or, Bool.or_false, ↓reduceIte, Nat.reduceEqDiff, Nat.reduceAdd, Nat.reduceMul, Nat.reduceSub, Nat.reduceBEq, Nat.reduceLeDiff, Nat.reduceLT, Nat.reduceMod, Nat.reduceDiv, Int.reduceToNat, Int.reducePow, Int.reduceMul, Int.reduceAdd, Int.reduceSub, Int.reduceLE, Int.reduceLT, Int.reduceNeg, Int.reduceDiv, Int.reduceMod, Int.reduceEq, Int.reduceBEq, Int.reduceBNe, f54, f54b, f54r0, f54r1, f54r2, f54r3, f54r4, f54r5, f54r6, f54r8, f54l0, f54, f54b, f54r0, f54r1, f54r2, f54r3, f54r4, f54r5, f54r6, f54r8] | (refine BrW.of (fun hb => ?_) (fun hb => ?_) <;> (have hb' := hb; try simp only [decide_eq_true_eq, decide_eq_false_iff_not, beq_iff_eq, bne_iff_ne, beq_eq_false_iff_ne, bne_eq_false_iff_eq, Bool.not_eq_true', Bool.not_eq_false', Bool.not_eq_true, Bool.not_eq_false, Bool.and_eq_true, Bool.or_eq_true, Bool.and_eq_false_iff, Bool.or_eq_false_iff, Int.not_lt, Int.not_le, ne_eq, gt_iff_lt, ge_iff_le] at hb') <;> (try (exfalso; omega))) | (refine altW.of ?_ ?_)
      exact .here ⟨rfl, rfl⟩

theorem not_right {l : List Int} {mo mb dr : Int} (h : ¬ (0 ≤ mo ∧ mo ≤ 400 ∧ 0 ≤ mb ∧ mb ≤ 1073741824 ∧ 0 ≤ dr ∧ dr ≤ 1099511627776 ∧ (l.length : Int) ≤ mo)) : decide (Q.right ⟨l, mo, mb, dr⟩) = false :=
  decide_eq_false fun hr => h ⟨hr.1, hr.2.1, hr.2.2.1, hr.2.2.2.1, hr.2.2.2.2.1, hr.2.2.2.2.2.1, hr.2.2.2.2.2.2.1⟩
theorem right_iff {l : List Int} {mo mb dr : Int} (h : 0 ≤ mo ∧ mo ≤ 400 ∧ 0 ≤ mb ∧ mb ≤ 1073741824 ∧ 0 ≤ dr ∧ dr ≤ 1099511627776 ∧ (l.length : Int) ≤ mo) (hx : ∀ x ∈ l, 1 ≤ x ∧ x ≤ 1500) : decide (Q.right ⟨l, mo, mb, dr⟩) = decide (l.sum ≤ mb) := by
  rw [Bool.eq_iff_iff]
  simp only [decide_eq_true_eq]
  exact ⟨fun hr => hr.2.2.2.2.2.2.2.2, fun hs => ⟨h.1, h.2.1, h.2.2.1, h.2.2.2.1, h.2.2.2.2.1, h.2.2.2.2.2.1, h.2.2.2.2.2.2, hx, hs⟩⟩
theorem Right_spec (q : Q) (w : Value) (H : Heap) (hI : IsI H w q.l) (hB : q.l.length ≤ 9223372036854775807) : ACallK Tryd.prog 53 [q.val w] H (fun v H' => v = .bool (decide q.right) ∧ H' = H) := by
  refine .walkW f53_ok (by simp; decide) (by decide) ?_
  obtain ⟨l, mo, mb, dr⟩ := q
  simp only at hI hB
  have hI0 := hI
  by_cases hr : 0 ≤ mo ∧ mo ≤ 400 ∧ 0 ≤ mb ∧ mb ≤ 1073741824 ∧ 0 ≤ dr ∧ dr ≤ 1099511627776 ∧ (l.length : Int) ≤ mo
  · have hs := fun H' hI' hb => Sum_spec l w H' hI' (by omega) hb
    rcases hI with ⟨rfl, rfl⟩ | ⟨k, o, g, c, rfl, hi, hc⟩
    · have hs0 := hs (H ++ [.cells 0 0 false [.slice none 0 0, .int .i64 mo, .int .i64 mb, .int .i64 dr]]) (hI0.app _) (by simp)
      have hR := right_iff hr (by simp)
      rw [hR]
      clear hs
      repeat' first | simp (disch := first | with_reducible assumption | omega) only [go_sem, Bool.true_and, Bool.and_true, Bool.and_self, Bool.false_and, Bool.and_false, Bool.true_or, Bool.or_true, Bool.false_or, Bool.or_false, ↓reduceIte, Nat.reduceEqDiff, Nat.reduceAdd, Nat.reduceMul, Nat.reduceSub, Nat.reduceBEq, Nat.reduceLeDiff, Nat.reduceLT, Nat.reduceMod, Nat.reduceDiv, Int.reduceToNat, Int.reducePow, Int.reduceMul, Int.reduceAdd, Int.reduceSub, Int.reduceLE, Int.reduceLT, Int.reduceNeg, Int.reduceDiv, Int.reduceMod, Int.reduceEq, Int.reduceBEq, Int.reduceBNe, f53, f53b, f53r0, f53r1, f53r2, f53r3, f53r4, f53r5, f53r6, f53r7, f53r8, f53r10, Q.val] | (refine BrW.of (fun hb => ?_) (fun hb => ?_) <;> (have hb' := hb; try simp only [decide_eq_true_eq, decide_eq_false_iff_not, beq_iff_eq, bne_iff_ne, beq_eq_false_iff_ne, bne_eq_false_iff_eq, Bool.not_eq_true', Bool.not_eq_false', Bool.not_eq_true, Bool.not_eq_false, Bool.and_eq_true, Bool.or_eq_true, Bool.and_eq_false_iff, Bool.or_eq_false_iff, Int.not_lt, Int.not_le, ne_eq, gt_iff_lt, ge_iff_le] at hb') <;> (try (exfalso; omega))) | (refine altW.of ?_ ?_)
      refine loopW.of (by decide) (fun m e J => e = [(1, .pointer (some ⟨H.length, 0, some 1⟩)), (42, .slice none 0 0), (43, .int .i64 0), (44, .int .i64 0)] ∧ J = H ++ [.cells 0 0 false [.slice none 0 0, .int .i64 mo, .int .i64 mb, .int .i64 dr]]) 0 ⟨rfl, rfl⟩ ?_
      rintro m e J ⟨rfl, rfl⟩
      repeat' first | simp (disch := first | with_reducible assumption | omega) only [go_sem, Bool.true_and, Bool.and_true, Bool.and_self, Bool.false_and, Bool.and_false, Bool.true_or, Bool.or_true, Bool.false_or, Bool.or_false, ↓reduceIte, Nat.reduceEqDiff, Nat.reduceAdd, Nat.reduceMul, Nat.reduceSub, Nat.reduceBEq, Nat.reduceLeDiff, Nat.reduceLT, Nat.reduceMod, Nat.reduceDiv, Int.reduceToNat, Int.reducePow, Int.reduceMul, Int.reduceAdd, Int.reduceSub, Int.reduceLE, Int.reduceLT, Int.reduceNeg, Int.reduceDiv, Int.reduceMod, Int.reduceEq, Int.reduceBEq, Int.reduceBNe, f53, f53b, f53r0, f53r1, f53r2, f53r3, f53r4, f53r5, f53r6, f53r7, f53r8, f53r10, f53l0, f53, f53b, f53r0, f53r1, f53r2, f53r3, f53r4, f53r5, f53r6, f53r7, f53r8, f53r10] | (refine BrW.of (fun hb => ?_) (fun hb => ?_) <;> (have hb' := hb; try simp only [decide_eq_true_eq, decide_eq_false_iff_not, beq_iff_eq, bne_iff_ne, beq_eq_false_iff_ne, bne_eq_false_iff_eq, Bool.not_eq_true', Bool.not_eq_false', Bool.not_eq_true, Bool.not_eq_false, Bool.and_eq_true, Bool.or_eq_true, Bool.and_eq_false_iff, Bool.or_eq_false_iff, Int.not_lt, Int.not_le, ne_eq, gt_iff_lt, ge_iff_le] at hb') <;> (try (exfalso; omega))) | (refine altW.of ?_ ?_) | (refine dcallW.of _ _ hs0 ?_) | (refine callW.ex _ _ hs0 ?_)
      all_goals exact .back rfl ⟨rfl, rfl⟩
    · obtain ⟨ro, cs, hk, hcl, hcs⟩ := hi.cell
      repeat' first | simp (disch := first | with_reducible assumption | omega) only [go_sem, Bool.true_and, Bool.and_true, Bool.and_self, Bool.false_and, Bool.and_false, Bool.true_or, Bool.or_true, Bool.false_or, Bool.or_false, ↓reduceIte, Nat.reduceEqDiff, Nat.reduceAdd, Nat.reduceMul, Nat.reduceSub, Nat.reduceBEq, Nat.reduceLeDiff, Nat.reduceLT, Nat.reduceMod, Nat.reduceDiv, Int.reduceToNat, Int.reducePow, Int.reduceMul, Int.reduceAdd, Int.reduceSub, Int.reduceLE, Int.reduceLT, Int.reduceNeg, Int.reduceDiv, Int.reduceMod, Int.reduceEq, Int.reduceBEq, Int.reduceBNe, f53, f53b, f53r0, f53r1, f53r2, f53r3, f53r4, f53r5, f53r6, f53r7, f53r8, f53r10, Q.val, hk, get_old hk] | (refine BrW.of (fun hb => ?_) (fun hb => ?_) <;> (have hb' := hb; try simp only [decide_eq_true_eq, decide_eq_false_iff_not, beq_iff_eq, bne_iff_ne, beq_eq_false_iff_ne, bne_eq_false_iff_eq, Bool.not_eq_true', Bool.not_eq_false', Bool.not_eq_true, Bool.not_eq_false, Bool.and_eq_true, Bool.or_eq_true, Bool.and_eq_false_iff, Bool.or_eq_false_iff, Int.not_lt, Int.not_le, ne_eq, gt_iff_lt, ge_iff_le] at hb') <;> (try (exfalso; omega))) | (refine altW.of ?_ ?_)
      generalize hG : H ++ [AObj.cells 0 0 false [slv k o g l.length c, .int .i64 mo, .int .i64 mb, .int .i64 dr]] = G at *
      refine loopW.of (by decide) (fun m e J => ∃ i : Nat, e = [(1, .pointer (some ⟨H.length, 0, some 1⟩)), (42, slv k o g l.length c), (43, .int .i64 l.length), (44, .int .i64 i)] ∧ J = G ∧ i ≤ l.length ∧ m = l.length - i ∧ ∀ x ∈ l.take i, 1 ≤ x ∧ x ≤ 1500) l.length ⟨0, rfl, rfl, by omega, rfl, by simp⟩ ?_
      rintro m e J ⟨i, rfl, rfl, hi', rfl, hinv⟩
      subst hG
      by_cases hlt : i < l.length
      · have e0 := hcs i hlt
        have hm := getD_mem (d := 0) hlt
        have hst := take_snoc 0 l i hlt
        by_cases hx : 1 ≤ l.getD i 0 ∧ l.getD i 0 ≤ 1500
        · have hinv2 : ∀ x ∈ l.take (i + 1), 1 ≤ x ∧ x ≤ 1500 := fun x hx' => by
            rw [hst] at hx'
            rcases List.mem_append.1 hx' with h | h
            · exact hinv x h
            · rw [List.mem_singleton.1 h]; exact hx
          clear hm hst hinv hs hcs
          generalize l.getD i 0 = x at *
          repeat' first | simp (disch := first | with_reducible assumption | omega) only [go_sem, Bool.true_and, Bool.and_true, Bool.and_self, Bool.false_and, Bool.and_false, Bool.true_or, Bool.or_true, Bool.false_or, Bool.or_false, ↓reduceIte, Nat.reduceEqDiff, Nat.reduceAdd, Nat.reduceMul, Nat.reduceSub, Nat.reduceBEq, Nat.reduceLeDiff, Nat.reduceLT, Nat.reduceMod, Nat.reduceDiv, Int.reduceToNat, Int.reducePow, Int.reduceMul, Int.reduceAdd, Int.reduceSub, Int.reduceLE, Int.reduceLT, Int.reduceNeg, Int.reduceDiv, Int.reduceMod, Int.reduceEq, Int.reduceBEq, Int.reduceBNe, f53, f53b, f53r0, f53r1, f53r2, f53r3, f53r4, f53r5, f53r6, f53r7, f53r8, f53r10, f53l0, get_old hk, e0] | (refine BrW.of (fun hb => ?_) (fun hb => ?_) <;> (have hb' := hb; try simp only [decide_eq_true_eq, decide_eq_false_iff_not, beq_iff_eq, bne_iff_ne, beq_eq_false_iff_ne, bne_eq_false_iff_eq, Bool.not_eq_true', Bool.not_eq_false', Bool.not_eq_true, Bool.not_eq_false, Bool.and_eq_true, Bool.or_eq_true, Bool.and_eq_false_iff, Bool.or_eq_false_iff, Int.not_lt, Int.not_le, ne_eq, gt_iff_lt, ge_iff_le] at hb') <;> (try (exfalso; omega))) | (refine altW.of ?_ ?_)
          refine RdW.keep [1, 42, 43, 44] (l.length - (i + 1)) (by omega) ?_
          simp (disch := first | with_reducible assumption | omega) only [go_sem, Bool.true_and, Bool.and_true, Bool.and_self, Bool.false_and, Bool.and_false, Bool.true_or, Bool.or_true, Bool.false_or, Bool.or_false, ↓reduceIte, Nat.reduceEqDiff, Nat.reduceAdd, Nat.reduceMul, Nat.reduceSub, Nat.reduceBEq, Nat.reduceLeDiff, Nat.reduceLT, Nat.reduceMod, Nat.reduceDiv, Int.reduceToNat, Int.reducePow, Int.reduceMul, Int.reduceAdd, Int.reduceSub, Int.reduceLE, Int.reduceLT, Int.reduceNeg, Int.reduceDiv, Int.reduceMod, Int.reduceEq, Int.reduceBEq, Int.reduceBNe]
          exact ⟨i + 1, rfl, by omega, rfl, hinv2⟩
        · have hf : decide (Q.right ⟨l, mo, mb, dr⟩) = false := decide_eq_false fun hr => hx (hr.2.2.2.2.2.2.2.1 _ hm)
          rw [hf]
          clear hm hst hinv hs hcs hf
          generalize l.getD i 0 = x at *
          repeat' first | simp (disch := first | with_reducible assumption | omega) only [go_sem, Bool.true_and, Bool.and_true, Bool.and_self, Bool.false_and, Bool.and_false, Bool.true_or, Bool.or_true, Bool.false_or, Bool.or_false, ↓reduceIte, Nat.reduceEqDiff, Nat.reduceAdd, Nat.reduceMul, Nat.reduceSub, Nat.reduceBEq, Nat.reduceLeDiff, Nat.reduceLT, Nat.reduceMod, Nat.reduceDiv, Int.reduceToNat, Int.reducePow, Int.reduceMul, Int.reduceAdd, Int.reduceSub, Int.reduceLE, Int.reduceLT, Int.reduceNeg, Int.reduceDiv, Int.reduceMod, Int.reduceEq, Int.reduceBEq, Int.reduceBNe, f53, f53b, f53r0, f53r1, f53r2, f53r3, f53r4, f53r5, f53r6, f53r7, f53r8, f53r10, f53l0, f53, f53b, f53r0, f53r1, f53r2, f53r3, f53r4, f53r5, f53r6, f53r7, f53r8, f53r10, get_old hk, e0] | (refine BrW.of (fun hb => ?_) (fun hb => ?_) <;> (have hb' := hb; try simp only [decide_eq_true_eq, decide_eq_false_iff_not, beq_iff_eq, bne_iff_ne, beq_eq_false_iff_ne, bne_eq_false_iff_eq, Bool.not_eq_true', Bool.not_eq_false', Bool.not_eq_true, Bool.not_eq_false, Bool.and_eq_true, Bool.or_eq_true, Bool.and_eq_false_iff, Bool.or_eq_false_iff, Int.not_lt, Int.not_le, ne_eq, gt_iff_lt, ge_iff_le] at hb') <;> (try (exfalso; omega))) | (refine altW.of ?_ ?_)
          all_goals exact .back rfl ⟨rfl, rfl⟩
      · obtain rfl : i = l.length := by omega
        rw [List.take_length] at hinv
        have hs0 := hs (H ++ [AObj.cells 0 0 false [slv k o g l.length c, .int .i64 mo, .int .i64 mb, .int .i64 dr]]) (hI0.app _) hinv
        rw [right_iff hr hinv]
        clear hs hcs hinv
        generalize l.sum = S at *
        repeat' first | simp (disch := first | with_reducible assumption | omega) only [go_sem, Bool.true_and, Bool.and_true, Bool.and_self, Bool.false_and, Bool.and_false, Bool.true_or, Bool.or_true, Bool.false_or, Bool.or_false, ↓reduceIte, Nat.reduceEqDiff, Nat.reduceAdd, Nat.reduceMul, Nat.reduceSub, Nat.reduceBEq, Nat.reduceLeDiff, Nat.reduceLT, Nat.reduceMod, Nat.reduceDiv, Int.reduceToNat, Int.reducePow, Int.reduceMul, Int.reduceAdd, Int.reduceSub, Int.reduceLE, Int.reduceLT, Int.reduceNeg, Int.reduceDiv, Int.reduceMod, Int.reduceEq, Int.reduceBEq, Int.reduceBNe, f53, f53b, f53r0, f53r1, f53r2, f53r3, f53r4, f53r5, f53r6, f53r7, f53r8, f53r10, f53l0, f53, f53b, f53r0, f53r1, f53r2, f53r3, f53r4, f53r5, f53r6, f53r7, f53r8, f53r10] | (refine BrW.of (fun hb => ?_) (fun hb => ?_) <;> (have hb' := hb; try simp only [decide_eq_true_eq, decide_eq_false_iff_not, beq_iff_eq, bne_iff_ne, beq_eq_false_iff_ne, bne_eq_false_iff_eq, Bool.not_eq_true', Bool.not_eq_false', Bool.not_eq_true, Bool.not_eq_false, Bool.and_eq_true, Bool.or_eq_true, Bool.and_eq_false_iff, Bool.or_eq_false_iff, Int.not_lt, Int.not_le, ne_eq, gt_iff_lt, ge_iff_le] at hb') <;> (try (exfalso; omega))) | (refine altW.of ?_ ?_) | (refine dcallW.of _ _ hs0 ?_) | (refine callW.ex _ _ hs0 ?_)
        all_goals exact .back rfl ⟨rfl, rfl⟩
  · rw [not_right hr]
    rcases hI with ⟨rfl, rfl⟩ | ⟨k, o, g, c, rfl, hi, hc⟩
    · rw [show ((List.length ([] : List Int) : Nat) : Int) = 0 from rfl] at hr
      repeat' first | simp (disch := first | with_reducible assumption | omega) only [go_sem, Bool.true_and, Bool.and_true, Bool.and_self, Bool.false_and, Bool.and_false, Bool.true_or, Bool.or_true, Bool.false_or, Bool.or_false, ↓reduceIte, Nat.reduceEqDiff, Nat.reduceAdd, Nat.reduceMul, Nat.reduceSub, Nat.reduceBEq, Nat.reduceLeDiff, Nat.reduceLT, Nat.reduceMod, Nat.reduceDiv, Int.reduceToNat, Int.reducePow, Int.reduceMul, Int.reduceAdd, Int.reduceSub, Int.reduceLE, Int.reduceLT, Int.reduceNeg, Int.reduceDiv, Int.reduceMod, Int.reduceEq, Int.reduceBEq, Int.reduceBNe, f53, f53b, f53r0, f53r1, f53r2, f53r3, f53r4, f53r5, f53r6, f53r7, f53r8, f53r10, Q.val] | (refine BrW.of (fun hb => ?_) (fun hb => ?_) <;> (have hb' := hb; try simp only [decide_eq_true_eq, decide_eq_false_iff_not, beq_iff_eq, bne_iff_ne, beq_eq_false_iff_ne, bne_eq_false_iff_eq, Bool.not_eq_true', Bool.not_eq_false', Bool.not_eq_true, Bool.not_eq_false, Bool.and_eq_true, Bool.or_eq_true, Bool.and_eq_false_iff, Bool.or_eq_false_iff, Int.not_lt, Int.not_le, ne_eq, gt_iff_lt, ge_iff_le] at hb') <;> (try (exfalso; omega))) | (refine altW.of ?_ ?_)
      all_goals exact .back rfl ⟨rfl, rfl⟩
    · obtain ⟨ro, cs, hk, hcl, hcs⟩ := hi.cell
      repeat' first | simp (disch := first | with_reducible assumption | omega) only [go_sem, Bool.true_and, Bool.and_true, Bool.and_self, Bool.false_and, Bool.and_false, Bool.true_or, Bool.or_true, Bool.false_or, Bool.or_false, ↓reduceIte, Nat.reduceEqDiff, Nat.reduceAdd, Nat.reduceMul, Nat.reduceSub, Nat.reduceBEq, Nat.reduceLeDiff, Nat.reduceLT, Nat.reduceMod, Nat.reduceDiv, Int.reduceToNat, Int.reducePow, Int.reduceMul, Int.reduceAdd, Int.reduceSub, Int.reduceLE, Int.reduceLT, Int.reduceNeg, Int.reduceDiv, Int.reduceMod, Int.reduceEq, Int.reduceBEq, Int.reduceBNe, f53, f53b, f53r0, f53r1, f53r2, f53r3, f53r4, f53r5, f53r6, f53r7, f53r8, f53r10, Q.val, hk, get_old hk] | (refine BrW.of (fun hb => ?_) (fun hb => ?_) <;> (have hb' := hb; try simp only [decide_eq_true_eq, decide_eq_false_iff_not, beq_iff_eq, bne_iff_ne, beq_eq_false_iff_ne, bne_eq_false_iff_eq, Bool.not_eq_true', Bool.not_eq_false', Bool.not_eq_true, Bool.not_eq_false, Bool.and_eq_true, Bool.or_eq_true, Bool.and_eq_false_iff, Bool.or_eq_false_iff, Int.not_lt, Int.not_le, ne_eq, gt_iff_lt, ge_iff_le] at hb') <;> (try (exfalso; omega))) | (refine altW.of ?_ ?_)
      all_goals exact .back rfl ⟨rfl, rfl⟩
theorem CloneI_spec (l : List Int) (k o g c : Nat) (H : Heap) (hs : Tbl Int ienc 1 0 H k o g l) (hl : l.length ≤ 1099511627776) (hc : l.length ≤ c) :
    ACallK Tryd.prog 25 [slv k o g l.length c] H (fun v H' => ∃ g', v = slv H.length 0 g' l.length l.length ∧ H' = H ++ [.cells g' 1 false (flat' ienc l)]) := by
  obtain ⟨ro, cs, hk, hle, hcs⟩ := hs.at'
  have ht := Tbl.cells (enc := ienc) (fun _ => rfl) hle hcs
  try simp only [Nat.mul_one] at ht
  refine .walkW f25_ok (by simp; decide) (by decide) ?_
  have hkn := get_old hk
  simp (disch := first | with_reducible assumption | omega) only [go_sem, Bool.true_and, Bool.and_true, Bool.and_self, Bool.false_and, Bool.and_false, Bool.true_or, Bool.or_true, Bool.false_or, Bool.or_false, ↓reduceIte, Nat.reduceEqDiff, Nat.reduceAdd, Nat.reduceMul, Nat.reduceSub, Nat.reduceBEq, Nat.reduceLeDiff, Nat.reduceLT, Nat.reduceMod, Nat.reduceDiv, Int.reduceToNat, Int.reducePow, Int.reduceMul, Int.reduceAdd, Int.reduceSub, Int.reduceLE, Int.reduceLT, Int.reduceNeg, Int.reduceDiv, Int.reduceMod, Int.reduceEq, Int.reduceBEq, Int.reduceBNe, f25, f25b, f25r0, f25r1, f25r2, f25r3, hk]
  refine .of ?_ (fun hn => ?_)
  · by_cases hz : l.length = 0
    · have hb : flat' ienc l = [] := by rw [List.length_eq_zero_iff.1 hz]; rfl
      simp (disch := first | with_reducible assumption | omega) only [go_sem, Bool.true_and, Bool.and_true, Bool.and_self, Bool.false_and, Bool.and_false, Bool.true_or, Bool.or_true, Bool.false_or, Bool.or_false, ↓reduceIte, Nat.reduceEqDiff, Nat.reduceAdd, Nat.reduceMul, Nat.reduceSub, Nat.reduceBEq, Nat.reduceLeDiff, Nat.reduceLT, Nat.reduceMod, Nat.reduceDiv, Int.reduceToNat, Int.reducePow, Int.reduceMul, Int.reduceAdd, Int.reduceSub, Int.reduceLE, Int.reduceLT, Int.reduceNeg, Int.reduceDiv, Int.reduceMod, Int.reduceEq, Int.reduceBEq, Int.reduceBNe, f25, f25b, f25r0, f25r1, f25r2, f25r3, hk, hkn, hz]
      exact .here ⟨0, by rw [hz], by rw [hb]⟩
    · have hz' : ¬ l.length ≤ 0 := by omega
      simp (disch := first | with_reducible assumption | omega) only [go_sem, Bool.true_and, Bool.and_true, Bool.and_self, Bool.false_and, Bool.and_false, Bool.true_or, Bool.or_true, Bool.false_or, Bool.or_false, ↓reduceIte, Nat.reduceEqDiff, Nat.reduceAdd, Nat.reduceMul, Nat.reduceSub, Nat.reduceBEq, Nat.reduceLeDiff, Nat.reduceLT, Nat.reduceMod, Nat.reduceDiv, Int.reduceToNat, Int.reducePow, Int.reduceMul, Int.reduceAdd, Int.reduceSub, Int.reduceLE, Int.reduceLT, Int.reduceNeg, Int.reduceDiv, Int.reduceMod, Int.reduceEq, Int.reduceBEq, Int.reduceBNe, f25, f25b, f25r0, f25r1, f25r2, f25r3, hk, hkn, hz, hz', ht, List.take_zero, List.drop_nil]
      exact .here ⟨1, rfl, rfl⟩
  · have hz : l.length = 0 := by have : c = 0 := by simpa using hn
                                 omega
    have hb : flat' ienc l = [] := by rw [List.length_eq_zero_iff.1 hz]; rfl
    simp (disch := first | with_reducible assumption | omega) only [go_sem, Bool.true_and, Bool.and_true, Bool.and_self, Bool.false_and, Bool.and_false, Bool.true_or, Bool.or_true, Bool.false_or, Bool.or_false, ↓reduceIte, Nat.reduceEqDiff, Nat.reduceAdd, Nat.reduceMul, Nat.reduceSub, Nat.reduceBEq, Nat.reduceLeDiff, Nat.reduceLT, Nat.reduceMod, Nat.reduceDiv, Int.reduceToNat, Int.reducePow, Int.reduceMul, Int.reduceAdd, Int.reduceSub, Int.reduceLE, Int.reduceLT, Int.reduceNeg, Int.reduceDiv, Int.reduceMod, Int.reduceEq, Int.reduceBEq, Int.reduceBNe, f25, f25b, f25r0, f25r1, f25r2, f25r3, hk]
    refine .ghost 1 false ⟨0, by rw [hz], by rw [hb]⟩


theorem CloneI_nil (H : Heap) : ACallK Tryd.prog 25 [.slice none 0 0] H (fun v H' => v = .slice none 0 0 ∧ H' = H) := by
  refine .walkW f25_ok (by simp; decide) (by decide) ?_
  repeat' first | simp (disch := first | with_reducible assumption | omega) only [go_sem, Bool.true_and, Bool.and_true, Bool.and_self, Bool.false_and, Bool.and_false, Bool.true_or, Bool.or_true, Bool.false_or, Bool.or_false, ↓reduceIte, Nat.reduceEqDiff, Nat.reduceAdd, Nat.reduceMul, Nat.reduceSub, Nat.reduceBEq, Nat.reduceLeDiff, Nat.reduceLT, Nat.reduceMod, Nat.reduceDiv, Int.reduceToNat, Int.reducePow, Int.reduceMul, Int.reduceAdd, Int.reduceSub, Int.reduceLE, Int.reduceLT, Int.reduceNeg, Int.reduceDiv, Int.reduceMod, Int.reduceEq, Int.reduceBEq, Int.reduceBNe, f25, f25b, f25r0, f25r1, f25r2, f25r3] | (refine BrW.of (fun hb => ?_) (fun hb => ?_) <;> (have hb' := hb; try simp only [decide_eq_true_eq, decide_eq_false_iff_not, beq_iff_eq, bne_iff_ne, beq_eq_false_iff_ne, bne_eq_false_iff_eq, Bool.not_eq_true', Bool.not_eq_false', Bool.not_eq_true, Bool.not_eq_false, Bool.and_eq_true, Bool.or_eq_true, Bool.and_eq_false_iff, Bool.or_eq_false_iff, Int.not_lt, Int.not_le, ne_eq, gt_iff_lt, ge_iff_le] at hb') <;> (try (exfalso; omega))) | (refine altW.of ?_ ?_)
  all_goals exact .here ⟨rfl, rfl⟩

/-- A new slice of whole numbers, in what the heap has grown by; or none at all. -/
def IsX (b : Nat) (x : Heap) (w : Value) (l : List Int) : Prop := (w = .slice none 0 0 ∧ l = []) ∨ ∃ k g, w = slv (b + k) 0 g l.length l.length ∧ x[k]? = some (.cells g 1 false (ints l))
theorem IsX.app {b : Nat} {x : Heap} {w : Value} {l : List Int} (h : IsX b x w l) (y : Heap) : IsX b (x ++ y) w l := by
  rcases h with h | ⟨k, g, h1, h2⟩
  · exact .inl h
  · exact .inr ⟨k, g, h1, get_old h2 y⟩
theorem IsX.is {H x : Heap} {w : Value} {l : List Int} (h : IsX H.length x w l) : IsI (H ++ x) w l := by
  rcases h with h | ⟨k, g, h1, h2⟩
  · exact .inl h
  · exact .inr ⟨_, 0, g, _, h1, Ints.new _ _ _ false _ (by rw [List.getElem?_append_right (by omega)]; rw [← h2]; congr 1; omega), Nat.le_refl _⟩
theorem IsX.up {b : Nat} {x y : Heap} {w : Value} {l : List Int} (h : IsX (b + x.length) y w l) : IsX b (x ++ y) w l := by
  rcases h with h | ⟨k, g, h1, h2⟩
  · exact .inl h
  · exact .inr ⟨x.length + k, g, by rw [h1, Nat.add_assoc], by rw [List.getElem?_append_right (by omega)]; rw [← h2]; congr 1; omega⟩

theorem Not_spec (e : Int) (H : Heap) : ACallK Tryd.prog 52 [.int .i64 e] H (fun v H' => v = .tuple #[q0.val (.slice none 0 0), .int .i64 0, .int .i64 e] ∧ H' = H) := by
  refine .walkW f52_ok (by simp; decide) (by decide) ?_
  repeat' first | simp (disch := first | with_reducible assumption | omega) only [go_sem, Bool.true_and, Bool.and_true, Bool.and_self, Bool.false_and, Bool.and_false, Bool.true_or, Bool.or_true, Bool.false_or, Bool.or_false, ↓reduceIte, Nat.reduceEqDiff, Nat.reduceAdd, Nat.reduceMul, Nat.reduceSub, Nat.reduceBEq, Nat.reduceLeDiff, Nat.reduceLT, Nat.reduceMod, Nat.reduceDiv, Int.reduceToNat, Int.reducePow, Int.reduceMul, Int.reduceAdd, Int.reduceSub, Int.reduceLE, Int.reduceLT, Int.reduceNeg, Int.reduceDiv, Int.reduceMod, Int.reduceEq, Int.reduceBEq, Int.reduceBNe, f52, f52b, f52r0, f52r1] | (refine BrW.of (fun hb => ?_) (fun hb => ?_) <;> (have hb' := hb; try simp only [decide_eq_true_eq, decide_eq_false_iff_not, beq_iff_eq, bne_iff_ne, beq_eq_false_iff_ne, bne_eq_false_iff_eq, Bool.not_eq_true', Bool.not_eq_false', Bool.not_eq_true, Bool.not_eq_false, Bool.and_eq_true, Bool.or_eq_true, Bool.and_eq_false_iff, Bool.or_eq_false_iff, Int.not_lt, Int.not_le, ne_eq, gt_iff_lt, ge_iff_le] at hb') <;> (try (exfalso; omega))) | (refine altW.of ?_ ?_)
  all_goals exact .back rfl ⟨rfl, rfl⟩

theorem Step_err {q : Q} {o : O} {H X : Heap} {e : Int} (hs0 : stepO q o = none) (he : e ≠ 0) (hx : (q.right → o.k = 1 → e = if 1 ≤ o.n ∧ o.n ≤ 1500 then 4 else 2)) : ∃ (X' : Heap) (q' : Q) (w' : Value) (r e' : Int), H ++ X = H ++ X' ∧ Value.tuple #[q0.val (.slice none 0 0), .int .i64 0, .int .i64 e] = .tuple #[q'.val w', .int .i64 r, .int .i64 e'] ∧ IsX H.length X' w' q'.l ∧ (e' = 0 → stepO q o = some (q', r)) ∧ (e' ≠ 0 → stepO q o = none ∧ (q.right → o.k = 1 → e' = if 1 ≤ o.n ∧ o.n ≤ 1500 then 4 else 2)) :=
  ⟨X, q0, _, 0, e, rfl, rfl, .inl ⟨rfl, rfl⟩, fun h => (he h).elim, fun _ => ⟨hs0, hx⟩⟩
theorem Step_u (q : Q) (o : O) (w : Value) (H : Heap) (hI : IsI H w q.l) (hB : q.l.length ≤ 9223372036854775807) : ACallK Tryd.prog 41 [q.val w, o.val] H (fun v H' => ∃ (X : Heap) (q' : Q) (w' : Value) (r e : Int), H' = H ++ X ∧ v = .tuple #[q'.val w', .int .i64 r, .int .i64 e] ∧ IsX H.length X w' q'.l ∧ (e = 0 → stepO q o = some (q', r)) ∧ (e ≠ 0 → stepO q o = none ∧ (q.right → o.k = 1 → e = if 1 ≤ o.n ∧ o.n ≤ 1500 then 4 else 2))) := by
  refine .walkW f41_ok (by simp; decide) (by decide) ?_
  obtain ⟨l, mo, mb, dr⟩ := q
  obtain ⟨k, n⟩ := o
  simp only at hI hB
  have hR := fun H' => Right_spec ⟨l, mo, mb, dr⟩ w H' 
  simp only at hR
  have hR1 := fun x => hR (H ++ x) (hI.app x) hB
  clear hR
  by_cases hr : Q.right ⟨l, mo, mb, dr⟩
  · have hz : (!decide (Q.right ⟨l, mo, mb, dr⟩)) = false := by simp [hr]
    have hS := hr.sum
    have hL := hr.len
    simp only at hS hL
    have hr2 := hr
    unfold Q.right at hr2
    simp only at hr2
    obtain ⟨m1, m2, m3, m4, m5, m6, m7, m8, m9⟩ := hr2
    by_cases k1 : k = 1
    · by_cases hn : 1 ≤ n ∧ n ≤ 1500
      · by_cases hf : Q.fit ⟨l, mo, mb, dr⟩ n
        · have hs0 : stepO ⟨l, mo, mb, dr⟩ ⟨k, n⟩ = some (⟨l ++ [n], mo, mb, dr⟩, 1) := by unfold stepO; simp only [if_pos hr, if_pos k1, if_pos hn, if_pos hf]
          unfold Q.fit at hf
          simp only at hf
          rcases hI with ⟨rfl, rfl⟩ | ⟨ki, oi, gi, ci, rfl, hi, hc⟩
          · clear m8 m9
            have hS0 := fun A B C => Sum_spec [] (.slice none 0 0) (H ++ [A, B, C]) (.inl ⟨rfl, rfl⟩) (by simp) (by simp)
            simp only [List.length_nil, List.sum_nil] at hS0 hf
            repeat' first | simp (disch := first | with_reducible assumption | omega) only [go_sem, Bool.true_and, Bool.and_true, Bool.and_self, Bool.false_and, Bool.and_false, Bool.true_or, Bool.or_true, Bool.false_or, Bool.or_false, ↓reduceIte, Nat.reduceEqDiff, Nat.reduceAdd, Nat.reduceMul, Nat.reduceSub, Nat.reduceBEq, Nat.reduceLeDiff, Nat.reduceLT, Nat.reduceMod, Nat.reduceDiv, Int.reduceToNat, Int.reducePow, Int.reduceMul, Int.reduceAdd, Int.reduceSub, Int.reduceLE, Int.reduceLT, Int.reduceNeg, Int.reduceDiv, Int.reduceMod, Int.reduceEq, Int.reduceBEq, Int.reduceBNe, f41, f41b, f41r0, f41r1, f41r2, f41r3, f41r4, f41r5, f41r6, f41r7, f41r8, f41r9, f41r10, f41r11, f41r12, f41r13, f41r14, f41r15, f41r16, f41r17, f41r18, f41r19, f41r20, f41r21, f41r22, Q.val, O.val, hz] | (refine BrW.of (fun hb => ?_) (fun hb => ?_) <;> (have hb' := hb; try simp only [decide_eq_true_eq, decide_eq_false_iff_not, beq_iff_eq, bne_iff_ne, beq_eq_false_iff_ne, bne_eq_false_iff_eq, Bool.not_eq_true', Bool.not_eq_false', Bool.not_eq_true, Bool.not_eq_false, Bool.and_eq_true, Bool.or_eq_true, Bool.and_eq_false_iff, Bool.or_eq_false_iff, Int.not_lt, Int.not_le, ne_eq, gt_iff_lt, ge_iff_le] at hb') <;> (try (exfalso; omega))) | (refine altW.of ?_ ?_) | (refine .of ((hR1 _).mono ?_); rintro v _ ⟨rfl, rfl⟩) | (refine .of ((CloneI_nil _).mono ?_); rintro v _ ⟨rfl, rfl⟩) | (refine dcallW.of _ _ (hS0 _ _ _) ?_) | (refine callW.ex _ _ (hS0 _ _ _) ?_) | (refine .of ((Not_spec _ _).mono ?_); rintro v _ ⟨rfl, rfl⟩)
            all_goals exact .here ⟨_, ⟨[n], mo, mb, dr⟩, _, 1, 0, rfl, rfl, .inr ⟨4, 0, rfl, rfl⟩, fun _ => hs0, fun h => (h rfl).elim⟩
          · have hC := fun x => CloneI_spec l ki oi gi ci (H ++ x) (hi.app x) (by omega) hc
            simp only [flat'_ienc] at hC
            have hS0 := fun A B C gn => Sum_spec l (slv (H.length + 3) 0 gn l.length l.length) (H ++ [A, B, C, .cells gn 1 false (ints l)]) (.inr ⟨_, 0, gn, _, rfl, Ints.new _ _ _ false _ (by rw [get_new]; rfl), Nat.le_refl _⟩) (by omega) m8
            have hni : ¬ l.length + 1 ≤ l.length := by omega
            have il := ints_length l
            have htk := ints_take l l.length (Nat.le_refl _)
            generalize l.sum = S at *
            clear m8 m9
            repeat' first | simp (disch := first | with_reducible assumption | omega) only [go_sem, Bool.true_and, Bool.and_true, Bool.and_self, Bool.false_and, Bool.and_false, Bool.true_or, Bool.or_true, Bool.false_or, Bool.or_false, ↓reduceIte, Nat.reduceEqDiff, Nat.reduceAdd, Nat.reduceMul, Nat.reduceSub, Nat.reduceBEq, Nat.reduceLeDiff, Nat.reduceLT, Nat.reduceMod, Nat.reduceDiv, Int.reduceToNat, Int.reducePow, Int.reduceMul, Int.reduceAdd, Int.reduceSub, Int.reduceLE, Int.reduceLT, Int.reduceNeg, Int.reduceDiv, Int.reduceMod, Int.reduceEq, Int.reduceBEq, Int.reduceBNe, f41, f41b, f41r0, f41r1, f41r2, f41r3, f41r4, f41r5, f41r6, f41r7, f41r8, f41r9, f41r10, f41r11, f41r12, f41r13, f41r14, f41r15, f41r16, f41r17, f41r18, f41r19, f41r20, f41r21, f41r22, Q.val, O.val, hz, hni, il, htk] | (refine BrW.of (fun hb => ?_) (fun hb => ?_) <;> (have hb' := hb; try simp only [decide_eq_true_eq, decide_eq_false_iff_not, beq_iff_eq, bne_iff_ne, beq_eq_false_iff_ne, bne_eq_false_iff_eq, Bool.not_eq_true', Bool.not_eq_false', Bool.not_eq_true, Bool.not_eq_false, Bool.and_eq_true, Bool.or_eq_true, Bool.and_eq_false_iff, Bool.or_eq_false_iff, Int.not_lt, Int.not_le, ne_eq, gt_iff_lt, ge_iff_le] at hb') <;> (try (exfalso; omega))) | (refine altW.of ?_ ?_) | (refine .of ((hR1 _).mono ?_); rintro v _ ⟨rfl, rfl⟩) | (refine .of ((hC _).mono ?_); rintro v _ ⟨gn, rfl, rfl⟩) | (refine dcallW.of _ _ (hS0 _ _ _ _) ?_) | (refine callW.ex _ _ (hS0 _ _ _ _) ?_) | (refine .of ((Not_spec _ _).mono ?_); rintro v _ ⟨rfl, rfl⟩)
            all_goals exact .here ⟨_, ⟨l ++ [n], mo, mb, dr⟩, slv (H.length + 3) 0 (gn + 1) (l ++ [n]).length (l ++ [n]).length, 1, 0, rfl, by rw [List.length_append]; rfl, .inr ⟨3, gn + 1, rfl, by rw [← ints_snoc]; rfl⟩, fun _ => hs0, fun h => (h rfl).elim⟩
        · by_cases hd : dr = 1099511627776
          · have hs0 : stepO ⟨l, mo, mb, dr⟩ ⟨k, n⟩ = none := by unfold stepO; simp only [if_pos hr, if_pos k1, if_pos hn, if_neg hf, if_pos hd]
            unfold Q.fit at hf
            simp only at hf
            rcases hI with ⟨rfl, rfl⟩ | ⟨ki, oi, gi, ci, rfl, hi, hc⟩
            · clear m8 m9
              have hS0 := fun A B C => Sum_spec [] (.slice none 0 0) (H ++ [A, B, C]) (.inl ⟨rfl, rfl⟩) (by simp) (by simp)
              simp only [List.length_nil, List.sum_nil] at hS0 hf
              repeat' first | simp (disch := first | with_reducible assumption | omega) only [go_sem, Bool.true_and, Bool.and_true, Bool.and_self, Bool.false_and, Bool.and_false, Bool.true_or, Bool.or_true, Bool.false_or, Bool.or_false, ↓reduceIte, Nat.reduceEqDiff, Nat.reduceAdd, Nat.reduceMul, Nat.reduceSub, Nat.reduceBEq, Nat.reduceLeDiff, Nat.reduceLT, Nat.reduceMod, Nat.reduceDiv, Int.reduceToNat, Int.reducePow, Int.reduceMul, Int.reduceAdd, Int.reduceSub, Int.reduceLE, Int.reduceLT, Int.reduceNeg, Int.reduceDiv, Int.reduceMod, Int.reduceEq, Int.reduceBEq, Int.reduceBNe, f41, f41b, f41r0, f41r1, f41r2, f41r3, f41r4, f41r5, f41r6, f41r7, f41r8, f41r9, f41r10, f41r11, f41r12, f41r13, f41r14, f41r15, f41r16, f41r17, f41r18, f41r19, f41r20, f41r21, f41r22, Q.val, O.val, hz] | (refine BrW.of (fun hb => ?_) (fun hb => ?_) <;> (have hb' := hb; try simp only [decide_eq_true_eq, decide_eq_false_iff_not, beq_iff_eq, bne_iff_ne, beq_eq_false_iff_ne, bne_eq_false_iff_eq, Bool.not_eq_true', Bool.not_eq_false', Bool.not_eq_true, Bool.not_eq_false, Bool.and_eq_true, Bool.or_eq_true, Bool.and_eq_false_iff, Bool.or_eq_false_iff, Int.not_lt, Int.not_le, ne_eq, gt_iff_lt, ge_iff_le] at hb') <;> (try (exfalso; omega))) | (refine altW.of ?_ ?_) | (refine .of ((hR1 _).mono ?_); rintro v _ ⟨rfl, rfl⟩) | (refine .of ((CloneI_nil _).mono ?_); rintro v _ ⟨rfl, rfl⟩) | (refine dcallW.of _ _ (hS0 _ _ _) ?_) | (refine callW.ex _ _ (hS0 _ _ _) ?_) | (refine .of ((Not_spec _ _).mono ?_); rintro v _ ⟨rfl, rfl⟩)
              all_goals exact .here (Step_err hs0 (by decide) (by first | exact fun h => absurd h hr | exact fun _ h => absurd h k1 | exact fun _ _ => (if_pos hn).symm | exact fun _ _ => (if_neg hn).symm))
            · have hC := fun x => CloneI_spec l ki oi gi ci (H ++ x) (hi.app x) (by omega) hc
              simp only [flat'_ienc] at hC
              have hS0 := fun A B C gn => Sum_spec l (slv (H.length + 3) 0 gn l.length l.length) (H ++ [A, B, C, .cells gn 1 false (ints l)]) (.inr ⟨_, 0, gn, _, rfl, Ints.new _ _ _ false _ (by rw [get_new]; rfl), Nat.le_refl _⟩) (by omega) m8
              have hni : ¬ l.length + 1 ≤ l.length := by omega
              have il := ints_length l
              have htk := ints_take l l.length (Nat.le_refl _)
              generalize l.sum = S at *
              clear m8 m9
              repeat' first | simp (disch := first | with_reducible assumption | omega) only [go_sem, Bool.true_and, Bool.and_true, Bool.and_self, Bool.false_and, Bool.and_false, Bool.true_or, Bool.or_true, Bool.false_or, Bool.or_false, ↓reduceIte, Nat.reduceEqDiff, Nat.reduceAdd, Nat.reduceMul, Nat.reduceSub, Nat.reduceBEq, Nat.reduceLeDiff, Nat.reduceLT, Nat.reduceMod, Nat.reduceDiv, Int.reduceToNat, Int.reducePow, Int.reduceMul, Int.reduceAdd, Int.reduceSub, Int.reduceLE, Int.reduceLT, Int.reduceNeg, Int.reduceDiv, Int.reduceMod, Int.reduceEq, Int.reduceBEq, Int.reduceBNe, f41, f41b, f41r0, f41r1, f41r2, f41r3, f41r4, f41r5, f41r6, f41r7, f41r8, f41r9, f41r10, f41r11, f41r12, f41r13, f41r14, f41r15, f41r16, f41r17, f41r18, f41r19, f41r20, f41r21, f41r22, Q.val, O.val, hz, hni, il, htk] | (refine BrW.of (fun hb => ?_) (fun hb => ?_) <;> (have hb' := hb; try simp only [decide_eq_true_eq, decide_eq_false_iff_not, beq_iff_eq, bne_iff_ne, beq_eq_false_iff_ne, bne_eq_false_iff_eq, Bool.not_eq_true', Bool.not_eq_false', Bool.not_eq_true, Bool.not_eq_false, Bool.and_eq_true, Bool.or_eq_true, Bool.and_eq_false_iff, Bool.or_eq_false_iff, Int.not_lt, Int.not_le, ne_eq, gt_iff_lt, ge_iff_le] at hb') <;> (try (exfalso; omega))) | (refine altW.of ?_ ?_) | (refine .of ((hR1 _).mono ?_); rintro v _ ⟨rfl, rfl⟩) | (refine .of ((hC _).mono ?_); rintro v _ ⟨gn, rfl, rfl⟩) | (refine dcallW.of _ _ (hS0 _ _ _ _) ?_) | (refine callW.ex _ _ (hS0 _ _ _ _) ?_) | (refine .of ((Not_spec _ _).mono ?_); rintro v _ ⟨rfl, rfl⟩)
              all_goals exact .here (Step_err hs0 (by decide) (by first | exact fun h => absurd h hr | exact fun _ h => absurd h k1 | exact fun _ _ => (if_pos hn).symm | exact fun _ _ => (if_neg hn).symm))
          · have hs0 : stepO ⟨l, mo, mb, dr⟩ ⟨k, n⟩ = some (⟨l, mo, mb, dr + 1⟩, 0) := by unfold stepO; simp only [if_pos hr, if_pos k1, if_pos hn, if_neg hf, if_neg hd]
            unfold Q.fit at hf
            simp only at hf
            rcases hI with ⟨rfl, rfl⟩ | ⟨ki, oi, gi, ci, rfl, hi, hc⟩
            · clear m8 m9
              have hS0 := fun A B C => Sum_spec [] (.slice none 0 0) (H ++ [A, B, C]) (.inl ⟨rfl, rfl⟩) (by simp) (by simp)
              simp only [List.length_nil, List.sum_nil] at hS0 hf
              repeat' first | simp (disch := first | with_reducible assumption | omega) only [go_sem, Bool.true_and, Bool.and_true, Bool.and_self, Bool.false_and, Bool.and_false, Bool.true_or, Bool.or_true, Bool.false_or, Bool.or_false, ↓reduceIte, Nat.reduceEqDiff, Nat.reduceAdd, Nat.reduceMul, Nat.reduceSub, Nat.reduceBEq, Nat.reduceLeDiff, Nat.reduceLT, Nat.reduceMod, Nat.reduceDiv, Int.reduceToNat, Int.reducePow, Int.reduceMul, Int.reduceAdd, Int.reduceSub, Int.reduceLE, Int.reduceLT, Int.reduceNeg, Int.reduceDiv, Int.reduceMod, Int.reduceEq, Int.reduceBEq, Int.reduceBNe, f41, f41b, f41r0, f41r1, f41r2, f41r3, f41r4, f41r5, f41r6, f41r7, f41r8, f41r9, f41r10, f41r11, f41r12, f41r13, f41r14, f41r15, f41r16, f41r17, f41r18, f41r19, f41r20, f41r21, f41r22, Q.val, O.val, hz] | (refine BrW.of (fun hb => ?_) (fun hb => ?_) <;> (have hb' := hb; try simp only [decide_eq_true_eq, decide_eq_false_iff_not, beq_iff_eq, bne_iff_ne, beq_eq_false_iff_ne, bne_eq_false_iff_eq, Bool.not_eq_true', Bool.not_eq_false', Bool.not_eq_true, Bool.not_eq_false, Bool.and_eq_true, Bool.or_eq_true, Bool.and_eq_false_iff, Bool.or_eq_false_iff, Int.not_lt, Int.not_le, ne_eq, gt_iff_lt, ge_iff_le] at hb') <;> (try (exfalso; omega))) | (refine altW.of ?_ ?_) | (refine .of ((hR1 _).mono ?_); rintro v _ ⟨rfl, rfl⟩) | (refine .of ((CloneI_nil _).mono ?_); rintro v _ ⟨rfl, rfl⟩) | (refine dcallW.of _ _ (hS0 _ _ _) ?_) | (refine callW.ex _ _ (hS0 _ _ _) ?_) | (refine .of ((Not_spec _ _).mono ?_); rintro v _ ⟨rfl, rfl⟩)
              all_goals exact .here ⟨_, ⟨[], mo, mb, dr + 1⟩, _, 0, 0, rfl, rfl, .inl ⟨rfl, rfl⟩, fun _ => hs0, fun h => (h rfl).elim⟩
            · have hC := fun x => CloneI_spec l ki oi gi ci (H ++ x) (hi.app x) (by omega) hc
              simp only [flat'_ienc] at hC
              have hS0 := fun A B C gn => Sum_spec l (slv (H.length + 3) 0 gn l.length l.length) (H ++ [A, B, C, .cells gn 1 false (ints l)]) (.inr ⟨_, 0, gn, _, rfl, Ints.new _ _ _ false _ (by rw [get_new]; rfl), Nat.le_refl _⟩) (by omega) m8
              have hni : ¬ l.length + 1 ≤ l.length := by omega
              have il := ints_length l
              have htk := ints_take l l.length (Nat.le_refl _)
              generalize l.sum = S at *
              clear m8 m9
              repeat' first | simp (disch := first | with_reducible assumption | omega) only [go_sem, Bool.true_and, Bool.and_true, Bool.and_self, Bool.false_and, Bool.and_false, Bool.true_or, Bool.or_true, Bool.false_or, Bool.or_false, ↓reduceIte, Nat.reduceEqDiff, Nat.reduceAdd, Nat.reduceMul, Nat.reduceSub, Nat.reduceBEq, Nat.reduceLeDiff, Nat.reduceLT, Nat.reduceMod, Nat.reduceDiv, Int.reduceToNat, Int.reducePow, Int.reduceMul, Int.reduceAdd, Int.reduceSub, Int.reduceLE, Int.reduceLT, Int.reduceNeg, Int.reduceDiv, Int.reduceMod, Int.reduceEq, Int.reduceBEq, Int.reduceBNe, f41, f41b, f41r0, f41r1, f41r2, f41r3, f41r4, f41r5, f41r6, f41r7, f41r8, f41r9, f41r10, f41r11, f41r12, f41r13, f41r14, f41r15, f41r16, f41r17, f41r18, f41r19, f41r20, f41r21, f41r22, Q.val, O.val, hz, hni, il, htk] | (refine BrW.of (fun hb => ?_) (fun hb => ?_) <;> (have hb' := hb; try simp only [decide_eq_true_eq, decide_eq_false_iff_not, beq_iff_eq, bne_iff_ne, beq_eq_false_iff_ne, bne_eq_false_iff_eq, Bool.not_eq_true', Bool.not_eq_false', Bool.not_eq_true, Bool.not_eq_false, Bool.and_eq_true, Bool.or_eq_true, Bool.and_eq_false_iff, Bool.or_eq_false_iff, Int.not_lt, Int.not_le, ne_eq, gt_iff_lt, ge_iff_le] at hb') <;> (try (exfalso; omega))) | (refine altW.of ?_ ?_) | (refine .of ((hR1 _).mono ?_); rintro v _ ⟨rfl, rfl⟩) | (refine .of ((hC _).mono ?_); rintro v _ ⟨gn, rfl, rfl⟩) | (refine dcallW.of _ _ (hS0 _ _ _ _) ?_) | (refine callW.ex _ _ (hS0 _ _ _ _) ?_) | (refine .of ((Not_spec _ _).mono ?_); rintro v _ ⟨rfl, rfl⟩)
              all_goals exact .here ⟨_, ⟨l, mo, mb, dr + 1⟩, _, 0, 0, rfl, rfl, .inr ⟨3, gn, rfl, rfl⟩, fun _ => hs0, fun h => (h rfl).elim⟩
      · have hs0 : stepO ⟨l, mo, mb, dr⟩ ⟨k, n⟩ = none := by unfold stepO; simp only [if_pos hr, if_pos k1, if_neg hn]
        rcases hI with ⟨rfl, rfl⟩ | ⟨ki, oi, gi, ci, rfl, hi, hc⟩
        · clear m8 m9
          repeat' first | simp (disch := first | with_reducible assumption | omega) only [go_sem, Bool.true_and, Bool.and_true, Bool.and_self, Bool.false_and, Bool.and_false, Bool.true_or, Bool.or_true, Bool.false_or, Bool.or_false, ↓reduceIte, Nat.reduceEqDiff, Nat.reduceAdd, Nat.reduceMul, Nat.reduceSub, Nat.reduceBEq, Nat.reduceLeDiff, Nat.reduceLT, Nat.reduceMod, Nat.reduceDiv, Int.reduceToNat, Int.reducePow, Int.reduceMul, Int.reduceAdd, Int.reduceSub, Int.reduceLE, Int.reduceLT, Int.reduceNeg, Int.reduceDiv, Int.reduceMod, Int.reduceEq, Int.reduceBEq, Int.reduceBNe, f41, f41b, f41r0, f41r1, f41r2, f41r3, f41r4, f41r5, f41r6, f41r7, f41r8, f41r9, f41r10, f41r11, f41r12, f41r13, f41r14, f41r15, f41r16, f41r17, f41r18, f41r19, f41r20, f41r21, f41r22, Q.val, O.val, hz] | (refine BrW.of (fun hb => ?_) (fun hb => ?_) <;> (have hb' := hb; try simp only [decide_eq_true_eq, decide_eq_false_iff_not, beq_iff_eq, bne_iff_ne, beq_eq_false_iff_ne, bne_eq_false_iff_eq, Bool.not_eq_true', Bool.not_eq_false', Bool.not_eq_true, Bool.not_eq_false, Bool.and_eq_true, Bool.or_eq_true, Bool.and_eq_false_iff, Bool.or_eq_false_iff, Int.not_lt, Int.not_le, ne_eq, gt_iff_lt, ge_iff_le] at hb') <;> (try (exfalso; omega))) | (refine altW.of ?_ ?_) | (refine .of ((hR1 _).mono ?_); rintro v _ ⟨rfl, rfl⟩) | (refine .of ((CloneI_nil _).mono ?_); rintro v _ ⟨rfl, rfl⟩) | (refine .of ((Not_spec _ _).mono ?_); rintro v _ ⟨rfl, rfl⟩)
          all_goals exact .here (Step_err hs0 (by decide) (by first | exact fun h => absurd h hr | exact fun _ h => absurd h k1 | exact fun _ _ => (if_pos hn).symm | exact fun _ _ => (if_neg hn).symm))
        · have hC := fun x => CloneI_spec l ki oi gi ci (H ++ x) (hi.app x) (by omega) hc
          simp only [flat'_ienc] at hC
          clear m8 m9
          repeat' first | simp (disch := first | with_reducible assumption | omega) only [go_sem, Bool.true_and, Bool.and_true, Bool.and_self, Bool.false_and, Bool.and_false, Bool.true_or, Bool.or_true, Bool.false_or, Bool.or_false, ↓reduceIte, Nat.reduceEqDiff, Nat.reduceAdd, Nat.reduceMul, Nat.reduceSub, Nat.reduceBEq, Nat.reduceLeDiff, Nat.reduceLT, Nat.reduceMod, Nat.reduceDiv, Int.reduceToNat, Int.reducePow, Int.reduceMul, Int.reduceAdd, Int.reduceSub, Int.reduceLE, Int.reduceLT, Int.reduceNeg, Int.reduceDiv, Int.reduceMod, Int.reduceEq, Int.reduceBEq, Int.reduceBNe, f41, f41b, f41r0, f41r1, f41r2, f41r3, f41r4, f41r5, f41r6, f41r7, f41r8, f41r9, f41r10, f41r11, f41r12, f41r13, f41r14, f41r15, f41r16, f41r17, f41r18, f41r19, f41r20, f41r21, f41r22, Q.val, O.val, hz] | (refine BrW.of (fun hb => ?_) (fun hb => ?_) <;> (have hb' := hb; try simp only [decide_eq_true_eq, decide_eq_false_iff_not, beq_iff_eq, bne_iff_ne, beq_eq_false_iff_ne, bne_eq_false_iff_eq, Bool.not_eq_true', Bool.not_eq_false', Bool.not_eq_true, Bool.not_eq_false, Bool.and_eq_true, Bool.or_eq_true, Bool.and_eq_false_iff, Bool.or_eq_false_iff, Int.not_lt, Int.not_le, ne_eq, gt_iff_lt, ge_iff_le] at hb') <;> (try (exfalso; omega))) | (refine altW.of ?_ ?_) | (refine .of ((hR1 _).mono ?_); rintro v _ ⟨rfl, rfl⟩) | (refine .of ((hC _).mono ?_); rintro v _ ⟨gn, rfl, rfl⟩) | (refine .of ((Not_spec _ _).mono ?_); rintro v _ ⟨rfl, rfl⟩)
          all_goals exact .here (Step_err hs0 (by decide) (by first | exact fun h => absurd h hr | exact fun _ h => absurd h k1 | exact fun _ _ => (if_pos hn).symm | exact fun _ _ => (if_neg hn).symm))
    · by_cases k2 : k = 2
      · cases l with
        | nil =>
          have hs0 : stepO ⟨[], mo, mb, dr⟩ ⟨k, n⟩ = none := by unfold stepO; simp only [if_pos hr, if_neg k1, if_pos k2]
          rcases hI with ⟨rfl, _⟩ | ⟨ki, oi, gi, ci, rfl, hi, hc⟩
          · clear m8 m9
            repeat' first | simp (disch := first | with_reducible assumption | omega) only [go_sem, Bool.true_and, Bool.and_true, Bool.and_self, Bool.false_and, Bool.and_false, Bool.true_or, Bool.or_true, Bool.false_or, Bool.or_false, ↓reduceIte, Nat.reduceEqDiff, Nat.reduceAdd, Nat.reduceMul, Nat.reduceSub, Nat.reduceBEq, Nat.reduceLeDiff, Nat.reduceLT, Nat.reduceMod, Nat.reduceDiv, Int.reduceToNat, Int.reducePow, Int.reduceMul, Int.reduceAdd, Int.reduceSub, Int.reduceLE, Int.reduceLT, Int.reduceNeg, Int.reduceDiv, Int.reduceMod, Int.reduceEq, Int.reduceBEq, Int.reduceBNe, f41, f41b, f41r0, f41r1, f41r2, f41r3, f41r4, f41r5, f41r6, f41r7, f41r8, f41r9, f41r10, f41r11, f41r12, f41r13, f41r14, f41r15, f41r16, f41r17, f41r18, f41r19, f41r20, f41r21, f41r22, Q.val, O.val, hz] | (refine BrW.of (fun hb => ?_) (fun hb => ?_) <;> (have hb' := hb; try simp only [decide_eq_true_eq, decide_eq_false_iff_not, beq_iff_eq, bne_iff_ne, beq_eq_false_iff_ne, bne_eq_false_iff_eq, Bool.not_eq_true', Bool.not_eq_false', Bool.not_eq_true, Bool.not_eq_false, Bool.and_eq_true, Bool.or_eq_true, Bool.and_eq_false_iff, Bool.or_eq_false_iff, Int.not_lt, Int.not_le, ne_eq, gt_iff_lt, ge_iff_le] at hb') <;> (try (exfalso; omega))) | (refine altW.of ?_ ?_) | (refine .of ((hR1 _).mono ?_); rintro v _ ⟨rfl, rfl⟩) | (refine .of ((CloneI_nil _).mono ?_); rintro v _ ⟨rfl, rfl⟩) | (refine .of ((Not_spec _ _).mono ?_); rintro v _ ⟨rfl, rfl⟩)
            all_goals exact .here (Step_err hs0 (by decide) (by first | exact fun h => absurd h hr | exact fun _ h => absurd h k1 | exact fun _ _ => (if_pos hn).symm | exact fun _ _ => (if_neg hn).symm))
          · have hC := fun x => CloneI_spec [] ki oi gi ci (H ++ x) (hi.app x) (by simp) hc
            simp only [flat'_ienc] at hC
            clear m8 m9
            repeat' first | simp (disch := first | with_reducible assumption | omega) only [go_sem, Bool.true_and, Bool.and_true, Bool.and_self, Bool.false_and, Bool.and_false, Bool.true_or, Bool.or_true, Bool.false_or, Bool.or_false, ↓reduceIte, Nat.reduceEqDiff, Nat.reduceAdd, Nat.reduceMul, Nat.reduceSub, Nat.reduceBEq, Nat.reduceLeDiff, Nat.reduceLT, Nat.reduceMod, Nat.reduceDiv, Int.reduceToNat, Int.reducePow, Int.reduceMul, Int.reduceAdd, Int.reduceSub, Int.reduceLE, Int.reduceLT, Int.reduceNeg, Int.reduceDiv, Int.reduceMod, Int.reduceEq, Int.reduceBEq, Int.reduceBNe, f41, f41b, f41r0, f41r1, f41r2, f41r3, f41r4, f41r5, f41r6, f41r7, f41r8, f41r9, f41r10, f41r11, f41r12, f41r13, f41r14, f41r15, f41r16, f41r17, f41r18, f41r19, f41r20, f41r21, f41r22, Q.val, O.val, hz] | (refine BrW.of (fun hb => ?_) (fun hb => ?_) <;> (have hb' := hb; try simp only [decide_eq_true_eq, decide_eq_false_iff_not, beq_iff_eq, bne_iff_ne, beq_eq_false_iff_ne, bne_eq_false_iff_eq, Bool.not_eq_true', Bool.not_eq_false', Bool.not_eq_true, Bool.not_eq_false, Bool.and_eq_true, Bool.or_eq_true, Bool.and_eq_false_iff, Bool.or_eq_false_iff, Int.not_lt, Int.not_le, ne_eq, gt_iff_lt, ge_iff_le] at hb') <;> (try (exfalso; omega))) | (refine altW.of ?_ ?_) | (refine .of ((hR1 _).mono ?_); rintro v _ ⟨rfl, rfl⟩) | (refine .of ((hC _).mono ?_); rintro v _ ⟨gn, rfl, rfl⟩) | (refine .of ((Not_spec _ _).mono ?_); rintro v _ ⟨rfl, rfl⟩)
            all_goals exact .here (Step_err hs0 (by decide) (by first | exact fun h => absurd h hr | exact fun _ h => absurd h k1 | exact fun _ _ => (if_pos hn).symm | exact fun _ _ => (if_neg hn).symm))
        | cons y t =>
          have hs0 : stepO ⟨y :: t, mo, mb, dr⟩ ⟨k, n⟩ = some (⟨t, mo, mb, dr⟩, y) := by unfold stepO; simp only [if_pos hr, if_neg k1, if_pos k2]
          rcases hI with ⟨_, hno⟩ | ⟨ki, oi, gi, ci, rfl, hi, hc⟩
          · cases hno
          · have hC := fun x => CloneI_spec (y :: t) ki oi gi ci (H ++ x) (hi.app x) (by omega) hc
            simp only [flat'_ienc] at hC
            have hC2 := fun A B C gn => CloneI_spec t (H.length + 3) 1 gn t.length (H ++ [A, B, C, .cells gn 1 false (ints (y :: t))]) (by have := (Ints.new (H ++ [A, B, C, .cells gn 1 false (ints (y :: t))]) (H.length + 3) gn false (y :: t) (by rw [get_new]; rfl)).drop 1 (by simp); exact this) (by simp at hL; omega) (Nat.le_refl _)
            simp only [flat'_ienc] at hC2
            have i0 : (ints (y :: t))[0]? = some (.int .i64 y) := rfl
            have il := ints_length (y :: t)
            simp only [List.length_cons] at *
            clear m8 m9
            generalize ints (y :: t) = cs at *
            repeat' first | simp (disch := first | with_reducible assumption | omega) only [go_sem, Bool.true_and, Bool.and_true, Bool.and_self, Bool.false_and, Bool.and_false, Bool.true_or, Bool.or_true, Bool.false_or, Bool.or_false, ↓reduceIte, Nat.reduceEqDiff, Nat.reduceAdd, Nat.reduceMul, Nat.reduceSub, Nat.reduceBEq, Nat.reduceLeDiff, Nat.reduceLT, Nat.reduceMod, Nat.reduceDiv, Int.reduceToNat, Int.reducePow, Int.reduceMul, Int.reduceAdd, Int.reduceSub, Int.reduceLE, Int.reduceLT, Int.reduceNeg, Int.reduceDiv, Int.reduceMod, Int.reduceEq, Int.reduceBEq, Int.reduceBNe, f41, f41b, f41r0, f41r1, f41r2, f41r3, f41r4, f41r5, f41r6, f41r7, f41r8, f41r9, f41r10, f41r11, f41r12, f41r13, f41r14, f41r15, f41r16, f41r17, f41r18, f41r19, f41r20, f41r21, f41r22, Q.val, O.val, hz, i0, il] | (refine BrW.of (fun hb => ?_) (fun hb => ?_) <;> (have hb' := hb; try simp only [decide_eq_true_eq, decide_eq_false_iff_not, beq_iff_eq, bne_iff_ne, beq_eq_false_iff_ne, bne_eq_false_iff_eq, Bool.not_eq_true', Bool.not_eq_false', Bool.not_eq_true, Bool.not_eq_false, Bool.and_eq_true, Bool.or_eq_true, Bool.and_eq_false_iff, Bool.or_eq_false_iff, Int.not_lt, Int.not_le, ne_eq, gt_iff_lt, ge_iff_le] at hb') <;> (try (exfalso; omega))) | (refine altW.of ?_ ?_) | (refine .of ((hR1 _).mono ?_); rintro v _ ⟨rfl, rfl⟩) | (refine .of ((hC _).mono ?_); rintro v _ ⟨gn, rfl, rfl⟩) | (refine .of ((hC2 _ _ _ _).mono ?_); rintro v _ ⟨gn2, rfl, rfl⟩)
            all_goals exact .here ⟨_, ⟨t, mo, mb, dr⟩, _, y, 0, rfl, rfl, .inr ⟨4, gn2, rfl, rfl⟩, fun _ => hs0, fun h => (h rfl).elim⟩
      · have hs0 : stepO ⟨l, mo, mb, dr⟩ ⟨k, n⟩ = none := by unfold stepO; simp only [if_pos hr, if_neg k1, if_neg k2]
        rcases hI with ⟨rfl, rfl⟩ | ⟨ki, oi, gi, ci, rfl, hi, hc⟩
        · clear m8 m9
          repeat' first | simp (disch := first | with_reducible assumption | omega) only [go_sem, Bool.true_and, Bool.and_true, Bool.and_self, Bool.false_and, Bool.and_false, Bool.true_or, Bool.or_true, Bool.false_or, Bool.or_false, ↓reduceIte, Nat.reduceEqDiff, Nat.reduceAdd, Nat.reduceMul, Nat.reduceSub, Nat.reduceBEq, Nat.reduceLeDiff, Nat.reduceLT, Nat.reduceMod, Nat.reduceDiv, Int.reduceToNat, Int.reducePow, Int.reduceMul, Int.reduceAdd, Int.reduceSub, Int.reduceLE, Int.reduceLT, Int.reduceNeg, Int.reduceDiv, Int.reduceMod, Int.reduceEq, Int.reduceBEq, Int.reduceBNe, f41, f41b, f41r0, f41r1, f41r2, f41r3, f41r4, f41r5, f41r6, f41r7, f41r8, f41r9, f41r10, f41r11, f41r12, f41r13, f41r14, f41r15, f41r16, f41r17, f41r18, f41r19, f41r20, f41r21, f41r22, Q.val, O.val, hz] | (refine BrW.of (fun hb => ?_) (fun hb => ?_) <;> (have hb' := hb; try simp only [decide_eq_true_eq, decide_eq_false_iff_not, beq_iff_eq, bne_iff_ne, beq_eq_false_iff_ne, bne_eq_false_iff_eq, Bool.not_eq_true', Bool.not_eq_false', Bool.not_eq_true, Bool.not_eq_false, Bool.and_eq_true, Bool.or_eq_true, Bool.and_eq_false_iff, Bool.or_eq_false_iff, Int.not_lt, Int.not_le, ne_eq, gt_iff_lt, ge_iff_le] at hb') <;> (try (exfalso; omega))) | (refine altW.of ?_ ?_) | (refine .of ((hR1 _).mono ?_); rintro v _ ⟨rfl, rfl⟩) | (refine .of ((CloneI_nil _).mono ?_); rintro v _ ⟨rfl, rfl⟩) | (refine .of ((Not_spec _ _).mono ?_); rintro v _ ⟨rfl, rfl⟩)
          all_goals exact .here (Step_err hs0 (by decide) (by first | exact fun h => absurd h hr | exact fun _ h => absurd h k1 | exact fun _ _ => (if_pos hn).symm | exact fun _ _ => (if_neg hn).symm))
        · have hC := fun x => CloneI_spec l ki oi gi ci (H ++ x) (hi.app x) (by omega) hc
          simp only [flat'_ienc] at hC
          clear m8 m9
          repeat' first | simp (disch := first | with_reducible assumption | omega) only [go_sem, Bool.true_and, Bool.and_true, Bool.and_self, Bool.false_and, Bool.and_false, Bool.true_or, Bool.or_true, Bool.false_or, Bool.or_false, ↓reduceIte, Nat.reduceEqDiff, Nat.reduceAdd, Nat.reduceMul, Nat.reduceSub, Nat.reduceBEq, Nat.reduceLeDiff, Nat.reduceLT, Nat.reduceMod, Nat.reduceDiv, Int.reduceToNat, Int.reducePow, Int.reduceMul, Int.reduceAdd, Int.reduceSub, Int.reduceLE, Int.reduceLT, Int.reduceNeg, Int.reduceDiv, Int.reduceMod, Int.reduceEq, Int.reduceBEq, Int.reduceBNe, f41, f41b, f41r0, f41r1, f41r2, f41r3, f41r4, f41r5, f41r6, f41r7, f41r8, f41r9, f41r10, f41r11, f41r12, f41r13, f41r14, f41r15, f41r16, f41r17, f41r18, f41r19, f41r20, f41r21, f41r22, Q.val, O.val, hz] | (refine BrW.of (fun hb => ?_) (fun hb => ?_) <;> (have hb' := hb; try simp only [decide_eq_true_eq, decide_eq_false_iff_not, beq_iff_eq, bne_iff_ne, beq_eq_false_iff_ne, bne_eq_false_iff_eq, Bool.not_eq_true', Bool.not_eq_false', Bool.not_eq_true, Bool.not_eq_false, Bool.and_eq_true, Bool.or_eq_true, Bool.and_eq_false_iff, Bool.or_eq_false_iff, Int.not_lt, Int.not_le, ne_eq, gt_iff_lt, ge_iff_le] at hb') <;> (try (exfalso; omega))) | (refine altW.of ?_ ?_) | (refine .of ((hR1 _).mono ?_); rintro v _ ⟨rfl, rfl⟩) | (refine .of ((hC _).mono ?_); rintro v _ ⟨gn, rfl, rfl⟩) | (refine .of ((Not_spec _ _).mono ?_); rintro v _ ⟨rfl, rfl⟩)
          all_goals exact .here (Step_err hs0 (by decide) (by first | exact fun h => absurd h hr | exact fun _ h => absurd h k1 | exact fun _ _ => (if_pos hn).symm | exact fun _ _ => (if_neg hn).symm))
  · have hs0 : stepO ⟨l, mo, mb, dr⟩ ⟨k, n⟩ = none := by unfold stepO; rw [if_neg hr]
    have hz : (!decide (Q.right ⟨l, mo, mb, dr⟩)) = true := by simp [hr]
    repeat' first | simp (disch := first | with_reducible assumption | omega) only [go_sem, Bool.true_and, Bool.and_true, Bool.and_self, Bool.false_and, Bool.and_false, Bool.true_or, Bool.or_true, Bool.false_or, Bool.or_false, ↓reduceIte, Nat.reduceEqDiff, Nat.reduceAdd, Nat.reduceMul, Nat.reduceSub, Nat.reduceBEq, Nat.reduceLeDiff, Nat.reduceLT, Nat.reduceMod, Nat.reduceDiv, Int.reduceToNat, Int.reducePow, Int.reduceMul, Int.reduceAdd, Int.reduceSub, Int.reduceLE, Int.reduceLT, Int.reduceNeg, Int.reduceDiv, Int.reduceMod, Int.reduceEq, Int.reduceBEq, Int.reduceBNe, f41, f41b, f41r0, f41r1, f41r2, f41r3, f41r4, f41r5, f41r6, f41r7, f41r8, f41r9, f41r10, f41r11, f41r12, f41r13, f41r14, f41r15, f41r16, f41r17, f41r18, f41r19, f41r20, f41r21, f41r22, Q.val, O.val, hz] | (refine BrW.of (fun hb => ?_) (fun hb => ?_) <;> (have hb' := hb; try simp only [decide_eq_true_eq, decide_eq_false_iff_not, beq_iff_eq, bne_iff_ne, beq_eq_false_iff_ne, bne_eq_false_iff_eq, Bool.not_eq_true', Bool.not_eq_false', Bool.not_eq_true, Bool.not_eq_false, Bool.and_eq_true, Bool.or_eq_true, Bool.and_eq_false_iff, Bool.or_eq_false_iff, Int.not_lt, Int.not_le, ne_eq, gt_iff_lt, ge_iff_le] at hb') <;> (try (exfalso; omega))) | (refine altW.of ?_ ?_) | (refine .of ((hR1 _).mono ?_); rintro v _ ⟨rfl, rfl⟩) | (refine .of ((Not_spec _ _).mono ?_); rintro v _ ⟨rfl, rfl⟩)
    all_goals exact .here (Step_err hs0 (by decide) (by first | exact fun h => absurd h hr | exact fun _ h => absurd h k1 | exact fun _ _ => (if_pos hn).symm | exact fun _ _ => (if_neg hn).symm))

end Go.Proofs.YtmbcgelfnbnicaaDoor.Pc
