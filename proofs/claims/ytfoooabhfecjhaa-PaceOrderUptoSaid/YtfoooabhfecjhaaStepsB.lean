import Derived.Test.YtfoooabhfecjhaaBase
import Derived.Test.YtfoooabhfecjhaaFns
import Derived.Test.YtfoooabhfecjhaaLib
import Derived.Test.YtfoooabhfecjhaaPlainB
import Derived.Test.YtfoooabhfecjhaaPlainR
set_option linter.unusedSimpArgs false
set_option linter.unusedVariables false
set_option maxHeartbeats 2000000
set_option maxRecDepth 20000
namespace Go.Proofs.Ytfoooabhfecjhaa
open Go Go.Am
attribute [local irreducible] opsW Ww loopW callW drawW outW outDW gW cW BrW bothW vW resW DropW RdW dcallW altW Later.run
def Bk.cells (b : Bk) : List Value := [.int .i64 b.num, .int .i64 b.den, .int .i64 b.bu, .int .i64 b.lv, .int .i64 b.at']
def Bk.val (b : Bk) : Value := .agg #[.int .i64 b.num, .int .i64 b.den, .int .i64 b.bu, .int .i64 b.lv, .int .i64 b.at']
def S.cells (s : S) : List Value := [.int .i64 s.at', .int .i64 s.by']
def S.val (s : S) : Value := .agg #[.int .i64 s.at', .int .i64 s.by']
def ansB (r : Bk × Int) : Value := .tuple #[r.1.val, .int .i64 r.2]
def ansT (r : Bk × Bool × Int) : Value := .tuple #[r.1.val, .bool r.2.1, .int .i64 r.2.2]
def ansR (r : Int × Bool × Int) : Value := .tuple #[.int .i64 r.1, .bool r.2.1, .int .i64 r.2.2]

theorem RightB_spec (b : Bk) (H : Heap) : ACallK Try.prog 21 [b.val] H (fun v H' => v = .bool (decide b.right) ∧ H' = H) := by
  refine .walkW f21_ok (by simp; decide) (by decide) ?_
  by_cases hc : 0 ≤ b.bu ∧ b.bu ≤ 1048576 ∧ 1 ≤ b.den ∧ b.den ≤ 1048576
  · have hp : 0 ≤ b.bu * b.den ∧ b.bu * b.den ≤ 1099511627776 := by
      refine ⟨Int.mul_nonneg hc.1 (by omega), ?_⟩
      have := Int.mul_le_mul hc.2.1 hc.2.2.2 (by omega) (by omega)
      omega
    repeat' first | simp (disch := first | with_reducible assumption | omega) only [go_sem, Bool.true_and, Bool.and_true, Bool.and_self, Bool.false_and, Bool.and_false, Bool.true_or, Bool.or_true, Bool.false_or, Bool.or_false, ↓reduceIte, Nat.reduceEqDiff, Nat.reduceAdd, Nat.reduceMul, Nat.reduceSub, Nat.reduceBEq, Nat.reduceLeDiff, Nat.reduceLT, Nat.reduceMod, Nat.reduceDiv, Int.reduceToNat, Int.reducePow, Int.reduceMul, Int.reduceAdd, Int.reduceSub, Int.reduceLE, Int.reduceLT, Int.reduceNeg, Int.reduceDiv, Int.reduceMod, Int.reduceEq, Int.reduceBEq, Int.reduceBNe, f21, f21b, f21r0, f21r1, Bk.val] | (refine BrW.of (fun hb => ?_) (fun hb => ?_) <;> (have hb' := hb; try simp only [decide_eq_true_eq, decide_eq_false_iff_not, beq_iff_eq, bne_iff_ne, beq_eq_false_iff_ne, bne_eq_false_iff_eq, Bool.not_eq_true', Bool.not_eq_false', Bool.not_eq_true, Bool.not_eq_false, Bool.and_eq_true, Bool.or_eq_true, Bool.and_eq_false_iff, Bool.or_eq_false_iff, Int.not_lt, Int.not_le, ne_eq, gt_iff_lt, ge_iff_le] at hb') <;> (try (exfalso; omega))) | (refine altW.of ?_ ?_)
    all_goals exact .back rfl ⟨by (first | with_reducible rfl | (congr 1; first | with_reducible rfl | omega | (rw [Bool.eq_iff_iff]; simp only [decide_eq_true_eq, decide_eq_false_iff_not, beq_iff_eq, bne_iff_ne, beq_eq_false_iff_ne, bne_eq_false_iff_eq, Bool.not_eq_true', Bool.not_eq_false', Bool.not_eq_true, Bool.not_eq_false, Bool.and_eq_true, Bool.or_eq_true, Bool.and_eq_false_iff, Bool.or_eq_false_iff, Int.not_lt, Int.not_le, ne_eq, gt_iff_lt, ge_iff_le, Bool.and_false, Bool.false_and, Bool.or_true, Bool.true_or, Bool.false_eq_true, true_iff, iff_true, false_iff, iff_false, eq_self, not_true_eq_false, not_false_eq_true]; try simp only [Bk.right]; try omega))), rfl⟩
  · have hf : decide b.right = false := decide_eq_false fun h => hc ⟨h.2.2.2.2.1, h.2.2.2.2.2.1, h.2.2.1, h.2.2.2.1⟩
    rw [hf]
    repeat' first | simp (disch := first | with_reducible assumption | omega) only [go_sem, Bool.true_and, Bool.and_true, Bool.and_self, Bool.false_and, Bool.and_false, Bool.true_or, Bool.or_true, Bool.false_or, Bool.or_false, ↓reduceIte, Nat.reduceEqDiff, Nat.reduceAdd, Nat.reduceMul, Nat.reduceSub, Nat.reduceBEq, Nat.reduceLeDiff, Nat.reduceLT, Nat.reduceMod, Nat.reduceDiv, Int.reduceToNat, Int.reducePow, Int.reduceMul, Int.reduceAdd, Int.reduceSub, Int.reduceLE, Int.reduceLT, Int.reduceNeg, Int.reduceDiv, Int.reduceMod, Int.reduceEq, Int.reduceBEq, Int.reduceBNe, f21, f21b, f21r0, f21r1, Bk.val] | (refine BrW.of (fun hb => ?_) (fun hb => ?_) <;> (have hb' := hb; try simp only [decide_eq_true_eq, decide_eq_false_iff_not, beq_iff_eq, bne_iff_ne, beq_eq_false_iff_ne, bne_eq_false_iff_eq, Bool.not_eq_true', Bool.not_eq_false', Bool.not_eq_true, Bool.not_eq_false, Bool.and_eq_true, Bool.or_eq_true, Bool.and_eq_false_iff, Bool.or_eq_false_iff, Int.not_lt, Int.not_le, ne_eq, gt_iff_lt, ge_iff_le] at hb') <;> (try (exfalso; omega))) | (refine altW.of ?_ ?_)
    all_goals exact .back rfl ⟨by (first | with_reducible rfl | (congr 1; first | with_reducible rfl | omega | (rw [Bool.eq_iff_iff]; simp only [decide_eq_true_eq, decide_eq_false_iff_not, beq_iff_eq, bne_iff_ne, beq_eq_false_iff_ne, bne_eq_false_iff_eq, Bool.not_eq_true', Bool.not_eq_false', Bool.not_eq_true, Bool.not_eq_false, Bool.and_eq_true, Bool.or_eq_true, Bool.and_eq_false_iff, Bool.or_eq_false_iff, Int.not_lt, Int.not_le, ne_eq, gt_iff_lt, ge_iff_le, Bool.and_false, Bool.false_and, Bool.or_true, Bool.true_or, Bool.false_eq_true, true_iff, iff_true, false_iff, iff_false, eq_self, not_true_eq_false, not_false_eq_true]; try omega))), rfl⟩

theorem Fill_spec (b : Bk) (t : Int) (H : Heap) : ACallK Try.prog 24 [b.val, .int .i64 t] H (fun v H' => v = ansB (fillB b t) ∧ H' = H) := by
  refine .walkW f24_ok (by simp; decide) (by decide) ?_
  by_cases hr : b.right
  · have hR : (!decide b.right) = false := by simp [hr]
    by_cases ht : okT b t
    · rw [show fillB b t = (filled b t, 0) by rw [fillB, if_pos hr, if_pos ht]]
      have p := hr.prod
      have g := hr.gone ht
      have l1 := fun h => hr.less (t := t) h
      have l2 := fun h => hr.more (t := t) h
      have hr' := hr
      unfold Bk.right at hr'
      have ht' := ht
      unfold okT at ht'
      have hz : b.num = 0 → (t - b.at') * b.num = 0 := fun h => by rw [h, Int.mul_zero]
      have hd : 0 < b.num → 0 ≤ (b.bu * b.den - b.lv) / b.num := fun h => Int.ediv_nonneg (by omega) (by omega)
      repeat' first | simp (disch := first | with_reducible assumption | omega) only [go_sem, Bool.true_and, Bool.and_true, Bool.and_self, Bool.false_and, Bool.and_false, Bool.true_or, Bool.or_true, Bool.false_or, Bool.or_false, ↓reduceIte, Nat.reduceEqDiff, Nat.reduceAdd, Nat.reduceMul, Nat.reduceSub, Nat.reduceBEq, Nat.reduceLeDiff, Nat.reduceLT, Nat.reduceMod, Nat.reduceDiv, Int.reduceToNat, Int.reducePow, Int.reduceMul, Int.reduceAdd, Int.reduceSub, Int.reduceLE, Int.reduceLT, Int.reduceNeg, Int.reduceDiv, Int.reduceMod, Int.reduceEq, Int.reduceBEq, Int.reduceBNe, f24, f24b, f24r0, f24r1, f24r2, f24r3, f24r4, f24r5, f24r6, f24r7, f24r8, f24r9, f24r10, f24r11, Bk.val] | (refine BrW.of (fun hb => ?_) (fun hb => ?_) <;> (have hb' := hb; try simp only [decide_eq_true_eq, decide_eq_false_iff_not, beq_iff_eq, bne_iff_ne, beq_eq_false_iff_ne, bne_eq_false_iff_eq, Bool.not_eq_true', Bool.not_eq_false', Bool.not_eq_true, Bool.not_eq_false, Bool.and_eq_true, Bool.or_eq_true, Bool.and_eq_false_iff, Bool.or_eq_false_iff, Int.not_lt, Int.not_le, ne_eq, gt_iff_lt, ge_iff_le] at hb') <;> (try (exfalso; omega))) | (refine altW.of ?_ ?_) | (refine .of ((RightB_spec b _).mono ?_); rintro v _ ⟨rfl, rfl⟩)
      all_goals exact .back rfl ⟨by (first | with_reducible rfl | ((try simp (disch := first | with_reducible assumption | omega) only [if_pos, if_neg, ansB, filled, Bk.val]) <;> repeat' first | with_reducible rfl | omega | congr 1)), rfl⟩
    · rw [show fillB b t = (Bk.zero, 2) by rw [fillB, if_pos hr, if_neg ht]]
      have ht' : t < b.at' ∨ 1099511627776 < t := by unfold okT at ht; omega
      repeat' first | simp (disch := first | with_reducible assumption | omega) only [go_sem, Bool.true_and, Bool.and_true, Bool.and_self, Bool.false_and, Bool.and_false, Bool.true_or, Bool.or_true, Bool.false_or, Bool.or_false, ↓reduceIte, Nat.reduceEqDiff, Nat.reduceAdd, Nat.reduceMul, Nat.reduceSub, Nat.reduceBEq, Nat.reduceLeDiff, Nat.reduceLT, Nat.reduceMod, Nat.reduceDiv, Int.reduceToNat, Int.reducePow, Int.reduceMul, Int.reduceAdd, Int.reduceSub, Int.reduceLE, Int.reduceLT, Int.reduceNeg, Int.reduceDiv, Int.reduceMod, Int.reduceEq, Int.reduceBEq, Int.reduceBNe, f24, f24b, f24r0, f24r1, f24r2, f24r3, f24r4, f24r5, f24r6, f24r7, f24r8, f24r9, f24r10, f24r11, Bk.val] | (refine BrW.of (fun hb => ?_) (fun hb => ?_) <;> (have hb' := hb; try simp only [decide_eq_true_eq, decide_eq_false_iff_not, beq_iff_eq, bne_iff_ne, beq_eq_false_iff_ne, bne_eq_false_iff_eq, Bool.not_eq_true', Bool.not_eq_false', Bool.not_eq_true, Bool.not_eq_false, Bool.and_eq_true, Bool.or_eq_true, Bool.and_eq_false_iff, Bool.or_eq_false_iff, Int.not_lt, Int.not_le, ne_eq, gt_iff_lt, ge_iff_le] at hb') <;> (try (exfalso; omega))) | (refine altW.of ?_ ?_) | (refine .of ((RightB_spec b _).mono ?_); rintro v _ ⟨rfl, rfl⟩)
      all_goals exact .back rfl ⟨by (first | with_reducible rfl | ((try simp (disch := first | with_reducible assumption | omega) only [if_pos, if_neg, ansB, Bk.zero, Bk.val]) <;> repeat' first | with_reducible rfl | omega | congr 1)), rfl⟩
  · have hR : (!decide b.right) = true := by simp [hr]
    rw [show fillB b t = (Bk.zero, 1) by rw [fillB, if_neg hr]]
    repeat' first | simp (disch := first | with_reducible assumption | omega) only [go_sem, Bool.true_and, Bool.and_true, Bool.and_self, Bool.false_and, Bool.and_false, Bool.true_or, Bool.or_true, Bool.false_or, Bool.or_false, ↓reduceIte, Nat.reduceEqDiff, Nat.reduceAdd, Nat.reduceMul, Nat.reduceSub, Nat.reduceBEq, Nat.reduceLeDiff, Nat.reduceLT, Nat.reduceMod, Nat.reduceDiv, Int.reduceToNat, Int.reducePow, Int.reduceMul, Int.reduceAdd, Int.reduceSub, Int.reduceLE, Int.reduceLT, Int.reduceNeg, Int.reduceDiv, Int.reduceMod, Int.reduceEq, Int.reduceBEq, Int.reduceBNe, f24, f24b, f24r0, f24r1, f24r2, f24r3, f24r4, f24r5, f24r6, f24r7, f24r8, f24r9, f24r10, f24r11, Bk.val] | (refine BrW.of (fun hb => ?_) (fun hb => ?_) <;> (have hb' := hb; try simp only [decide_eq_true_eq, decide_eq_false_iff_not, beq_iff_eq, bne_iff_ne, beq_eq_false_iff_ne, bne_eq_false_iff_eq, Bool.not_eq_true', Bool.not_eq_false', Bool.not_eq_true, Bool.not_eq_false, Bool.and_eq_true, Bool.or_eq_true, Bool.and_eq_false_iff, Bool.or_eq_false_iff, Int.not_lt, Int.not_le, ne_eq, gt_iff_lt, ge_iff_le] at hb') <;> (try (exfalso; omega))) | (refine altW.of ?_ ?_) | (refine .of ((RightB_spec b _).mono ?_); rintro v _ ⟨rfl, rfl⟩)
    all_goals exact .back rfl ⟨by (first | with_reducible rfl | ((try simp (disch := first | with_reducible assumption | omega) only [if_pos, if_neg, ansB, Bk.zero, Bk.val]) <;> repeat' first | with_reducible rfl | omega | congr 1)), rfl⟩

theorem fill_ok {b : Bk} {t : Int} (h : (fillB b t).2 = 0) : b.right ∧ okT b t ∧ fillB b t = (filled b t, 0) := by
  unfold fillB at h ⊢
  by_cases hr : b.right
  · by_cases ht : okT b t
    · exact ⟨hr, ht, by rw [if_pos hr, if_pos ht]⟩
    · rw [if_pos hr, if_neg ht] at h; simp at h
  · rw [if_neg hr] at h; simp at h

theorem Take_spec (b : Bk) (s : S) (H : Heap) : ACallK Try.prog 29 [b.val, s.val] H (fun v H' => v = ansT (takeB b s) ∧ H' = H) := by
  refine .walkW f29_ok (by simp; decide) (by decide) ?_
  by_cases hf : (fillB b s.at').2 = 0
  · obtain ⟨hr, ht, hF⟩ := fill_ok hf
    by_cases hb : okB s.by'
    · have hc := hr.cost hb
      have hb' := hb
      unfold okB at hb'
      have hlv : 0 ≤ (filled b s.at').lv ∧ (filled b s.at').lv ≤ 1099511627776 := by have h1 := filled_right hr ht; have h2 := h1.prod; unfold Bk.right at h1; omega
      have hden : (filled b s.at').den = b.den := rfl
      by_cases hl : s.by' * b.den ≤ (filled b s.at').lv
      · rw [show takeB b s = ({ filled b s.at' with lv := (filled b s.at').lv - s.by' * b.den }, true, 0) by rw [takeB, if_pos hf, if_pos hb, if_pos hl]]
        repeat' first | simp (disch := first | with_reducible assumption | omega) only [go_sem, Bool.true_and, Bool.and_true, Bool.and_self, Bool.false_and, Bool.and_false, Bool.true_or, Bool.or_true, Bool.false_or, Bool.or_false, ↓reduceIte, Nat.reduceEqDiff, Nat.reduceAdd, Nat.reduceMul, Nat.reduceSub, Nat.reduceBEq, Nat.reduceLeDiff, Nat.reduceLT, Nat.reduceMod, Nat.reduceDiv, Int.reduceToNat, Int.reducePow, Int.reduceMul, Int.reduceAdd, Int.reduceSub, Int.reduceLE, Int.reduceLT, Int.reduceNeg, Int.reduceDiv, Int.reduceMod, Int.reduceEq, Int.reduceBEq, Int.reduceBNe, f29, f29b, f29r0, f29r1, f29r2, f29r3, f29r4, f29r5, f29r6, f29r7, f29r8, f29r9, Bk.val, S.val] | (refine BrW.of (fun hb => ?_) (fun hb => ?_) <;> (have hb' := hb; try simp only [decide_eq_true_eq, decide_eq_false_iff_not, beq_iff_eq, bne_iff_ne, beq_eq_false_iff_ne, bne_eq_false_iff_eq, Bool.not_eq_true', Bool.not_eq_false', Bool.not_eq_true, Bool.not_eq_false, Bool.and_eq_true, Bool.or_eq_true, Bool.and_eq_false_iff, Bool.or_eq_false_iff, Int.not_lt, Int.not_le, ne_eq, gt_iff_lt, ge_iff_le] at hb') <;> (try (exfalso; omega))) | (refine altW.of ?_ ?_) | (refine .of ((Fill_spec b s.at' _).mono ?_); rintro v _ ⟨rfl, rfl⟩; rw [hF]; simp only [ansB, Bk.val, hden])
        all_goals exact .back rfl ⟨by (first | with_reducible rfl | ((try simp (disch := first | with_reducible assumption | omega) only [if_pos, if_neg, ansT, Bk.val]) <;> repeat' first | with_reducible rfl | omega | congr 1)), rfl⟩
      · rw [show takeB b s = (filled b s.at', false, 0) by rw [takeB, if_pos hf, if_pos hb, if_neg hl]]
        repeat' first | simp (disch := first | with_reducible assumption | omega) only [go_sem, Bool.true_and, Bool.and_true, Bool.and_self, Bool.false_and, Bool.and_false, Bool.true_or, Bool.or_true, Bool.false_or, Bool.or_false, ↓reduceIte, Nat.reduceEqDiff, Nat.reduceAdd, Nat.reduceMul, Nat.reduceSub, Nat.reduceBEq, Nat.reduceLeDiff, Nat.reduceLT, Nat.reduceMod, Nat.reduceDiv, Int.reduceToNat, Int.reducePow, Int.reduceMul, Int.reduceAdd, Int.reduceSub, Int.reduceLE, Int.reduceLT, Int.reduceNeg, Int.reduceDiv, Int.reduceMod, Int.reduceEq, Int.reduceBEq, Int.reduceBNe, f29, f29b, f29r0, f29r1, f29r2, f29r3, f29r4, f29r5, f29r6, f29r7, f29r8, f29r9, Bk.val, S.val] | (refine BrW.of (fun hb => ?_) (fun hb => ?_) <;> (have hb' := hb; try simp only [decide_eq_true_eq, decide_eq_false_iff_not, beq_iff_eq, bne_iff_ne, beq_eq_false_iff_ne, bne_eq_false_iff_eq, Bool.not_eq_true', Bool.not_eq_false', Bool.not_eq_true, Bool.not_eq_false, Bool.and_eq_true, Bool.or_eq_true, Bool.and_eq_false_iff, Bool.or_eq_false_iff, Int.not_lt, Int.not_le, ne_eq, gt_iff_lt, ge_iff_le] at hb') <;> (try (exfalso; omega))) | (refine altW.of ?_ ?_) | (refine .of ((Fill_spec b s.at' _).mono ?_); rintro v _ ⟨rfl, rfl⟩; rw [hF]; simp only [ansB, Bk.val, hden])
        all_goals exact .back rfl ⟨by (first | with_reducible rfl | ((try simp (disch := first | with_reducible assumption | omega) only [if_pos, if_neg, ansT, Bk.val]) <;> repeat' first | with_reducible rfl | omega | congr 1)), rfl⟩
    · rw [show takeB b s = (Bk.zero, false, 2) by rw [takeB, if_pos hf, if_neg hb]]
      have hb' : s.by' < 0 ∨ 1048576 < s.by' := by unfold okB at hb; omega
      repeat' first | simp (disch := first | with_reducible assumption | omega) only [go_sem, Bool.true_and, Bool.and_true, Bool.and_self, Bool.false_and, Bool.and_false, Bool.true_or, Bool.or_true, Bool.false_or, Bool.or_false, ↓reduceIte, Nat.reduceEqDiff, Nat.reduceAdd, Nat.reduceMul, Nat.reduceSub, Nat.reduceBEq, Nat.reduceLeDiff, Nat.reduceLT, Nat.reduceMod, Nat.reduceDiv, Int.reduceToNat, Int.reducePow, Int.reduceMul, Int.reduceAdd, Int.reduceSub, Int.reduceLE, Int.reduceLT, Int.reduceNeg, Int.reduceDiv, Int.reduceMod, Int.reduceEq, Int.reduceBEq, Int.reduceBNe, f29, f29b, f29r0, f29r1, f29r2, f29r3, f29r4, f29r5, f29r6, f29r7, f29r8, f29r9, Bk.val, S.val] | (refine BrW.of (fun hb => ?_) (fun hb => ?_) <;> (have hb' := hb; try simp only [decide_eq_true_eq, decide_eq_false_iff_not, beq_iff_eq, bne_iff_ne, beq_eq_false_iff_ne, bne_eq_false_iff_eq, Bool.not_eq_true', Bool.not_eq_false', Bool.not_eq_true, Bool.not_eq_false, Bool.and_eq_true, Bool.or_eq_true, Bool.and_eq_false_iff, Bool.or_eq_false_iff, Int.not_lt, Int.not_le, ne_eq, gt_iff_lt, ge_iff_le] at hb') <;> (try (exfalso; omega))) | (refine altW.of ?_ ?_) | (refine .of ((Fill_spec b s.at' _).mono ?_); rintro v _ ⟨rfl, rfl⟩; rw [hF]; simp only [ansB, Bk.val])
      all_goals exact .back rfl ⟨by (first | with_reducible rfl | ((try simp (disch := first | with_reducible assumption | omega) only [if_pos, if_neg, ansT, Bk.zero, Bk.val]) <;> repeat' first | with_reducible rfl | omega | congr 1)), rfl⟩
  · rw [show takeB b s = (Bk.zero, false, (fillB b s.at').2) by rw [takeB, if_neg hf]]
    have hf' : ((fillB b s.at').2 != 0) = true := by simpa using hf
    repeat' first | simp (disch := first | with_reducible assumption | omega) only [go_sem, Bool.true_and, Bool.and_true, Bool.and_self, Bool.false_and, Bool.and_false, Bool.true_or, Bool.or_true, Bool.false_or, Bool.or_false, ↓reduceIte, Nat.reduceEqDiff, Nat.reduceAdd, Nat.reduceMul, Nat.reduceSub, Nat.reduceBEq, Nat.reduceLeDiff, Nat.reduceLT, Nat.reduceMod, Nat.reduceDiv, Int.reduceToNat, Int.reducePow, Int.reduceMul, Int.reduceAdd, Int.reduceSub, Int.reduceLE, Int.reduceLT, Int.reduceNeg, Int.reduceDiv, Int.reduceMod, Int.reduceEq, Int.reduceBEq, Int.reduceBNe, f29, f29b, f29r0, f29r1, f29r2, f29r3, f29r4, f29r5, f29r6, f29r7, f29r8, f29r9, Bk.val, S.val] | (refine BrW.of (fun hb => ?_) (fun hb => ?_) <;> (have hb' := hb; try simp only [decide_eq_true_eq, decide_eq_false_iff_not, beq_iff_eq, bne_iff_ne, beq_eq_false_iff_ne, bne_eq_false_iff_eq, Bool.not_eq_true', Bool.not_eq_false', Bool.not_eq_true, Bool.not_eq_false, Bool.and_eq_true, Bool.or_eq_true, Bool.and_eq_false_iff, Bool.or_eq_false_iff, Int.not_lt, Int.not_le, ne_eq, gt_iff_lt, ge_iff_le] at hb') <;> (try (exfalso; omega))) | (refine altW.of ?_ ?_) | (refine .of ((Fill_spec b s.at' _).mono ?_); rintro v _ ⟨rfl, rfl⟩; simp only [ansB, Bk.val])
    all_goals exact .back rfl ⟨by (first | with_reducible rfl | ((try simp (disch := first | with_reducible assumption | omega) only [if_pos, if_neg, ansT, Bk.zero, Bk.val]) <;> repeat' first | with_reducible rfl | omega | congr 1)), rfl⟩

def full (n d b : Int) : Bk := ⟨n, d, b, b * d, 0⟩
def may (n d b : Int) : Bk := ⟨n, d, b, 0, 0⟩
theorem full_right {n d b : Int} (h : (may n d b).right) : (full n d b).right := by
  have := h.prod
  obtain ⟨h1, h2, h3, h4, h5, h6, h7, h8, h9, h10⟩ := h
  exact ⟨h1, h2, h3, h4, h5, h6, this.1, Int.le_refl _, h9, h10⟩
theorem Full_spec (n d b : Int) (H : Heap) : ACallK Try.prog 16 [.int .i64 n, .int .i64 d, .int .i64 b] H (fun v H' => v = ansB (if (may n d b).right then (full n d b, 0) else (Bk.zero, 2)) ∧ H' = H) := by
  by_cases hr : (may n d b).right
  · rw [if_pos hr]
    have hR : (!decide (may n d b).right) = false := by simp [hr]
    have hp := hr.prod
    simp only [may] at hp
    refine .walkW f16_ok (by simp; decide) (by decide) ?_
    repeat' first | simp (disch := first | with_reducible assumption | omega) only [go_sem, Bool.true_and, Bool.and_true, Bool.and_self, Bool.false_and, Bool.and_false, Bool.true_or, Bool.or_true, Bool.false_or, Bool.or_false, ↓reduceIte, Nat.reduceEqDiff, Nat.reduceAdd, Nat.reduceMul, Nat.reduceSub, Nat.reduceBEq, Nat.reduceLeDiff, Nat.reduceLT, Nat.reduceMod, Nat.reduceDiv, Int.reduceToNat, Int.reducePow, Int.reduceMul, Int.reduceAdd, Int.reduceSub, Int.reduceLE, Int.reduceLT, Int.reduceNeg, Int.reduceDiv, Int.reduceMod, Int.reduceEq, Int.reduceBEq, Int.reduceBNe, f16, f16b, f16r0, f16r1, f16r2, f16r3, f16r4, f16r5, Bk.val, Bk.cells] | (refine BrW.of (fun hb => ?_) (fun hb => ?_) <;> (have hb' := hb; try simp only [decide_eq_true_eq, decide_eq_false_iff_not, beq_iff_eq, bne_iff_ne, beq_eq_false_iff_ne, bne_eq_false_iff_eq, Bool.not_eq_true', Bool.not_eq_false', Bool.not_eq_true, Bool.not_eq_false, Bool.and_eq_true, Bool.or_eq_true, Bool.and_eq_false_iff, Bool.or_eq_false_iff, Int.not_lt, Int.not_le, ne_eq, gt_iff_lt, ge_iff_le] at hb') <;> (try (exfalso; omega))) | (refine altW.of ?_ ?_) | (refine .of ((RightB_spec (may n d b) _).mono ?_); rintro v _ ⟨rfl, rfl⟩)
    all_goals exact .back rfl ⟨rfl, rfl⟩
  · rw [if_neg hr]
    have hR : (!decide (may n d b).right) = true := by simp [hr]
    refine .walkW f16_ok (by simp; decide) (by decide) ?_
    repeat' first | simp (disch := first | with_reducible assumption | omega) only [go_sem, Bool.true_and, Bool.and_true, Bool.and_self, Bool.false_and, Bool.and_false, Bool.true_or, Bool.or_true, Bool.false_or, Bool.or_false, ↓reduceIte, Nat.reduceEqDiff, Nat.reduceAdd, Nat.reduceMul, Nat.reduceSub, Nat.reduceBEq, Nat.reduceLeDiff, Nat.reduceLT, Nat.reduceMod, Nat.reduceDiv, Int.reduceToNat, Int.reducePow, Int.reduceMul, Int.reduceAdd, Int.reduceSub, Int.reduceLE, Int.reduceLT, Int.reduceNeg, Int.reduceDiv, Int.reduceMod, Int.reduceEq, Int.reduceBEq, Int.reduceBNe, f16, f16b, f16r0, f16r1, f16r2, f16r3, f16r4, f16r5, Bk.val, Bk.cells] | (refine BrW.of (fun hb => ?_) (fun hb => ?_) <;> (have hb' := hb; try simp only [decide_eq_true_eq, decide_eq_false_iff_not, beq_iff_eq, bne_iff_ne, beq_eq_false_iff_ne, bne_eq_false_iff_eq, Bool.not_eq_true', Bool.not_eq_false', Bool.not_eq_true, Bool.not_eq_false, Bool.and_eq_true, Bool.or_eq_true, Bool.and_eq_false_iff, Bool.or_eq_false_iff, Int.not_lt, Int.not_le, ne_eq, gt_iff_lt, ge_iff_le] at hb') <;> (try (exfalso; omega))) | (refine altW.of ?_ ?_) | (refine .of ((RightB_spec (may n d b) _).mono ?_); rintro v _ ⟨rfl, rfl⟩)
    all_goals exact .back rfl ⟨rfl, rfl⟩

end Go.Proofs.Ytfoooabhfecjhaa
