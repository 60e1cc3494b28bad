import Derived.Test.YtandagipamhmgaaTab
import Derived.Test.YtandagipamhmgaaPlain
set_option linter.unusedSimpArgs false
set_option linter.unusedVariables false
set_option maxHeartbeats 1000000
namespace Go.Proofs.Ytandagipamhmgaa
open Go Go.Am

def F.cells (a : F) : List Value := [.int .i64 a.num, .int .i64 a.den]
def F.val (a : F) : Value := .agg #[.int .i64 a.num, .int .i64 a.den]
def ansF (r : F × Int) : Value := .tuple #[r.1.val, .int .i64 r.2]

theorem Right_spec (a : F) (H : Heap) : ACallK Try.prog 11 [a.val] H (fun v H' => v = .bool (decide a.right) ∧ H' = H) := by
  refine .walkW f11_ok (by simp; decide) (by decide) ?_
  repeat' first | simp (disch := first | with_reducible assumption | omega) only [go_sem, Bool.true_and, Bool.and_true, Bool.and_self, Bool.false_and, Bool.and_false, Bool.true_or, Bool.or_true, Bool.false_or, Bool.or_false, ↓reduceIte, Nat.reduceEqDiff, Nat.reduceAdd, Nat.reduceMul, Nat.reduceSub, Nat.reduceBEq, Nat.reduceLeDiff, Nat.reduceLT, Nat.reduceMod, Nat.reduceDiv, Int.reduceToNat, Int.reducePow, Int.reduceMul, Int.reduceAdd, Int.reduceSub, Int.reduceLE, Int.reduceLT, Int.reduceNeg, Int.reduceDiv, Int.reduceMod, Int.reduceEq, Int.reduceBEq, Int.reduceBNe, f11, f11b, f11r0, f11r1, F.val] | (refine BrW.of (fun hb => ?_) (fun hb => ?_) <;> (have hb' := hb; try simp only [decide_eq_true_eq, decide_eq_false_iff_not, beq_iff_eq, bne_iff_ne, beq_eq_false_iff_ne, bne_eq_false_iff_eq, Bool.not_eq_true', Bool.not_eq_false', Bool.not_eq_true, Bool.not_eq_false, Bool.and_eq_true, Bool.or_eq_true, Bool.and_eq_false_iff, Bool.or_eq_false_iff, Int.not_lt, Int.not_le, ne_eq, gt_iff_lt, ge_iff_le] at hb') <;> (try (exfalso; omega)))
  all_goals exact .back rfl ⟨by (first | with_reducible rfl | (congr 1; first | with_reducible rfl | omega | (rw [Bool.eq_iff_iff]; simp only [decide_eq_true_eq, decide_eq_false_iff_not, beq_iff_eq, bne_iff_ne, beq_eq_false_iff_ne, bne_eq_false_iff_eq, Bool.not_eq_true', Bool.not_eq_false', Bool.not_eq_true, Bool.not_eq_false, Bool.and_eq_true, Bool.or_eq_true, Bool.and_eq_false_iff, Bool.or_eq_false_iff, Int.not_lt, Int.not_le, ne_eq, gt_iff_lt, ge_iff_le, Bool.and_false, Bool.false_and, Bool.or_true, Bool.true_or, Bool.false_eq_true, true_iff, iff_true, false_iff, iff_false, eq_self, not_true_eq_false, not_false_eq_true]; try simp only [F.right]; try omega))), rfl⟩

theorem gcd_spec (a b : Int) (ha : a.natAbs ≤ 4611686018427387904) (hb : b.natAbs ≤ 4611686018427387904) (H : Heap) : ACallK Try.prog 17 [.int .i64 a, .int .i64 b] H (fun v H' => v = .int .i64 (Int.gcd a b) ∧ H' = H) := by
  refine .walkW f17_ok (by simp; decide) (by decide) ?_
  simp (disch := first | with_reducible assumption | omega) only [go_sem, Bool.true_and, Bool.and_true, Bool.and_self, Bool.false_and, Bool.and_false, Bool.true_or, Bool.or_true, Bool.false_or, Bool.or_false, ↓reduceIte, Nat.reduceEqDiff, Nat.reduceAdd, Nat.reduceMul, Nat.reduceSub, Nat.reduceBEq, Nat.reduceLeDiff, Nat.reduceLT, Nat.reduceMod, Nat.reduceDiv, Int.reduceToNat, Int.reducePow, Int.reduceMul, Int.reduceAdd, Int.reduceSub, Int.reduceLE, Int.reduceLT, Int.reduceNeg, Int.reduceDiv, Int.reduceMod, Int.reduceEq, Int.reduceBEq, Int.reduceBNe, f17, f17b, f17r0, f17r1, f17r2, f17r4]
  refine loopW.of (by decide) (fun m e H' => ∃ x y, e = [(0, .int .i64 x), (1, .int .i64 y)] ∧ H' = H ∧ x.natAbs ≤ 4611686018427387904 ∧ y.natAbs ≤ 4611686018427387904 ∧ m = y.natAbs ∧ Int.gcd x y = Int.gcd a b) b.natAbs ⟨a, b, rfl, rfl, ha, hb, rfl, rfl⟩ ?_
  rintro m e H' ⟨x, y, rfl, rfl, hx, hy, rfl, hg⟩
  repeat' first | simp (disch := first | with_reducible assumption | omega) only [go_sem, Bool.true_and, Bool.and_true, Bool.and_self, Bool.false_and, Bool.and_false, Bool.true_or, Bool.or_true, Bool.false_or, Bool.or_false, ↓reduceIte, Nat.reduceEqDiff, Nat.reduceAdd, Nat.reduceMul, Nat.reduceSub, Nat.reduceBEq, Nat.reduceLeDiff, Nat.reduceLT, Nat.reduceMod, Nat.reduceDiv, Int.reduceToNat, Int.reducePow, Int.reduceMul, Int.reduceAdd, Int.reduceSub, Int.reduceLE, Int.reduceLT, Int.reduceNeg, Int.reduceDiv, Int.reduceMod, Int.reduceEq, Int.reduceBEq, Int.reduceBNe, f17, f17b, f17r0, f17r1, f17r2, f17r4, f17l0] | (refine BrW.of (fun hb => ?_) (fun hb => ?_) <;> (have hb' := hb; try simp only [decide_eq_true_eq, decide_eq_false_iff_not, beq_iff_eq, bne_iff_ne, beq_eq_false_iff_ne, bne_eq_false_iff_eq, Bool.not_eq_true', Bool.not_eq_false', Bool.not_eq_true, Bool.not_eq_false, Bool.and_eq_true, Bool.or_eq_true, Bool.and_eq_false_iff, Bool.or_eq_false_iff, Int.not_lt, Int.not_le, ne_eq, gt_iff_lt, ge_iff_le] at hb') <;> (try (exfalso; omega)))
  · have hy0 : y ≠ 0 := by simpa using hb
    have ht := tmod_small x y hy0
    refine RdW.keep [0, 1] (x.tmod y).natAbs ht ?_
    simp (disch := first | with_reducible assumption | omega) only [go_sem, Bool.true_and, Bool.and_true, Bool.and_self, Bool.false_and, Bool.and_false, Bool.true_or, Bool.or_true, Bool.false_or, Bool.or_false, ↓reduceIte, Nat.reduceEqDiff, Nat.reduceAdd, Nat.reduceMul, Nat.reduceSub, Nat.reduceBEq, Nat.reduceLeDiff, Nat.reduceLT, Nat.reduceMod, Nat.reduceDiv, Int.reduceToNat, Int.reducePow, Int.reduceMul, Int.reduceAdd, Int.reduceSub, Int.reduceLE, Int.reduceLT, Int.reduceNeg, Int.reduceDiv, Int.reduceMod, Int.reduceEq, Int.reduceBEq, Int.reduceBNe, f17, f17b, f17r0, f17r1, f17r2, f17r4]
    exact ⟨y, x.tmod y, rfl, hy, by omega, rfl, (gcd_step x y).trans hg⟩
  · have hy0 : y = 0 := by simpa using hb
    subst hy0
    exact .here ⟨by rw [← hg, Int.gcd_zero_right]; congr 1; omega, rfl⟩

theorem lowest_spec (n d : Int) (hn : n.natAbs ≤ 4611686018427387904) (hd : 1 ≤ d ∧ d ≤ 4611686018427387904) (H : Heap) : ACallK Try.prog 16 [.int .i64 n, .int .i64 d] H (fun v H' => v = ansF (lowF (Rat.divInt n d)) ∧ H' = H) := by
  refine .walkW f16_ok (by simp; decide) (by decide) ?_
  have h1 := lowest_eq n d (by omega)
  have h2 := lowest_small n d (by omega)
  have hg0 : 1 ≤ (Int.gcd n d : Int) := by have := Int.gcd_pos_of_ne_zero_right n (show d ≠ 0 by omega); omega
  have q1 : iquo .i64 n (Int.gcd n d) = (Rat.divInt n d).num := by unfold iquo; rw [h1.1]; exact wrap_i64 _ (by omega)
  have q2 : iquo .i64 d (Int.gcd n d) = ((Rat.divInt n d).den : Int) := by unfold iquo; rw [h1.2]; exact wrap_i64 _ (by omega)
  have q3 : d / (Int.gcd n d : Int) = ((Rat.divInt n d).den : Int) := by rw [← h1.2, Int.tdiv_eq_ediv_of_nonneg (by omega)]
  have q4 : 0 ≤ n → n / (Int.gcd n d : Int) = (Rat.divInt n d).num := fun h => by rw [← h1.1, Int.tdiv_eq_ediv_of_nonneg h]
  by_cases hr : (F.of (Rat.divInt n d)).right
  · have hR : (!decide (F.of (Rat.divInt n d)).right) = false := by simp [hr]
    repeat' first | simp (disch := first | with_reducible assumption | omega) only [go_sem, Bool.true_and, Bool.and_true, Bool.and_self, Bool.false_and, Bool.and_false, Bool.true_or, Bool.or_true, Bool.false_or, Bool.or_false, ↓reduceIte, Nat.reduceEqDiff, Nat.reduceAdd, Nat.reduceMul, Nat.reduceSub, Nat.reduceBEq, Nat.reduceLeDiff, Nat.reduceLT, Nat.reduceMod, Nat.reduceDiv, Int.reduceToNat, Int.reducePow, Int.reduceMul, Int.reduceAdd, Int.reduceSub, Int.reduceLE, Int.reduceLT, Int.reduceNeg, Int.reduceDiv, Int.reduceMod, Int.reduceEq, Int.reduceBEq, Int.reduceBNe, f16, f16b, f16r0, f16r1, f16r2, f16r3, f16r4, f16r5, q1, q2, q3, q4] | (refine BrW.of (fun hb => ?_) (fun hb => ?_) <;> (have hb' := hb; try simp only [decide_eq_true_eq, decide_eq_false_iff_not, beq_iff_eq, bne_iff_ne, beq_eq_false_iff_ne, bne_eq_false_iff_eq, Bool.not_eq_true', Bool.not_eq_false', Bool.not_eq_true, Bool.not_eq_false, Bool.and_eq_true, Bool.or_eq_true, Bool.and_eq_false_iff, Bool.or_eq_false_iff, Int.not_lt, Int.not_le, ne_eq, gt_iff_lt, ge_iff_le] at hb') <;> (try (exfalso; omega))) | (refine .of ((gcd_spec n d hn (by omega) _).mono ?_); rintro v _ ⟨rfl, rfl⟩) | (refine .of ((Right_spec (F.of (Rat.divInt n d)) _).mono ?_); rintro v _ ⟨rfl, rfl⟩)
    all_goals exact .back rfl ⟨by rw [show lowF (Rat.divInt n d) = (F.of (Rat.divInt n d), 0) from if_pos hr]; rfl, rfl⟩
  · have hR : (!decide (F.of (Rat.divInt n d)).right) = true := by simp [hr]
    repeat' first | simp (disch := first | with_reducible assumption | omega) only [go_sem, Bool.true_and, Bool.and_true, Bool.and_self, Bool.false_and, Bool.and_false, Bool.true_or, Bool.or_true, Bool.false_or, Bool.or_false, ↓reduceIte, Nat.reduceEqDiff, Nat.reduceAdd, Nat.reduceMul, Nat.reduceSub, Nat.reduceBEq, Nat.reduceLeDiff, Nat.reduceLT, Nat.reduceMod, Nat.reduceDiv, Int.reduceToNat, Int.reducePow, Int.reduceMul, Int.reduceAdd, Int.reduceSub, Int.reduceLE, Int.reduceLT, Int.reduceNeg, Int.reduceDiv, Int.reduceMod, Int.reduceEq, Int.reduceBEq, Int.reduceBNe, f16, f16b, f16r0, f16r1, f16r2, f16r3, f16r4, f16r5, q1, q2, q3, q4] | (refine BrW.of (fun hb => ?_) (fun hb => ?_) <;> (have hb' := hb; try simp only [decide_eq_true_eq, decide_eq_false_iff_not, beq_iff_eq, bne_iff_ne, beq_eq_false_iff_ne, bne_eq_false_iff_eq, Bool.not_eq_true', Bool.not_eq_false', Bool.not_eq_true, Bool.not_eq_false, Bool.and_eq_true, Bool.or_eq_true, Bool.and_eq_false_iff, Bool.or_eq_false_iff, Int.not_lt, Int.not_le, ne_eq, gt_iff_lt, ge_iff_le] at hb') <;> (try (exfalso; omega))) | (refine .of ((gcd_spec n d hn (by omega) _).mono ?_); rintro v _ ⟨rfl, rfl⟩) | (refine .of ((Right_spec (F.of (Rat.divInt n d)) _).mono ?_); rintro v _ ⟨rfl, rfl⟩)
    all_goals exact .back rfl ⟨by rw [show lowF (Rat.divInt n d) = (⟨0, 0⟩, 4) from if_neg hr]; rfl, rfl⟩

theorem mul_abs (a b : Int) {m n : Nat} (ha : a.natAbs ≤ m) (hb : b.natAbs ≤ n) : (a * b).natAbs ≤ m * n := by rw [Int.natAbs_mul]; exact Nat.mul_le_mul ha hb
theorem F.abs {a : F} (h : a.right) : a.num.natAbs ≤ 1073741824 ∧ a.den.natAbs ≤ 1073741824 := by unfold F.right at h; omega

theorem Add_spec (a b : F) (H : Heap) : ACallK Try.prog 12 [a.val, b.val] H (fun v H' => v = ansF (addF a b) ∧ H' = H) := by
  refine .walkW f12_ok (by simp; decide) (by decide) ?_
  by_cases ha : a.right
  · have hA : (!decide a.right) = false := by simp [ha]
    by_cases hb : b.right
    · have hB : (!decide b.right) = false := by simp [hb]
      have a1 := F.abs ha
      have b1 := F.abs hb
      have m1 := mul_abs a.num b.den a1.1 b1.2
      have m2 := mul_abs b.num a.den b1.1 a1.2
      have m3 := mul_abs a.den b.den a1.2 b1.2
      have m4 : 1 ≤ a.den * b.den := Int.mul_pos (show 0 < a.den by have := ha.1; omega) (show 0 < b.den by have := hb.1; omega)
      repeat' first | simp (disch := first | with_reducible assumption | omega) only [go_sem, Bool.true_and, Bool.and_true, Bool.and_self, Bool.false_and, Bool.and_false, Bool.true_or, Bool.or_true, Bool.false_or, Bool.or_false, ↓reduceIte, Nat.reduceEqDiff, Nat.reduceAdd, Nat.reduceMul, Nat.reduceSub, Nat.reduceBEq, Nat.reduceLeDiff, Nat.reduceLT, Nat.reduceMod, Nat.reduceDiv, Int.reduceToNat, Int.reducePow, Int.reduceMul, Int.reduceAdd, Int.reduceSub, Int.reduceLE, Int.reduceLT, Int.reduceNeg, Int.reduceDiv, Int.reduceMod, Int.reduceEq, Int.reduceBEq, Int.reduceBNe, f12, f12b, f12r0, f12r1, f12r2, f12r3, F.val] | (refine BrW.of (fun hb => ?_) (fun hb => ?_) <;> (have hb' := hb; try simp only [decide_eq_true_eq, decide_eq_false_iff_not, beq_iff_eq, bne_iff_ne, beq_eq_false_iff_ne, bne_eq_false_iff_eq, Bool.not_eq_true', Bool.not_eq_false', Bool.not_eq_true, Bool.not_eq_false, Bool.and_eq_true, Bool.or_eq_true, Bool.and_eq_false_iff, Bool.or_eq_false_iff, Int.not_lt, Int.not_le, ne_eq, gt_iff_lt, ge_iff_le] at hb') <;> (try (exfalso; omega))) | (refine .of ((Right_spec a _).mono ?_); rintro v _ ⟨rfl, rfl⟩) | (refine .of ((Right_spec b _).mono ?_); rintro v _ ⟨rfl, rfl⟩) | (refine .of ((lowest_spec (a.num * b.den + b.num * a.den) (a.den * b.den) (by omega) (by omega) _).mono ?_); rintro v _ ⟨rfl, rfl⟩; rw [← add_q ha hb]; simp only [ansF, F.val])
      exact .back rfl ⟨by rw [show addF a b = lowF (a.q + b.q) from if_pos ⟨ha, hb⟩]; rfl, rfl⟩
    · have hB : (!decide b.right) = true := by simp [hb]
      repeat' first | simp (disch := first | with_reducible assumption | omega) only [go_sem, Bool.true_and, Bool.and_true, Bool.and_self, Bool.false_and, Bool.and_false, Bool.true_or, Bool.or_true, Bool.false_or, Bool.or_false, ↓reduceIte, Nat.reduceEqDiff, Nat.reduceAdd, Nat.reduceMul, Nat.reduceSub, Nat.reduceBEq, Nat.reduceLeDiff, Nat.reduceLT, Nat.reduceMod, Nat.reduceDiv, Int.reduceToNat, Int.reducePow, Int.reduceMul, Int.reduceAdd, Int.reduceSub, Int.reduceLE, Int.reduceLT, Int.reduceNeg, Int.reduceDiv, Int.reduceMod, Int.reduceEq, Int.reduceBEq, Int.reduceBNe, f12, f12b, f12r0, f12r1, f12r2, f12r3, F.val] | (refine BrW.of (fun hb => ?_) (fun hb => ?_) <;> (have hb' := hb; try simp only [decide_eq_true_eq, decide_eq_false_iff_not, beq_iff_eq, bne_iff_ne, beq_eq_false_iff_ne, bne_eq_false_iff_eq, Bool.not_eq_true', Bool.not_eq_false', Bool.not_eq_true, Bool.not_eq_false, Bool.and_eq_true, Bool.or_eq_true, Bool.and_eq_false_iff, Bool.or_eq_false_iff, Int.not_lt, Int.not_le, ne_eq, gt_iff_lt, ge_iff_le] at hb') <;> (try (exfalso; omega))) | (refine .of ((Right_spec a _).mono ?_); rintro v _ ⟨rfl, rfl⟩) | (refine .of ((Right_spec b _).mono ?_); rintro v _ ⟨rfl, rfl⟩)
      exact .back rfl ⟨by rw [show addF a b = (⟨0, 0⟩, 2) from if_neg (fun h => hb h.2)]; rfl, rfl⟩
  · have hA : (!decide a.right) = true := by simp [ha]
    repeat' first | simp (disch := first | with_reducible assumption | omega) only [go_sem, Bool.true_and, Bool.and_true, Bool.and_self, Bool.false_and, Bool.and_false, Bool.true_or, Bool.or_true, Bool.false_or, Bool.or_false, ↓reduceIte, Nat.reduceEqDiff, Nat.reduceAdd, Nat.reduceMul, Nat.reduceSub, Nat.reduceBEq, Nat.reduceLeDiff, Nat.reduceLT, Nat.reduceMod, Nat.reduceDiv, Int.reduceToNat, Int.reducePow, Int.reduceMul, Int.reduceAdd, Int.reduceSub, Int.reduceLE, Int.reduceLT, Int.reduceNeg, Int.reduceDiv, Int.reduceMod, Int.reduceEq, Int.reduceBEq, Int.reduceBNe, f12, f12b, f12r0, f12r1, f12r2, f12r3, F.val] | (refine BrW.of (fun hb => ?_) (fun hb => ?_) <;> (have hb' := hb; try simp only [decide_eq_true_eq, decide_eq_false_iff_not, beq_iff_eq, bne_iff_ne, beq_eq_false_iff_ne, bne_eq_false_iff_eq, Bool.not_eq_true', Bool.not_eq_false', Bool.not_eq_true, Bool.not_eq_false, Bool.and_eq_true, Bool.or_eq_true, Bool.and_eq_false_iff, Bool.or_eq_false_iff, Int.not_lt, Int.not_le, ne_eq, gt_iff_lt, ge_iff_le] at hb') <;> (try (exfalso; omega))) | (refine .of ((Right_spec a _).mono ?_); rintro v _ ⟨rfl, rfl⟩)
    exact .back rfl ⟨by rw [show addF a b = (⟨0, 0⟩, 2) from if_neg (fun h => ha h.1)]; rfl, rfl⟩

theorem Mul_spec (a b : F) (H : Heap) : ACallK Try.prog 13 [a.val, b.val] H (fun v H' => v = ansF (mulF a b) ∧ H' = H) := by
  refine .walkW f13_ok (by simp; decide) (by decide) ?_
  by_cases ha : a.right
  · have hA : (!decide a.right) = false := by simp [ha]
    by_cases hb : b.right
    · have hB : (!decide b.right) = false := by simp [hb]
      have a1 := F.abs ha
      have b1 := F.abs hb
      have m1 := mul_abs a.num b.num a1.1 b1.1
      have m3 := mul_abs a.den b.den a1.2 b1.2
      have m4 : 1 ≤ a.den * b.den := Int.mul_pos (show 0 < a.den by have := ha.1; omega) (show 0 < b.den by have := hb.1; omega)
      repeat' first | simp (disch := first | with_reducible assumption | omega) only [go_sem, Bool.true_and, Bool.and_true, Bool.and_self, Bool.false_and, Bool.and_false, Bool.true_or, Bool.or_true, Bool.false_or, Bool.or_false, ↓reduceIte, Nat.reduceEqDiff, Nat.reduceAdd, Nat.reduceMul, Nat.reduceSub, Nat.reduceBEq, Nat.reduceLeDiff, Nat.reduceLT, Nat.reduceMod, Nat.reduceDiv, Int.reduceToNat, Int.reducePow, Int.reduceMul, Int.reduceAdd, Int.reduceSub, Int.reduceLE, Int.reduceLT, Int.reduceNeg, Int.reduceDiv, Int.reduceMod, Int.reduceEq, Int.reduceBEq, Int.reduceBNe, f13, f13b, f13r0, f13r1, f13r2, f13r3, F.val] | (refine BrW.of (fun hb => ?_) (fun hb => ?_) <;> (have hb' := hb; try simp only [decide_eq_true_eq, decide_eq_false_iff_not, beq_iff_eq, bne_iff_ne, beq_eq_false_iff_ne, bne_eq_false_iff_eq, Bool.not_eq_true', Bool.not_eq_false', Bool.not_eq_true, Bool.not_eq_false, Bool.and_eq_true, Bool.or_eq_true, Bool.and_eq_false_iff, Bool.or_eq_false_iff, Int.not_lt, Int.not_le, ne_eq, gt_iff_lt, ge_iff_le] at hb') <;> (try (exfalso; omega))) | (refine .of ((Right_spec a _).mono ?_); rintro v _ ⟨rfl, rfl⟩) | (refine .of ((Right_spec b _).mono ?_); rintro v _ ⟨rfl, rfl⟩) | (refine .of ((lowest_spec (a.num * b.num) (a.den * b.den) (by omega) (by omega) _).mono ?_); rintro v _ ⟨rfl, rfl⟩; rw [← mul_q]; simp only [ansF, F.val])
      exact .back rfl ⟨by rw [show mulF a b = lowF (a.q * b.q) from if_pos ⟨ha, hb⟩]; rfl, rfl⟩
    · have hB : (!decide b.right) = true := by simp [hb]
      repeat' first | simp (disch := first | with_reducible assumption | omega) only [go_sem, Bool.true_and, Bool.and_true, Bool.and_self, Bool.false_and, Bool.and_false, Bool.true_or, Bool.or_true, Bool.false_or, Bool.or_false, ↓reduceIte, Nat.reduceEqDiff, Nat.reduceAdd, Nat.reduceMul, Nat.reduceSub, Nat.reduceBEq, Nat.reduceLeDiff, Nat.reduceLT, Nat.reduceMod, Nat.reduceDiv, Int.reduceToNat, Int.reducePow, Int.reduceMul, Int.reduceAdd, Int.reduceSub, Int.reduceLE, Int.reduceLT, Int.reduceNeg, Int.reduceDiv, Int.reduceMod, Int.reduceEq, Int.reduceBEq, Int.reduceBNe, f13, f13b, f13r0, f13r1, f13r2, f13r3, F.val] | (refine BrW.of (fun hb => ?_) (fun hb => ?_) <;> (have hb' := hb; try simp only [decide_eq_true_eq, decide_eq_false_iff_not, beq_iff_eq, bne_iff_ne, beq_eq_false_iff_ne, bne_eq_false_iff_eq, Bool.not_eq_true', Bool.not_eq_false', Bool.not_eq_true, Bool.not_eq_false, Bool.and_eq_true, Bool.or_eq_true, Bool.and_eq_false_iff, Bool.or_eq_false_iff, Int.not_lt, Int.not_le, ne_eq, gt_iff_lt, ge_iff_le] at hb') <;> (try (exfalso; omega))) | (refine .of ((Right_spec a _).mono ?_); rintro v _ ⟨rfl, rfl⟩) | (refine .of ((Right_spec b _).mono ?_); rintro v _ ⟨rfl, rfl⟩)
      exact .back rfl ⟨by rw [show mulF a b = (⟨0, 0⟩, 2) from if_neg (fun h => hb h.2)]; rfl, rfl⟩
  · have hA : (!decide a.right) = true := by simp [ha]
    repeat' first | simp (disch := first | with_reducible assumption | omega) only [go_sem, Bool.true_and, Bool.and_true, Bool.and_self, Bool.false_and, Bool.and_false, Bool.true_or, Bool.or_true, Bool.false_or, Bool.or_false, ↓reduceIte, Nat.reduceEqDiff, Nat.reduceAdd, Nat.reduceMul, Nat.reduceSub, Nat.reduceBEq, Nat.reduceLeDiff, Nat.reduceLT, Nat.reduceMod, Nat.reduceDiv, Int.reduceToNat, Int.reducePow, Int.reduceMul, Int.reduceAdd, Int.reduceSub, Int.reduceLE, Int.reduceLT, Int.reduceNeg, Int.reduceDiv, Int.reduceMod, Int.reduceEq, Int.reduceBEq, Int.reduceBNe, f13, f13b, f13r0, f13r1, f13r2, f13r3, F.val] | (refine BrW.of (fun hb => ?_) (fun hb => ?_) <;> (have hb' := hb; try simp only [decide_eq_true_eq, decide_eq_false_iff_not, beq_iff_eq, bne_iff_ne, beq_eq_false_iff_ne, bne_eq_false_iff_eq, Bool.not_eq_true', Bool.not_eq_false', Bool.not_eq_true, Bool.not_eq_false, Bool.and_eq_true, Bool.or_eq_true, Bool.and_eq_false_iff, Bool.or_eq_false_iff, Int.not_lt, Int.not_le, ne_eq, gt_iff_lt, ge_iff_le] at hb') <;> (try (exfalso; omega))) | (refine .of ((Right_spec a _).mono ?_); rintro v _ ⟨rfl, rfl⟩)
    exact .back rfl ⟨by rw [show mulF a b = (⟨0, 0⟩, 2) from if_neg (fun h => ha h.1)]; rfl, rfl⟩

theorem Cmp_spec (a b : F) (H : Heap) : ACallK Try.prog 14 [a.val, b.val] H (fun v H' => v = .tuple #[.int .i64 (cmpF a b).1, .int .i64 (cmpF a b).2] ∧ H' = H) := by
  refine .walkW f14_ok (by simp; decide) (by decide) ?_
  by_cases ha : a.right
  · have hA : (!decide a.right) = false := by simp [ha]
    by_cases hb : b.right
    · have hB : (!decide b.right) = false := by simp [hb]
      have a1 := F.abs ha
      have b1 := F.abs hb
      have m1 := mul_abs a.num b.den a1.1 b1.2
      have m2 := mul_abs b.num a.den b1.1 a1.2
      have hc : cmpF a b = _ := if_pos ⟨ha, hb⟩
      rw [hc]
      repeat' first | simp (disch := first | with_reducible assumption | omega) only [go_sem, Bool.true_and, Bool.and_true, Bool.and_self, Bool.false_and, Bool.and_false, Bool.true_or, Bool.or_true, Bool.false_or, Bool.or_false, ↓reduceIte, Nat.reduceEqDiff, Nat.reduceAdd, Nat.reduceMul, Nat.reduceSub, Nat.reduceBEq, Nat.reduceLeDiff, Nat.reduceLT, Nat.reduceMod, Nat.reduceDiv, Int.reduceToNat, Int.reducePow, Int.reduceMul, Int.reduceAdd, Int.reduceSub, Int.reduceLE, Int.reduceLT, Int.reduceNeg, Int.reduceDiv, Int.reduceMod, Int.reduceEq, Int.reduceBEq, Int.reduceBNe, f14, f14b, f14r0, f14r1, f14r2, f14r3, f14r4, f14r5, f14r6, f14r7, f14r8, F.val] | (refine BrW.of (fun hb => ?_) (fun hb => ?_) <;> (have hb' := hb; try simp only [decide_eq_true_eq, decide_eq_false_iff_not, beq_iff_eq, bne_iff_ne, beq_eq_false_iff_ne, bne_eq_false_iff_eq, Bool.not_eq_true', Bool.not_eq_false', Bool.not_eq_true, Bool.not_eq_false, Bool.and_eq_true, Bool.or_eq_true, Bool.and_eq_false_iff, Bool.or_eq_false_iff, Int.not_lt, Int.not_le, ne_eq, gt_iff_lt, ge_iff_le] at hb') <;> (try (exfalso; omega))) | (refine .of ((Right_spec a _).mono ?_); rintro v _ ⟨rfl, rfl⟩) | (refine .of ((Right_spec b _).mono ?_); rintro v _ ⟨rfl, rfl⟩)
      all_goals exact .back rfl ⟨by (first | with_reducible rfl | ((try simp (disch := first | with_reducible assumption | omega) only [if_pos, if_neg]) <;> repeat' first | with_reducible rfl | omega | congr 1)), rfl⟩
    · have hB : (!decide b.right) = true := by simp [hb]
      repeat' first | simp (disch := first | with_reducible assumption | omega) only [go_sem, Bool.true_and, Bool.and_true, Bool.and_self, Bool.false_and, Bool.and_false, Bool.true_or, Bool.or_true, Bool.false_or, Bool.or_false, ↓reduceIte, Nat.reduceEqDiff, Nat.reduceAdd, Nat.reduceMul, Nat.reduceSub, Nat.reduceBEq, Nat.reduceLeDiff, Nat.reduceLT, Nat.reduceMod, Nat.reduceDiv, Int.reduceToNat, Int.reducePow, Int.reduceMul, Int.reduceAdd, Int.reduceSub, Int.reduceLE, Int.reduceLT, Int.reduceNeg, Int.reduceDiv, Int.reduceMod, Int.reduceEq, Int.reduceBEq, Int.reduceBNe, f14, f14b, f14r0, f14r1, f14r2, f14r3, f14r4, f14r5, f14r6, f14r7, f14r8, F.val] | (refine BrW.of (fun hb => ?_) (fun hb => ?_) <;> (have hb' := hb; try simp only [decide_eq_true_eq, decide_eq_false_iff_not, beq_iff_eq, bne_iff_ne, beq_eq_false_iff_ne, bne_eq_false_iff_eq, Bool.not_eq_true', Bool.not_eq_false', Bool.not_eq_true, Bool.not_eq_false, Bool.and_eq_true, Bool.or_eq_true, Bool.and_eq_false_iff, Bool.or_eq_false_iff, Int.not_lt, Int.not_le, ne_eq, gt_iff_lt, ge_iff_le] at hb') <;> (try (exfalso; omega))) | (refine .of ((Right_spec a _).mono ?_); rintro v _ ⟨rfl, rfl⟩) | (refine .of ((Right_spec b _).mono ?_); rintro v _ ⟨rfl, rfl⟩)
      exact .back rfl ⟨by rw [show cmpF a b = (0, 2) from if_neg (fun h => hb h.2)], rfl⟩
  · have hA : (!decide a.right) = true := by simp [ha]
    repeat' first | simp (disch := first | with_reducible assumption | omega) only [go_sem, Bool.true_and, Bool.and_true, Bool.and_self, Bool.false_and, Bool.and_false, Bool.true_or, Bool.or_true, Bool.false_or, Bool.or_false, ↓reduceIte, Nat.reduceEqDiff, Nat.reduceAdd, Nat.reduceMul, Nat.reduceSub, Nat.reduceBEq, Nat.reduceLeDiff, Nat.reduceLT, Nat.reduceMod, Nat.reduceDiv, Int.reduceToNat, Int.reducePow, Int.reduceMul, Int.reduceAdd, Int.reduceSub, Int.reduceLE, Int.reduceLT, Int.reduceNeg, Int.reduceDiv, Int.reduceMod, Int.reduceEq, Int.reduceBEq, Int.reduceBNe, f14, f14b, f14r0, f14r1, f14r2, f14r3, f14r4, f14r5, f14r6, f14r7, f14r8, F.val] | (refine BrW.of (fun hb => ?_) (fun hb => ?_) <;> (have hb' := hb; try simp only [decide_eq_true_eq, decide_eq_false_iff_not, beq_iff_eq, bne_iff_ne, beq_eq_false_iff_ne, bne_eq_false_iff_eq, Bool.not_eq_true', Bool.not_eq_false', Bool.not_eq_true, Bool.not_eq_false, Bool.and_eq_true, Bool.or_eq_true, Bool.and_eq_false_iff, Bool.or_eq_false_iff, Int.not_lt, Int.not_le, ne_eq, gt_iff_lt, ge_iff_le] at hb') <;> (try (exfalso; omega))) | (refine .of ((Right_spec a _).mono ?_); rintro v _ ⟨rfl, rfl⟩)
    exact .back rfl ⟨by rw [show cmpF a b = (0, 2) from if_neg (fun h => ha h.1)], rfl⟩

theorem Floor_spec (a : F) (H : Heap) : ACallK Try.prog 8 [a.val] H (fun v H' => v = .tuple #[.int .i64 (floorF a).1, .int .i64 (floorF a).2] ∧ H' = H) := by
  refine .walkW f8_ok (by simp; decide) (by decide) ?_
  by_cases ha : a.right
  · have hA : (!decide a.right) = false := by simp [ha]
    have hr := ha
    unfold F.right at hr
    have h1 := floor_range a.num a.den hr.1 hr.2.2
    have h2 := floor_go a.num a.den hr.1
    have h3 : floorF a = (a.num / a.den, 0) := if_pos ha
    have h4 := Int.natAbs_tdiv_le_natAbs a.num a.den
    have e1 : iquo .i64 a.num a.den = a.num.tdiv a.den := wrap_i64 _ (by omega)
    have e2 : irem a.num a.den = a.num.tmod a.den := rfl
    have e3 : 0 ≤ a.num → a.num.tmod a.den = a.num % a.den := fun h => Int.tmod_eq_emod_of_nonneg h
    have e4 : 0 ≤ a.num → a.num.tdiv a.den = a.num / a.den := fun h => Int.tdiv_eq_ediv_of_nonneg h
    have e5 : 0 ≤ a.num % a.den := Int.emod_nonneg _ (by omega)
    rw [h3]
    by_cases hn : 0 ≤ a.num
    · repeat' first | simp (disch := first | with_reducible assumption | omega) only [go_sem, Bool.true_and, Bool.and_true, Bool.and_self, Bool.false_and, Bool.and_false, Bool.true_or, Bool.or_true, Bool.false_or, Bool.or_false, ↓reduceIte, Nat.reduceEqDiff, Nat.reduceAdd, Nat.reduceMul, Nat.reduceSub, Nat.reduceBEq, Nat.reduceLeDiff, Nat.reduceLT, Nat.reduceMod, Nat.reduceDiv, Int.reduceToNat, Int.reducePow, Int.reduceMul, Int.reduceAdd, Int.reduceSub, Int.reduceLE, Int.reduceLT, Int.reduceNeg, Int.reduceDiv, Int.reduceMod, Int.reduceEq, Int.reduceBEq, Int.reduceBNe, f8, f8b, f8r0, f8r1, f8r2, f8r3, f8r4, f8r5, f8r6, F.val, e1, e2] | (refine BrW.of (fun hb => ?_) (fun hb => ?_) <;> (have hb' := hb; try simp only [decide_eq_true_eq, decide_eq_false_iff_not, beq_iff_eq, bne_iff_ne, beq_eq_false_iff_ne, bne_eq_false_iff_eq, Bool.not_eq_true', Bool.not_eq_false', Bool.not_eq_true, Bool.not_eq_false, Bool.and_eq_true, Bool.or_eq_true, Bool.and_eq_false_iff, Bool.or_eq_false_iff, Int.not_lt, Int.not_le, ne_eq, gt_iff_lt, ge_iff_le] at hb') <;> (try (exfalso; omega))) | (refine .of ((Right_spec a _).mono ?_); rintro v _ ⟨rfl, rfl⟩)
      all_goals exact .back rfl ⟨by (first | with_reducible rfl | ((try simp (disch := first | with_reducible assumption | omega) only [if_pos, if_neg]) <;> repeat' first | with_reducible rfl | omega | congr 1)), rfl⟩
    · by_cases hm : a.num.tmod a.den < 0
      · rw [if_pos hm] at h2
        repeat' first | simp (disch := first | with_reducible assumption | omega) only [go_sem, Bool.true_and, Bool.and_true, Bool.and_self, Bool.false_and, Bool.and_false, Bool.true_or, Bool.or_true, Bool.false_or, Bool.or_false, ↓reduceIte, Nat.reduceEqDiff, Nat.reduceAdd, Nat.reduceMul, Nat.reduceSub, Nat.reduceBEq, Nat.reduceLeDiff, Nat.reduceLT, Nat.reduceMod, Nat.reduceDiv, Int.reduceToNat, Int.reducePow, Int.reduceMul, Int.reduceAdd, Int.reduceSub, Int.reduceLE, Int.reduceLT, Int.reduceNeg, Int.reduceDiv, Int.reduceMod, Int.reduceEq, Int.reduceBEq, Int.reduceBNe, f8, f8b, f8r0, f8r1, f8r2, f8r3, f8r4, f8r5, f8r6, F.val, e1, e2] | (refine BrW.of (fun hb => ?_) (fun hb => ?_) <;> (have hb' := hb; try simp only [decide_eq_true_eq, decide_eq_false_iff_not, beq_iff_eq, bne_iff_ne, beq_eq_false_iff_ne, bne_eq_false_iff_eq, Bool.not_eq_true', Bool.not_eq_false', Bool.not_eq_true, Bool.not_eq_false, Bool.and_eq_true, Bool.or_eq_true, Bool.and_eq_false_iff, Bool.or_eq_false_iff, Int.not_lt, Int.not_le, ne_eq, gt_iff_lt, ge_iff_le] at hb') <;> (try (exfalso; omega))) | (refine .of ((Right_spec a _).mono ?_); rintro v _ ⟨rfl, rfl⟩)
        all_goals exact .back rfl ⟨by (first | with_reducible rfl | ((try simp (disch := first | with_reducible assumption | omega) only [if_pos, if_neg]) <;> repeat' first | with_reducible rfl | omega | congr 1)), rfl⟩
      · rw [if_neg hm] at h2
        repeat' first | simp (disch := first | with_reducible assumption | omega) only [go_sem, Bool.true_and, Bool.and_true, Bool.and_self, Bool.false_and, Bool.and_false, Bool.true_or, Bool.or_true, Bool.false_or, Bool.or_false, ↓reduceIte, Nat.reduceEqDiff, Nat.reduceAdd, Nat.reduceMul, Nat.reduceSub, Nat.reduceBEq, Nat.reduceLeDiff, Nat.reduceLT, Nat.reduceMod, Nat.reduceDiv, Int.reduceToNat, Int.reducePow, Int.reduceMul, Int.reduceAdd, Int.reduceSub, Int.reduceLE, Int.reduceLT, Int.reduceNeg, Int.reduceDiv, Int.reduceMod, Int.reduceEq, Int.reduceBEq, Int.reduceBNe, f8, f8b, f8r0, f8r1, f8r2, f8r3, f8r4, f8r5, f8r6, F.val, e1, e2] | (refine BrW.of (fun hb => ?_) (fun hb => ?_) <;> (have hb' := hb; try simp only [decide_eq_true_eq, decide_eq_false_iff_not, beq_iff_eq, bne_iff_ne, beq_eq_false_iff_ne, bne_eq_false_iff_eq, Bool.not_eq_true', Bool.not_eq_false', Bool.not_eq_true, Bool.not_eq_false, Bool.and_eq_true, Bool.or_eq_true, Bool.and_eq_false_iff, Bool.or_eq_false_iff, Int.not_lt, Int.not_le, ne_eq, gt_iff_lt, ge_iff_le] at hb') <;> (try (exfalso; omega))) | (refine .of ((Right_spec a _).mono ?_); rintro v _ ⟨rfl, rfl⟩)
        all_goals exact .back rfl ⟨by (first | with_reducible rfl | ((try simp (disch := first | with_reducible assumption | omega) only [if_pos, if_neg]) <;> repeat' first | with_reducible rfl | omega | congr 1)), rfl⟩
  · have hA : (!decide a.right) = true := by simp [ha]
    repeat' first | simp (disch := first | with_reducible assumption | omega) only [go_sem, Bool.true_and, Bool.and_true, Bool.and_self, Bool.false_and, Bool.and_false, Bool.true_or, Bool.or_true, Bool.false_or, Bool.or_false, ↓reduceIte, Nat.reduceEqDiff, Nat.reduceAdd, Nat.reduceMul, Nat.reduceSub, Nat.reduceBEq, Nat.reduceLeDiff, Nat.reduceLT, Nat.reduceMod, Nat.reduceDiv, Int.reduceToNat, Int.reducePow, Int.reduceMul, Int.reduceAdd, Int.reduceSub, Int.reduceLE, Int.reduceLT, Int.reduceNeg, Int.reduceDiv, Int.reduceMod, Int.reduceEq, Int.reduceBEq, Int.reduceBNe, f8, f8b, f8r0, f8r1, f8r2, f8r3, f8r4, f8r5, f8r6, F.val] | (refine BrW.of (fun hb => ?_) (fun hb => ?_) <;> (have hb' := hb; try simp only [decide_eq_true_eq, decide_eq_false_iff_not, beq_iff_eq, bne_iff_ne, beq_eq_false_iff_ne, bne_eq_false_iff_eq, Bool.not_eq_true', Bool.not_eq_false', Bool.not_eq_true, Bool.not_eq_false, Bool.and_eq_true, Bool.or_eq_true, Bool.and_eq_false_iff, Bool.or_eq_false_iff, Int.not_lt, Int.not_le, ne_eq, gt_iff_lt, ge_iff_le] at hb') <;> (try (exfalso; omega))) | (refine .of ((Right_spec a _).mono ?_); rintro v _ ⟨rfl, rfl⟩)
    exact .back rfl ⟨by rw [show floorF a = (0, 2) from if_neg ha], rfl⟩

theorem neg_right (a : F) (h : -9223372036854775808 ≤ a.num ∧ a.num ≤ 9223372036854775807) : F.right ⟨isub .i64 0 a.num, a.den⟩ ↔ a.right := by
  by_cases h1 : a.num = -9223372036854775808
  · have e : isub .i64 0 a.num = -9223372036854775808 := by rw [h1]; decide
    rw [e]
    unfold F.right
    simp only
    omega
  · rw [isub_i64 0 a.num (by omega)]
    unfold F.right
    simp only
    omega
theorem Ceil_spec (a : F) (h : -9223372036854775808 ≤ a.num ∧ a.num ≤ 9223372036854775807) (H : Heap) : ACallK Try.prog 9 [a.val] H (fun v H' => v = .tuple #[.int .i64 (ceilF a).1, .int .i64 (ceilF a).2] ∧ H' = H) := by
  refine .walkW f9_ok (by simp; decide) (by decide) ?_
  have hn := neg_right a h
  by_cases ha : a.right
  · have hr := ha
    unfold F.right at hr
    have h1 := floor_range (0 - a.num) a.den hr.1 (by omega)
    have h3 : floorF ⟨0 - a.num, a.den⟩ = ((0 - a.num) / a.den, 0) := if_pos (by unfold F.right; simp only; omega)
    have h4 : ceilF a = (0 - (0 - a.num) / a.den, 0) := if_pos ha
    rw [h4]
    repeat' first | simp (disch := first | with_reducible assumption | omega) only [go_sem, Bool.true_and, Bool.and_true, Bool.and_self, Bool.false_and, Bool.and_false, Bool.true_or, Bool.or_true, Bool.false_or, Bool.or_false, ↓reduceIte, Nat.reduceEqDiff, Nat.reduceAdd, Nat.reduceMul, Nat.reduceSub, Nat.reduceBEq, Nat.reduceLeDiff, Nat.reduceLT, Nat.reduceMod, Nat.reduceDiv, Int.reduceToNat, Int.reducePow, Int.reduceMul, Int.reduceAdd, Int.reduceSub, Int.reduceLE, Int.reduceLT, Int.reduceNeg, Int.reduceDiv, Int.reduceMod, Int.reduceEq, Int.reduceBEq, Int.reduceBNe, f9, f9b, f9r0, f9r1, f9r2, F.val] | (refine BrW.of (fun hb => ?_) (fun hb => ?_) <;> (have hb' := hb; try simp only [decide_eq_true_eq, decide_eq_false_iff_not, beq_iff_eq, bne_iff_ne, beq_eq_false_iff_ne, bne_eq_false_iff_eq, Bool.not_eq_true', Bool.not_eq_false', Bool.not_eq_true, Bool.not_eq_false, Bool.and_eq_true, Bool.or_eq_true, Bool.and_eq_false_iff, Bool.or_eq_false_iff, Int.not_lt, Int.not_le, ne_eq, gt_iff_lt, ge_iff_le] at hb') <;> (try (exfalso; omega))) | (refine .of ((Floor_spec ⟨0 - a.num, a.den⟩ _).mono ?_); rintro v _ ⟨rfl, rfl⟩; rw [h3])
    all_goals exact .back rfl ⟨by (first | with_reducible rfl | ((try simp (disch := first | with_reducible assumption | omega) only [if_pos, if_neg]) <;> repeat' first | with_reducible rfl | omega | congr 1)), rfl⟩
  · have h3 : floorF ⟨isub .i64 0 a.num, a.den⟩ = (0, 2) := if_neg (fun h => ha (hn.1 h))
    have h4 : ceilF a = (0, 2) := if_neg ha
    rw [h4]
    generalize isub .i64 0 a.num = x at *
    have e : isub .i64 0 (0 : Int) = 0 := rfl
    by_cases h5 : -9223372036854775808 < a.num
    · have h3' : floorF ⟨0 - a.num, a.den⟩ = (0, 2) := if_neg (fun h => ha (by unfold F.right at h ⊢; simp only at h; omega))
      repeat' first | simp (disch := first | with_reducible assumption | omega) only [go_sem, Bool.true_and, Bool.and_true, Bool.and_self, Bool.false_and, Bool.and_false, Bool.true_or, Bool.or_true, Bool.false_or, Bool.or_false, ↓reduceIte, Nat.reduceEqDiff, Nat.reduceAdd, Nat.reduceMul, Nat.reduceSub, Nat.reduceBEq, Nat.reduceLeDiff, Nat.reduceLT, Nat.reduceMod, Nat.reduceDiv, Int.reduceToNat, Int.reducePow, Int.reduceMul, Int.reduceAdd, Int.reduceSub, Int.reduceLE, Int.reduceLT, Int.reduceNeg, Int.reduceDiv, Int.reduceMod, Int.reduceEq, Int.reduceBEq, Int.reduceBNe, f9, f9b, f9r0, f9r1, f9r2, F.val, h3] | (refine BrW.of (fun hb => ?_) (fun hb => ?_) <;> (have hb' := hb; try simp only [decide_eq_true_eq, decide_eq_false_iff_not, beq_iff_eq, bne_iff_ne, beq_eq_false_iff_ne, bne_eq_false_iff_eq, Bool.not_eq_true', Bool.not_eq_false', Bool.not_eq_true, Bool.not_eq_false, Bool.and_eq_true, Bool.or_eq_true, Bool.and_eq_false_iff, Bool.or_eq_false_iff, Int.not_lt, Int.not_le, ne_eq, gt_iff_lt, ge_iff_le] at hb') <;> (try (exfalso; omega))) | (refine .of ((Floor_spec ⟨0 - a.num, a.den⟩ _).mono ?_); rintro v _ ⟨rfl, rfl⟩; rw [h3'])
      all_goals exact .back rfl ⟨by (first | with_reducible rfl | ((try simp (disch := first | with_reducible assumption | omega) only [if_pos, if_neg]) <;> repeat' first | with_reducible rfl | omega | congr 1)), rfl⟩
    · have h6 : isub .i64 0 a.num = -9223372036854775808 := by rw [show a.num = -9223372036854775808 by omega]; decide
      have h3' : floorF ⟨-9223372036854775808, a.den⟩ = (0, 2) := if_neg (fun h => by unfold F.right at h; simp only at h; omega)
      repeat' first | simp (disch := first | with_reducible assumption | omega) only [go_sem, Bool.true_and, Bool.and_true, Bool.and_self, Bool.false_and, Bool.and_false, Bool.true_or, Bool.or_true, Bool.false_or, Bool.or_false, ↓reduceIte, Nat.reduceEqDiff, Nat.reduceAdd, Nat.reduceMul, Nat.reduceSub, Nat.reduceBEq, Nat.reduceLeDiff, Nat.reduceLT, Nat.reduceMod, Nat.reduceDiv, Int.reduceToNat, Int.reducePow, Int.reduceMul, Int.reduceAdd, Int.reduceSub, Int.reduceLE, Int.reduceLT, Int.reduceNeg, Int.reduceDiv, Int.reduceMod, Int.reduceEq, Int.reduceBEq, Int.reduceBNe, f9, f9b, f9r0, f9r1, f9r2, F.val, h6] | (refine BrW.of (fun hb => ?_) (fun hb => ?_) <;> (have hb' := hb; try simp only [decide_eq_true_eq, decide_eq_false_iff_not, beq_iff_eq, bne_iff_ne, beq_eq_false_iff_ne, bne_eq_false_iff_eq, Bool.not_eq_true', Bool.not_eq_false', Bool.not_eq_true, Bool.not_eq_false, Bool.and_eq_true, Bool.or_eq_true, Bool.and_eq_false_iff, Bool.or_eq_false_iff, Int.not_lt, Int.not_le, ne_eq, gt_iff_lt, ge_iff_le] at hb') <;> (try (exfalso; omega))) | (refine .of ((Floor_spec ⟨-9223372036854775808, a.den⟩ _).mono ?_); rintro v _ ⟨rfl, rfl⟩; rw [h3'])
      all_goals exact .back rfl ⟨by (first | with_reducible rfl | ((try simp (disch := first | with_reducible assumption | omega) only [if_pos, if_neg]) <;> repeat' first | with_reducible rfl | omega | congr 1)), rfl⟩
end Go.Proofs.Ytandagipamhmgaa
