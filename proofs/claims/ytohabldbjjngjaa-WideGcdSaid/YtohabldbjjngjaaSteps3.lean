import Derived.Test.YtohabldbjjngjaaSteps2
import Derived.Test.YtohabldbjjngjaaPlain3
set_option linter.unusedSimpArgs false
set_option linter.unusedVariables false
set_option maxHeartbeats 1000000
set_option maxRecDepth 20000
namespace Go.Proofs.Ytohabldbjjngjaa
open Go Go.Am
attribute [local irreducible] opsW Ww loopW callW drawW outW outDW gW cW BrW bothW vW resW DropW RdW dcallW altW Later.run

theorem Mul_spec (a b : Int) (H : Heap) (ha : 0 ≤ a ∧ a ≤ 18446744073709551615) (hb0 : 0 ≤ b ∧ b ≤ 18446744073709551615) : ACallK Try.prog 9 [.int .u64 a, .int .u64 b] H (fun v H' => v = (mulW a b).val ∧ H' = H) := by
  refine .walkW f9_ok (by simp; decide) (by decide) ?_
  repeat' first | simp (disch := first | with_reducible assumption | omega) only [go_sem, Bool.true_and, Bool.and_true, Bool.and_self, Bool.false_and, Bool.and_false, Bool.true_or, Bool.or_true, Bool.false_or, Bool.or_false, ↓reduceIte, Nat.reduceEqDiff, Nat.reduceAdd, Nat.reduceMul, Nat.reduceSub, Nat.reduceBEq, Nat.reduceLeDiff, Nat.reduceLT, Nat.reduceMod, Nat.reduceDiv, Int.reduceToNat, Int.reducePow, Int.reduceMul, Int.reduceAdd, Int.reduceSub, Int.reduceLE, Int.reduceLT, Int.reduceNeg, Int.reduceDiv, Int.reduceMod, Int.reduceEq, Int.reduceBEq, Int.reduceBNe, f9, f9b, f9r0, f9r1, f9r2] | (refine BrW.of (fun hb => ?_) (fun hb => ?_) <;> (have hb' := hb; try simp only [decide_eq_true_eq, decide_eq_false_iff_not, beq_iff_eq, bne_iff_ne, beq_eq_false_iff_ne, bne_eq_false_iff_eq, Bool.not_eq_true', Bool.not_eq_false', Bool.not_eq_true, Bool.not_eq_false, Bool.and_eq_true, Bool.or_eq_true, Bool.and_eq_false_iff, Bool.or_eq_false_iff, Int.not_lt, Int.not_le, ne_eq, gt_iff_lt, ge_iff_le] at hb') <;> (try (exfalso; omega))) | (refine altW.of ?_ ?_) | (refine .of ((Mul64_spec a b _ ha hb0).mono ?_); rintro v _ ⟨rfl, rfl⟩)
  exact .back rfl ⟨rfl, rfl⟩
theorem Div_spec (a : W) (y : Int) (H : Heap) (ha : a.ok) (hy : 1 ≤ y ∧ y ≤ 18446744073709551615) : ACallK Try.prog 8 [a.val, .int .u64 y] H (fun v H' => v = .tuple #[(divW a y).val, .int .u64 (remW a y), .int .i64 0] ∧ H' = H) := by
  obtain ⟨ah, al⟩ := a
  simp only [W.ok] at ha
  refine .walkW f8_ok (by simp; decide) (by decide) ?_
  have e1 := Int.emod_nonneg ah (show y ≠ 0 by omega)
  have e2 := Int.emod_lt_of_pos ah (show 0 < y by omega)
  have hD := fun H => Div64_spec (ah % y) al y H ⟨e1, e2⟩ hy ha.2
  have hq : divW ⟨ah, al⟩ y = ⟨ah / y, (ah % y * 18446744073709551616 + al) / y⟩ := rfl
  have hr : remW ⟨ah, al⟩ y = (ah % y * 18446744073709551616 + al) % y := rfl
  have hy0 : (y == 0) = false := by simp; omega
  rw [hq, hr]
  clear hq hr
  generalize (ah % y * 18446744073709551616 + al) / y = Q at *
  generalize (ah % y * 18446744073709551616 + al) % y = R at *
  generalize hmod : ah % y = m at *
  repeat' first | simp (disch := first | with_reducible assumption | omega) only [go_sem, Bool.true_and, Bool.and_true, Bool.and_self, Bool.false_and, Bool.and_false, Bool.true_or, Bool.or_true, Bool.false_or, Bool.or_false, ↓reduceIte, Nat.reduceEqDiff, Nat.reduceAdd, Nat.reduceMul, Nat.reduceSub, Nat.reduceBEq, Nat.reduceLeDiff, Nat.reduceLT, Nat.reduceMod, Nat.reduceDiv, Int.reduceToNat, Int.reducePow, Int.reduceMul, Int.reduceAdd, Int.reduceSub, Int.reduceLE, Int.reduceLT, Int.reduceNeg, Int.reduceDiv, Int.reduceMod, Int.reduceEq, Int.reduceBEq, Int.reduceBNe, f8, f8b, f8r0, f8r1, f8r2, f8r3, f8r4, f8r5, hmod] | (refine BrW.of (fun hb => ?_) (fun hb => ?_) <;> (have hb' := hb; try simp only [decide_eq_true_eq, decide_eq_false_iff_not, beq_iff_eq, bne_iff_ne, beq_eq_false_iff_ne, bne_eq_false_iff_eq, Bool.not_eq_true', Bool.not_eq_false', Bool.not_eq_true, Bool.not_eq_false, Bool.and_eq_true, Bool.or_eq_true, Bool.and_eq_false_iff, Bool.or_eq_false_iff, Int.not_lt, Int.not_le, ne_eq, gt_iff_lt, ge_iff_le] at hb') <;> (try (exfalso; omega))) | (refine altW.of ?_ ?_) | (refine .of ((hD _).mono ?_); rintro v _ ⟨rfl, rfl⟩)
  exact .back rfl ⟨rfl, rfl⟩
theorem Div_zero (a : W) (H : Heap) : ACallK Try.prog 8 [a.val, .int .u64 0] H (fun v H' => v = .tuple #[.agg #[.int .u64 0, .int .u64 0], .int .u64 0, .int .i64 2] ∧ H' = H) := by
  refine .walkW f8_ok (by simp; decide) (by decide) ?_
  repeat' first | simp (disch := first | with_reducible assumption | omega) only [go_sem, Bool.true_and, Bool.and_true, Bool.and_self, Bool.false_and, Bool.and_false, Bool.true_or, Bool.or_true, Bool.false_or, Bool.or_false, ↓reduceIte, Nat.reduceEqDiff, Nat.reduceAdd, Nat.reduceMul, Nat.reduceSub, Nat.reduceBEq, Nat.reduceLeDiff, Nat.reduceLT, Nat.reduceMod, Nat.reduceDiv, Int.reduceToNat, Int.reducePow, Int.reduceMul, Int.reduceAdd, Int.reduceSub, Int.reduceLE, Int.reduceLT, Int.reduceNeg, Int.reduceDiv, Int.reduceMod, Int.reduceEq, Int.reduceBEq, Int.reduceBNe, f8, f8b, f8r0, f8r1, f8r2, f8r3, f8r4, f8r5] | (refine BrW.of (fun hb => ?_) (fun hb => ?_) <;> (have hb' := hb; try simp only [decide_eq_true_eq, decide_eq_false_iff_not, beq_iff_eq, bne_iff_ne, beq_eq_false_iff_ne, bne_eq_false_iff_eq, Bool.not_eq_true', Bool.not_eq_false', Bool.not_eq_true, Bool.not_eq_false, Bool.and_eq_true, Bool.or_eq_true, Bool.and_eq_false_iff, Bool.or_eq_false_iff, Int.not_lt, Int.not_le, ne_eq, gt_iff_lt, ge_iff_le] at hb') <;> (try (exfalso; omega))) | (refine altW.of ?_ ?_)
  exact .back rfl ⟨rfl, rfl⟩
theorem Gcd_spec (a b : Nat) (H : Heap) (ha : a ≤ 18446744073709551615) (hb0 : b ≤ 18446744073709551615) : ACallK Try.prog 11 [.int .u64 a, .int .u64 b] H (fun v H' => v = .int .u64 (Nat.gcd a b) ∧ H' = H) := by
  refine .walkW f11_ok (by simp; decide) (by decide) ?_
  repeat' first | simp (disch := first | with_reducible assumption | omega) only [go_sem, Bool.true_and, Bool.and_true, Bool.and_self, Bool.false_and, Bool.and_false, Bool.true_or, Bool.or_true, Bool.false_or, Bool.or_false, ↓reduceIte, Nat.reduceEqDiff, Nat.reduceAdd, Nat.reduceMul, Nat.reduceSub, Nat.reduceBEq, Nat.reduceLeDiff, Nat.reduceLT, Nat.reduceMod, Nat.reduceDiv, Int.reduceToNat, Int.reducePow, Int.reduceMul, Int.reduceAdd, Int.reduceSub, Int.reduceLE, Int.reduceLT, Int.reduceNeg, Int.reduceDiv, Int.reduceMod, Int.reduceEq, Int.reduceBEq, Int.reduceBNe, f11, f11b, f11r0, f11r1, f11r2, f11r4] | (refine BrW.of (fun hb => ?_) (fun hb => ?_) <;> (have hb' := hb; try simp only [decide_eq_true_eq, decide_eq_false_iff_not, beq_iff_eq, bne_iff_ne, beq_eq_false_iff_ne, bne_eq_false_iff_eq, Bool.not_eq_true', Bool.not_eq_false', Bool.not_eq_true, Bool.not_eq_false, Bool.and_eq_true, Bool.or_eq_true, Bool.and_eq_false_iff, Bool.or_eq_false_iff, Int.not_lt, Int.not_le, ne_eq, gt_iff_lt, ge_iff_le] at hb') <;> (try (exfalso; omega))) | (refine altW.of ?_ ?_)
  refine loopW.of (by decide) (fun m e J => ∃ x : Nat, e = [(0, .int .u64 x), (1, .int .u64 m)] ∧ J = H ∧ Nat.gcd x m = Nat.gcd a b ∧ x ≤ 18446744073709551615 ∧ m ≤ 18446744073709551615) b ⟨a, rfl, rfl, rfl, ha, hb0⟩ ?_
  rintro y e J ⟨x, rfl, rfl, hg, hx, hy⟩
  by_cases h : 0 < y
  · have hm : (x : Int) % y = ((x % y : Nat) : Int) := (Int.natCast_emod x y).symm
    have hlt := Nat.mod_lt x h
    have hs := gcd_step (x := x) h
    repeat' first | simp (disch := first | with_reducible assumption | omega) only [go_sem, Bool.true_and, Bool.and_true, Bool.and_self, Bool.false_and, Bool.and_false, Bool.true_or, Bool.or_true, Bool.false_or, Bool.or_false, ↓reduceIte, Nat.reduceEqDiff, Nat.reduceAdd, Nat.reduceMul, Nat.reduceSub, Nat.reduceBEq, Nat.reduceLeDiff, Nat.reduceLT, Nat.reduceMod, Nat.reduceDiv, Int.reduceToNat, Int.reducePow, Int.reduceMul, Int.reduceAdd, Int.reduceSub, Int.reduceLE, Int.reduceLT, Int.reduceNeg, Int.reduceDiv, Int.reduceMod, Int.reduceEq, Int.reduceBEq, Int.reduceBNe, f11, f11b, f11r0, f11r1, f11r2, f11r4, f11l0, hm] | (refine BrW.of (fun hb => ?_) (fun hb => ?_) <;> (have hb' := hb; try simp only [decide_eq_true_eq, decide_eq_false_iff_not, beq_iff_eq, bne_iff_ne, beq_eq_false_iff_ne, bne_eq_false_iff_eq, Bool.not_eq_true', Bool.not_eq_false', Bool.not_eq_true, Bool.not_eq_false, Bool.and_eq_true, Bool.or_eq_true, Bool.and_eq_false_iff, Bool.or_eq_false_iff, Int.not_lt, Int.not_le, ne_eq, gt_iff_lt, ge_iff_le] at hb') <;> (try (exfalso; omega))) | (refine altW.of ?_ ?_)
    refine RdW.keep [0, 1] (x % y) (by omega) ?_
    simp (disch := first | with_reducible assumption | omega) only [go_sem, Bool.true_and, Bool.and_true, Bool.and_self, Bool.false_and, Bool.and_false, Bool.true_or, Bool.or_true, Bool.false_or, Bool.or_false, ↓reduceIte, Nat.reduceEqDiff, Nat.reduceAdd, Nat.reduceMul, Nat.reduceSub, Nat.reduceBEq, Nat.reduceLeDiff, Nat.reduceLT, Nat.reduceMod, Nat.reduceDiv, Int.reduceToNat, Int.reducePow, Int.reduceMul, Int.reduceAdd, Int.reduceSub, Int.reduceLE, Int.reduceLT, Int.reduceNeg, Int.reduceDiv, Int.reduceMod, Int.reduceEq, Int.reduceBEq, Int.reduceBNe]
    exact ⟨y, rfl, by rw [hs, hg], hy, by omega⟩
  · obtain rfl : y = 0 := by omega
    rw [Nat.gcd_zero_right] at hg
    repeat' first | simp (disch := first | with_reducible assumption | omega) only [go_sem, Bool.true_and, Bool.and_true, Bool.and_self, Bool.false_and, Bool.and_false, Bool.true_or, Bool.or_true, Bool.false_or, Bool.or_false, ↓reduceIte, Nat.reduceEqDiff, Nat.reduceAdd, Nat.reduceMul, Nat.reduceSub, Nat.reduceBEq, Nat.reduceLeDiff, Nat.reduceLT, Nat.reduceMod, Nat.reduceDiv, Int.reduceToNat, Int.reducePow, Int.reduceMul, Int.reduceAdd, Int.reduceSub, Int.reduceLE, Int.reduceLT, Int.reduceNeg, Int.reduceDiv, Int.reduceMod, Int.reduceEq, Int.reduceBEq, Int.reduceBNe, f11, f11b, f11r0, f11r1, f11r2, f11r4, f11l0, f11, f11b, f11r0, f11r1, f11r2, f11r4] | (refine BrW.of (fun hb => ?_) (fun hb => ?_) <;> (have hb' := hb; try simp only [decide_eq_true_eq, decide_eq_false_iff_not, beq_iff_eq, bne_iff_ne, beq_eq_false_iff_ne, bne_eq_false_iff_eq, Bool.not_eq_true', Bool.not_eq_false', Bool.not_eq_true, Bool.not_eq_false, Bool.and_eq_true, Bool.or_eq_true, Bool.and_eq_false_iff, Bool.or_eq_false_iff, Int.not_lt, Int.not_le, ne_eq, gt_iff_lt, ge_iff_le] at hb') <;> (try (exfalso; omega))) | (refine altW.of ?_ ?_)
    exact .here ⟨by rw [hg], rfl⟩
theorem Lcm_spec (a b : Nat) (H : Heap) (ha : a ≤ 18446744073709551615) (hb0 : b ≤ 18446744073709551615) : ACallK Try.prog 12 [.int .u64 a, .int .u64 b] H (fun v H' => v = (lcmW a b).val ∧ H' = H) := by
  refine .walkW f12_ok (by simp; decide) (by decide) ?_
  have z : ((0 : Nat) : Int) = 0 := rfl
  by_cases h1 : a = 0
  · subst h1
    have hl : lcmW 0 b = ⟨0, 0⟩ := if_pos (.inl rfl)
    rw [hl]
    repeat' first | simp (disch := first | with_reducible assumption | omega) only [go_sem, Bool.true_and, Bool.and_true, Bool.and_self, Bool.false_and, Bool.and_false, Bool.true_or, Bool.or_true, Bool.false_or, Bool.or_false, ↓reduceIte, Nat.reduceEqDiff, Nat.reduceAdd, Nat.reduceMul, Nat.reduceSub, Nat.reduceBEq, Nat.reduceLeDiff, Nat.reduceLT, Nat.reduceMod, Nat.reduceDiv, Int.reduceToNat, Int.reducePow, Int.reduceMul, Int.reduceAdd, Int.reduceSub, Int.reduceLE, Int.reduceLT, Int.reduceNeg, Int.reduceDiv, Int.reduceMod, Int.reduceEq, Int.reduceBEq, Int.reduceBNe, f12, f12b, f12r0, f12r1, f12r2, f12r3, z] | (refine BrW.of (fun hb => ?_) (fun hb => ?_) <;> (have hb' := hb; try simp only [decide_eq_true_eq, decide_eq_false_iff_not, beq_iff_eq, bne_iff_ne, beq_eq_false_iff_ne, bne_eq_false_iff_eq, Bool.not_eq_true', Bool.not_eq_false', Bool.not_eq_true, Bool.not_eq_false, Bool.and_eq_true, Bool.or_eq_true, Bool.and_eq_false_iff, Bool.or_eq_false_iff, Int.not_lt, Int.not_le, ne_eq, gt_iff_lt, ge_iff_le] at hb') <;> (try (exfalso; omega))) | (refine altW.of ?_ ?_)
    exact .back rfl ⟨rfl, rfl⟩
  · by_cases h2 : b = 0
    · subst h2
      have hl : lcmW a 0 = ⟨0, 0⟩ := if_pos (.inr rfl)
      rw [hl]
      repeat' first | simp (disch := first | with_reducible assumption | omega) only [go_sem, Bool.true_and, Bool.and_true, Bool.and_self, Bool.false_and, Bool.and_false, Bool.true_or, Bool.or_true, Bool.false_or, Bool.or_false, ↓reduceIte, Nat.reduceEqDiff, Nat.reduceAdd, Nat.reduceMul, Nat.reduceSub, Nat.reduceBEq, Nat.reduceLeDiff, Nat.reduceLT, Nat.reduceMod, Nat.reduceDiv, Int.reduceToNat, Int.reducePow, Int.reduceMul, Int.reduceAdd, Int.reduceSub, Int.reduceLE, Int.reduceLT, Int.reduceNeg, Int.reduceDiv, Int.reduceMod, Int.reduceEq, Int.reduceBEq, Int.reduceBNe, f12, f12b, f12r0, f12r1, f12r2, f12r3, z] | (refine BrW.of (fun hb => ?_) (fun hb => ?_) <;> (have hb' := hb; try simp only [decide_eq_true_eq, decide_eq_false_iff_not, beq_iff_eq, bne_iff_ne, beq_eq_false_iff_ne, bne_eq_false_iff_eq, Bool.not_eq_true', Bool.not_eq_false', Bool.not_eq_true, Bool.not_eq_false, Bool.and_eq_true, Bool.or_eq_true, Bool.and_eq_false_iff, Bool.or_eq_false_iff, Int.not_lt, Int.not_le, ne_eq, gt_iff_lt, ge_iff_le] at hb') <;> (try (exfalso; omega))) | (refine altW.of ?_ ?_)
      exact .back rfl ⟨rfl, rfl⟩
    · have hl : lcmW a b = mulW ((a / Nat.gcd a b : Nat) : Int) b := if_neg (by omega)
      have hg := gcd_pos (a := a) (b := b) (by omega)
      have hgc := fun H => Gcd_spec a b H ha hb0
      have hd : (a : Int) / (Nat.gcd a b : Nat) = ((a / Nat.gcd a b : Nat) : Int) := (Int.natCast_ediv a _).symm
      have hle : a / Nat.gcd a b ≤ a := Nat.div_le_self _ _
      have hle2 : ((a / Nat.gcd a b : Nat) : Int) ≤ (a : Int) := Int.ofNat_le.2 hle
      have hmu := fun H => Mul_spec ((a / Nat.gcd a b : Nat) : Int) b H ⟨Int.natCast_nonneg _, Int.le_trans hle2 (by omega)⟩ ⟨by omega, by omega⟩
      clear hle2
      rw [hl]
      generalize Nat.gcd a b = g at *
      generalize a / g = q at *
      generalize mulW (q : Int) b = L at *
      repeat' first | simp (disch := first | with_reducible assumption | omega) only [go_sem, Bool.true_and, Bool.and_true, Bool.and_self, Bool.false_and, Bool.and_false, Bool.true_or, Bool.or_true, Bool.false_or, Bool.or_false, ↓reduceIte, Nat.reduceEqDiff, Nat.reduceAdd, Nat.reduceMul, Nat.reduceSub, Nat.reduceBEq, Nat.reduceLeDiff, Nat.reduceLT, Nat.reduceMod, Nat.reduceDiv, Int.reduceToNat, Int.reducePow, Int.reduceMul, Int.reduceAdd, Int.reduceSub, Int.reduceLE, Int.reduceLT, Int.reduceNeg, Int.reduceDiv, Int.reduceMod, Int.reduceEq, Int.reduceBEq, Int.reduceBNe, f12, f12b, f12r0, f12r1, f12r2, f12r3, hd] | (refine BrW.of (fun hb => ?_) (fun hb => ?_) <;> (have hb' := hb; try simp only [decide_eq_true_eq, decide_eq_false_iff_not, beq_iff_eq, bne_iff_ne, beq_eq_false_iff_ne, bne_eq_false_iff_eq, Bool.not_eq_true', Bool.not_eq_false', Bool.not_eq_true, Bool.not_eq_false, Bool.and_eq_true, Bool.or_eq_true, Bool.and_eq_false_iff, Bool.or_eq_false_iff, Int.not_lt, Int.not_le, ne_eq, gt_iff_lt, ge_iff_le] at hb') <;> (try (exfalso; omega))) | (refine altW.of ?_ ?_) | (refine .of ((hgc _).mono ?_); rintro v _ ⟨rfl, rfl⟩) | (refine .of ((hmu _).mono ?_); rintro v _ ⟨rfl, rfl⟩)
      exact .back rfl ⟨rfl, rfl⟩
end Go.Proofs.Ytohabldbjjngjaa
