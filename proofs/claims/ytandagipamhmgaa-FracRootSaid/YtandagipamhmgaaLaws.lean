import Derived.Test.YtandagipamhmgaaSteps
import Derived.Test.YtandagipamhmgaaPlain2
import Derived.Test.YtandagipamhmgaaBase
set_option linter.unusedSimpArgs false
set_option linter.unusedVariables false
set_option maxHeartbeats 1000000
namespace Go.Proofs.Ytandagipamhmgaa
open Go Go.Am

theorem F.of_row {B : Nat} {H : Heap} {cs : List Value} (h : RowOk B H [.int .i64, .int .i64] cs) : ∃ a : F, cs = a.cells ∧ -9223372036854775808 ≤ a.num ∧ a.num ≤ 9223372036854775807 := by
  obtain ⟨_, _, rfl, c0, h⟩ := h.cons_inv
  obtain ⟨_, _, rfl, c1, h⟩ := h.cons_inv
  obtain rfl := h.nil_inv
  obtain ⟨n0, rfl, h0⟩ := c0.int_inv
  obtain ⟨n1, rfl, _⟩ := c1.int_inv
  exact ⟨⟨n0, n1⟩, rfl, h0⟩

theorem FracRound_args (H : Heap) (vals : List Value) (h : ArgsOk maxLen H FracRoundSh vals) : ACallK Try.prog 3 vals H fun v _ => v = .bool true := by
  obtain ⟨_, _, rfl, a1, h⟩ := h.cons
  obtain rfl := h.nil
  obtain ⟨cs, rfl, hm⟩ := a1.agg
  obtain ⟨a, rfl, hr⟩ := F.of_row hm
  refine .walkW f3_ok (by simp; decide) (by decide) ?_
  by_cases ha : a.right
  · have h3 : floorF a = (a.num / a.den, 0) := if_pos ha
    have h4 : ceilF a = (0 - (0 - a.num) / a.den, 0) := if_pos ha
    have hR := ha
    unfold F.right at hR
    have b1 := floor_bounds a.num a.den hR.1
    have b2 := floor_bounds (0 - a.num) a.den hR.1
    have r1 := floor_range a.num a.den hR.1 hR.2.2
    have r2 := floor_range (0 - a.num) a.den hR.1 (by omega)
    have tz := tmod_zero a.num a.den hR.1
    have e2 : irem a.num a.den = a.num.tmod a.den := rfl
    have e3 : 0 ≤ a.num → a.num.tmod a.den = a.num % a.den := fun h => Int.tmod_eq_emod_of_nonneg h
    have em := Int.emod_add_mul_ediv a.num a.den
    have em0 := Int.emod_nonneg a.num (show a.den ≠ 0 by omega)
    have em1 := Int.emod_lt_of_pos a.num (show 0 < a.den by omega)
    generalize hd : a.num / a.den = d at *
    generalize hu : (0 - a.num) / a.den = u at *
    have p1 := mulb (show d.natAbs ≤ 1073741824 by omega) (show a.den.natAbs ≤ 1073741824 by omega)
    have p2 := mulb (show (0 - u).natAbs ≤ 1073741824 by omega) (show a.den.natAbs ≤ 1073741824 by omega)
    have p3 : (d + 1) * a.den = d * a.den + a.den := by rw [Int.add_mul, Int.one_mul]
    have p4 : (0 - u) * a.den = 0 - u * a.den := by rw [Int.sub_mul, Int.zero_mul]
    have p5 : (u + 1) * a.den = u * a.den + a.den := by rw [Int.add_mul, Int.one_mul]
    have p6 : a.den * d = d * a.den := Int.mul_comm _ _
    rw [p3] at b1
    rw [p5] at b2
    rw [p6] at em
    -- the difference
    have hdu : 0 - u - d ≤ 1 ∧ 0 ≤ 0 - u - d := by
      constructor
      · by_cases hx : 0 - u - d ≤ 1
        · exact hx
        · have : 2 * a.den ≤ (0 - u - d) * a.den := Int.mul_le_mul_of_nonneg_right (by omega) (by omega)
          rw [Int.sub_mul, p4] at this
          omega
      · by_cases hx : 0 ≤ 0 - u - d
        · exact hx
        · have : (0 - u - d) * a.den ≤ (-1) * a.den := Int.mul_le_mul_of_nonneg_right (by omega) (by omega)
          rw [Int.sub_mul, p4] at this
          omega
    have heq : (0 - u = d) ↔ a.num % a.den = 0 := by
      constructor
      · intro h
        have : (0 - u) * a.den = d * a.den := by rw [h]
        omega
      · intro h
        have h1 : (0 - u - d) * a.den < 1 * a.den := by rw [Int.sub_mul, p4]; omega
        have := Int.lt_of_mul_lt_mul_right h1 (by omega)
        omega
    repeat' first | simp (disch := first | with_reducible assumption | omega) only [go_sem, Bool.true_and, Bool.and_true, Bool.and_self, Bool.false_and, Bool.and_false, Bool.true_or, Bool.or_true, Bool.false_or, Bool.or_false, ↓reduceIte, Nat.reduceEqDiff, Nat.reduceAdd, Nat.reduceMul, Nat.reduceSub, Nat.reduceBEq, Nat.reduceLeDiff, Nat.reduceLT, Nat.reduceMod, Nat.reduceDiv, Int.reduceToNat, Int.reducePow, Int.reduceMul, Int.reduceAdd, Int.reduceSub, Int.reduceLE, Int.reduceLT, Int.reduceNeg, Int.reduceDiv, Int.reduceMod, Int.reduceEq, Int.reduceBEq, Int.reduceBNe, f3, f3b, f3r0, f3r1, f3r2, f3r3, f3r4, f3r5, f3r6, f3r7, F.cells, e2] | (refine BrW.of (fun hb => ?_) (fun hb => ?_) <;> (have hb' := hb; try simp only [decide_eq_true_eq, decide_eq_false_iff_not, beq_iff_eq, bne_iff_ne, beq_eq_false_iff_ne, bne_eq_false_iff_eq, Bool.not_eq_true', Bool.not_eq_false', Bool.not_eq_true, Bool.not_eq_false, Bool.and_eq_true, Bool.or_eq_true, Bool.and_eq_false_iff, Bool.or_eq_false_iff, Int.not_lt, Int.not_le, ne_eq, gt_iff_lt, ge_iff_le] at hb') <;> (try (exfalso; omega))) | (refine .of ((alive _).mono ?_); rintro v _ ⟨rfl, rfl⟩) | (refine .of ((Floor_spec a _).mono ?_); rintro v _ ⟨rfl, rfl⟩; rw [h3]) | (refine .of ((Ceil_spec a hr _).mono ?_); rintro v _ ⟨rfl, rfl⟩; rw [h4])
    exact .back rfl (by congr 1; rw [beq_iff_eq, Bool.eq_iff_iff, beq_iff_eq, beq_iff_eq]; exact heq.trans tz.symm)
  · have h3 : floorF a = (0, 2) := if_neg ha
    have h4 : ceilF a = (0, 2) := if_neg ha
    repeat' first | simp (disch := first | with_reducible assumption | omega) only [go_sem, Bool.true_and, Bool.and_true, Bool.and_self, Bool.false_and, Bool.and_false, Bool.true_or, Bool.or_true, Bool.false_or, Bool.or_false, ↓reduceIte, Nat.reduceEqDiff, Nat.reduceAdd, Nat.reduceMul, Nat.reduceSub, Nat.reduceBEq, Nat.reduceLeDiff, Nat.reduceLT, Nat.reduceMod, Nat.reduceDiv, Int.reduceToNat, Int.reducePow, Int.reduceMul, Int.reduceAdd, Int.reduceSub, Int.reduceLE, Int.reduceLT, Int.reduceNeg, Int.reduceDiv, Int.reduceMod, Int.reduceEq, Int.reduceBEq, Int.reduceBNe, f3, f3b, f3r0, f3r1, f3r2, f3r3, f3r4, f3r5, f3r6, f3r7, F.cells] | (refine BrW.of (fun hb => ?_) (fun hb => ?_) <;> (have hb' := hb; try simp only [decide_eq_true_eq, decide_eq_false_iff_not, beq_iff_eq, bne_iff_ne, beq_eq_false_iff_ne, bne_eq_false_iff_eq, Bool.not_eq_true', Bool.not_eq_false', Bool.not_eq_true, Bool.not_eq_false, Bool.and_eq_true, Bool.or_eq_true, Bool.and_eq_false_iff, Bool.or_eq_false_iff, Int.not_lt, Int.not_le, ne_eq, gt_iff_lt, ge_iff_le] at hb') <;> (try (exfalso; omega))) | (refine .of ((alive _).mono ?_); rintro v _ ⟨rfl, rfl⟩) | (refine .of ((Floor_spec a _).mono ?_); rintro v _ ⟨rfl, rfl⟩; rw [h3]) | (refine .of ((Ceil_spec a hr _).mono ?_); rintro v _ ⟨rfl, rfl⟩; rw [h4])
    all_goals exact .back rfl rfl

theorem three {H : Heap} {vals : List Value} (h : ArgsOk maxLen H [(true, [.int .i64, .int .i64]), (true, [.int .i64, .int .i64]), (true, [.int .i64, .int .i64])] vals) : ∃ a b c : F, vals = [.agg a.cells.toArray, .agg b.cells.toArray, .agg c.cells.toArray] := by
  obtain ⟨_, _, rfl, a1, h⟩ := h.cons
  obtain ⟨_, _, rfl, a2, h⟩ := h.cons
  obtain ⟨_, _, rfl, a3, h⟩ := h.cons
  obtain rfl := h.nil
  obtain ⟨cs, rfl, hm⟩ := a1.agg
  obtain ⟨a, rfl, _⟩ := F.of_row hm
  obtain ⟨cs, rfl, hm⟩ := a2.agg
  obtain ⟨b, rfl, _⟩ := F.of_row hm
  obtain ⟨cs, rfl, hm⟩ := a3.agg
  obtain ⟨c, rfl, _⟩ := F.of_row hm
  exact ⟨a, b, c, rfl⟩

def sgn (x y : Int) : Int := if x < y then -1 else if y < x then 1 else 0
theorem cmp_ok {a b : F} (ha : a.right) (hb : b.right) : cmpF a b = (sgn (a.num * b.den) (b.num * a.den), 0) := if_pos ⟨ha, hb⟩
theorem cmp_bad {a b : F} (h : ¬ (a.right ∧ b.right)) : cmpF a b = (0, 2) := if_neg h

theorem FracOrder_args (H : Heap) (vals : List Value) (h : ArgsOk maxLen H FracOrderSh vals) : ACallK Try.prog 6 vals H fun v _ => v = .bool true := by
  obtain ⟨a, b, c, rfl⟩ := three h
  refine .walkW f6_ok (by simp; decide) (by decide) ?_
  by_cases hr : a.right ∧ b.right ∧ c.right
  · obtain ⟨ha, hb, hc⟩ := hr
    have h1 := cmp_ok ha hb
    have h2 := cmp_ok hb hc
    have h3 := cmp_ok ha hc
    have h4 := cmp_ok hb ha
    have t1 := cross_trans ha hb hc
    have rA := ha
    have rB := hb
    unfold F.right at rA rB
    have e1 : (a.num + b.num) * a.den = a.num * a.den + b.num * a.den := Int.add_mul _ _ _
    have e2 : a.num * (a.den + b.den) = a.num * a.den + a.num * b.den := Int.mul_add _ _ _
    have e3 : (a.num + b.num) * b.den = a.num * b.den + b.num * b.den := Int.add_mul _ _ _
    have e4 : b.num * (a.den + b.den) = b.num * a.den + b.num * b.den := Int.mul_add _ _ _
    have s1 : sgn (b.num * a.den) (a.num * b.den) = - sgn (a.num * b.den) (b.num * a.den) := by unfold sgn; (repeat' split) <;> omega
    have s2 : sgn (a.num * b.den) (b.num * a.den) ≤ 0 → sgn (b.num * c.den) (c.num * b.den) ≤ 0 → sgn (a.num * c.den) (c.num * a.den) ≤ 0 := by
      intro x y
      have : a.num * c.den ≤ c.num * a.den := t1 (by unfold sgn at x; (repeat' split at x) <;> omega) (by unfold sgn at y; (repeat' split at y) <;> omega)
      unfold sgn; (repeat' split) <;> omega
    have sr : ∀ x y, -1 ≤ sgn x y ∧ sgn x y ≤ 1 := fun x y => by unfold sgn; (repeat' split) <;> omega
    have r1 := sr (a.num * b.den) (b.num * a.den)
    by_cases hm : F.right ⟨a.num + b.num, a.den + b.den⟩
    · have h5 := cmp_ok ha hm
      have h6 := cmp_ok hm hb
      have s3 : sgn (a.num * (a.den + b.den)) ((a.num + b.num) * a.den) = sgn (a.num * b.den) (b.num * a.den) := by rw [e1, e2]; unfold sgn; (repeat' split) <;> omega
      have s4 : sgn ((a.num + b.num) * b.den) (b.num * (a.den + b.den)) = sgn (a.num * b.den) (b.num * a.den) := by rw [e3, e4]; unfold sgn; (repeat' split) <;> omega
      simp only [s3] at h5
      simp only [s4] at h6
      rw [s1] at h4
      generalize sgn (a.num * b.den) (b.num * a.den) = x at *
      generalize sgn (b.num * c.den) (c.num * b.den) = y at *
      generalize sgn (a.num * c.den) (c.num * a.den) = z at *
      repeat' first | simp (disch := first | with_reducible assumption | omega) only [go_sem, Bool.true_and, Bool.and_true, Bool.and_self, Bool.false_and, Bool.and_false, Bool.true_or, Bool.or_true, Bool.false_or, Bool.or_false, ↓reduceIte, Nat.reduceEqDiff, Nat.reduceAdd, Nat.reduceMul, Nat.reduceSub, Nat.reduceBEq, Nat.reduceLeDiff, Nat.reduceLT, Nat.reduceMod, Nat.reduceDiv, Int.reduceToNat, Int.reducePow, Int.reduceMul, Int.reduceAdd, Int.reduceSub, Int.reduceLE, Int.reduceLT, Int.reduceNeg, Int.reduceDiv, Int.reduceMod, Int.reduceEq, Int.reduceBEq, Int.reduceBNe, f6, f6b, f6r0, f6r1, f6r2, f6r3, f6r4, f6r5, f6r6, f6r7, f6r8, f6r9, f6r10, f6r11, f6r12, f6r13, f6r14, F.cells] | (refine BrW.of (fun hb => ?_) (fun hb => ?_) <;> (have hb' := hb; try simp only [decide_eq_true_eq, decide_eq_false_iff_not, beq_iff_eq, bne_iff_ne, beq_eq_false_iff_ne, bne_eq_false_iff_eq, Bool.not_eq_true', Bool.not_eq_false', Bool.not_eq_true, Bool.not_eq_false, Bool.and_eq_true, Bool.or_eq_true, Bool.and_eq_false_iff, Bool.or_eq_false_iff, Int.not_lt, Int.not_le, ne_eq, gt_iff_lt, ge_iff_le] at hb') <;> (try (exfalso; omega))) | (refine .of ((alive _).mono ?_); rintro v _ ⟨rfl, rfl⟩) | (refine .of ((Cmp_spec a b _).mono ?_); rintro v _ ⟨rfl, rfl⟩; rw [h1]) | (refine .of ((Cmp_spec b c _).mono ?_); rintro v _ ⟨rfl, rfl⟩; rw [h2]) | (refine .of ((Cmp_spec a c _).mono ?_); rintro v _ ⟨rfl, rfl⟩; rw [h3]) | (refine .of ((Cmp_spec b a _).mono ?_); rintro v _ ⟨rfl, rfl⟩; rw [h4]) | (refine .of ((Cmp_spec a ⟨a.num + b.num, a.den + b.den⟩ _).mono ?_); rintro v _ ⟨rfl, rfl⟩; rw [h5]) | (refine .of ((Cmp_spec ⟨a.num + b.num, a.den + b.den⟩ b _).mono ?_); rintro v _ ⟨rfl, rfl⟩; rw [h6])
      all_goals exact .back rfl (by (first | with_reducible rfl | (congr 1; first | with_reducible rfl | omega | (rw [Bool.eq_iff_iff]; simp only [decide_eq_true_eq, decide_eq_false_iff_not, beq_iff_eq, bne_iff_ne, beq_eq_false_iff_ne, bne_eq_false_iff_eq, Bool.not_eq_true', Bool.not_eq_false', Bool.not_eq_true, Bool.not_eq_false, Bool.and_eq_true, Bool.or_eq_true, Bool.and_eq_false_iff, Bool.or_eq_false_iff, Int.not_lt, Int.not_le, ne_eq, gt_iff_lt, ge_iff_le, Bool.and_false, Bool.false_and, Bool.or_true, Bool.true_or, Bool.false_eq_true, true_iff, iff_true, false_iff, iff_false, eq_self, not_true_eq_false, not_false_eq_true]; try omega))))
    · have h5 : cmpF a ⟨a.num + b.num, a.den + b.den⟩ = (0, 2) := cmp_bad fun h => hm h.2
      have h6 : cmpF ⟨a.num + b.num, a.den + b.den⟩ b = (0, 2) := cmp_bad fun h => hm h.1
      rw [s1] at h4
      generalize sgn (a.num * b.den) (b.num * a.den) = x at *
      generalize sgn (b.num * c.den) (c.num * b.den) = y at *
      generalize sgn (a.num * c.den) (c.num * a.den) = z at *
      repeat' first | simp (disch := first | with_reducible assumption | omega) only [go_sem, Bool.true_and, Bool.and_true, Bool.and_self, Bool.false_and, Bool.and_false, Bool.true_or, Bool.or_true, Bool.false_or, Bool.or_false, ↓reduceIte, Nat.reduceEqDiff, Nat.reduceAdd, Nat.reduceMul, Nat.reduceSub, Nat.reduceBEq, Nat.reduceLeDiff, Nat.reduceLT, Nat.reduceMod, Nat.reduceDiv, Int.reduceToNat, Int.reducePow, Int.reduceMul, Int.reduceAdd, Int.reduceSub, Int.reduceLE, Int.reduceLT, Int.reduceNeg, Int.reduceDiv, Int.reduceMod, Int.reduceEq, Int.reduceBEq, Int.reduceBNe, f6, f6b, f6r0, f6r1, f6r2, f6r3, f6r4, f6r5, f6r6, f6r7, f6r8, f6r9, f6r10, f6r11, f6r12, f6r13, f6r14, F.cells] | (refine BrW.of (fun hb => ?_) (fun hb => ?_) <;> (have hb' := hb; try simp only [decide_eq_true_eq, decide_eq_false_iff_not, beq_iff_eq, bne_iff_ne, beq_eq_false_iff_ne, bne_eq_false_iff_eq, Bool.not_eq_true', Bool.not_eq_false', Bool.not_eq_true, Bool.not_eq_false, Bool.and_eq_true, Bool.or_eq_true, Bool.and_eq_false_iff, Bool.or_eq_false_iff, Int.not_lt, Int.not_le, ne_eq, gt_iff_lt, ge_iff_le] at hb') <;> (try (exfalso; omega))) | (refine .of ((alive _).mono ?_); rintro v _ ⟨rfl, rfl⟩) | (refine .of ((Cmp_spec a b _).mono ?_); rintro v _ ⟨rfl, rfl⟩; rw [h1]) | (refine .of ((Cmp_spec b c _).mono ?_); rintro v _ ⟨rfl, rfl⟩; rw [h2]) | (refine .of ((Cmp_spec a c _).mono ?_); rintro v _ ⟨rfl, rfl⟩; rw [h3]) | (refine .of ((Cmp_spec b a _).mono ?_); rintro v _ ⟨rfl, rfl⟩; rw [h4]) | (refine .of ((Cmp_spec a ⟨a.num + b.num, a.den + b.den⟩ _).mono ?_); rintro v _ ⟨rfl, rfl⟩; rw [h5]) | (refine .of ((Cmp_spec ⟨a.num + b.num, a.den + b.den⟩ b _).mono ?_); rintro v _ ⟨rfl, rfl⟩; rw [h6])
      all_goals exact .back rfl (by (first | with_reducible rfl | (congr 1; first | with_reducible rfl | omega | (rw [Bool.eq_iff_iff]; simp only [decide_eq_true_eq, decide_eq_false_iff_not, beq_iff_eq, bne_iff_ne, beq_eq_false_iff_ne, bne_eq_false_iff_eq, Bool.not_eq_true', Bool.not_eq_false', Bool.not_eq_true, Bool.not_eq_false, Bool.and_eq_true, Bool.or_eq_true, Bool.and_eq_false_iff, Bool.or_eq_false_iff, Int.not_lt, Int.not_le, ne_eq, gt_iff_lt, ge_iff_le, Bool.and_false, Bool.false_and, Bool.or_true, Bool.true_or, Bool.false_eq_true, true_iff, iff_true, false_iff, iff_false, eq_self, not_true_eq_false, not_false_eq_true]; try omega))))
  · have hbad : (cmpF a b).2 = 2 ∨ (cmpF b c).2 = 2 ∨ (cmpF a c).2 = 2 := by
      by_cases x : a.right ∧ b.right
      · refine .inr (.inl ?_); rw [cmp_bad fun h => hr ⟨x.1, h⟩]
      · refine .inl ?_; rw [cmp_bad x]
    generalize h1 : cmpF a b = p1 at *
    generalize h2 : cmpF b c = p2 at *
    generalize h3 : cmpF a c = p3 at *
    repeat' first | simp (disch := first | with_reducible assumption | omega) only [go_sem, Bool.true_and, Bool.and_true, Bool.and_self, Bool.false_and, Bool.and_false, Bool.true_or, Bool.or_true, Bool.false_or, Bool.or_false, ↓reduceIte, Nat.reduceEqDiff, Nat.reduceAdd, Nat.reduceMul, Nat.reduceSub, Nat.reduceBEq, Nat.reduceLeDiff, Nat.reduceLT, Nat.reduceMod, Nat.reduceDiv, Int.reduceToNat, Int.reducePow, Int.reduceMul, Int.reduceAdd, Int.reduceSub, Int.reduceLE, Int.reduceLT, Int.reduceNeg, Int.reduceDiv, Int.reduceMod, Int.reduceEq, Int.reduceBEq, Int.reduceBNe, f6, f6b, f6r0, f6r1, f6r2, f6r3, f6r4, f6r5, f6r6, f6r7, f6r8, f6r9, f6r10, f6r11, f6r12, f6r13, f6r14, F.cells] | (refine BrW.of (fun hb => ?_) (fun hb => ?_) <;> (have hb' := hb; try simp only [decide_eq_true_eq, decide_eq_false_iff_not, beq_iff_eq, bne_iff_ne, beq_eq_false_iff_ne, bne_eq_false_iff_eq, Bool.not_eq_true', Bool.not_eq_false', Bool.not_eq_true, Bool.not_eq_false, Bool.and_eq_true, Bool.or_eq_true, Bool.and_eq_false_iff, Bool.or_eq_false_iff, Int.not_lt, Int.not_le, ne_eq, gt_iff_lt, ge_iff_le] at hb') <;> (try (exfalso; omega))) | (refine .of ((alive _).mono ?_); rintro v _ ⟨rfl, rfl⟩) | (refine .of ((Cmp_spec a b _).mono ?_); rintro v _ ⟨rfl, rfl⟩; rw [h1]) | (refine .of ((Cmp_spec b c _).mono ?_); rintro v _ ⟨rfl, rfl⟩; rw [h2]) | (refine .of ((Cmp_spec a c _).mono ?_); rintro v _ ⟨rfl, rfl⟩; rw [h3]) | (refine .of ((Cmp_spec b a _).mono ?_); rintro v _ ⟨rfl, rfl⟩)
    all_goals exact .back rfl (by (first | with_reducible rfl | (congr 1; first | with_reducible rfl | omega | (rw [Bool.eq_iff_iff]; simp only [decide_eq_true_eq, decide_eq_false_iff_not, beq_iff_eq, bne_iff_ne, beq_eq_false_iff_ne, bne_eq_false_iff_eq, Bool.not_eq_true', Bool.not_eq_false', Bool.not_eq_true, Bool.not_eq_false, Bool.and_eq_true, Bool.or_eq_true, Bool.and_eq_false_iff, Bool.or_eq_false_iff, Int.not_lt, Int.not_le, ne_eq, gt_iff_lt, ge_iff_le, Bool.and_false, Bool.false_and, Bool.or_true, Bool.true_or, Bool.false_eq_true, true_iff, iff_true, false_iff, iff_false, eq_self, not_true_eq_false, not_false_eq_true]; try omega))))
end Go.Proofs.Ytandagipamhmgaa
