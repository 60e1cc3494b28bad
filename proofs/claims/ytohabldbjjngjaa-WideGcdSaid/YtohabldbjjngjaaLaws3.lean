import Derived.Test.YtohabldbjjngjaaSteps3
import Derived.Test.YtohabldbjjngjaaLaws
set_option linter.unusedSimpArgs false
set_option linter.unusedVariables false
set_option maxHeartbeats 2000000
set_option maxRecDepth 20000
namespace Go.Proofs.Ytohabldbjjngjaa
open Go Go.Am
attribute [local irreducible] opsW Ww loopW callW drawW outW outDW gW cW BrW bothW vW resW DropW RdW dcallW altW Later.run

theorem WideDivides_args (H : Heap) (vals : List Value) (h : ArgsOk maxLen H WideDividesSh vals) : ACallK Try.prog 3 vals H fun v _ => v = .bool true := by
  obtain ⟨_, _, rfl, a1, h⟩ := h.cons
  obtain ⟨_, _, rfl, a2, h⟩ := h.cons
  obtain rfl := h.nil
  obtain ⟨a, rfl, ha⟩ := W.of a1
  obtain ⟨y, rfl, hy⟩ := a2.cell.int_inv
  have hy : 0 ≤ y ∧ y ≤ 18446744073709551615 := hy
  clear a1 a2 h
  refine .walkW f3_ok (by simp; decide) (by decide) ?_
  by_cases hz : y = 0
  · subst hz
    have hD := fun H => Div_zero a H
    obtain ⟨ah, al⟩ := a
    repeat' first | simp (disch := first | with_reducible assumption | omega) only [go_sem, Bool.true_and, Bool.and_true, Bool.and_self, Bool.false_and, Bool.and_false, Bool.true_or, Bool.or_true, Bool.false_or, Bool.or_false, ↓reduceIte, Nat.reduceEqDiff, Nat.reduceAdd, Nat.reduceMul, Nat.reduceSub, Nat.reduceBEq, Nat.reduceLeDiff, Nat.reduceLT, Nat.reduceMod, Nat.reduceDiv, Int.reduceToNat, Int.reducePow, Int.reduceMul, Int.reduceAdd, Int.reduceSub, Int.reduceLE, Int.reduceLT, Int.reduceNeg, Int.reduceDiv, Int.reduceMod, Int.reduceEq, Int.reduceBEq, Int.reduceBNe, f3, f3b, f3r0, f3r1, f3r2, f3r3, f3r4, f3r5, f3r6, f3r7, f3r8, f3r9, f3r10, f3r11, f3r12] | (refine BrW.of (fun hb => ?_) (fun hb => ?_) <;> (have hb' := hb; try simp only [decide_eq_true_eq, decide_eq_false_iff_not, beq_iff_eq, bne_iff_ne, beq_eq_false_iff_ne, bne_eq_false_iff_eq, Bool.not_eq_true', Bool.not_eq_false', Bool.not_eq_true, Bool.not_eq_false, Bool.and_eq_true, Bool.or_eq_true, Bool.and_eq_false_iff, Bool.or_eq_false_iff, Int.not_lt, Int.not_le, ne_eq, gt_iff_lt, ge_iff_le] at hb') <;> (try (exfalso; omega))) | (refine altW.of ?_ ?_) | (refine .of ((alive _).mono ?_); rintro v _ ⟨rfl, rfl⟩) | (refine .of ((hD _).mono ?_); rintro v _ ⟨rfl, rfl⟩)
    all_goals exact .here rfl
  · have hy1 : 1 ≤ y ∧ y ≤ 18446744073709551615 := by omega
    have hD := fun H => Div_spec a y H ha hy1
    obtain ⟨d1, d2, d3, d4⟩ := div_num ha hy1
    obtain ⟨c1, c2, c3, c4⟩ := divides ha hy1
    have hM := mulW_num d4.2 hy
    have hN := mulW_num d4.1 hy
    have m1 := fun H => Mul_spec (divW a y).lo y H d4.2 hy
    have m2 := fun H => Mul_spec (divW a y).hi y H d4.1 hy
    have hno : W.ok ⟨(mulW (divW a y).hi y).lo, 0⟩ := by
      have := hN.2; simp only [W.ok] at this ⊢; exact ⟨this.2, by omega, by omega⟩
    have s1 := fun H => Add_spec (mulW (divW a y).lo y) ⟨(mulW (divW a y).hi y).lo, 0⟩ H hM.2 hno
    have s2 := fun H => Add_spec (addW (mulW (divW a y).lo y) ⟨(mulW (divW a y).hi y).lo, 0⟩) ⟨0, remW a y⟩ H addW_ok ⟨⟨by simp, by simp⟩, d2, by simp only; omega⟩
    rw [c2] at s1
    rw [c3, c4] at s2
    have hr : ¬ y ≤ remW a y := by omega
    have e1 := same2 a a
    rw [decide_eq_true rfl] at e1
    clear d1 d4 hM hN hno c2 c3 c4
    generalize addW (mulW (divW a y).lo y) ⟨(mulW (divW a y).hi y).lo, 0⟩ = S at *
    generalize remW a y = R at *
    generalize hMl : mulW (divW a y).lo y = ML at *
    generalize hMh : mulW (divW a y).hi y = MH at *
    generalize divW a y = D at *
    have z0 : ((0 : Int) == 1) = false := rfl
    obtain ⟨ah, al⟩ := a
    obtain ⟨sh, sl⟩ := S
    obtain ⟨lh, ll⟩ := ML
    obtain ⟨mh, ml⟩ := MH
    obtain ⟨dh, dl⟩ := D
    simp only at *
    subst c1
    repeat' first | simp (disch := first | with_reducible assumption | omega) only [go_sem, Bool.true_and, Bool.and_true, Bool.and_self, Bool.false_and, Bool.and_false, Bool.true_or, Bool.or_true, Bool.false_or, Bool.or_false, ↓reduceIte, Nat.reduceEqDiff, Nat.reduceAdd, Nat.reduceMul, Nat.reduceSub, Nat.reduceBEq, Nat.reduceLeDiff, Nat.reduceLT, Nat.reduceMod, Nat.reduceDiv, Int.reduceToNat, Int.reducePow, Int.reduceMul, Int.reduceAdd, Int.reduceSub, Int.reduceLE, Int.reduceLT, Int.reduceNeg, Int.reduceDiv, Int.reduceMod, Int.reduceEq, Int.reduceBEq, Int.reduceBNe, f3, f3b, f3r0, f3r1, f3r2, f3r3, f3r4, f3r5, f3r6, f3r7, f3r8, f3r9, f3r10, f3r11, f3r12, e1, z0] | (refine BrW.of (fun hb => ?_) (fun hb => ?_) <;> (have hb' := hb; try simp only [decide_eq_true_eq, decide_eq_false_iff_not, beq_iff_eq, bne_iff_ne, beq_eq_false_iff_ne, bne_eq_false_iff_eq, Bool.not_eq_true', Bool.not_eq_false', Bool.not_eq_true, Bool.not_eq_false, Bool.and_eq_true, Bool.or_eq_true, Bool.and_eq_false_iff, Bool.or_eq_false_iff, Int.not_lt, Int.not_le, ne_eq, gt_iff_lt, ge_iff_le] at hb') <;> (try (exfalso; omega))) | (refine altW.of ?_ ?_) | (refine .of ((alive _).mono ?_); rintro v _ ⟨rfl, rfl⟩) | (refine .of ((hD _).mono ?_); rintro v _ ⟨rfl, rfl⟩) | (refine .of ((m1 _).mono ?_); rintro v _ ⟨rfl, rfl⟩) | (refine .of ((m2 _).mono ?_); rintro v _ ⟨rfl, rfl⟩) | (refine .of ((s1 _).mono ?_); rintro v _ ⟨rfl, rfl⟩) | (refine .of ((s2 _).mono ?_); rintro v _ ⟨rfl, rfl⟩)
    all_goals exact .here rfl

theorem WideGcd_args (H : Heap) (vals : List Value) (h : ArgsOk maxLen H WideGcdSh vals) : ACallK Try.prog 4 vals H fun v _ => v = .bool true := by
  obtain ⟨_, _, rfl, a1, h⟩ := h.cons
  obtain ⟨_, _, rfl, a2, h⟩ := h.cons
  obtain ⟨_, _, rfl, a3, h⟩ := h.cons
  obtain rfl := h.nil
  obtain ⟨a', rfl, ha⟩ := a1.cell.int_inv
  obtain ⟨b', rfl, hb0⟩ := a2.cell.int_inv
  obtain ⟨d', rfl, hd⟩ := a3.cell.int_inv
  have ha : 0 ≤ a' ∧ a' ≤ 18446744073709551615 := ha
  have hb0 : 0 ≤ b' ∧ b' ≤ 18446744073709551615 := hb0
  have hd : 0 ≤ d' ∧ d' ≤ 18446744073709551615 := hd
  obtain ⟨a, rfl⟩ := Int.eq_ofNat_of_zero_le ha.1
  obtain ⟨b, rfl⟩ := Int.eq_ofNat_of_zero_le hb0.1
  obtain ⟨d, rfl⟩ := Int.eq_ofNat_of_zero_le hd.1
  clear a1 a2 a3 h
  refine .walkW f4_ok (by simp; decide) (by decide) ?_
  have g1 := fun H => Gcd_spec a b H (by omega) (by omega)
  have g2 := fun H => Gcd_spec b a H (by omega) (by omega)
  rw [Nat.gcd_comm b a] at g2
  have ga := g_a a b
  have gb := g_b a b
  have gle := gcd_le (a := a) (b := b) (M := 18446744073709551615) (by omega) (by omega)
  have mad : (a : Int) % (d : Int) = ((a % d : Nat) : Int) := (Int.natCast_emod a d).symm
  have mbd : (b : Int) % (d : Int) = ((b % d : Nat) : Int) := (Int.natCast_emod b d).symm
  have mag : (a : Int) % (Nat.gcd a b : Nat) = ((a % Nat.gcd a b : Nat) : Int) := (Int.natCast_emod a _).symm
  have mbg : (b : Int) % (Nat.gcd a b : Nat) = ((b % Nat.gcd a b : Nat) : Int) := (Int.natCast_emod b _).symm
  rw [ga] at mag
  rw [gb] at mbg
  have mg : ((Nat.gcd a b : Nat) : Int) % (d : Int) = ((Nat.gcd a b % d : Nat) : Int) := (Int.natCast_emod _ d).symm
  have hgd : a % d = 0 → b % d = 0 → Nat.gcd a b % d = 0 := fun h1 h2 => dvd_g h1 h2
  generalize a % d = ad at *
  generalize b % d = bd at *
  obtain ⟨gd, hgdE⟩ : ∃ gd, gd = Nat.gcd a b % d := ⟨_, rfl⟩
  rw [← hgdE] at mg hgd
  clear hgdE
  have l1 := fun H => Lcm_spec a b H (by omega) (by omega)
  have z : ((0 : Nat) : Int) = 0 := rfl
  by_cases h1 : a = 0
  · by_cases h2 : b = 0
    · subst h1; subst h2
      have g0 : Nat.gcd 0 0 = 0 := rfl
      rw [g0] at g1
      repeat' first | simp (disch := first | with_reducible assumption | omega) only [go_sem, Bool.true_and, Bool.and_true, Bool.and_self, Bool.false_and, Bool.and_false, Bool.true_or, Bool.or_true, Bool.false_or, Bool.or_false, ↓reduceIte, Nat.reduceEqDiff, Nat.reduceAdd, Nat.reduceMul, Nat.reduceSub, Nat.reduceBEq, Nat.reduceLeDiff, Nat.reduceLT, Nat.reduceMod, Nat.reduceDiv, Int.reduceToNat, Int.reducePow, Int.reduceMul, Int.reduceAdd, Int.reduceSub, Int.reduceLE, Int.reduceLT, Int.reduceNeg, Int.reduceDiv, Int.reduceMod, Int.reduceEq, Int.reduceBEq, Int.reduceBNe, f4, f4b, f4r0, f4r1, f4r2, f4r3, f4r4, f4r5, f4r6, f4r7, f4r8, f4r9, f4r10, f4r11, f4r12, f4r13, f4r14, z] | (refine BrW.of (fun hb => ?_) (fun hb => ?_) <;> (have hb' := hb; try simp only [decide_eq_true_eq, decide_eq_false_iff_not, beq_iff_eq, bne_iff_ne, beq_eq_false_iff_ne, bne_eq_false_iff_eq, Bool.not_eq_true', Bool.not_eq_false', Bool.not_eq_true, Bool.not_eq_false, Bool.and_eq_true, Bool.or_eq_true, Bool.and_eq_false_iff, Bool.or_eq_false_iff, Int.not_lt, Int.not_le, ne_eq, gt_iff_lt, ge_iff_le] at hb') <;> (try (exfalso; omega))) | (refine altW.of ?_ ?_) | (refine .of ((alive _).mono ?_); rintro v _ ⟨rfl, rfl⟩) | (refine .of ((g1 _).mono ?_); rintro v _ ⟨rfl, rfl⟩)
      all_goals exact .here rfl
    · have gp := gcd_pos (a := a) (b := b) (by omega)
      have hmax : max (a : Int) b = ((Nat.gcd a b : Nat) : Int) := by rw [h1, Nat.gcd_zero_left]; simp
      have hl : lcmW a b = ⟨0, 0⟩ := if_pos (.inl h1)
      rw [hl] at l1
      have e1 := same2 ⟨0, 0⟩ ⟨0, 0⟩
      rw [decide_eq_true rfl] at e1
      simp only at e1
      generalize Nat.gcd a b = g at *
      by_cases d0 : 0 < d
      · by_cases da : ad = 0
        · by_cases db : bd = 0
          · have hgd := hgd da db
            repeat' first | simp (disch := first | with_reducible assumption | omega) only [go_sem, Bool.true_and, Bool.and_true, Bool.and_self, Bool.false_and, Bool.and_false, Bool.true_or, Bool.or_true, Bool.false_or, Bool.or_false, ↓reduceIte, Nat.reduceEqDiff, Nat.reduceAdd, Nat.reduceMul, Nat.reduceSub, Nat.reduceBEq, Nat.reduceLeDiff, Nat.reduceLT, Nat.reduceMod, Nat.reduceDiv, Int.reduceToNat, Int.reducePow, Int.reduceMul, Int.reduceAdd, Int.reduceSub, Int.reduceLE, Int.reduceLT, Int.reduceNeg, Int.reduceDiv, Int.reduceMod, Int.reduceEq, Int.reduceBEq, Int.reduceBNe, f4, f4b, f4r0, f4r1, f4r2, f4r3, f4r4, f4r5, f4r6, f4r7, f4r8, f4r9, f4r10, f4r11, f4r12, f4r13, f4r14, z, mad, mbd, mag, mbg, mg, hmax, e1] | (refine BrW.of (fun hb => ?_) (fun hb => ?_) <;> (have hb' := hb; try simp only [decide_eq_true_eq, decide_eq_false_iff_not, beq_iff_eq, bne_iff_ne, beq_eq_false_iff_ne, bne_eq_false_iff_eq, Bool.not_eq_true', Bool.not_eq_false', Bool.not_eq_true, Bool.not_eq_false, Bool.and_eq_true, Bool.or_eq_true, Bool.and_eq_false_iff, Bool.or_eq_false_iff, Int.not_lt, Int.not_le, ne_eq, gt_iff_lt, ge_iff_le] at hb') <;> (try (exfalso; omega))) | (refine altW.of ?_ ?_) | (refine .of ((alive _).mono ?_); rintro v _ ⟨rfl, rfl⟩) | (refine .of ((g1 _).mono ?_); rintro v _ ⟨rfl, rfl⟩) | (refine .of ((g2 _).mono ?_); rintro v _ ⟨rfl, rfl⟩) | (refine .of ((l1 _).mono ?_); rintro v _ ⟨rfl, rfl⟩) | (fail)
            all_goals exact .here rfl
          · clear hgd
            repeat' first | simp (disch := first | with_reducible assumption | omega) only [go_sem, Bool.true_and, Bool.and_true, Bool.and_self, Bool.false_and, Bool.and_false, Bool.true_or, Bool.or_true, Bool.false_or, Bool.or_false, ↓reduceIte, Nat.reduceEqDiff, Nat.reduceAdd, Nat.reduceMul, Nat.reduceSub, Nat.reduceBEq, Nat.reduceLeDiff, Nat.reduceLT, Nat.reduceMod, Nat.reduceDiv, Int.reduceToNat, Int.reducePow, Int.reduceMul, Int.reduceAdd, Int.reduceSub, Int.reduceLE, Int.reduceLT, Int.reduceNeg, Int.reduceDiv, Int.reduceMod, Int.reduceEq, Int.reduceBEq, Int.reduceBNe, f4, f4b, f4r0, f4r1, f4r2, f4r3, f4r4, f4r5, f4r6, f4r7, f4r8, f4r9, f4r10, f4r11, f4r12, f4r13, f4r14, z, mad, mbd, mag, mbg, mg, hmax, e1] | (refine BrW.of (fun hb => ?_) (fun hb => ?_) <;> (have hb' := hb; try simp only [decide_eq_true_eq, decide_eq_false_iff_not, beq_iff_eq, bne_iff_ne, beq_eq_false_iff_ne, bne_eq_false_iff_eq, Bool.not_eq_true', Bool.not_eq_false', Bool.not_eq_true, Bool.not_eq_false, Bool.and_eq_true, Bool.or_eq_true, Bool.and_eq_false_iff, Bool.or_eq_false_iff, Int.not_lt, Int.not_le, ne_eq, gt_iff_lt, ge_iff_le] at hb') <;> (try (exfalso; omega))) | (refine altW.of ?_ ?_) | (refine .of ((alive _).mono ?_); rintro v _ ⟨rfl, rfl⟩) | (refine .of ((g1 _).mono ?_); rintro v _ ⟨rfl, rfl⟩) | (refine .of ((g2 _).mono ?_); rintro v _ ⟨rfl, rfl⟩) | (refine .of ((l1 _).mono ?_); rintro v _ ⟨rfl, rfl⟩) | (fail)
            all_goals exact .here rfl
        · clear hgd
          repeat' first | simp (disch := first | with_reducible assumption | omega) only [go_sem, Bool.true_and, Bool.and_true, Bool.and_self, Bool.false_and, Bool.and_false, Bool.true_or, Bool.or_true, Bool.false_or, Bool.or_false, ↓reduceIte, Nat.reduceEqDiff, Nat.reduceAdd, Nat.reduceMul, Nat.reduceSub, Nat.reduceBEq, Nat.reduceLeDiff, Nat.reduceLT, Nat.reduceMod, Nat.reduceDiv, Int.reduceToNat, Int.reducePow, Int.reduceMul, Int.reduceAdd, Int.reduceSub, Int.reduceLE, Int.reduceLT, Int.reduceNeg, Int.reduceDiv, Int.reduceMod, Int.reduceEq, Int.reduceBEq, Int.reduceBNe, f4, f4b, f4r0, f4r1, f4r2, f4r3, f4r4, f4r5, f4r6, f4r7, f4r8, f4r9, f4r10, f4r11, f4r12, f4r13, f4r14, z, mad, mbd, mag, mbg, mg, hmax, e1] | (refine BrW.of (fun hb => ?_) (fun hb => ?_) <;> (have hb' := hb; try simp only [decide_eq_true_eq, decide_eq_false_iff_not, beq_iff_eq, bne_iff_ne, beq_eq_false_iff_ne, bne_eq_false_iff_eq, Bool.not_eq_true', Bool.not_eq_false', Bool.not_eq_true, Bool.not_eq_false, Bool.and_eq_true, Bool.or_eq_true, Bool.and_eq_false_iff, Bool.or_eq_false_iff, Int.not_lt, Int.not_le, ne_eq, gt_iff_lt, ge_iff_le] at hb') <;> (try (exfalso; omega))) | (refine altW.of ?_ ?_) | (refine .of ((alive _).mono ?_); rintro v _ ⟨rfl, rfl⟩) | (refine .of ((g1 _).mono ?_); rintro v _ ⟨rfl, rfl⟩) | (refine .of ((g2 _).mono ?_); rintro v _ ⟨rfl, rfl⟩) | (refine .of ((l1 _).mono ?_); rintro v _ ⟨rfl, rfl⟩) | (fail)
          all_goals exact .here rfl
      · clear hgd
        repeat' first | simp (disch := first | with_reducible assumption | omega) only [go_sem, Bool.true_and, Bool.and_true, Bool.and_self, Bool.false_and, Bool.and_false, Bool.true_or, Bool.or_true, Bool.false_or, Bool.or_false, ↓reduceIte, Nat.reduceEqDiff, Nat.reduceAdd, Nat.reduceMul, Nat.reduceSub, Nat.reduceBEq, Nat.reduceLeDiff, Nat.reduceLT, Nat.reduceMod, Nat.reduceDiv, Int.reduceToNat, Int.reducePow, Int.reduceMul, Int.reduceAdd, Int.reduceSub, Int.reduceLE, Int.reduceLT, Int.reduceNeg, Int.reduceDiv, Int.reduceMod, Int.reduceEq, Int.reduceBEq, Int.reduceBNe, f4, f4b, f4r0, f4r1, f4r2, f4r3, f4r4, f4r5, f4r6, f4r7, f4r8, f4r9, f4r10, f4r11, f4r12, f4r13, f4r14, z, mad, mbd, mag, mbg, mg, hmax, e1] | (refine BrW.of (fun hb => ?_) (fun hb => ?_) <;> (have hb' := hb; try simp only [decide_eq_true_eq, decide_eq_false_iff_not, beq_iff_eq, bne_iff_ne, beq_eq_false_iff_ne, bne_eq_false_iff_eq, Bool.not_eq_true', Bool.not_eq_false', Bool.not_eq_true, Bool.not_eq_false, Bool.and_eq_true, Bool.or_eq_true, Bool.and_eq_false_iff, Bool.or_eq_false_iff, Int.not_lt, Int.not_le, ne_eq, gt_iff_lt, ge_iff_le] at hb') <;> (try (exfalso; omega))) | (refine altW.of ?_ ?_) | (refine .of ((alive _).mono ?_); rintro v _ ⟨rfl, rfl⟩) | (refine .of ((g1 _).mono ?_); rintro v _ ⟨rfl, rfl⟩) | (refine .of ((g2 _).mono ?_); rintro v _ ⟨rfl, rfl⟩) | (refine .of ((l1 _).mono ?_); rintro v _ ⟨rfl, rfl⟩) | (fail)
        all_goals exact .here rfl
  · by_cases h2 : b = 0
    · have gp := gcd_pos (a := a) (b := b) (by omega)
      have hmax : max (a : Int) b = ((Nat.gcd a b : Nat) : Int) := by rw [h2, Nat.gcd_zero_right]; simp
      have hl : lcmW a b = ⟨0, 0⟩ := if_pos (.inr h2)
      rw [hl] at l1
      have e1 := same2 ⟨0, 0⟩ ⟨0, 0⟩
      rw [decide_eq_true rfl] at e1
      simp only at e1
      generalize Nat.gcd a b = g at *
      by_cases d0 : 0 < d
      · by_cases da : ad = 0
        · by_cases db : bd = 0
          · have hgd := hgd da db
            repeat' first | simp (disch := first | with_reducible assumption | omega) only [go_sem, Bool.true_and, Bool.and_true, Bool.and_self, Bool.false_and, Bool.and_false, Bool.true_or, Bool.or_true, Bool.false_or, Bool.or_false, ↓reduceIte, Nat.reduceEqDiff, Nat.reduceAdd, Nat.reduceMul, Nat.reduceSub, Nat.reduceBEq, Nat.reduceLeDiff, Nat.reduceLT, Nat.reduceMod, Nat.reduceDiv, Int.reduceToNat, Int.reducePow, Int.reduceMul, Int.reduceAdd, Int.reduceSub, Int.reduceLE, Int.reduceLT, Int.reduceNeg, Int.reduceDiv, Int.reduceMod, Int.reduceEq, Int.reduceBEq, Int.reduceBNe, f4, f4b, f4r0, f4r1, f4r2, f4r3, f4r4, f4r5, f4r6, f4r7, f4r8, f4r9, f4r10, f4r11, f4r12, f4r13, f4r14, z, mad, mbd, mag, mbg, mg, hmax, e1] | (refine BrW.of (fun hb => ?_) (fun hb => ?_) <;> (have hb' := hb; try simp only [decide_eq_true_eq, decide_eq_false_iff_not, beq_iff_eq, bne_iff_ne, beq_eq_false_iff_ne, bne_eq_false_iff_eq, Bool.not_eq_true', Bool.not_eq_false', Bool.not_eq_true, Bool.not_eq_false, Bool.and_eq_true, Bool.or_eq_true, Bool.and_eq_false_iff, Bool.or_eq_false_iff, Int.not_lt, Int.not_le, ne_eq, gt_iff_lt, ge_iff_le] at hb') <;> (try (exfalso; omega))) | (refine altW.of ?_ ?_) | (refine .of ((alive _).mono ?_); rintro v _ ⟨rfl, rfl⟩) | (refine .of ((g1 _).mono ?_); rintro v _ ⟨rfl, rfl⟩) | (refine .of ((g2 _).mono ?_); rintro v _ ⟨rfl, rfl⟩) | (refine .of ((l1 _).mono ?_); rintro v _ ⟨rfl, rfl⟩) | (fail)
            all_goals exact .here rfl
          · clear hgd
            repeat' first | simp (disch := first | with_reducible assumption | omega) only [go_sem, Bool.true_and, Bool.and_true, Bool.and_self, Bool.false_and, Bool.and_false, Bool.true_or, Bool.or_true, Bool.false_or, Bool.or_false, ↓reduceIte, Nat.reduceEqDiff, Nat.reduceAdd, Nat.reduceMul, Nat.reduceSub, Nat.reduceBEq, Nat.reduceLeDiff, Nat.reduceLT, Nat.reduceMod, Nat.reduceDiv, Int.reduceToNat, Int.reducePow, Int.reduceMul, Int.reduceAdd, Int.reduceSub, Int.reduceLE, Int.reduceLT, Int.reduceNeg, Int.reduceDiv, Int.reduceMod, Int.reduceEq, Int.reduceBEq, Int.reduceBNe, f4, f4b, f4r0, f4r1, f4r2, f4r3, f4r4, f4r5, f4r6, f4r7, f4r8, f4r9, f4r10, f4r11, f4r12, f4r13, f4r14, z, mad, mbd, mag, mbg, mg, hmax, e1] | (refine BrW.of (fun hb => ?_) (fun hb => ?_) <;> (have hb' := hb; try simp only [decide_eq_true_eq, decide_eq_false_iff_not, beq_iff_eq, bne_iff_ne, beq_eq_false_iff_ne, bne_eq_false_iff_eq, Bool.not_eq_true', Bool.not_eq_false', Bool.not_eq_true, Bool.not_eq_false, Bool.and_eq_true, Bool.or_eq_true, Bool.and_eq_false_iff, Bool.or_eq_false_iff, Int.not_lt, Int.not_le, ne_eq, gt_iff_lt, ge_iff_le] at hb') <;> (try (exfalso; omega))) | (refine altW.of ?_ ?_) | (refine .of ((alive _).mono ?_); rintro v _ ⟨rfl, rfl⟩) | (refine .of ((g1 _).mono ?_); rintro v _ ⟨rfl, rfl⟩) | (refine .of ((g2 _).mono ?_); rintro v _ ⟨rfl, rfl⟩) | (refine .of ((l1 _).mono ?_); rintro v _ ⟨rfl, rfl⟩) | (fail)
            all_goals exact .here rfl
        · clear hgd
          repeat' first | simp (disch := first | with_reducible assumption | omega) only [go_sem, Bool.true_and, Bool.and_true, Bool.and_self, Bool.false_and, Bool.and_false, Bool.true_or, Bool.or_true, Bool.false_or, Bool.or_false, ↓reduceIte, Nat.reduceEqDiff, Nat.reduceAdd, Nat.reduceMul, Nat.reduceSub, Nat.reduceBEq, Nat.reduceLeDiff, Nat.reduceLT, Nat.reduceMod, Nat.reduceDiv, Int.reduceToNat, Int.reducePow, Int.reduceMul, Int.reduceAdd, Int.reduceSub, Int.reduceLE, Int.reduceLT, Int.reduceNeg, Int.reduceDiv, Int.reduceMod, Int.reduceEq, Int.reduceBEq, Int.reduceBNe, f4, f4b, f4r0, f4r1, f4r2, f4r3, f4r4, f4r5, f4r6, f4r7, f4r8, f4r9, f4r10, f4r11, f4r12, f4r13, f4r14, z, mad, mbd, mag, mbg, mg, hmax, e1] | (refine BrW.of (fun hb => ?_) (fun hb => ?_) <;> (have hb' := hb; try simp only [decide_eq_true_eq, decide_eq_false_iff_not, beq_iff_eq, bne_iff_ne, beq_eq_false_iff_ne, bne_eq_false_iff_eq, Bool.not_eq_true', Bool.not_eq_false', Bool.not_eq_true, Bool.not_eq_false, Bool.and_eq_true, Bool.or_eq_true, Bool.and_eq_false_iff, Bool.or_eq_false_iff, Int.not_lt, Int.not_le, ne_eq, gt_iff_lt, ge_iff_le] at hb') <;> (try (exfalso; omega))) | (refine altW.of ?_ ?_) | (refine .of ((alive _).mono ?_); rintro v _ ⟨rfl, rfl⟩) | (refine .of ((g1 _).mono ?_); rintro v _ ⟨rfl, rfl⟩) | (refine .of ((g2 _).mono ?_); rintro v _ ⟨rfl, rfl⟩) | (refine .of ((l1 _).mono ?_); rintro v _ ⟨rfl, rfl⟩) | (fail)
          all_goals exact .here rfl
      · clear hgd
        repeat' first | simp (disch := first | with_reducible assumption | omega) only [go_sem, Bool.true_and, Bool.and_true, Bool.and_self, Bool.false_and, Bool.and_false, Bool.true_or, Bool.or_true, Bool.false_or, Bool.or_false, ↓reduceIte, Nat.reduceEqDiff, Nat.reduceAdd, Nat.reduceMul, Nat.reduceSub, Nat.reduceBEq, Nat.reduceLeDiff, Nat.reduceLT, Nat.reduceMod, Nat.reduceDiv, Int.reduceToNat, Int.reducePow, Int.reduceMul, Int.reduceAdd, Int.reduceSub, Int.reduceLE, Int.reduceLT, Int.reduceNeg, Int.reduceDiv, Int.reduceMod, Int.reduceEq, Int.reduceBEq, Int.reduceBNe, f4, f4b, f4r0, f4r1, f4r2, f4r3, f4r4, f4r5, f4r6, f4r7, f4r8, f4r9, f4r10, f4r11, f4r12, f4r13, f4r14, z, mad, mbd, mag, mbg, mg, hmax, e1] | (refine BrW.of (fun hb => ?_) (fun hb => ?_) <;> (have hb' := hb; try simp only [decide_eq_true_eq, decide_eq_false_iff_not, beq_iff_eq, bne_iff_ne, beq_eq_false_iff_ne, bne_eq_false_iff_eq, Bool.not_eq_true', Bool.not_eq_false', Bool.not_eq_true, Bool.not_eq_false, Bool.and_eq_true, Bool.or_eq_true, Bool.and_eq_false_iff, Bool.or_eq_false_iff, Int.not_lt, Int.not_le, ne_eq, gt_iff_lt, ge_iff_le] at hb') <;> (try (exfalso; omega))) | (refine altW.of ?_ ?_) | (refine .of ((alive _).mono ?_); rintro v _ ⟨rfl, rfl⟩) | (refine .of ((g1 _).mono ?_); rintro v _ ⟨rfl, rfl⟩) | (refine .of ((g2 _).mono ?_); rintro v _ ⟨rfl, rfl⟩) | (refine .of ((l1 _).mono ?_); rintro v _ ⟨rfl, rfl⟩) | (fail)
        all_goals exact .here rfl
    · have gp := gcd_pos (a := a) (b := b) (by omega)
      have hl : lcmW a b = mulW ((a / Nat.gcd a b : Nat) : Int) b := if_neg (by omega)
      rw [hl] at l1
      have hlo := (lcm_num (a := a) (b := b) (by omega) (by omega)).2
      have q1 := fun H => Div_spec (mulW ((a / Nat.gcd a b : Nat) : Int) b) a H hlo (by omega)
      have q2 := fun H => Div_spec (mulW ((a / Nat.gcd a b : Nat) : Int) b) b H hlo (by omega)
      have m1 := fun H => Mul_spec a b H ha hb0
      have hmo := (mulW_num ha hb0).2
      have q3 := fun H => Div_spec (mulW a b) (Nat.gcd a b) H hmo (by omega)
      obtain ⟨k1, k2⟩ := lcm_g (a := a) (b := b) (by omega) (by omega)
      rw [lcm_a (a := a) (b := b) (by omega) (by omega)] at q1
      rw [lcm_b (a := a) (b := b) (by omega) (by omega)] at q2
      rw [k1, k2] at q3
      have e1 := same2 (mulW ((a / Nat.gcd a b : Nat) : Int) b) (mulW ((a / Nat.gcd a b : Nat) : Int) b)
      rw [decide_eq_true rfl] at e1
      clear hlo hmo k1 k2 hl
      generalize divW (mulW ((a / Nat.gcd a b : Nat) : Int) b) a = D1 at *
      generalize divW (mulW ((a / Nat.gcd a b : Nat) : Int) b) b = D2 at *
      generalize mulW ((a / Nat.gcd a b : Nat) : Int) b = L at *
      generalize mulW (a : Int) b = M at *
      generalize Nat.gcd a b = g at *
      obtain ⟨d1h, d1l⟩ := D1
      obtain ⟨d2h, d2l⟩ := D2
      obtain ⟨lh, ll⟩ := L
      obtain ⟨mh, ml⟩ := M
      simp only at e1
      have hmax := e1
      by_cases d0 : 0 < d
      · by_cases da : ad = 0
        · by_cases db : bd = 0
          · have hgd := hgd da db
            repeat' first | simp (disch := first | with_reducible assumption | omega) only [go_sem, Bool.true_and, Bool.and_true, Bool.and_self, Bool.false_and, Bool.and_false, Bool.true_or, Bool.or_true, Bool.false_or, Bool.or_false, ↓reduceIte, Nat.reduceEqDiff, Nat.reduceAdd, Nat.reduceMul, Nat.reduceSub, Nat.reduceBEq, Nat.reduceLeDiff, Nat.reduceLT, Nat.reduceMod, Nat.reduceDiv, Int.reduceToNat, Int.reducePow, Int.reduceMul, Int.reduceAdd, Int.reduceSub, Int.reduceLE, Int.reduceLT, Int.reduceNeg, Int.reduceDiv, Int.reduceMod, Int.reduceEq, Int.reduceBEq, Int.reduceBNe, f4, f4b, f4r0, f4r1, f4r2, f4r3, f4r4, f4r5, f4r6, f4r7, f4r8, f4r9, f4r10, f4r11, f4r12, f4r13, f4r14, z, mad, mbd, mag, mbg, mg, hmax, e1] | (refine BrW.of (fun hb => ?_) (fun hb => ?_) <;> (have hb' := hb; try simp only [decide_eq_true_eq, decide_eq_false_iff_not, beq_iff_eq, bne_iff_ne, beq_eq_false_iff_ne, bne_eq_false_iff_eq, Bool.not_eq_true', Bool.not_eq_false', Bool.not_eq_true, Bool.not_eq_false, Bool.and_eq_true, Bool.or_eq_true, Bool.and_eq_false_iff, Bool.or_eq_false_iff, Int.not_lt, Int.not_le, ne_eq, gt_iff_lt, ge_iff_le] at hb') <;> (try (exfalso; omega))) | (refine altW.of ?_ ?_) | (refine .of ((alive _).mono ?_); rintro v _ ⟨rfl, rfl⟩) | (refine .of ((g1 _).mono ?_); rintro v _ ⟨rfl, rfl⟩) | (refine .of ((g2 _).mono ?_); rintro v _ ⟨rfl, rfl⟩) | (refine .of ((l1 _).mono ?_); rintro v _ ⟨rfl, rfl⟩) | (refine .of ((q1 _).mono ?_); rintro v _ ⟨rfl, rfl⟩) | (refine .of ((q2 _).mono ?_); rintro v _ ⟨rfl, rfl⟩) | (refine .of ((m1 _).mono ?_); rintro v _ ⟨rfl, rfl⟩) | (refine .of ((q3 _).mono ?_); rintro v _ ⟨rfl, rfl⟩)
            all_goals exact .here rfl
          · clear hgd
            repeat' first | simp (disch := first | with_reducible assumption | omega) only [go_sem, Bool.true_and, Bool.and_true, Bool.and_self, Bool.false_and, Bool.and_false, Bool.true_or, Bool.or_true, Bool.false_or, Bool.or_false, ↓reduceIte, Nat.reduceEqDiff, Nat.reduceAdd, Nat.reduceMul, Nat.reduceSub, Nat.reduceBEq, Nat.reduceLeDiff, Nat.reduceLT, Nat.reduceMod, Nat.reduceDiv, Int.reduceToNat, Int.reducePow, Int.reduceMul, Int.reduceAdd, Int.reduceSub, Int.reduceLE, Int.reduceLT, Int.reduceNeg, Int.reduceDiv, Int.reduceMod, Int.reduceEq, Int.reduceBEq, Int.reduceBNe, f4, f4b, f4r0, f4r1, f4r2, f4r3, f4r4, f4r5, f4r6, f4r7, f4r8, f4r9, f4r10, f4r11, f4r12, f4r13, f4r14, z, mad, mbd, mag, mbg, mg, hmax, e1] | (refine BrW.of (fun hb => ?_) (fun hb => ?_) <;> (have hb' := hb; try simp only [decide_eq_true_eq, decide_eq_false_iff_not, beq_iff_eq, bne_iff_ne, beq_eq_false_iff_ne, bne_eq_false_iff_eq, Bool.not_eq_true', Bool.not_eq_false', Bool.not_eq_true, Bool.not_eq_false, Bool.and_eq_true, Bool.or_eq_true, Bool.and_eq_false_iff, Bool.or_eq_false_iff, Int.not_lt, Int.not_le, ne_eq, gt_iff_lt, ge_iff_le] at hb') <;> (try (exfalso; omega))) | (refine altW.of ?_ ?_) | (refine .of ((alive _).mono ?_); rintro v _ ⟨rfl, rfl⟩) | (refine .of ((g1 _).mono ?_); rintro v _ ⟨rfl, rfl⟩) | (refine .of ((g2 _).mono ?_); rintro v _ ⟨rfl, rfl⟩) | (refine .of ((l1 _).mono ?_); rintro v _ ⟨rfl, rfl⟩) | (refine .of ((q1 _).mono ?_); rintro v _ ⟨rfl, rfl⟩) | (refine .of ((q2 _).mono ?_); rintro v _ ⟨rfl, rfl⟩) | (refine .of ((m1 _).mono ?_); rintro v _ ⟨rfl, rfl⟩) | (refine .of ((q3 _).mono ?_); rintro v _ ⟨rfl, rfl⟩)
            all_goals exact .here rfl
        · clear hgd
          repeat' first | simp (disch := first | with_reducible assumption | omega) only [go_sem, Bool.true_and, Bool.and_true, Bool.and_self, Bool.false_and, Bool.and_false, Bool.true_or, Bool.or_true, Bool.false_or, Bool.or_false, ↓reduceIte, Nat.reduceEqDiff, Nat.reduceAdd, Nat.reduceMul, Nat.reduceSub, Nat.reduceBEq, Nat.reduceLeDiff, Nat.reduceLT, Nat.reduceMod, Nat.reduceDiv, Int.reduceToNat, Int.reducePow, Int.reduceMul, Int.reduceAdd, Int.reduceSub, Int.reduceLE, Int.reduceLT, Int.reduceNeg, Int.reduceDiv, Int.reduceMod, Int.reduceEq, Int.reduceBEq, Int.reduceBNe, f4, f4b, f4r0, f4r1, f4r2, f4r3, f4r4, f4r5, f4r6, f4r7, f4r8, f4r9, f4r10, f4r11, f4r12, f4r13, f4r14, z, mad, mbd, mag, mbg, mg, hmax, e1] | (refine BrW.of (fun hb => ?_) (fun hb => ?_) <;> (have hb' := hb; try simp only [decide_eq_true_eq, decide_eq_false_iff_not, beq_iff_eq, bne_iff_ne, beq_eq_false_iff_ne, bne_eq_false_iff_eq, Bool.not_eq_true', Bool.not_eq_false', Bool.not_eq_true, Bool.not_eq_false, Bool.and_eq_true, Bool.or_eq_true, Bool.and_eq_false_iff, Bool.or_eq_false_iff, Int.not_lt, Int.not_le, ne_eq, gt_iff_lt, ge_iff_le] at hb') <;> (try (exfalso; omega))) | (refine altW.of ?_ ?_) | (refine .of ((alive _).mono ?_); rintro v _ ⟨rfl, rfl⟩) | (refine .of ((g1 _).mono ?_); rintro v _ ⟨rfl, rfl⟩) | (refine .of ((g2 _).mono ?_); rintro v _ ⟨rfl, rfl⟩) | (refine .of ((l1 _).mono ?_); rintro v _ ⟨rfl, rfl⟩) | (refine .of ((q1 _).mono ?_); rintro v _ ⟨rfl, rfl⟩) | (refine .of ((q2 _).mono ?_); rintro v _ ⟨rfl, rfl⟩) | (refine .of ((m1 _).mono ?_); rintro v _ ⟨rfl, rfl⟩) | (refine .of ((q3 _).mono ?_); rintro v _ ⟨rfl, rfl⟩)
          all_goals exact .here rfl
      · clear hgd
        repeat' first | simp (disch := first | with_reducible assumption | omega) only [go_sem, Bool.true_and, Bool.and_true, Bool.and_self, Bool.false_and, Bool.and_false, Bool.true_or, Bool.or_true, Bool.false_or, Bool.or_false, ↓reduceIte, Nat.reduceEqDiff, Nat.reduceAdd, Nat.reduceMul, Nat.reduceSub, Nat.reduceBEq, Nat.reduceLeDiff, Nat.reduceLT, Nat.reduceMod, Nat.reduceDiv, Int.reduceToNat, Int.reducePow, Int.reduceMul, Int.reduceAdd, Int.reduceSub, Int.reduceLE, Int.reduceLT, Int.reduceNeg, Int.reduceDiv, Int.reduceMod, Int.reduceEq, Int.reduceBEq, Int.reduceBNe, f4, f4b, f4r0, f4r1, f4r2, f4r3, f4r4, f4r5, f4r6, f4r7, f4r8, f4r9, f4r10, f4r11, f4r12, f4r13, f4r14, z, mad, mbd, mag, mbg, mg, hmax, e1] | (refine BrW.of (fun hb => ?_) (fun hb => ?_) <;> (have hb' := hb; try simp only [decide_eq_true_eq, decide_eq_false_iff_not, beq_iff_eq, bne_iff_ne, beq_eq_false_iff_ne, bne_eq_false_iff_eq, Bool.not_eq_true', Bool.not_eq_false', Bool.not_eq_true, Bool.not_eq_false, Bool.and_eq_true, Bool.or_eq_true, Bool.and_eq_false_iff, Bool.or_eq_false_iff, Int.not_lt, Int.not_le, ne_eq, gt_iff_lt, ge_iff_le] at hb') <;> (try (exfalso; omega))) | (refine altW.of ?_ ?_) | (refine .of ((alive _).mono ?_); rintro v _ ⟨rfl, rfl⟩) | (refine .of ((g1 _).mono ?_); rintro v _ ⟨rfl, rfl⟩) | (refine .of ((g2 _).mono ?_); rintro v _ ⟨rfl, rfl⟩) | (refine .of ((l1 _).mono ?_); rintro v _ ⟨rfl, rfl⟩) | (refine .of ((q1 _).mono ?_); rintro v _ ⟨rfl, rfl⟩) | (refine .of ((q2 _).mono ?_); rintro v _ ⟨rfl, rfl⟩) | (refine .of ((m1 _).mono ?_); rintro v _ ⟨rfl, rfl⟩) | (refine .of ((q3 _).mono ?_); rintro v _ ⟨rfl, rfl⟩)
        all_goals exact .here rfl
end Go.Proofs.Ytohabldbjjngjaa
