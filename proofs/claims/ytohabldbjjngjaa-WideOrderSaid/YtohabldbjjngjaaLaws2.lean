import Derived.Test.YtohabldbjjngjaaLaws
set_option linter.unusedSimpArgs false
set_option linter.unusedVariables false
set_option maxHeartbeats 2000000
set_option maxRecDepth 20000
namespace Go.Proofs.Ytohabldbjjngjaa
open Go Go.Am
attribute [local irreducible] opsW Ww loopW callW drawW outW outDW gW cW BrW bothW vW resW DropW RdW dcallW altW Later.run

theorem WideOrder_args (H : Heap) (vals : List Value) (h : ArgsOk maxLen H WideOrderSh vals) : ACallK Try.prog 5 vals H fun v _ => v = .bool true := by
  obtain ⟨_, _, rfl, a1, h⟩ := h.cons
  obtain ⟨_, _, rfl, a2, h⟩ := h.cons
  obtain ⟨_, _, rfl, a3, h⟩ := h.cons
  obtain rfl := h.nil
  obtain ⟨a, rfl, ha⟩ := W.of a1
  obtain ⟨b, rfl, hb0⟩ := W.of a2
  obtain ⟨c, rfl, hc⟩ := W.of a3
  clear a1 a2 a3 h
  refine .walkW f5_ok (by simp; decide) (by decide) ?_
  have hac := fun H => Add_spec a c H ha hc
  have hbc := fun H => Add_spec b c H hb0 hc
  have k1 := fun H => Cmp_spec (addW a c) (addW b c) H
  have k2 := fun H => Cmp_spec a b H
  have k3 := fun H => Cmp_spec b a H
  have k4 := fun H => Cmp_spec b c H
  have k5 := fun H => Cmp_spec a c H
  have k6 := fun H => Cmp_spec (satW a b) a H
  have s1 := fun H => Sat_spec a b H ha hb0
  have s2 := fun H => Sat_spec (satW a b) c H (satW_ok ha hb0) hc
  have s3 := fun H => Sat_spec b c H hb0 hc
  have s4 := fun H => Sat_spec a (satW b c) H ha (satW_ok hb0 hc)
  have o1 := o_add ha hb0 hc
  have o2 := o_swap ha hb0
  have o3 := o_eq ha hb0
  have o4 := o_trans ha hb0 hc
  have o5 := o_sat ha hb0
  have o6 := sat_assoc ha hb0 hc
  rw [o6] at s2
  have e0 := same2 a b
  have e1 := same2 (satW a (satW b c)) (satW a (satW b c))
  rw [decide_eq_true rfl] at e1
  have r2 := cmpW_range b a
  have hE : ((cmpW a b == 0) == decide (a = b)) = true := by
    rw [Bool.eq_iff_iff.2 (show (cmpW a b == 0) = true ↔ decide (a = b) = true by simp [o3])]; simp
  have hx : ovW a c = 1 ∨ ovW b c = 1 ∨ cmpW (addW a c) (addW b c) = cmpW a b := by
    by_cases h1 : ovW a c = 1
    · exact .inl h1
    · by_cases h2 : ovW b c = 1
      · exact .inr (.inl h2)
      · exact .inr (.inr (o1 h1 h2))
  have hN : (cmpW a b != 0 - cmpW b a) = false := by rw [Int.zero_sub, ← o2]; simp
  have hT : ¬ cmpW a b ≤ 0 ∨ ¬ cmpW b c ≤ 0 ∨ cmpW a c ≤ 0 := by
    by_cases h1 : cmpW a b ≤ 0
    · by_cases h2 : cmpW b c ≤ 0
      · exact .inr (.inr (o4 h1 h2))
      · exact .inr (.inl h2)
    · exact .inl h1
  have hx' : (ovW a c == 1) = true ∨ (ovW b c == 1) = true ∨ (cmpW (addW a c) (addW b c) != cmpW a b) = false := by
    rcases hx with h | h | h
    · exact .inl (by simpa using h)
    · exact .inr (.inl (by simpa using h))
    · exact .inr (.inr (by rw [h]; simp))
  clear o1 o2 o3 o4 o6 hx
  generalize hb1 : (ovW a c == 1) = b1 at *
  generalize hb2 : (ovW b c == 1) = b2 at *
  generalize cmpW (addW a c) (addW b c) = C1 at *
  generalize cmpW a b = C2 at *
  generalize cmpW b a = C3 at *
  generalize cmpW b c = C4 at *
  generalize cmpW a c = C5 at *
  generalize cmpW (satW a b) a = C6 at *
  generalize satW a (satW b c) = z at *
  generalize satW a b = s at *
  generalize satW b c = y at *
  generalize addW a c = p at *
  generalize addW b c = q at *
  generalize hD : decide (a = b) = D at *
  clear hb1 hb2 hD
  obtain ⟨ah, al⟩ := a
  obtain ⟨bh, bl⟩ := b
  obtain ⟨ch, cl⟩ := c
  obtain ⟨sh, sl⟩ := s
  obtain ⟨yh, yl⟩ := y
  obtain ⟨zh, zl⟩ := z
  obtain ⟨ph, pl⟩ := p
  obtain ⟨qh, ql⟩ := q
  simp only at *
  clear ha hb0 hc
  rcases hx' with rfl | rfl | hx' <;> rcases hT with hT | hT | hT
  all_goals
    repeat' first | simp (disch := first | with_reducible assumption | omega) only [go_sem, Bool.true_and, Bool.and_true, Bool.and_self, Bool.false_and, Bool.and_false, Bool.true_or, Bool.or_true, Bool.false_or, Bool.or_false, ↓reduceIte, Nat.reduceEqDiff, Nat.reduceAdd, Nat.reduceMul, Nat.reduceSub, Nat.reduceBEq, Nat.reduceLeDiff, Nat.reduceLT, Nat.reduceMod, Nat.reduceDiv, Int.reduceToNat, Int.reducePow, Int.reduceMul, Int.reduceAdd, Int.reduceSub, Int.reduceLE, Int.reduceLT, Int.reduceNeg, Int.reduceDiv, Int.reduceMod, Int.reduceEq, Int.reduceBEq, Int.reduceBNe, f5, f5b, f5r0, f5r1, f5r2, f5r3, f5r4, f5r5, f5r6, f5r7, f5r8, f5r9, e0, e1, hE, hN] | (refine BrW.of (fun hb => ?_) (fun hb => ?_) <;> (have hb' := hb; try simp only [decide_eq_true_eq, decide_eq_false_iff_not, beq_iff_eq, bne_iff_ne, beq_eq_false_iff_ne, bne_eq_false_iff_eq, Bool.not_eq_true', Bool.not_eq_false', Bool.not_eq_true, Bool.not_eq_false, Bool.and_eq_true, Bool.or_eq_true, Bool.and_eq_false_iff, Bool.or_eq_false_iff, Int.not_lt, Int.not_le, ne_eq, gt_iff_lt, ge_iff_le] at hb') <;> (try (exfalso; omega))) | (refine altW.of ?_ ?_) | (refine .of ((alive _).mono ?_); rintro v _ ⟨rfl, rfl⟩) | (refine .of ((hac _).mono ?_); rintro v _ ⟨rfl, rfl⟩) | (refine .of ((hbc _).mono ?_); rintro v _ ⟨rfl, rfl⟩) | (refine dcallW.of _ _ (k1 _) ?_) | (refine dcallW.of _ _ (k2 _) ?_) | (refine dcallW.of _ _ (k3 _) ?_) | (refine .of ((k2 _).mono ?_); rintro v _ ⟨rfl, rfl⟩) | (refine .of ((k4 _).mono ?_); rintro v _ ⟨rfl, rfl⟩) | (refine .of ((k5 _).mono ?_); rintro v _ ⟨rfl, rfl⟩) | (refine dcallW.of _ _ (s1 _) ?_) | (refine dcallW.of _ _ (k6 _) ?_) | (refine dcallW.of _ _ (s2 _) ?_) | (refine dcallW.of _ _ (s3 _) ?_) | (refine dcallW.of _ _ (s4 _) ?_)
  all_goals exact .here rfl
end Go.Proofs.Ytohabldbjjngjaa
