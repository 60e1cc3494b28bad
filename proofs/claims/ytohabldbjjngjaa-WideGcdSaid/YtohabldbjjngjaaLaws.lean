import Derived.Test.YtohabldbjjngjaaSteps
import Derived.Test.YtohabldbjjngjaaBase
set_option linter.unusedSimpArgs false
set_option linter.unusedVariables false
set_option maxHeartbeats 2000000
set_option maxRecDepth 20000
namespace Go.Proofs.Ytohabldbjjngjaa
open Go Go.Am
attribute [local irreducible] opsW Ww loopW callW drawW outW outDW gW cW BrW bothW vW resW DropW RdW dcallW altW Later.run

theorem W.of {B : Nat} {H : Heap} {v : Value} (h : ArgOk B H (true, [.int .u64, .int .u64]) v) : ∃ a : W, v = a.val ∧ a.ok := by
  obtain ⟨_, rfl, hr⟩ := h.agg
  obtain ⟨_, _, rfl, c0, hr⟩ := hr.cons_inv
  obtain ⟨_, _, rfl, c1, hr⟩ := hr.cons_inv
  obtain rfl := hr.nil_inv
  obtain ⟨x, rfl, hx⟩ := c0.int_inv
  obtain ⟨y, rfl, hy⟩ := c1.int_inv
  exact ⟨⟨x, y⟩, rfl, hx, hy⟩
theorem same2 (a b : W) : sameS [false, false] [.int .u64 a.hi, .int .u64 a.lo] [.int .u64 b.hi, .int .u64 b.lo] = some (decide (a = b)) := by
  obtain ⟨a0, a1⟩ := a
  obtain ⟨d0, d1⟩ := b
  simp only [sameS, if_true, Option.map_some]
  congr 1
  rw [Bool.eq_iff_iff]
  simp only [Bool.and_eq_true, beq_iff_eq, decide_eq_true_eq, W.mk.injEq, and_true, and_assoc]
theorem subW_ok {a b : W} : (subW a b).ok := by
  simp only [subW, W.ok]
  omega

theorem WideBack_args (H : Heap) (vals : List Value) (h : ArgsOk maxLen H WideBackSh vals) : ACallK Try.prog 6 vals H fun v _ => v = .bool true := by
  obtain ⟨_, _, rfl, a1, h⟩ := h.cons
  obtain ⟨_, _, rfl, a2, h⟩ := h.cons
  obtain ⟨_, _, rfl, a3, h⟩ := h.cons
  obtain rfl := h.nil
  obtain ⟨a, rfl, ha⟩ := W.of a1
  obtain ⟨b, rfl, hb0⟩ := W.of a2
  obtain ⟨c, rfl, hc⟩ := W.of a3
  clear a1 a2 a3 h
  refine .walkW f6_ok (by simp; decide) (by decide) ?_
  have hab := fun H => Add_spec a b H ha hb0
  have hsb := fun H => Sub_spec (addW a b) b H addW_ok hb0
  have hba := fun H => Add_spec b a H hb0 ha
  have hsc := fun H => Add_spec (addW a b) c H addW_ok hc
  have hbc := fun H => Add_spec b c H hb0 hc
  have haz := fun H => Add_spec a (addW b c) H ha addW_ok
  have hcm := fun H => Cmp_spec (addW a b) a H
  have hu := un_add ha hb0
  have hd := sub_add ha hb0
  have hcc := add_comm' b a
  have hoc := ov_comm b a
  have has := add_assoc' a b c
  have hco := cmp_over ha hb0
  rw [hu, hd] at hsb
  rw [hcc, hoc] at hba
  rw [has] at hsc
  have e1 := same2 a a
  have e2 := same2 (addW a b) (addW a b)
  have e3 := same2 (addW a (addW b c)) (addW a (addW b c))
  rw [decide_eq_true rfl] at e1 e2 e3
  have hlast : ((ovW a b == 1) == decide (cmpW (addW a b) a < 0)) = true := by
    rw [Bool.eq_iff_iff.2 (show (ovW a b == 1) = true ↔ decide (cmpW (addW a b) a < 0) = true by simp [hco])]; simp
  clear hu hd hcc hoc has hco
  generalize (ovW a b == 1) = t1 at *
  generalize (ovW (addW a b) c == 1) = t2 at *
  generalize (ovW b c == 1) = t3 at *
  generalize (ovW a (addW b c) == 1) = t4 at *
  have ht1 : (t1 == t1) = true := by simp
  generalize cmpW (addW a b) a = CM at *
  generalize addW a (addW b c) = z at *
  generalize addW a b = s at *
  generalize addW b c = y at *
  obtain ⟨ah, al⟩ := a
  obtain ⟨bh, bl⟩ := b
  obtain ⟨ch, cl⟩ := c
  obtain ⟨sh, sl⟩ := s
  obtain ⟨yh, yl⟩ := y
  obtain ⟨zh, zl⟩ := z
  simp only at *
  repeat' first | simp (disch := first | with_reducible assumption | omega) only [go_sem, Bool.true_and, Bool.and_true, Bool.and_self, Bool.false_and, Bool.and_false, Bool.true_or, Bool.or_true, Bool.false_or, Bool.or_false, ↓reduceIte, Nat.reduceEqDiff, Nat.reduceAdd, Nat.reduceMul, Nat.reduceSub, Nat.reduceBEq, Nat.reduceLeDiff, Nat.reduceLT, Nat.reduceMod, Nat.reduceDiv, Int.reduceToNat, Int.reducePow, Int.reduceMul, Int.reduceAdd, Int.reduceSub, Int.reduceLE, Int.reduceLT, Int.reduceNeg, Int.reduceDiv, Int.reduceMod, Int.reduceEq, Int.reduceBEq, Int.reduceBNe, f6, f6b, f6r0, f6r1, f6r2, f6r3, f6r4, f6r5, f6r6, f6r7, f6r8, f6r9, e1, e2, e3, ht1, hlast] | (refine BrW.of (fun hb => ?_) (fun hb => ?_) <;> (have hb' := hb; try simp only [decide_eq_true_eq, decide_eq_false_iff_not, beq_iff_eq, bne_iff_ne, beq_eq_false_iff_ne, bne_eq_false_iff_eq, Bool.not_eq_true', Bool.not_eq_false', Bool.not_eq_true, Bool.not_eq_false, Bool.and_eq_true, Bool.or_eq_true, Bool.and_eq_false_iff, Bool.or_eq_false_iff, Int.not_lt, Int.not_le, ne_eq, gt_iff_lt, ge_iff_le] at hb') <;> (try (exfalso; omega))) | (refine altW.of ?_ ?_) | (refine .of ((alive _).mono ?_); rintro v _ ⟨rfl, rfl⟩) | (refine .of ((hab _).mono ?_); rintro v _ ⟨rfl, rfl⟩) | (refine .of ((hsb _).mono ?_); rintro v _ ⟨rfl, rfl⟩) | (refine .of ((hba _).mono ?_); rintro v _ ⟨rfl, rfl⟩) | (refine .of ((hsc _).mono ?_); rintro v _ ⟨rfl, rfl⟩) | (refine .of ((hbc _).mono ?_); rintro v _ ⟨rfl, rfl⟩) | (refine .of ((haz _).mono ?_); rintro v _ ⟨rfl, rfl⟩) | (refine .of ((hcm _).mono ?_); rintro v _ ⟨rfl, rfl⟩)
  all_goals exact .here rfl
end Go.Proofs.Ytohabldbjjngjaa
