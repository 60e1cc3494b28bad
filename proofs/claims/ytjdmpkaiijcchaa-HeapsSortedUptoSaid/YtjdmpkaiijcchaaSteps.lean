import Derived.Test.YtjdmpkaiijcchaaBase
import Derived.Test.YtjdmpkaiijcchaaFns
import Derived.Test.YtjdmpkaiijcchaaPlain
import Derived.Test.YtjdmpkaiijcchaaLib
set_option linter.unusedSimpArgs false
set_option linter.unusedVariables false
set_option maxHeartbeats 2000000
set_option maxRecDepth 20000
namespace Go.Proofs.Ytjdmpkaiijcchaa
open Go Go.Am
attribute [local irreducible] opsW Ww loopW callW drawW outW outDW gW cW BrW bothW vW resW DropW RdW dcallW altW forkW splitW Later.run

theorem nan_spec (x : Int) (H : Heap) : ACallK Try.prog 61 [.int .u64 x] H (fun v H' => v = .bool false ∧ H' = H) := by
  have hne : ∀ n : Int, (n != n) = false := fun n => by simp
  refine .walkW f61_ok (by simp; decide) (by decide) ?_
  repeat' first | simp (disch := first | with_reducible assumption | omega) only [go_sem, Bool.true_and, Bool.and_true, Bool.and_self, Bool.false_and, Bool.and_false, Bool.true_or, Bool.or_true, Bool.false_or, Bool.or_false, ↓reduceIte, Nat.reduceEqDiff, Nat.reduceAdd, Nat.reduceMul, Nat.reduceSub, Nat.reduceBEq, Nat.reduceLeDiff, Nat.reduceLT, Nat.reduceMod, Nat.reduceDiv, Int.reduceToNat, Int.reducePow, Int.reduceMul, Int.reduceAdd, Int.reduceSub, Int.reduceLE, Int.reduceLT, Int.reduceNeg, Int.reduceDiv, Int.reduceMod, Int.reduceEq, Int.reduceBEq, Int.reduceBNe, f61, f61b, f61r0, f61r1, hne] | (refine BrW.of (fun hb => ?_) (fun hb => ?_) <;> (have hb' := hb; try simp only [decide_eq_true_eq, decide_eq_false_iff_not, beq_iff_eq, bne_iff_ne, beq_eq_false_iff_ne, bne_eq_false_iff_eq, Bool.not_eq_true', Bool.not_eq_false', Bool.not_eq_true, Bool.not_eq_false, Bool.and_eq_true, Bool.or_eq_true, Bool.and_eq_false_iff, Bool.or_eq_false_iff, Int.not_lt, Int.not_le, ne_eq, gt_iff_lt, ge_iff_le] at hb') <;> (try (exfalso; omega))) | (refine altW.of ?_ ?_)
  exact .here ⟨rfl, rfl⟩
theorem Compare_spec (x y : Int) (H : Heap) : ACallK Try.prog 59 [.int .u64 x, .int .u64 y] H (fun v H' => v = .int .i64 (cmpI x y) ∧ H' = H) := by
  refine .walkW f59_ok (by simp; decide) (by decide) ?_
  have n1 := fun H => nan_spec x H
  have n2 := fun H => nan_spec y H
  by_cases h : x < y
  · have hc : cmpI x y = -1 := by unfold cmpI; rw [if_pos h]
    repeat' first | simp (disch := first | with_reducible assumption | omega) only [go_sem, Bool.true_and, Bool.and_true, Bool.and_self, Bool.false_and, Bool.and_false, Bool.true_or, Bool.or_true, Bool.false_or, Bool.or_false, ↓reduceIte, Nat.reduceEqDiff, Nat.reduceAdd, Nat.reduceMul, Nat.reduceSub, Nat.reduceBEq, Nat.reduceLeDiff, Nat.reduceLT, Nat.reduceMod, Nat.reduceDiv, Int.reduceToNat, Int.reducePow, Int.reduceMul, Int.reduceAdd, Int.reduceSub, Int.reduceLE, Int.reduceLT, Int.reduceNeg, Int.reduceDiv, Int.reduceMod, Int.reduceEq, Int.reduceBEq, Int.reduceBNe, f59, f59b, f59r0, f59r1, f59r2, f59r3, f59r4, f59r5, f59r6, f59r7, f59r8, f59r9, f59r10, f59r11, f59r12, f59r13] | (refine BrW.of (fun hb => ?_) (fun hb => ?_) <;> (have hb' := hb; try simp only [decide_eq_true_eq, decide_eq_false_iff_not, beq_iff_eq, bne_iff_ne, beq_eq_false_iff_ne, bne_eq_false_iff_eq, Bool.not_eq_true', Bool.not_eq_false', Bool.not_eq_true, Bool.not_eq_false, Bool.and_eq_true, Bool.or_eq_true, Bool.and_eq_false_iff, Bool.or_eq_false_iff, Int.not_lt, Int.not_le, ne_eq, gt_iff_lt, ge_iff_le] at hb') <;> (try (exfalso; omega))) | (refine altW.of ?_ ?_) | (refine .of ((n1 _).mono ?_); rintro v _ ⟨rfl, rfl⟩) | (refine .of ((n2 _).mono ?_); rintro v _ ⟨rfl, rfl⟩)
    all_goals exact .here ⟨by rw [hc], rfl⟩
  · by_cases h2 : y < x
    · have hc : cmpI x y = 1 := by unfold cmpI; rw [if_neg h, if_pos h2]
      repeat' first | simp (disch := first | with_reducible assumption | omega) only [go_sem, Bool.true_and, Bool.and_true, Bool.and_self, Bool.false_and, Bool.and_false, Bool.true_or, Bool.or_true, Bool.false_or, Bool.or_false, ↓reduceIte, Nat.reduceEqDiff, Nat.reduceAdd, Nat.reduceMul, Nat.reduceSub, Nat.reduceBEq, Nat.reduceLeDiff, Nat.reduceLT, Nat.reduceMod, Nat.reduceDiv, Int.reduceToNat, Int.reducePow, Int.reduceMul, Int.reduceAdd, Int.reduceSub, Int.reduceLE, Int.reduceLT, Int.reduceNeg, Int.reduceDiv, Int.reduceMod, Int.reduceEq, Int.reduceBEq, Int.reduceBNe, f59, f59b, f59r0, f59r1, f59r2, f59r3, f59r4, f59r5, f59r6, f59r7, f59r8, f59r9, f59r10, f59r11, f59r12, f59r13] | (refine BrW.of (fun hb => ?_) (fun hb => ?_) <;> (have hb' := hb; try simp only [decide_eq_true_eq, decide_eq_false_iff_not, beq_iff_eq, bne_iff_ne, beq_eq_false_iff_ne, bne_eq_false_iff_eq, Bool.not_eq_true', Bool.not_eq_false', Bool.not_eq_true, Bool.not_eq_false, Bool.and_eq_true, Bool.or_eq_true, Bool.and_eq_false_iff, Bool.or_eq_false_iff, Int.not_lt, Int.not_le, ne_eq, gt_iff_lt, ge_iff_le] at hb') <;> (try (exfalso; omega))) | (refine altW.of ?_ ?_) | (refine .of ((n1 _).mono ?_); rintro v _ ⟨rfl, rfl⟩) | (refine .of ((n2 _).mono ?_); rintro v _ ⟨rfl, rfl⟩)
      all_goals exact .here ⟨by rw [hc], rfl⟩
    · have hc : cmpI x y = 0 := by unfold cmpI; rw [if_neg h, if_neg h2]
      repeat' first | simp (disch := first | with_reducible assumption | omega) only [go_sem, Bool.true_and, Bool.and_true, Bool.and_self, Bool.false_and, Bool.and_false, Bool.true_or, Bool.or_true, Bool.false_or, Bool.or_false, ↓reduceIte, Nat.reduceEqDiff, Nat.reduceAdd, Nat.reduceMul, Nat.reduceSub, Nat.reduceBEq, Nat.reduceLeDiff, Nat.reduceLT, Nat.reduceMod, Nat.reduceDiv, Int.reduceToNat, Int.reducePow, Int.reduceMul, Int.reduceAdd, Int.reduceSub, Int.reduceLE, Int.reduceLT, Int.reduceNeg, Int.reduceDiv, Int.reduceMod, Int.reduceEq, Int.reduceBEq, Int.reduceBNe, f59, f59b, f59r0, f59r1, f59r2, f59r3, f59r4, f59r5, f59r6, f59r7, f59r8, f59r9, f59r10, f59r11, f59r12, f59r13] | (refine BrW.of (fun hb => ?_) (fun hb => ?_) <;> (have hb' := hb; try simp only [decide_eq_true_eq, decide_eq_false_iff_not, beq_iff_eq, bne_iff_ne, beq_eq_false_iff_ne, bne_eq_false_iff_eq, Bool.not_eq_true', Bool.not_eq_false', Bool.not_eq_true, Bool.not_eq_false, Bool.and_eq_true, Bool.or_eq_true, Bool.and_eq_false_iff, Bool.or_eq_false_iff, Int.not_lt, Int.not_le, ne_eq, gt_iff_lt, ge_iff_le] at hb') <;> (try (exfalso; omega))) | (refine altW.of ?_ ?_) | (refine .of ((n1 _).mono ?_); rintro v _ ⟨rfl, rfl⟩) | (refine .of ((n2 _).mono ?_); rintro v _ ⟨rfl, rfl⟩)
      all_goals exact .here ⟨by rw [hc], rfl⟩
/-- The first one of two that is not 0. -/
def orI (x y : Int) : Int := if x ≠ 0 then x else y
theorem Or_spec (x y : Int) (k : Nat) (H : Heap) (hk : H[k]? = some (.cells 0 1 false [.int .i64 x, .int .i64 y])) : ACallK Try.prog 58 [slv k 0 0 2 2] H (fun v H' => v = .int .i64 (orI x y) ∧ H' = H) := by
  refine .walkW f58_ok (by simp; decide) (by decide) ?_
  have z0 : ((0 : Nat) : Int) = 0 := rfl
  have z1 : ((0 + 1 : Nat) : Int) = 1 := rfl
  have z2 : ((0 + 1 + 1 : Nat) : Int) = 2 := rfl
  repeat' first | simp (disch := first | with_reducible assumption | omega) only [go_sem, Bool.true_and, Bool.and_true, Bool.and_self, Bool.false_and, Bool.and_false, Bool.true_or, Bool.or_true, Bool.false_or, Bool.or_false, ↓reduceIte, Nat.reduceEqDiff, Nat.reduceAdd, Nat.reduceMul, Nat.reduceSub, Nat.reduceBEq, Nat.reduceLeDiff, Nat.reduceLT, Nat.reduceMod, Nat.reduceDiv, Int.reduceToNat, Int.reducePow, Int.reduceMul, Int.reduceAdd, Int.reduceSub, Int.reduceLE, Int.reduceLT, Int.reduceNeg, Int.reduceDiv, Int.reduceMod, Int.reduceEq, Int.reduceBEq, Int.reduceBNe, f58, f58b, f58r0, f58r1, f58r2, f58r3, f58r4, f58r5, f58r6, f58r7, f58r9, hk] | (refine BrW.of (fun hb => ?_) (fun hb => ?_) <;> (have hb' := hb; try simp only [decide_eq_true_eq, decide_eq_false_iff_not, beq_iff_eq, bne_iff_ne, beq_eq_false_iff_ne, bne_eq_false_iff_eq, Bool.not_eq_true', Bool.not_eq_false', Bool.not_eq_true, Bool.not_eq_false, Bool.and_eq_true, Bool.or_eq_true, Bool.and_eq_false_iff, Bool.or_eq_false_iff, Int.not_lt, Int.not_le, ne_eq, gt_iff_lt, ge_iff_le] at hb') <;> (try (exfalso; omega))) | (refine altW.of ?_ ?_)
  refine loopW.of (by decide) (fun m e J => ∃ i : Nat, i ≤ 2 ∧ e = [(3, .int .i64 0), (6, slv k 0 0 2 2), (7, .int .i64 2), (8, .int .i64 i)] ∧ J = H ∧ m = 3 - i ∧ (0 < i → x = 0) ∧ (1 < i → y = 0)) 3 ⟨0, by omega, rfl, rfl, rfl, fun h => by omega, fun h => by omega⟩ ?_
  rintro m e J ⟨i, hi, rfl, rfl, rfl, hx, hy⟩
  rcases i with _ | _ | _ | i
  · by_cases h : x = 0
    · have h' : (x != 0) = false := by simpa using h
      repeat' first | simp (disch := first | with_reducible assumption | omega) only [go_sem, Bool.true_and, Bool.and_true, Bool.and_self, Bool.false_and, Bool.and_false, Bool.true_or, Bool.or_true, Bool.false_or, Bool.or_false, ↓reduceIte, Nat.reduceEqDiff, Nat.reduceAdd, Nat.reduceMul, Nat.reduceSub, Nat.reduceBEq, Nat.reduceLeDiff, Nat.reduceLT, Nat.reduceMod, Nat.reduceDiv, Int.reduceToNat, Int.reducePow, Int.reduceMul, Int.reduceAdd, Int.reduceSub, Int.reduceLE, Int.reduceLT, Int.reduceNeg, Int.reduceDiv, Int.reduceMod, Int.reduceEq, Int.reduceBEq, Int.reduceBNe, f58, f58b, f58r0, f58r1, f58r2, f58r3, f58r4, f58r5, f58r6, f58r7, f58r9, f58l0, hk, z0, z1, z2, h'] | (refine BrW.of (fun hb => ?_) (fun hb => ?_) <;> (have hb' := hb; try simp only [decide_eq_true_eq, decide_eq_false_iff_not, beq_iff_eq, bne_iff_ne, beq_eq_false_iff_ne, bne_eq_false_iff_eq, Bool.not_eq_true', Bool.not_eq_false', Bool.not_eq_true, Bool.not_eq_false, Bool.and_eq_true, Bool.or_eq_true, Bool.and_eq_false_iff, Bool.or_eq_false_iff, Int.not_lt, Int.not_le, ne_eq, gt_iff_lt, ge_iff_le] at hb') <;> (try (exfalso; omega))) | (refine altW.of ?_ ?_)
      refine RdW.keep [3, 6, 7, 8] 2 (by omega) ?_
      simp (disch := first | with_reducible assumption | omega) only [go_sem, Bool.true_and, Bool.and_true, Bool.and_self, Bool.false_and, Bool.and_false, Bool.true_or, Bool.or_true, Bool.false_or, Bool.or_false, ↓reduceIte, Nat.reduceEqDiff, Nat.reduceAdd, Nat.reduceMul, Nat.reduceSub, Nat.reduceBEq, Nat.reduceLeDiff, Nat.reduceLT, Nat.reduceMod, Nat.reduceDiv, Int.reduceToNat, Int.reducePow, Int.reduceMul, Int.reduceAdd, Int.reduceSub, Int.reduceLE, Int.reduceLT, Int.reduceNeg, Int.reduceDiv, Int.reduceMod, Int.reduceEq, Int.reduceBEq, Int.reduceBNe]
      exact ⟨1, by decide, rfl, rfl, fun _ => h, fun h => by omega⟩
    · have h' : (x != 0) = true := by simpa using h
      have ho : orI x y = x := by unfold orI; rw [if_pos h]
      repeat' first | simp (disch := first | with_reducible assumption | omega) only [go_sem, Bool.true_and, Bool.and_true, Bool.and_self, Bool.false_and, Bool.and_false, Bool.true_or, Bool.or_true, Bool.false_or, Bool.or_false, ↓reduceIte, Nat.reduceEqDiff, Nat.reduceAdd, Nat.reduceMul, Nat.reduceSub, Nat.reduceBEq, Nat.reduceLeDiff, Nat.reduceLT, Nat.reduceMod, Nat.reduceDiv, Int.reduceToNat, Int.reducePow, Int.reduceMul, Int.reduceAdd, Int.reduceSub, Int.reduceLE, Int.reduceLT, Int.reduceNeg, Int.reduceDiv, Int.reduceMod, Int.reduceEq, Int.reduceBEq, Int.reduceBNe, f58, f58b, f58r0, f58r1, f58r2, f58r3, f58r4, f58r5, f58r6, f58r7, f58r9, f58l0, f58, f58b, f58r0, f58r1, f58r2, f58r3, f58r4, f58r5, f58r6, f58r7, f58r9, hk, z0, z1, z2, h'] | (refine BrW.of (fun hb => ?_) (fun hb => ?_) <;> (have hb' := hb; try simp only [decide_eq_true_eq, decide_eq_false_iff_not, beq_iff_eq, bne_iff_ne, beq_eq_false_iff_ne, bne_eq_false_iff_eq, Bool.not_eq_true', Bool.not_eq_false', Bool.not_eq_true, Bool.not_eq_false, Bool.and_eq_true, Bool.or_eq_true, Bool.and_eq_false_iff, Bool.or_eq_false_iff, Int.not_lt, Int.not_le, ne_eq, gt_iff_lt, ge_iff_le] at hb') <;> (try (exfalso; omega))) | (refine altW.of ?_ ?_)
      exact .here ⟨by rw [ho], rfl⟩
  · have h := hx (by omega)
    have ho : orI x y = y := by unfold orI; rw [if_neg (by omega)]
    by_cases h2 : y = 0
    · have h' : (y != 0) = false := by simpa using h2
      repeat' first | simp (disch := first | with_reducible assumption | omega) only [go_sem, Bool.true_and, Bool.and_true, Bool.and_self, Bool.false_and, Bool.and_false, Bool.true_or, Bool.or_true, Bool.false_or, Bool.or_false, ↓reduceIte, Nat.reduceEqDiff, Nat.reduceAdd, Nat.reduceMul, Nat.reduceSub, Nat.reduceBEq, Nat.reduceLeDiff, Nat.reduceLT, Nat.reduceMod, Nat.reduceDiv, Int.reduceToNat, Int.reducePow, Int.reduceMul, Int.reduceAdd, Int.reduceSub, Int.reduceLE, Int.reduceLT, Int.reduceNeg, Int.reduceDiv, Int.reduceMod, Int.reduceEq, Int.reduceBEq, Int.reduceBNe, f58, f58b, f58r0, f58r1, f58r2, f58r3, f58r4, f58r5, f58r6, f58r7, f58r9, f58l0, hk, z0, z1, z2, h'] | (refine BrW.of (fun hb => ?_) (fun hb => ?_) <;> (have hb' := hb; try simp only [decide_eq_true_eq, decide_eq_false_iff_not, beq_iff_eq, bne_iff_ne, beq_eq_false_iff_ne, bne_eq_false_iff_eq, Bool.not_eq_true', Bool.not_eq_false', Bool.not_eq_true, Bool.not_eq_false, Bool.and_eq_true, Bool.or_eq_true, Bool.and_eq_false_iff, Bool.or_eq_false_iff, Int.not_lt, Int.not_le, ne_eq, gt_iff_lt, ge_iff_le] at hb') <;> (try (exfalso; omega))) | (refine altW.of ?_ ?_)
      refine RdW.keep [3, 6, 7, 8] 1 (by omega) ?_
      simp (disch := first | with_reducible assumption | omega) only [go_sem, Bool.true_and, Bool.and_true, Bool.and_self, Bool.false_and, Bool.and_false, Bool.true_or, Bool.or_true, Bool.false_or, Bool.or_false, ↓reduceIte, Nat.reduceEqDiff, Nat.reduceAdd, Nat.reduceMul, Nat.reduceSub, Nat.reduceBEq, Nat.reduceLeDiff, Nat.reduceLT, Nat.reduceMod, Nat.reduceDiv, Int.reduceToNat, Int.reducePow, Int.reduceMul, Int.reduceAdd, Int.reduceSub, Int.reduceLE, Int.reduceLT, Int.reduceNeg, Int.reduceDiv, Int.reduceMod, Int.reduceEq, Int.reduceBEq, Int.reduceBNe]
      exact ⟨2, by decide, rfl, rfl, fun _ => h, fun _ => h2⟩
    · have h' : (y != 0) = true := by simpa using h2
      repeat' first | simp (disch := first | with_reducible assumption | omega) only [go_sem, Bool.true_and, Bool.and_true, Bool.and_self, Bool.false_and, Bool.and_false, Bool.true_or, Bool.or_true, Bool.false_or, Bool.or_false, ↓reduceIte, Nat.reduceEqDiff, Nat.reduceAdd, Nat.reduceMul, Nat.reduceSub, Nat.reduceBEq, Nat.reduceLeDiff, Nat.reduceLT, Nat.reduceMod, Nat.reduceDiv, Int.reduceToNat, Int.reducePow, Int.reduceMul, Int.reduceAdd, Int.reduceSub, Int.reduceLE, Int.reduceLT, Int.reduceNeg, Int.reduceDiv, Int.reduceMod, Int.reduceEq, Int.reduceBEq, Int.reduceBNe, f58, f58b, f58r0, f58r1, f58r2, f58r3, f58r4, f58r5, f58r6, f58r7, f58r9, f58l0, f58, f58b, f58r0, f58r1, f58r2, f58r3, f58r4, f58r5, f58r6, f58r7, f58r9, hk, z0, z1, z2, h'] | (refine BrW.of (fun hb => ?_) (fun hb => ?_) <;> (have hb' := hb; try simp only [decide_eq_true_eq, decide_eq_false_iff_not, beq_iff_eq, bne_iff_ne, beq_eq_false_iff_ne, bne_eq_false_iff_eq, Bool.not_eq_true', Bool.not_eq_false', Bool.not_eq_true, Bool.not_eq_false, Bool.and_eq_true, Bool.or_eq_true, Bool.and_eq_false_iff, Bool.or_eq_false_iff, Int.not_lt, Int.not_le, ne_eq, gt_iff_lt, ge_iff_le] at hb') <;> (try (exfalso; omega))) | (refine altW.of ?_ ?_)
      exact .here ⟨by rw [ho], rfl⟩
  · have h := hx (by omega)
    have h2 := hy (by omega)
    have ho : orI x y = 0 := by unfold orI; rw [if_neg (by omega)]; exact h2
    repeat' first | simp (disch := first | with_reducible assumption | omega) only [go_sem, Bool.true_and, Bool.and_true, Bool.and_self, Bool.false_and, Bool.and_false, Bool.true_or, Bool.or_true, Bool.false_or, Bool.or_false, ↓reduceIte, Nat.reduceEqDiff, Nat.reduceAdd, Nat.reduceMul, Nat.reduceSub, Nat.reduceBEq, Nat.reduceLeDiff, Nat.reduceLT, Nat.reduceMod, Nat.reduceDiv, Int.reduceToNat, Int.reducePow, Int.reduceMul, Int.reduceAdd, Int.reduceSub, Int.reduceLE, Int.reduceLT, Int.reduceNeg, Int.reduceDiv, Int.reduceMod, Int.reduceEq, Int.reduceBEq, Int.reduceBNe, f58, f58b, f58r0, f58r1, f58r2, f58r3, f58r4, f58r5, f58r6, f58r7, f58r9, f58l0, f58, f58b, f58r0, f58r1, f58r2, f58r3, f58r4, f58r5, f58r6, f58r7, f58r9, hk, z0, z1, z2] | (refine BrW.of (fun hb => ?_) (fun hb => ?_) <;> (have hb' := hb; try simp only [decide_eq_true_eq, decide_eq_false_iff_not, beq_iff_eq, bne_iff_ne, beq_eq_false_iff_ne, bne_eq_false_iff_eq, Bool.not_eq_true', Bool.not_eq_false', Bool.not_eq_true, Bool.not_eq_false, Bool.and_eq_true, Bool.or_eq_true, Bool.and_eq_false_iff, Bool.or_eq_false_iff, Int.not_lt, Int.not_le, ne_eq, gt_iff_lt, ge_iff_le] at hb') <;> (try (exfalso; omega))) | (refine altW.of ?_ ?_)
    exact .here ⟨by rw [ho], rfl⟩
  · omega
theorem Cmp_spec (x y : It) (H : Heap) : ACallK Try.prog 51 [.agg #[.int .u64 x.h, .int .u64 x.l], .agg #[.int .u64 y.h, .int .u64 y.l]] H (fun v H' => v = .int .i64 (cmpK x y) ∧ H' = H) := by
  obtain ⟨_, ah, al⟩ := x
  obtain ⟨_, bh, bl⟩ := y
  refine .walkW f51_ok (by simp; decide) (by decide) ?_
  have c1 := fun H => Compare_spec ah bh H
  have c2 := fun H => Compare_spec al bl H
  have c3 := fun H => Or_spec (cmpI ah bh) (cmpI al bl) (H.length + 2) (H ++ [.cells 0 0 false [.int .u64 ah, .int .u64 al], .cells 0 0 false [.int .u64 bh, .int .u64 bl], .cells 0 1 false [.int .i64 (cmpI ah bh), .int .i64 (cmpI al bl)]]) (by rw [get_new]; rfl)
  repeat' first | simp (disch := first | with_reducible assumption | omega) only [go_sem, Bool.true_and, Bool.and_true, Bool.and_self, Bool.false_and, Bool.and_false, Bool.true_or, Bool.or_true, Bool.false_or, Bool.or_false, ↓reduceIte, Nat.reduceEqDiff, Nat.reduceAdd, Nat.reduceMul, Nat.reduceSub, Nat.reduceBEq, Nat.reduceLeDiff, Nat.reduceLT, Nat.reduceMod, Nat.reduceDiv, Int.reduceToNat, Int.reducePow, Int.reduceMul, Int.reduceAdd, Int.reduceSub, Int.reduceLE, Int.reduceLT, Int.reduceNeg, Int.reduceDiv, Int.reduceMod, Int.reduceEq, Int.reduceBEq, Int.reduceBNe, f51, f51b, f51r0, f51r1] | (refine BrW.of (fun hb => ?_) (fun hb => ?_) <;> (have hb' := hb; try simp only [decide_eq_true_eq, decide_eq_false_iff_not, beq_iff_eq, bne_iff_ne, beq_eq_false_iff_ne, bne_eq_false_iff_eq, Bool.not_eq_true', Bool.not_eq_false', Bool.not_eq_true, Bool.not_eq_false, Bool.and_eq_true, Bool.or_eq_true, Bool.and_eq_false_iff, Bool.or_eq_false_iff, Int.not_lt, Int.not_le, ne_eq, gt_iff_lt, ge_iff_le] at hb') <;> (try (exfalso; omega))) | (refine altW.of ?_ ?_) | (refine dcallW.of _ _ (c1 _) ?_) | (refine callW.ex _ _ (c1 _) ?_) | (refine dcallW.of _ _ (c2 _) ?_) | (refine callW.ex _ _ (c2 _) ?_) | (refine dcallW.of _ _ (c3 _) ?_) | (refine callW.ex _ _ (c3 _) ?_)
  exact .back rfl ⟨rfl, rfl⟩

/-- A map's entries: key, value, birth. -/
abbrev T3 := Int × Int × Nat
def E (t : T3) : MapEntry := ⟨.int .i64 t.1, .int .i64 t.2.1, t.2.2⟩
def lk : List T3 → Int → Option Int
  | [], _ => none
  | t :: m, n => if n = t.1 then some t.2.1 else lk m n
def bn : List T3 → Int → Nat
  | [], _ => 0
  | t :: m, n => if n = t.1 then t.2.2 else bn m n
def st : List T3 → Int → Int → List T3
  | [], _, _ => []
  | t :: m, n, v => if n = t.1 then (t.1, v, t.2.2) :: m else t :: st m n v
def dl : List T3 → Int → List T3
  | [], _ => []
  | t :: m, n => if n = t.1 then m else t :: dl m n
def WM : List T3 → Nat → Prop
  | [], _ => True
  | t :: m, c => t.2.2 < c ∧ (∀ x ∈ m, x.2.2 ≠ t.2.2 ∧ x.1 ≠ t.1) ∧ WM m c
theorem mfind_E (n : Int) : ∀ (m : List T3) (b : Nat), (lk m n = none ∧ mfind .i64 n (m.map E) b = some none) ∨ ∃ j u, lk m n = some u ∧ mfind .i64 n (m.map E) b = some (some (b + j, .int .i64 u)) ∧ ((m.map E)[j]?).map (·.born) = some (bn m n) ∧ (∀ v : Int, setVal (m.map E) j (.int .i64 v) = (st m n v).map E) ∧ (m.map E).eraseIdx j = (dl m n).map E
  | [], b => .inl ⟨rfl, rfl⟩
  | t :: m, b => by
    by_cases h : n = t.1
    · refine .inr ⟨0, t.2.1, by simp [lk, h], by simp [mfind, E, h], by simp [bn, E, h], fun v => by simp [setVal, st, h, E], by simp [dl, h]⟩
    · rcases mfind_E n m (b + 1) with ⟨h1, h2⟩ | ⟨j, u, h1, h2, h3, h4, h5⟩
      · exact .inl ⟨by simp [lk, h, h1], by simp [mfind, E, h]; exact h2⟩
      · refine .inr ⟨j + 1, u, by simp [lk, h, h1], ?_, ?_, fun v => ?_, ?_⟩
        · simp only [List.map_cons, mfind, E, if_true, if_neg h]
          show mfind .i64 n (m.map E) (b + 1) = _
          rw [h2, show b + 1 + j = b + (j + 1) by omega]
        · simp only [List.map_cons, List.getElem?_cons_succ, bn, if_neg h]; exact h3
        · have := h4 v
          unfold setVal at this ⊢
          simp only [List.map_cons, List.modify_succ_cons, st, if_neg h, this]
        · simp only [List.map_cons, List.eraseIdx_cons_succ, dl, if_neg h, h5]
theorem born_find {m : List T3} {c : Nat} : ∀ {j : Nat} {b : Nat}, WM m c → ((m.map E)[j]?).map (·.born) = some b → (m.map E).findIdx? (fun e => (e.born : Int) == (b : Int)) = some j := by
  induction m with
  | nil => intro j b _ h; simp at h
  | cons t m ih =>
    intro j b hw h
    obtain ⟨_, hd, hw⟩ := hw
    cases j with
    | zero =>
      have : t.2.2 = b := by simpa [E] using h
      simp [List.findIdx?_cons, E, this]
    | succ j =>
      have h' : ((m.map E)[j]?).map (·.born) = some b := by simpa using h
      have hne : ¬ t.2.2 = b := by
        intro e
        rw [Option.map_eq_some_iff] at h'
        obtain ⟨x, h1, h2⟩ := h'
        have hx := List.mem_of_getElem? h1
        obtain ⟨y, hy, rfl⟩ := List.mem_map.1 hx
        exact (hd y hy).1 (by rw [e]; exact h2)
      have hb : (((E t).born : Int) == (b : Int)) = false := by
        rw [beq_eq_false_iff_ne]
        intro e
        exact hne (by have : (t.2.2 : Int) = b := e; omega)
      rw [List.map_cons, List.findIdx?_cons, hb, ih hw h']
      rfl
theorem st_mem (n v : Int) : ∀ (m : List T3) (x : T3), x ∈ st m n v → ∃ y ∈ m, y.1 = x.1 ∧ y.2.2 = x.2.2
  | [], x, h => by cases h
  | t :: m, x, h => by
    unfold st at h
    split at h
    · rcases List.mem_cons.1 h with e | h
      · exact ⟨t, List.mem_cons_self, by rw [e], by rw [e]⟩
      · exact ⟨x, List.mem_cons_of_mem _ h, rfl, rfl⟩
    · rcases List.mem_cons.1 h with e | h
      · exact ⟨t, List.mem_cons_self, by rw [e], by rw [e]⟩
      · obtain ⟨y, h1, h2⟩ := st_mem n v m x h
        exact ⟨y, List.mem_cons_of_mem _ h1, h2⟩
theorem dl_mem (n : Int) : ∀ (m : List T3) (x : T3), x ∈ dl m n → x ∈ m
  | [], x, h => by cases h
  | t :: m, x, h => by
    unfold dl at h
    split at h
    · exact List.mem_cons_of_mem _ h
    · rcases List.mem_cons.1 h with e | h
      · rw [e]; exact List.mem_cons_self
      · exact List.mem_cons_of_mem _ (dl_mem n m x h)
theorem WM.st' (n v : Int) : ∀ {m : List T3} {c : Nat}, WM m c → WM (st m n v) c
  | [], _, _ => trivial
  | t :: m, c, h => by
    obtain ⟨h1, h2, h3⟩ := h
    unfold st
    split
    · exact ⟨h1, h2, h3⟩
    · refine ⟨h1, fun x hx => ?_, h3.st' n v⟩
      obtain ⟨y, hy, e1, e2⟩ := st_mem n v m x hx
      rw [← e1, ← e2]; exact h2 y hy
theorem WM.dl' (n : Int) : ∀ {m : List T3} {c : Nat}, WM m c → WM (dl m n) c
  | [], _, _ => trivial
  | t :: m, c, h => by
    obtain ⟨h1, h2, h3⟩ := h
    unfold dl
    split
    · exact h3
    · exact ⟨h1, fun x hx => h2 x (dl_mem n m x hx), h3.dl' n⟩
theorem WM.mono {c c' : Nat} (hc : c ≤ c') : ∀ {m : List T3}, WM m c → WM m c'
  | [], _ => trivial
  | t :: m, h => ⟨by have := h.1; omega, h.2.1, WM.mono hc h.2.2⟩
theorem WM.lt {c : Nat} : ∀ {m : List T3}, WM m c → ∀ x ∈ m, x.2.2 < c
  | [], _, x, hx => by cases hx
  | t :: m, h, x, hx => by
    rcases List.mem_cons.1 hx with e | hx
    · rw [e]; exact h.1
    · exact WM.lt h.2.2 x hx
theorem lk_mem (n : Int) : ∀ (m : List T3), lk m n = none → ∀ x ∈ m, x.1 ≠ n
  | [], _, x, hx => by cases hx
  | t :: m, h, x, hx => by
    unfold lk at h
    split at h
    · cases h
    · rename_i hne
      rcases List.mem_cons.1 hx with e | hx
      · rw [e]; exact fun e => hne e.symm
      · exact lk_mem n m h x hx
theorem WM.put {c : Nat} (n v : Int) : ∀ {m : List T3}, WM m c → lk m n = none → WM (m ++ [(n, v, c)]) (c + 1)
  | [], _, _ => ⟨by show c < c + 1; omega, fun x hx => (by cases hx), trivial⟩
  | t :: m, h, hn => by
    have hne := lk_mem n (t :: m) hn t List.mem_cons_self
    have hn' : lk m n = none := by
      unfold lk at hn; split at hn
      · cases hn
      · exact hn
    refine ⟨by have := h.1; omega, fun x hx => ?_, WM.put n v h.2.2 hn'⟩
    rcases List.mem_append.1 hx with hx | hx
    · exact h.2.1 x hx
    · rw [List.mem_singleton] at hx
      rw [hx]
      exact ⟨by have := h.1; show c ≠ _; omega, fun e => hne e.symm⟩
theorem lk_st (n v : Int) : ∀ (m : List T3) (x : Int), lk (st m n v) x = if x = n ∧ (lk m n).isSome then some v else lk m x
  | [], x => by simp [st, lk]
  | t :: m, x => by
    unfold st
    by_cases h : n = t.1
    · rw [if_pos h]
      unfold lk
      by_cases hx : x = t.1
      · rw [if_pos hx, if_pos h, if_pos ⟨by omega, rfl⟩]
      · rw [if_neg hx, if_neg (fun hh => hx (by omega)), if_neg hx]
    · rw [if_neg h]
      have ih := lk_st n v m x
      unfold lk
      by_cases hx : x = t.1
      · rw [if_pos hx, if_neg (fun hh => h (by omega)), if_pos hx]
      · rw [if_neg hx, if_neg h, ih, if_neg hx]
theorem lk_none {m : List T3} {n : Int} (h : ∀ x ∈ m, x.1 ≠ n) : lk m n = none := by
  induction m with
  | nil => rfl
  | cons t m ih =>
    unfold lk
    rw [if_neg (fun e => h t List.mem_cons_self e.symm)]
    exact ih fun x hx => h x (List.mem_cons_of_mem _ hx)
theorem lk_dl (n : Int) : ∀ {m : List T3} {c : Nat}, WM m c → ∀ x : Int, lk (dl m n) x = if x = n then none else lk m x
  | [], _, _, x => by simp [dl, lk]
  | t :: m, c, hw, x => by
    unfold dl
    by_cases h : n = t.1
    · rw [if_pos h]
      by_cases hx : x = n
      · rw [if_pos hx]
        refine lk_none fun y hy => ?_
        rw [hx, h]; exact (hw.2.1 y hy).2
      · rw [if_neg hx]
        show _ = if x = t.1 then _ else _
        rw [if_neg (by omega)]
    · rw [if_neg h]
      have ih := lk_dl n hw.2.2 x
      show (if x = t.1 then some t.2.1 else lk (dl m n) x) = if x = n then none else if x = t.1 then some t.2.1 else lk m x
      rw [ih]
      by_cases hx : x = t.1
      · rw [if_pos hx, if_neg (by omega), if_pos hx]
      · rw [if_neg hx, if_neg hx]
theorem lk_app (n v : Int) (c : Nat) : ∀ (m : List T3) (x : Int), lk m n = none → lk (m ++ [(n, v, c)]) x = if x = n then some v else lk m x
  | [], x, _ => rfl
  | t :: m, x, h => by
    have hne := lk_mem n (t :: m) h t List.mem_cons_self
    have hn' : lk m n = none := by
      unfold lk at h; split at h
      · cases h
      · exact h
    have ih := lk_app n v c m x hn'
    show (if x = t.1 then some t.2.1 else lk (m ++ [(n, v, c)]) x) = if x = n then some v else if x = t.1 then some t.2.1 else lk m x
    rw [ih]
    by_cases hx : x = t.1
    · rw [if_pos hx, if_neg (by omega), if_pos hx]
    · rw [if_neg hx, if_neg hx]
/-- What the code asks of a map. -/
theorem look_E (m : List T3) (n : Int) : lookV (.int .i64 0) true (m.map E) .i64 n = some (match lk m n with | some u => .tuple #[.int .i64 u, .bool true] | none => .tuple #[.int .i64 0, .bool false]) := by
  unfold lookV
  rcases mfind_E n m 0 with ⟨h1, h2⟩ | ⟨j, u, h1, h2, _⟩
  · rw [h1, h2]; rfl
  · rw [h1, h2]; rfl
theorem put_E (m : List T3) (c : Nat) (n v : Int) (h : lk m n = none) : putV (m.map E) c .i64 n (.int .i64 v) = some ((m ++ [(n, v, c)]).map E, c + 1) := by
  unfold putV
  rcases mfind_E n m 0 with ⟨h1, h2⟩ | ⟨j, u, h1, h2, _⟩
  · rw [h2]; simp [E]
  · rw [h] at h1; cases h1
theorem del_E (m : List T3) (n u : Int) (h : lk m n = some u) : delV (m.map E) .i64 n = some ((dl m n).map E) := by
  unfold delV
  rcases mfind_E n m 0 with ⟨h1, h2⟩ | ⟨j, u, h1, h2, h3, h4, h5⟩
  · rw [h] at h1; cases h1
  · rw [h2]; simp only [Nat.zero_add, h5]
theorem entry_E (m : List T3) (c : Nat) (n u : Int) (h : lk m n = some u) : entryV (.int .i64 0) (m.map E) c .i64 n = some (.tuple #[.int .i64 u, .int .i64 (bn m n)], m.map E, c) := by
  unfold entryV
  rcases mfind_E n m 0 with ⟨h1, h2⟩ | ⟨j, u', h1, h2, h3, h4, h5⟩
  · rw [h] at h1; cases h1
  · rw [h] at h1
    cases h1
    rw [h2]
    simp only [Nat.zero_add, bornAt, h3, Option.getD_some]
theorem stamp_E (m : List T3) (c : Nat) (hw : WM m c) (n u v : Int) (h : lk m n = some u) : stampV (m.map E) (bn m n) (.int .i64 v) = some ((st m n v).map E) := by
  unfold stampV
  rcases mfind_E n m 0 with ⟨h1, h2⟩ | ⟨j, u', h1, h2, h3, h4, h5⟩
  · rw [h] at h1; cases h1
  · rw [born_find hw h3, Option.map_some, h4]
end Go.Proofs.Ytjdmpkaiijcchaa
