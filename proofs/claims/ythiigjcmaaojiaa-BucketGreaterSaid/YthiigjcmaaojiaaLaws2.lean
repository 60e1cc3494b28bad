import Derived.Test.YthiigjcmaaojiaaSteps4
import Derived.Test.YthiigjcmaaojiaaBase
set_option linter.unusedSimpArgs false
set_option linter.unusedVariables false
set_option maxHeartbeats 1000000
set_option maxRecDepth 20000
namespace Go.Proofs.Ythiigjcmaaojiaa
open Go Go.Am
attribute [local irreducible] opsW Ww loopW callW drawW outW outDW gW cW BrW bothW vW resW DropW RdW dcallW Later.run

theorem S.of {B : Nat} {H : Heap} (cs : List Value) (h : RowOk B H [.int .i64, .int .i64] cs) : ∃ s : S, cs = s.cells ∧ True := by
  obtain ⟨_, _, rfl, c0, h⟩ := h.cons_inv
  obtain ⟨_, _, rfl, c1, h⟩ := h.cons_inv
  obtain rfl := h.nil_inv
  obtain ⟨n0, rfl, _⟩ := c0.int_inv
  obtain ⟨n1, rfl, h1⟩ := c1.int_inv
  exact ⟨⟨n0, n1⟩, rfl, trivial⟩

theorem part_snoc {α : Type} (d : α) (l : List α) (i n : Nat) (h : i + n < l.length) : part l i (n + 1) = part l i n ++ [l.getD (i + n) d] := by
  unfold part
  rw [take_snoc d _ n (by simp; omega), getD_drop]
theorem part_len {α : Type} (l : List α) (i n : Nat) (h : i + n ≤ l.length) : (part l i n).length = n := by
  unfold part; simp; omega
/-- The sum in the inner loop. -/
def gr (out : List Bool) (l : List S) (i n : Nat) : Int := sums (part out i n) (part l i n)
theorem gr_zero (out : List Bool) (l : List S) (i : Nat) : gr out l i 0 = 0 := by simp [gr, part, sums]
theorem gr_succ {out : List Bool} {l : List S} (h : out.length = l.length) (i n : Nat) (hn : i + n < l.length) : gr out l i (n + 1) = gr out l i n + (if out.getD (i + n) false then (l.getD (i + n) s0).by' else 0) := by
  unfold gr
  rw [part_snoc false out i n (by omega), part_snoc s0 l i n hn, sums_snoc]
  rw [part_len _ _ _ (by omega), part_len _ _ _ (by omega)]

theorem BucketBound_args (H : Heap) (vals : List Value) (h : ArgsOk 1048576 H BucketBoundSh vals) : ACallK Try.prog 3 vals H fun v _ => v = .bool true := by
  obtain ⟨_, _, rfl, a1, h⟩ := h.cons
  obtain ⟨_, _, rfl, a2, h⟩ := h.cons
  obtain ⟨_, _, rfl, a3, h⟩ := h.cons
  obtain ⟨_, _, rfl, a4, h⟩ := h.cons
  obtain rfl := h.nil
  obtain ⟨nu, rfl, _⟩ := a1.cell.int_inv
  obtain ⟨de, rfl, _⟩ := a2.cell.int_inv
  obtain ⟨bu, rfl, _⟩ := a3.cell.int_inv
  obtain ⟨k, c, l, rfl, hB, hlc, hs, _⟩ := rows_of (enc := S.cells) (ok := fun _ => True) 2 (fun _ => rfl) s0 rfl (fun cs h => S.of cs h) a4
  clear a1 a2 a3 a4 h
  refine .walkW f3_ok (by simp; decide) (by decide) ?_
  have sp := fun H' hs' => Play_u nu de bu l k 0 0 c H' hs' hB
  repeat' first | simp (disch := first | with_reducible assumption | omega) only [go_sem, Bool.true_and, Bool.and_true, Bool.and_self, Bool.false_and, Bool.and_false, Bool.true_or, Bool.or_true, Bool.false_or, Bool.or_false, ↓reduceIte, Nat.reduceEqDiff, Nat.reduceAdd, Nat.reduceMul, Nat.reduceSub, Nat.reduceBEq, Nat.reduceLeDiff, Nat.reduceLT, Nat.reduceMod, Nat.reduceDiv, Int.reduceToNat, Int.reducePow, Int.reduceMul, Int.reduceAdd, Int.reduceSub, Int.reduceLE, Int.reduceLT, Int.reduceNeg, Int.reduceDiv, Int.reduceMod, Int.reduceEq, Int.reduceBEq, Int.reduceBNe, f3, f3b, f3r0, f3r1, f3r2, f3r3, f3r4, f3r5, f3r6, f3r7, f3r8, f3r9, f3r10, f3r11, f3r12, f3r13, f3r14, f3r15, f3r16, f3r17, f3r18, f3r19, f3r21, f3r23] | (refine BrW.of (fun hb => ?_) (fun hb => ?_) <;> (have hb' := hb; try simp only [decide_eq_true_eq, decide_eq_false_iff_not, beq_iff_eq, bne_iff_ne, beq_eq_false_iff_ne, bne_eq_false_iff_eq, Bool.not_eq_true', Bool.not_eq_false', Bool.not_eq_true, Bool.not_eq_false, Bool.and_eq_true, Bool.or_eq_true, Bool.and_eq_false_iff, Bool.or_eq_false_iff, Int.not_lt, Int.not_le, ne_eq, gt_iff_lt, ge_iff_le] at hb') <;> (try (exfalso; omega))) | (refine .of ((alive _).mono ?_); rintro v H ⟨rfl, rfl⟩) | (refine .of ((sp _ hs).mono ?_); rintro v H1 ⟨a, B, e, rfl, le1, hp1, hp2⟩)
  obtain ⟨ro, cs, hk, hcl, hcs⟩ := Shots.cell (hs.le le1)
  simp only [Nat.zero_add] at hcs
  by_cases z : e = 0
  · obtain ⟨hm, q, g', out, rfl, hq, hrun⟩ := hp2 z
    have hol := run_length hrun
    obtain ⟨ro', cs', hkq, _, hcq⟩ := Bools.cell hq
    simp only [Nat.zero_add] at hcq
    subst z
    clear hp1 hp2
    by_cases h60 : 60 < (l.length : Int)
    · repeat' first | simp (disch := first | with_reducible assumption | omega) only [go_sem, Bool.true_and, Bool.and_true, Bool.and_self, Bool.false_and, Bool.and_false, Bool.true_or, Bool.or_true, Bool.false_or, Bool.or_false, ↓reduceIte, Nat.reduceEqDiff, Nat.reduceAdd, Nat.reduceMul, Nat.reduceSub, Nat.reduceBEq, Nat.reduceLeDiff, Nat.reduceLT, Nat.reduceMod, Nat.reduceDiv, Int.reduceToNat, Int.reducePow, Int.reduceMul, Int.reduceAdd, Int.reduceSub, Int.reduceLE, Int.reduceLT, Int.reduceNeg, Int.reduceDiv, Int.reduceMod, Int.reduceEq, Int.reduceBEq, Int.reduceBNe, f3, f3b, f3r0, f3r1, f3r2, f3r3, f3r4, f3r5, f3r6, f3r7, f3r8, f3r9, f3r10, f3r11, f3r12, f3r13, f3r14, f3r15, f3r16, f3r17, f3r18, f3r19, f3r21, f3r23, hk, get_old hk, hkq, get_old hkq, Bk.val] | (refine BrW.of (fun hb => ?_) (fun hb => ?_) <;> (have hb' := hb; try simp only [decide_eq_true_eq, decide_eq_false_iff_not, beq_iff_eq, bne_iff_ne, beq_eq_false_iff_ne, bne_eq_false_iff_eq, Bool.not_eq_true', Bool.not_eq_false', Bool.not_eq_true, Bool.not_eq_false, Bool.and_eq_true, Bool.or_eq_true, Bool.and_eq_false_iff, Bool.or_eq_false_iff, Int.not_lt, Int.not_le, ne_eq, gt_iff_lt, ge_iff_le] at hb') <;> (try (exfalso; omega)))
      all_goals exact .here rfl
    · repeat' first | simp (disch := first | with_reducible assumption | omega) only [go_sem, Bool.true_and, Bool.and_true, Bool.and_self, Bool.false_and, Bool.and_false, Bool.true_or, Bool.or_true, Bool.false_or, Bool.or_false, ↓reduceIte, Nat.reduceEqDiff, Nat.reduceAdd, Nat.reduceMul, Nat.reduceSub, Nat.reduceBEq, Nat.reduceLeDiff, Nat.reduceLT, Nat.reduceMod, Nat.reduceDiv, Int.reduceToNat, Int.reducePow, Int.reduceMul, Int.reduceAdd, Int.reduceSub, Int.reduceLE, Int.reduceLT, Int.reduceNeg, Int.reduceDiv, Int.reduceMod, Int.reduceEq, Int.reduceBEq, Int.reduceBNe, f3, f3b, f3r0, f3r1, f3r2, f3r3, f3r4, f3r5, f3r6, f3r7, f3r8, f3r9, f3r10, f3r11, f3r12, f3r13, f3r14, f3r15, f3r16, f3r17, f3r18, f3r19, f3r21, f3r23, hk, get_old hk, hkq, get_old hkq, Bk.val] | (refine BrW.of (fun hb => ?_) (fun hb => ?_) <;> (have hb' := hb; try simp only [decide_eq_true_eq, decide_eq_false_iff_not, beq_iff_eq, bne_iff_ne, beq_eq_false_iff_ne, bne_eq_false_iff_eq, Bool.not_eq_true', Bool.not_eq_false', Bool.not_eq_true, Bool.not_eq_false, Bool.and_eq_true, Bool.or_eq_true, Bool.and_eq_false_iff, Bool.or_eq_false_iff, Int.not_lt, Int.not_le, ne_eq, gt_iff_lt, ge_iff_le] at hb') <;> (try (exfalso; omega)))
      have hk1 := get_old hk [.cells 0 0 false [.int .i64 B.num, .int .i64 B.den, .int .i64 B.bu, .int .i64 B.lv, .int .i64 B.at']]
      have hk2 := get_old hkq [.cells 0 0 false [.int .i64 B.num, .int .i64 B.den, .int .i64 B.bu, .int .i64 B.lv, .int .i64 B.at']]
      generalize H1 ++ [.cells 0 0 false [.int .i64 B.num, .int .i64 B.den, .int .i64 B.bu, .int .i64 B.lv, .int .i64 B.at']] = J at *
      have hg := run_get hrun
      have hbd := fun i j => bound hrun i j
      obtain ⟨c1, c2, c3, c4, c5, c6, _⟩ := hm
      simp only [may] at c1 c2 c3 c4 c5 c6
      simp only [full] at hbd
      refine loopW.of (by decide) (fun m e J' => ∃ (i : Nat), e = [(0, .int .i64 nu), (1, .int .i64 de), (2, .int .i64 bu), (3, slv k 0 0 l.length c), (9, slv q 0 g' l.length l.length), (47, .int .i64 l.length), (48, .int .i64 i)] ∧ J' = J ∧ i ≤ l.length ∧ m = l.length - i) l.length ⟨0, rfl, rfl, by omega, rfl⟩ ?_
      rintro m e J' ⟨i, rfl, rfl, hi, rfl⟩
      by_cases hlt : i < l.length
      · repeat' first | simp (disch := first | with_reducible assumption | omega) only [go_sem, Bool.true_and, Bool.and_true, Bool.and_self, Bool.false_and, Bool.and_false, Bool.true_or, Bool.or_true, Bool.false_or, Bool.or_false, ↓reduceIte, Nat.reduceEqDiff, Nat.reduceAdd, Nat.reduceMul, Nat.reduceSub, Nat.reduceBEq, Nat.reduceLeDiff, Nat.reduceLT, Nat.reduceMod, Nat.reduceDiv, Int.reduceToNat, Int.reducePow, Int.reduceMul, Int.reduceAdd, Int.reduceSub, Int.reduceLE, Int.reduceLT, Int.reduceNeg, Int.reduceDiv, Int.reduceMod, Int.reduceEq, Int.reduceBEq, Int.reduceBNe, f3, f3b, f3r0, f3r1, f3r2, f3r3, f3r4, f3r5, f3r6, f3r7, f3r8, f3r9, f3r10, f3r11, f3r12, f3r13, f3r14, f3r15, f3r16, f3r17, f3r18, f3r19, f3r21, f3r23, f3l1] | (refine BrW.of (fun hb => ?_) (fun hb => ?_) <;> (have hb' := hb; try simp only [decide_eq_true_eq, decide_eq_false_iff_not, beq_iff_eq, bne_iff_ne, beq_eq_false_iff_ne, bne_eq_false_iff_eq, Bool.not_eq_true', Bool.not_eq_false', Bool.not_eq_true, Bool.not_eq_false, Bool.and_eq_true, Bool.or_eq_true, Bool.and_eq_false_iff, Bool.or_eq_false_iff, Int.not_lt, Int.not_le, ne_eq, gt_iff_lt, ge_iff_le] at hb') <;> (try (exfalso; omega)))
        refine loopW.of (by decide) (fun m e J'' => ∃ (j n : Nat), e = [(0, .int .i64 nu), (1, .int .i64 de), (2, .int .i64 bu), (3, slv k 0 0 l.length c), (9, slv q 0 g' l.length l.length), (12, .int .i64 i), (13, .int .i64 (gr out l i n)), (14, .int .i64 j), (47, .int .i64 l.length), (48, .int .i64 i)] ∧ J'' = J' ∧ j = i + n ∧ i + n ≤ l.length ∧ m = l.length - (i + n) ∧
          0 ≤ gr out l i n ∧ gr out l i n ≤ (n : Int) * 1048576) (l.length - i) ⟨i, 0, by rw [gr_zero], rfl, rfl, by omega, rfl, by rw [gr_zero]; omega, by rw [gr_zero]; omega⟩ ?_
        rintro m e J'' ⟨j, n, rfl, rfl, hjn, hin, rfl, x0, x1⟩
        by_cases hj : j < l.length
        · obtain ⟨q0, q1⟩ := hcs i hlt
          obtain ⟨e0, e1⟩ := hcs j hj
          obtain ⟨p0, p1, _⟩ := hg i hlt
          obtain ⟨r0, r1, r2, r3⟩ := hg j hj
          have b1 := hbd i j (by omega) hj
          have ew := hcq j (by omega)
          have g1 := gr_succ hol i n (by omega)
          rw [show j + 1 - i = n + 1 by omega] at b1
          rw [show sums (part out i (n + 1)) (part l i (n + 1)) = gr out l i (n + 1) from rfl] at b1
          rw [← hjn] at g1
          have y1 : 0 ≤ gr out l i (n + 1) ∧ gr out l i (n + 1) ≤ gr out l i n + 1048576 := by rw [g1]; split <;> omega
          have hP : -1152921504606846976 ≤ nu * ((l.getD j s0).at' - (l.getD i s0).at') ∧ ((l.getD j s0).at' - (l.getD i s0).at' < 1048576 → nu * ((l.getD j s0).at' - (l.getD i s0).at') ≤ 1099511627776) := by
            generalize hD : (l.getD j s0).at' - (l.getD i s0).at' = D
            have d1 : -1099511627776 ≤ D := by omega
            constructor
            · have := Int.mul_le_mul_of_nonneg_left d1 c1
              have := Int.mul_le_mul_of_nonneg_right c2 (show (0 : Int) ≤ 1099511627776 by omega)
              omega
            · intro hd
              have := Int.mul_le_mul_of_nonneg_left (show D ≤ 1048576 by omega) c1
              omega
          have hQ : 0 ≤ bu * de ∧ bu * de ≤ 1099511627776 := by
            refine ⟨Int.mul_nonneg c5 (by omega), ?_⟩
            have := Int.mul_le_mul c6 c4 (by omega) (by omega)
            omega
          have hG : 0 ≤ gr out l i (n + 1) * de ∧ gr out l i (n + 1) * de ≤ 65970697666560 + 1099511627776 := by
            refine ⟨Int.mul_nonneg y1.1 (by omega), ?_⟩
            have := Int.mul_le_mul (show gr out l i (n + 1) ≤ 62914560 + 1048576 by omega) c4 (by omega) (by omega)
            omega
          obtain ⟨P1, P2⟩ := hP
          clear hbd hg hrun hcs hcq
          generalize hG1 : gr out l i (n + 1) = G1 at *
          generalize gr out l i n = G3 at *
          generalize (l.getD j s0).at' = T at *
          generalize (l.getD i s0).at' = U at *
          generalize (l.getD j s0).by' = Y at *
          cases hb : out.getD j false with
          | true =>
            rw [hb] at ew g1
            simp only [if_true] at g1
            rw [g1] at hG b1
            by_cases hd : T - U < 1048576
            · have P3 := P2 hd
              clear P2
              repeat' first | simp (disch := first | with_reducible assumption | omega) only [go_sem, Bool.true_and, Bool.and_true, Bool.and_self, Bool.false_and, Bool.and_false, Bool.true_or, Bool.or_true, Bool.false_or, Bool.or_false, ↓reduceIte, Nat.reduceEqDiff, Nat.reduceAdd, Nat.reduceMul, Nat.reduceSub, Nat.reduceBEq, Nat.reduceLeDiff, Nat.reduceLT, Nat.reduceMod, Nat.reduceDiv, Int.reduceToNat, Int.reducePow, Int.reduceMul, Int.reduceAdd, Int.reduceSub, Int.reduceLE, Int.reduceLT, Int.reduceNeg, Int.reduceDiv, Int.reduceMod, Int.reduceEq, Int.reduceBEq, Int.reduceBNe, f3, f3b, f3r0, f3r1, f3r2, f3r3, f3r4, f3r5, f3r6, f3r7, f3r8, f3r9, f3r10, f3r11, f3r12, f3r13, f3r14, f3r15, f3r16, f3r17, f3r18, f3r19, f3r21, f3r23, f3l0, hk1, hk2, e0, e1, q0, ew] | (refine BrW.of (fun hb => ?_) (fun hb => ?_) <;> (have hb' := hb; try simp only [decide_eq_true_eq, decide_eq_false_iff_not, beq_iff_eq, bne_iff_ne, beq_eq_false_iff_ne, bne_eq_false_iff_eq, Bool.not_eq_true', Bool.not_eq_false', Bool.not_eq_true, Bool.not_eq_false, Bool.and_eq_true, Bool.or_eq_true, Bool.and_eq_false_iff, Bool.or_eq_false_iff, Int.not_lt, Int.not_le, ne_eq, gt_iff_lt, ge_iff_le] at hb') <;> (try (exfalso; omega)))
              refine RdW.keep [0, 1, 2, 3, 9, 12, 13, 14, 47, 48] (l.length - (i + (n + 1))) (by omega) ?_
              simp (disch := first | with_reducible assumption | omega) only [go_sem, Bool.true_and, Bool.and_true, Bool.and_self, Bool.false_and, Bool.and_false, Bool.true_or, Bool.or_true, Bool.false_or, Bool.or_false, ↓reduceIte, Nat.reduceEqDiff, Nat.reduceAdd, Nat.reduceMul, Nat.reduceSub, Nat.reduceBEq, Nat.reduceLeDiff, Nat.reduceLT, Nat.reduceMod, Nat.reduceDiv, Int.reduceToNat, Int.reducePow, Int.reduceMul, Int.reduceAdd, Int.reduceSub, Int.reduceLE, Int.reduceLT, Int.reduceNeg, Int.reduceDiv, Int.reduceMod, Int.reduceEq, Int.reduceBEq, Int.reduceBNe]
              exact ⟨j + 1, n + 1, by rw [hG1, g1]; rfl, by omega, by omega, rfl, by omega, by omega⟩
            · clear P2
              repeat' first | simp (disch := first | with_reducible assumption | omega) only [go_sem, Bool.true_and, Bool.and_true, Bool.and_self, Bool.false_and, Bool.and_false, Bool.true_or, Bool.or_true, Bool.false_or, Bool.or_false, ↓reduceIte, Nat.reduceEqDiff, Nat.reduceAdd, Nat.reduceMul, Nat.reduceSub, Nat.reduceBEq, Nat.reduceLeDiff, Nat.reduceLT, Nat.reduceMod, Nat.reduceDiv, Int.reduceToNat, Int.reducePow, Int.reduceMul, Int.reduceAdd, Int.reduceSub, Int.reduceLE, Int.reduceLT, Int.reduceNeg, Int.reduceDiv, Int.reduceMod, Int.reduceEq, Int.reduceBEq, Int.reduceBNe, f3, f3b, f3r0, f3r1, f3r2, f3r3, f3r4, f3r5, f3r6, f3r7, f3r8, f3r9, f3r10, f3r11, f3r12, f3r13, f3r14, f3r15, f3r16, f3r17, f3r18, f3r19, f3r21, f3r23, f3l0, hk1, hk2, e0, e1, q0, ew] | (refine BrW.of (fun hb => ?_) (fun hb => ?_) <;> (have hb' := hb; try simp only [decide_eq_true_eq, decide_eq_false_iff_not, beq_iff_eq, bne_iff_ne, beq_eq_false_iff_ne, bne_eq_false_iff_eq, Bool.not_eq_true', Bool.not_eq_false', Bool.not_eq_true, Bool.not_eq_false, Bool.and_eq_true, Bool.or_eq_true, Bool.and_eq_false_iff, Bool.or_eq_false_iff, Int.not_lt, Int.not_le, ne_eq, gt_iff_lt, ge_iff_le] at hb') <;> (try (exfalso; omega)))
              refine RdW.keep [0, 1, 2, 3, 9, 12, 13, 14, 47, 48] (l.length - (i + (n + 1))) (by omega) ?_
              simp (disch := first | with_reducible assumption | omega) only [go_sem, Bool.true_and, Bool.and_true, Bool.and_self, Bool.false_and, Bool.and_false, Bool.true_or, Bool.or_true, Bool.false_or, Bool.or_false, ↓reduceIte, Nat.reduceEqDiff, Nat.reduceAdd, Nat.reduceMul, Nat.reduceSub, Nat.reduceBEq, Nat.reduceLeDiff, Nat.reduceLT, Nat.reduceMod, Nat.reduceDiv, Int.reduceToNat, Int.reducePow, Int.reduceMul, Int.reduceAdd, Int.reduceSub, Int.reduceLE, Int.reduceLT, Int.reduceNeg, Int.reduceDiv, Int.reduceMod, Int.reduceEq, Int.reduceBEq, Int.reduceBNe]
              exact ⟨j + 1, n + 1, by rw [hG1, g1]; rfl, by omega, by omega, rfl, by omega, by omega⟩
          | false =>
            rw [hb] at ew g1
            simp only [Bool.false_eq_true, if_false, Int.add_zero] at g1
            rw [g1] at hG b1
            by_cases hd : T - U < 1048576
            · have P3 := P2 hd
              clear P2
              repeat' first | simp (disch := first | with_reducible assumption | omega) only [go_sem, Bool.true_and, Bool.and_true, Bool.and_self, Bool.false_and, Bool.and_false, Bool.true_or, Bool.or_true, Bool.false_or, Bool.or_false, ↓reduceIte, Nat.reduceEqDiff, Nat.reduceAdd, Nat.reduceMul, Nat.reduceSub, Nat.reduceBEq, Nat.reduceLeDiff, Nat.reduceLT, Nat.reduceMod, Nat.reduceDiv, Int.reduceToNat, Int.reducePow, Int.reduceMul, Int.reduceAdd, Int.reduceSub, Int.reduceLE, Int.reduceLT, Int.reduceNeg, Int.reduceDiv, Int.reduceMod, Int.reduceEq, Int.reduceBEq, Int.reduceBNe, f3, f3b, f3r0, f3r1, f3r2, f3r3, f3r4, f3r5, f3r6, f3r7, f3r8, f3r9, f3r10, f3r11, f3r12, f3r13, f3r14, f3r15, f3r16, f3r17, f3r18, f3r19, f3r21, f3r23, f3l0, hk1, hk2, e0, e1, q0, ew] | (refine BrW.of (fun hb => ?_) (fun hb => ?_) <;> (have hb' := hb; try simp only [decide_eq_true_eq, decide_eq_false_iff_not, beq_iff_eq, bne_iff_ne, beq_eq_false_iff_ne, bne_eq_false_iff_eq, Bool.not_eq_true', Bool.not_eq_false', Bool.not_eq_true, Bool.not_eq_false, Bool.and_eq_true, Bool.or_eq_true, Bool.and_eq_false_iff, Bool.or_eq_false_iff, Int.not_lt, Int.not_le, ne_eq, gt_iff_lt, ge_iff_le] at hb') <;> (try (exfalso; omega)))
              refine RdW.keep [0, 1, 2, 3, 9, 12, 13, 14, 47, 48] (l.length - (i + (n + 1))) (by omega) ?_
              simp (disch := first | with_reducible assumption | omega) only [go_sem, Bool.true_and, Bool.and_true, Bool.and_self, Bool.false_and, Bool.and_false, Bool.true_or, Bool.or_true, Bool.false_or, Bool.or_false, ↓reduceIte, Nat.reduceEqDiff, Nat.reduceAdd, Nat.reduceMul, Nat.reduceSub, Nat.reduceBEq, Nat.reduceLeDiff, Nat.reduceLT, Nat.reduceMod, Nat.reduceDiv, Int.reduceToNat, Int.reducePow, Int.reduceMul, Int.reduceAdd, Int.reduceSub, Int.reduceLE, Int.reduceLT, Int.reduceNeg, Int.reduceDiv, Int.reduceMod, Int.reduceEq, Int.reduceBEq, Int.reduceBNe]
              exact ⟨j + 1, n + 1, by rw [hG1, g1]; rfl, by omega, by omega, rfl, by omega, by omega⟩
            · clear P2
              repeat' first | simp (disch := first | with_reducible assumption | omega) only [go_sem, Bool.true_and, Bool.and_true, Bool.and_self, Bool.false_and, Bool.and_false, Bool.true_or, Bool.or_true, Bool.false_or, Bool.or_false, ↓reduceIte, Nat.reduceEqDiff, Nat.reduceAdd, Nat.reduceMul, Nat.reduceSub, Nat.reduceBEq, Nat.reduceLeDiff, Nat.reduceLT, Nat.reduceMod, Nat.reduceDiv, Int.reduceToNat, Int.reducePow, Int.reduceMul, Int.reduceAdd, Int.reduceSub, Int.reduceLE, Int.reduceLT, Int.reduceNeg, Int.reduceDiv, Int.reduceMod, Int.reduceEq, Int.reduceBEq, Int.reduceBNe, f3, f3b, f3r0, f3r1, f3r2, f3r3, f3r4, f3r5, f3r6, f3r7, f3r8, f3r9, f3r10, f3r11, f3r12, f3r13, f3r14, f3r15, f3r16, f3r17, f3r18, f3r19, f3r21, f3r23, f3l0, hk1, hk2, e0, e1, q0, ew] | (refine BrW.of (fun hb => ?_) (fun hb => ?_) <;> (have hb' := hb; try simp only [decide_eq_true_eq, decide_eq_false_iff_not, beq_iff_eq, bne_iff_ne, beq_eq_false_iff_ne, bne_eq_false_iff_eq, Bool.not_eq_true', Bool.not_eq_false', Bool.not_eq_true, Bool.not_eq_false, Bool.and_eq_true, Bool.or_eq_true, Bool.and_eq_false_iff, Bool.or_eq_false_iff, Int.not_lt, Int.not_le, ne_eq, gt_iff_lt, ge_iff_le] at hb') <;> (try (exfalso; omega)))
              refine RdW.keep [0, 1, 2, 3, 9, 12, 13, 14, 47, 48] (l.length - (i + (n + 1))) (by omega) ?_
              simp (disch := first | with_reducible assumption | omega) only [go_sem, Bool.true_and, Bool.and_true, Bool.and_self, Bool.false_and, Bool.and_false, Bool.true_or, Bool.or_true, Bool.false_or, Bool.or_false, ↓reduceIte, Nat.reduceEqDiff, Nat.reduceAdd, Nat.reduceMul, Nat.reduceSub, Nat.reduceBEq, Nat.reduceLeDiff, Nat.reduceLT, Nat.reduceMod, Nat.reduceDiv, Int.reduceToNat, Int.reducePow, Int.reduceMul, Int.reduceAdd, Int.reduceSub, Int.reduceLE, Int.reduceLT, Int.reduceNeg, Int.reduceDiv, Int.reduceMod, Int.reduceEq, Int.reduceBEq, Int.reduceBNe]
              exact ⟨j + 1, n + 1, by rw [hG1, g1]; rfl, by omega, by omega, rfl, by omega, by omega⟩
        · obtain rfl : j = l.length := by omega
          repeat' first | simp (disch := first | with_reducible assumption | omega) only [go_sem, Bool.true_and, Bool.and_true, Bool.and_self, Bool.false_and, Bool.and_false, Bool.true_or, Bool.or_true, Bool.false_or, Bool.or_false, ↓reduceIte, Nat.reduceEqDiff, Nat.reduceAdd, Nat.reduceMul, Nat.reduceSub, Nat.reduceBEq, Nat.reduceLeDiff, Nat.reduceLT, Nat.reduceMod, Nat.reduceDiv, Int.reduceToNat, Int.reducePow, Int.reduceMul, Int.reduceAdd, Int.reduceSub, Int.reduceLE, Int.reduceLT, Int.reduceNeg, Int.reduceDiv, Int.reduceMod, Int.reduceEq, Int.reduceBEq, Int.reduceBNe, f3, f3b, f3r0, f3r1, f3r2, f3r3, f3r4, f3r5, f3r6, f3r7, f3r8, f3r9, f3r10, f3r11, f3r12, f3r13, f3r14, f3r15, f3r16, f3r17, f3r18, f3r19, f3r21, f3r23, f3l0, hk1] | (refine BrW.of (fun hb => ?_) (fun hb => ?_) <;> (have hb' := hb; try simp only [decide_eq_true_eq, decide_eq_false_iff_not, beq_iff_eq, bne_iff_ne, beq_eq_false_iff_ne, bne_eq_false_iff_eq, Bool.not_eq_true', Bool.not_eq_false', Bool.not_eq_true, Bool.not_eq_false, Bool.and_eq_true, Bool.or_eq_true, Bool.and_eq_false_iff, Bool.or_eq_false_iff, Int.not_lt, Int.not_le, ne_eq, gt_iff_lt, ge_iff_le] at hb') <;> (try (exfalso; omega)))
          refine RdW.keep [0, 1, 2, 3, 9, 47, 48] (l.length - (i + 1)) (by omega) ?_
          simp (disch := first | with_reducible assumption | omega) only [go_sem, Bool.true_and, Bool.and_true, Bool.and_self, Bool.false_and, Bool.and_false, Bool.true_or, Bool.or_true, Bool.false_or, Bool.or_false, ↓reduceIte, Nat.reduceEqDiff, Nat.reduceAdd, Nat.reduceMul, Nat.reduceSub, Nat.reduceBEq, Nat.reduceLeDiff, Nat.reduceLT, Nat.reduceMod, Nat.reduceDiv, Int.reduceToNat, Int.reducePow, Int.reduceMul, Int.reduceAdd, Int.reduceSub, Int.reduceLE, Int.reduceLT, Int.reduceNeg, Int.reduceDiv, Int.reduceMod, Int.reduceEq, Int.reduceBEq, Int.reduceBNe]
          exact ⟨i + 1, rfl, by omega, rfl⟩
      · repeat' first | simp (disch := first | with_reducible assumption | omega) only [go_sem, Bool.true_and, Bool.and_true, Bool.and_self, Bool.false_and, Bool.and_false, Bool.true_or, Bool.or_true, Bool.false_or, Bool.or_false, ↓reduceIte, Nat.reduceEqDiff, Nat.reduceAdd, Nat.reduceMul, Nat.reduceSub, Nat.reduceBEq, Nat.reduceLeDiff, Nat.reduceLT, Nat.reduceMod, Nat.reduceDiv, Int.reduceToNat, Int.reducePow, Int.reduceMul, Int.reduceAdd, Int.reduceSub, Int.reduceLE, Int.reduceLT, Int.reduceNeg, Int.reduceDiv, Int.reduceMod, Int.reduceEq, Int.reduceBEq, Int.reduceBNe, f3, f3b, f3r0, f3r1, f3r2, f3r3, f3r4, f3r5, f3r6, f3r7, f3r8, f3r9, f3r10, f3r11, f3r12, f3r13, f3r14, f3r15, f3r16, f3r17, f3r18, f3r19, f3r21, f3r23, f3l1, f3, f3b, f3r0, f3r1, f3r2, f3r3, f3r4, f3r5, f3r6, f3r7, f3r8, f3r9, f3r10, f3r11, f3r12, f3r13, f3r14, f3r15, f3r16, f3r17, f3r18, f3r19, f3r21, f3r23] | (refine BrW.of (fun hb => ?_) (fun hb => ?_) <;> (have hb' := hb; try simp only [decide_eq_true_eq, decide_eq_false_iff_not, beq_iff_eq, bne_iff_ne, beq_eq_false_iff_ne, bne_eq_false_iff_eq, Bool.not_eq_true', Bool.not_eq_false', Bool.not_eq_true, Bool.not_eq_false, Bool.and_eq_true, Bool.or_eq_true, Bool.and_eq_false_iff, Bool.or_eq_false_iff, Int.not_lt, Int.not_le, ne_eq, gt_iff_lt, ge_iff_le] at hb') <;> (try (exfalso; omega)))
        exact .here rfl
  · have h1 := hp1 z
    subst h1
    have z' : (e != 0) = true := by simpa using z
    clear hp1 hp2
    repeat' first | simp (disch := first | with_reducible assumption | omega) only [go_sem, Bool.true_and, Bool.and_true, Bool.and_self, Bool.false_and, Bool.and_false, Bool.true_or, Bool.or_true, Bool.false_or, Bool.or_false, ↓reduceIte, Nat.reduceEqDiff, Nat.reduceAdd, Nat.reduceMul, Nat.reduceSub, Nat.reduceBEq, Nat.reduceLeDiff, Nat.reduceLT, Nat.reduceMod, Nat.reduceDiv, Int.reduceToNat, Int.reducePow, Int.reduceMul, Int.reduceAdd, Int.reduceSub, Int.reduceLE, Int.reduceLT, Int.reduceNeg, Int.reduceDiv, Int.reduceMod, Int.reduceEq, Int.reduceBEq, Int.reduceBNe, f3, f3b, f3r0, f3r1, f3r2, f3r3, f3r4, f3r5, f3r6, f3r7, f3r8, f3r9, f3r10, f3r11, f3r12, f3r13, f3r14, f3r15, f3r16, f3r17, f3r18, f3r19, f3r21, f3r23, z', Bk.val] | (refine BrW.of (fun hb => ?_) (fun hb => ?_) <;> (have hb' := hb; try simp only [decide_eq_true_eq, decide_eq_false_iff_not, beq_iff_eq, bne_iff_ne, beq_eq_false_iff_ne, bne_eq_false_iff_eq, Bool.not_eq_true', Bool.not_eq_false', Bool.not_eq_true, Bool.not_eq_false, Bool.and_eq_true, Bool.or_eq_true, Bool.and_eq_false_iff, Bool.or_eq_false_iff, Int.not_lt, Int.not_le, ne_eq, gt_iff_lt, ge_iff_le] at hb') <;> (try (exfalso; omega)))
    all_goals exact .here rfl
end Go.Proofs.Ythiigjcmaaojiaa
