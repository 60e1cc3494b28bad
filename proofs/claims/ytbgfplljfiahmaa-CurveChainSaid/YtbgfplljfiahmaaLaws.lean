import Derived.Test.YtbgfplljfiahmaaSteps
import Derived.Test.YtbgfplljfiahmaaBase
set_option linter.unusedSimpArgs false
set_option linter.unusedVariables false
set_option maxHeartbeats 1000000
namespace Go.Proofs.Ytbgfplljfiahmaa
open Go Go.Am

theorem Pr.of {B : Nat} {H : Heap} {cs : List Value} (h : RowOk B H [.int .i64, .int .i64] cs) : ∃ a : Pr, cs = a.cells := by
  obtain ⟨_, _, rfl, c0, h⟩ := h.cons_inv
  obtain ⟨_, _, rfl, c1, h⟩ := h.cons_inv
  obtain rfl := h.nil_inv
  obtain ⟨n0, rfl, h0⟩ := c0.int_inv
  obtain ⟨n1, rfl, _⟩ := c1.int_inv
  exact ⟨⟨n0, n1⟩, rfl⟩

theorem CurveMore_args (H : Heap) (vals : List Value) (h : ArgsOk maxLen H CurveMoreSh vals) : ACallK Try.prog 6 vals H fun v _ => v = .bool true := by
  obtain ⟨_, _, rfl, a1, h⟩ := h.cons
  obtain ⟨_, _, rfl, a2, h⟩ := h.cons
  obtain ⟨_, _, rfl, a3, h⟩ := h.cons
  obtain ⟨_, _, rfl, a4, h⟩ := h.cons
  obtain ⟨_, _, rfl, a5, h⟩ := h.cons
  obtain rfl := h.nil
  obtain ⟨cs, rfl, hm⟩ := a1.agg
  obtain ⟨c, rfl⟩ := Pr.of hm
  obtain ⟨cs, rfl, hm⟩ := a2.agg
  obtain ⟨s, rfl⟩ := Pr.of hm
  obtain ⟨b, rfl, _⟩ := a3.cell.int_inv
  obtain ⟨r, rfl, _⟩ := a4.cell.int_inv
  obtain ⟨l, rfl, _⟩ := a5.cell.int_inv
  refine .walkW f6_ok (by simp; decide) (by decide) ?_
  by_cases hx : min (min b r) l < 0
  · repeat' first | simp (disch := first | with_reducible assumption | omega) only [go_sem, Bool.true_and, Bool.and_true, Bool.and_self, Bool.false_and, Bool.and_false, Bool.true_or, Bool.or_true, Bool.false_or, Bool.or_false, ↓reduceIte, Nat.reduceEqDiff, Nat.reduceAdd, Nat.reduceMul, Nat.reduceSub, Nat.reduceBEq, Nat.reduceLeDiff, Nat.reduceLT, Nat.reduceMod, Nat.reduceDiv, Int.reduceToNat, Int.reducePow, Int.reduceMul, Int.reduceAdd, Int.reduceSub, Int.reduceLE, Int.reduceLT, Int.reduceNeg, Int.reduceDiv, Int.reduceMod, Int.reduceEq, Int.reduceBEq, Int.reduceBNe, f6, f6b, f6r0, f6r1, f6r2, f6r3, f6r4, f6r5, f6r6, f6r7, Pr.cells] | (refine BrW.of (fun hb => ?_) (fun hb => ?_) <;> (have hb' := hb; try simp only [decide_eq_true_eq, decide_eq_false_iff_not, beq_iff_eq, bne_iff_ne, beq_eq_false_iff_ne, bne_eq_false_iff_eq, Bool.not_eq_true', Bool.not_eq_false', Bool.not_eq_true, Bool.not_eq_false, Bool.and_eq_true, Bool.or_eq_true, Bool.and_eq_false_iff, Bool.or_eq_false_iff, Int.not_lt, Int.not_le, ne_eq, gt_iff_lt, ge_iff_le] at hb') <;> (try (exfalso; omega))) | (refine .of ((alive _).mono ?_); rintro v _ ⟨rfl, rfl⟩)
    all_goals exact .back rfl rfl
  by_cases hy : 1000 < max (max b r) l
  · repeat' first | simp (disch := first | with_reducible assumption | omega) only [go_sem, Bool.true_and, Bool.and_true, Bool.and_self, Bool.false_and, Bool.and_false, Bool.true_or, Bool.or_true, Bool.false_or, Bool.or_false, ↓reduceIte, Nat.reduceEqDiff, Nat.reduceAdd, Nat.reduceMul, Nat.reduceSub, Nat.reduceBEq, Nat.reduceLeDiff, Nat.reduceLT, Nat.reduceMod, Nat.reduceDiv, Int.reduceToNat, Int.reducePow, Int.reduceMul, Int.reduceAdd, Int.reduceSub, Int.reduceLE, Int.reduceLT, Int.reduceNeg, Int.reduceDiv, Int.reduceMod, Int.reduceEq, Int.reduceBEq, Int.reduceBNe, f6, f6b, f6r0, f6r1, f6r2, f6r3, f6r4, f6r5, f6r6, f6r7, Pr.cells] | (refine BrW.of (fun hb => ?_) (fun hb => ?_) <;> (have hb' := hb; try simp only [decide_eq_true_eq, decide_eq_false_iff_not, beq_iff_eq, bne_iff_ne, beq_eq_false_iff_ne, bne_eq_false_iff_eq, Bool.not_eq_true', Bool.not_eq_false', Bool.not_eq_true, Bool.not_eq_false, Bool.and_eq_true, Bool.or_eq_true, Bool.and_eq_false_iff, Bool.or_eq_false_iff, Int.not_lt, Int.not_le, ne_eq, gt_iff_lt, ge_iff_le] at hb') <;> (try (exfalso; omega))) | (refine .of ((alive _).mono ?_); rintro v _ ⟨rfl, rfl⟩)
    all_goals exact .back rfl rfl
  have hlaw := more_law (c := c) (s := s) (show 0 ≤ b by omega) (show 0 ≤ r by omega) (show 0 ≤ l by omega)
  by_cases h1 : (delayF c s).2 = 0
  · have ho := (delay_ok h1).1
    unfold okP Pr.small at ho
    have hlaw := hlaw h1
    generalize hD : delayF c s = D at *
    generalize hE : delayF ⟨c.x + b, c.y + r⟩ ⟨s.x + l, s.y⟩ = E at *
    by_cases h2 : E.2 = 0
    · have hlaw := hlaw h2
      repeat' first | simp (disch := first | with_reducible assumption | omega) only [go_sem, Bool.true_and, Bool.and_true, Bool.and_self, Bool.false_and, Bool.and_false, Bool.true_or, Bool.or_true, Bool.false_or, Bool.or_false, ↓reduceIte, Nat.reduceEqDiff, Nat.reduceAdd, Nat.reduceMul, Nat.reduceSub, Nat.reduceBEq, Nat.reduceLeDiff, Nat.reduceLT, Nat.reduceMod, Nat.reduceDiv, Int.reduceToNat, Int.reducePow, Int.reduceMul, Int.reduceAdd, Int.reduceSub, Int.reduceLE, Int.reduceLT, Int.reduceNeg, Int.reduceDiv, Int.reduceMod, Int.reduceEq, Int.reduceBEq, Int.reduceBNe, f6, f6b, f6r0, f6r1, f6r2, f6r3, f6r4, f6r5, f6r6, f6r7, Pr.cells, h1, h2] | (refine BrW.of (fun hb => ?_) (fun hb => ?_) <;> (have hb' := hb; try simp only [decide_eq_true_eq, decide_eq_false_iff_not, beq_iff_eq, bne_iff_ne, beq_eq_false_iff_ne, bne_eq_false_iff_eq, Bool.not_eq_true', Bool.not_eq_false', Bool.not_eq_true, Bool.not_eq_false, Bool.and_eq_true, Bool.or_eq_true, Bool.and_eq_false_iff, Bool.or_eq_false_iff, Int.not_lt, Int.not_le, ne_eq, gt_iff_lt, ge_iff_le] at hb') <;> (try (exfalso; omega))) | (refine .of ((alive _).mono ?_); rintro v _ ⟨rfl, rfl⟩) | (refine .of ((Delay_spec c s _).mono ?_); rintro v _ ⟨rfl, rfl⟩; rw [hD]; simp only [ansI]) | (refine .of ((Delay_spec ⟨c.x + b, c.y + r⟩ ⟨s.x + l, s.y⟩ _).mono ?_); rintro v _ ⟨rfl, rfl⟩; rw [hE]; simp only [ansI])
      all_goals exact .back rfl (by (first | with_reducible rfl | (congr 1; first | with_reducible rfl | omega | (rw [Bool.eq_iff_iff]; simp only [decide_eq_true_eq, decide_eq_false_iff_not, beq_iff_eq, bne_iff_ne, beq_eq_false_iff_ne, bne_eq_false_iff_eq, Bool.not_eq_true', Bool.not_eq_false', Bool.not_eq_true, Bool.not_eq_false, Bool.and_eq_true, Bool.or_eq_true, Bool.and_eq_false_iff, Bool.or_eq_false_iff, Int.not_lt, Int.not_le, ne_eq, gt_iff_lt, ge_iff_le, Bool.and_false, Bool.false_and, Bool.or_true, Bool.true_or, Bool.false_eq_true, true_iff, iff_true, false_iff, iff_false, eq_self, not_true_eq_false, not_false_eq_true]; try omega))))
    · have h2' : (E.2 != 0) = true := by simpa using h2
      repeat' first | simp (disch := first | with_reducible assumption | omega) only [go_sem, Bool.true_and, Bool.and_true, Bool.and_self, Bool.false_and, Bool.and_false, Bool.true_or, Bool.or_true, Bool.false_or, Bool.or_false, ↓reduceIte, Nat.reduceEqDiff, Nat.reduceAdd, Nat.reduceMul, Nat.reduceSub, Nat.reduceBEq, Nat.reduceLeDiff, Nat.reduceLT, Nat.reduceMod, Nat.reduceDiv, Int.reduceToNat, Int.reducePow, Int.reduceMul, Int.reduceAdd, Int.reduceSub, Int.reduceLE, Int.reduceLT, Int.reduceNeg, Int.reduceDiv, Int.reduceMod, Int.reduceEq, Int.reduceBEq, Int.reduceBNe, f6, f6b, f6r0, f6r1, f6r2, f6r3, f6r4, f6r5, f6r6, f6r7, Pr.cells, h1] | (refine BrW.of (fun hb => ?_) (fun hb => ?_) <;> (have hb' := hb; try simp only [decide_eq_true_eq, decide_eq_false_iff_not, beq_iff_eq, bne_iff_ne, beq_eq_false_iff_ne, bne_eq_false_iff_eq, Bool.not_eq_true', Bool.not_eq_false', Bool.not_eq_true, Bool.not_eq_false, Bool.and_eq_true, Bool.or_eq_true, Bool.and_eq_false_iff, Bool.or_eq_false_iff, Int.not_lt, Int.not_le, ne_eq, gt_iff_lt, ge_iff_le] at hb') <;> (try (exfalso; omega))) | (refine .of ((alive _).mono ?_); rintro v _ ⟨rfl, rfl⟩) | (refine .of ((Delay_spec c s _).mono ?_); rintro v _ ⟨rfl, rfl⟩; rw [hD]; simp only [ansI]) | (refine .of ((Delay_spec ⟨c.x + b, c.y + r⟩ ⟨s.x + l, s.y⟩ _).mono ?_); rintro v _ ⟨rfl, rfl⟩; rw [hE]; simp only [ansI])
      all_goals exact .back rfl (by (first | with_reducible rfl | (congr 1; first | with_reducible rfl | omega | (rw [Bool.eq_iff_iff]; simp only [decide_eq_true_eq, decide_eq_false_iff_not, beq_iff_eq, bne_iff_ne, beq_eq_false_iff_ne, bne_eq_false_iff_eq, Bool.not_eq_true', Bool.not_eq_false', Bool.not_eq_true, Bool.not_eq_false, Bool.and_eq_true, Bool.or_eq_true, Bool.and_eq_false_iff, Bool.or_eq_false_iff, Int.not_lt, Int.not_le, ne_eq, gt_iff_lt, ge_iff_le, Bool.and_false, Bool.false_and, Bool.or_true, Bool.true_or, Bool.false_eq_true, true_iff, iff_true, false_iff, iff_false, eq_self, not_true_eq_false, not_false_eq_true]; try omega))))
  · have h1' : ((delayF c s).2 != 0) = true := by simpa using h1
    clear hlaw
    repeat' first | simp (disch := first | with_reducible assumption | omega) only [go_sem, Bool.true_and, Bool.and_true, Bool.and_self, Bool.false_and, Bool.and_false, Bool.true_or, Bool.or_true, Bool.false_or, Bool.or_false, ↓reduceIte, Nat.reduceEqDiff, Nat.reduceAdd, Nat.reduceMul, Nat.reduceSub, Nat.reduceBEq, Nat.reduceLeDiff, Nat.reduceLT, Nat.reduceMod, Nat.reduceDiv, Int.reduceToNat, Int.reducePow, Int.reduceMul, Int.reduceAdd, Int.reduceSub, Int.reduceLE, Int.reduceLT, Int.reduceNeg, Int.reduceDiv, Int.reduceMod, Int.reduceEq, Int.reduceBEq, Int.reduceBNe, f6, f6b, f6r0, f6r1, f6r2, f6r3, f6r4, f6r5, f6r6, f6r7, Pr.cells] | (refine BrW.of (fun hb => ?_) (fun hb => ?_) <;> (have hb' := hb; try simp only [decide_eq_true_eq, decide_eq_false_iff_not, beq_iff_eq, bne_iff_ne, beq_eq_false_iff_ne, bne_eq_false_iff_eq, Bool.not_eq_true', Bool.not_eq_false', Bool.not_eq_true, Bool.not_eq_false, Bool.and_eq_true, Bool.or_eq_true, Bool.and_eq_false_iff, Bool.or_eq_false_iff, Int.not_lt, Int.not_le, ne_eq, gt_iff_lt, ge_iff_le] at hb') <;> (try (exfalso; omega))) | (refine .of ((alive _).mono ?_); rintro v _ ⟨rfl, rfl⟩) | (refine .of ((Delay_spec c s _).mono ?_); rintro v _ ⟨rfl, rfl⟩; simp only [ansI]) | (refine .of ((Delay_spec ⟨iadd .i64 c.x b, iadd .i64 c.y r⟩ ⟨iadd .i64 s.x l, s.y⟩ _).mono ?_); rintro v _ ⟨rfl, rfl⟩; simp only [ansI])
    all_goals exact .back rfl (by (first | with_reducible rfl | (congr 1; first | with_reducible rfl | omega | (rw [Bool.eq_iff_iff]; simp only [decide_eq_true_eq, decide_eq_false_iff_not, beq_iff_eq, bne_iff_ne, beq_eq_false_iff_ne, bne_eq_false_iff_eq, Bool.not_eq_true', Bool.not_eq_false', Bool.not_eq_true, Bool.not_eq_false, Bool.and_eq_true, Bool.or_eq_true, Bool.and_eq_false_iff, Bool.or_eq_false_iff, Int.not_lt, Int.not_le, ne_eq, gt_iff_lt, ge_iff_le, Bool.and_false, Bool.false_and, Bool.or_true, Bool.true_or, Bool.false_eq_true, true_iff, iff_true, false_iff, iff_false, eq_self, not_true_eq_false, not_false_eq_true]; try omega))))

theorem same2 (b : Pr) : sameS [false, false] [.int .i64 b.x, .int .i64 b.y] [.int .i64 b.x, .int .i64 b.y] = some true := by simp [sameS]

theorem CurveChain_args (H : Heap) (vals : List Value) (h : ArgsOk maxLen H CurveChainSh vals) : ACallK Try.prog 7 vals H fun v _ => v = .bool true := by
  obtain ⟨_, _, rfl, a1, h⟩ := h.cons
  obtain ⟨_, _, rfl, a2, h⟩ := h.cons
  obtain ⟨_, _, rfl, a3, h⟩ := h.cons
  obtain rfl := h.nil
  obtain ⟨cs, rfl, hm⟩ := a1.agg
  obtain ⟨c, rfl⟩ := Pr.of hm
  obtain ⟨cs, rfl, hm⟩ := a2.agg
  obtain ⟨s, rfl⟩ := Pr.of hm
  obtain ⟨cs, rfl, hm⟩ := a3.agg
  obtain ⟨t, rfl⟩ := Pr.of hm
  refine .walkW f7_ok (by simp; decide) (by decide) ?_
  have hlaw := chain_law (c := c) (s := s) (t := t)
  have hcomm := chain_comm t s
  have hbk : (backF c s).2 = (delayF c s).2 := by unfold backF; split <;> simp_all
  have ho : (delayF c s).2 = 0 → -1 ≤ (delayF c s).1 ∧ (delayF c s).1 ≤ 1099514773503 := fun h => by
    obtain ⟨o, e⟩ := delay_ok h
    unfold okP Pr.small at o
    rcases e with ⟨_, e⟩ | ⟨e0, e1, e2, e⟩
    · rw [e]; omega
    · have := ceil_range e2 e0 (by omega)
      rw [e]; omega
  have ho2 : (delayF ⟨(backF c s).1, c.y⟩ t).2 = 0 → -1 ≤ (delayF ⟨(backF c s).1, c.y⟩ t).1 ∧ (delayF ⟨(backF c s).1, c.y⟩ t).1 ≤ 1099514773503 := fun h => by
    obtain ⟨o, e⟩ := delay_ok h
    unfold okP Pr.small at o
    simp only at o e
    rcases e with ⟨_, e⟩ | ⟨e0, e1, e2, e⟩
    · rw [e]; omega
    · have := ceil_range e2 e0 (by omega)
      rw [e]; omega
  generalize hU : chainF s t = U at *
  generalize hA : delayF c s = A at *
  generalize hB : backF c s = B at *
  generalize hD : delayF ⟨B.1, c.y⟩ t = D at *
  generalize hL : delayF c U.1 = L at *
  have same : sameS [false, false] [.int .i64 U.1.x, .int .i64 U.1.y] [.int .i64 U.1.x, .int .i64 U.1.y] = some true := same2 U.1
  have ee : (U.2 == U.2) = true := by simp
  by_cases h1 : U.2 = 0
  · by_cases h2 : A.2 = 0
    · by_cases h4 : D.2 = 0
      · obtain ⟨hj, hle⟩ := hlaw h1 h2 h4
        have r1 := ho h2
        have r2 := ho2 h4
        rw [h2] at hbk
        clear hlaw ho ho2
        repeat' first | simp (disch := first | with_reducible assumption | omega) only [go_sem, Bool.true_and, Bool.and_true, Bool.and_self, Bool.false_and, Bool.and_false, Bool.true_or, Bool.or_true, Bool.false_or, Bool.or_false, ↓reduceIte, Nat.reduceEqDiff, Nat.reduceAdd, Nat.reduceMul, Nat.reduceSub, Nat.reduceBEq, Nat.reduceLeDiff, Nat.reduceLT, Nat.reduceMod, Nat.reduceDiv, Int.reduceToNat, Int.reducePow, Int.reduceMul, Int.reduceAdd, Int.reduceSub, Int.reduceLE, Int.reduceLT, Int.reduceNeg, Int.reduceDiv, Int.reduceMod, Int.reduceEq, Int.reduceBEq, Int.reduceBNe, f7, f7b, f7r0, f7r1, f7r2, f7r3, f7r4, f7r5, f7r6, f7r7, f7r8, f7r9, f7r10, f7r11, Pr.cells, same, h1, h2, h4, hbk, hj] | (refine BrW.of (fun hb => ?_) (fun hb => ?_) <;> (have hb' := hb; try simp only [decide_eq_true_eq, decide_eq_false_iff_not, beq_iff_eq, bne_iff_ne, beq_eq_false_iff_ne, bne_eq_false_iff_eq, Bool.not_eq_true', Bool.not_eq_false', Bool.not_eq_true, Bool.not_eq_false, Bool.and_eq_true, Bool.or_eq_true, Bool.and_eq_false_iff, Bool.or_eq_false_iff, Int.not_lt, Int.not_le, ne_eq, gt_iff_lt, ge_iff_le] at hb') <;> (try (exfalso; omega))) | (refine .of ((alive _).mono ?_); rintro v _ ⟨rfl, rfl⟩) | (refine .of ((Chain_spec s t _).mono ?_); rintro v _ ⟨rfl, rfl⟩; rw [hU]; simp only [ansP, Pr.val]) | (refine .of ((Chain_spec t s _).mono ?_); rintro v _ ⟨rfl, rfl⟩; rw [hcomm]; simp only [ansP, Pr.val]) | (refine .of ((Delay_spec c s _).mono ?_); rintro v _ ⟨rfl, rfl⟩; rw [hA]; simp only [ansI]) | (refine .of ((Backlog_spec c s _).mono ?_); rintro v _ ⟨rfl, rfl⟩; rw [hB]; simp only [ansI]) | (refine .of ((Delay_spec ⟨B.1, c.y⟩ t _).mono ?_); rintro v _ ⟨rfl, rfl⟩; rw [hD]; simp only [ansI]) | (refine .of ((Delay_spec c U.1 _).mono ?_); rintro v _ ⟨rfl, rfl⟩; rw [hL]; simp only [ansI])
        all_goals exact .back rfl (by (first | with_reducible rfl | (congr 1; first | with_reducible rfl | omega | (rw [Bool.eq_iff_iff]; simp only [decide_eq_true_eq, decide_eq_false_iff_not, beq_iff_eq, bne_iff_ne, beq_eq_false_iff_ne, bne_eq_false_iff_eq, Bool.not_eq_true', Bool.not_eq_false', Bool.not_eq_true, Bool.not_eq_false, Bool.and_eq_true, Bool.or_eq_true, Bool.and_eq_false_iff, Bool.or_eq_false_iff, Int.not_lt, Int.not_le, ne_eq, gt_iff_lt, ge_iff_le, Bool.and_false, Bool.false_and, Bool.or_true, Bool.true_or, Bool.false_eq_true, true_iff, iff_true, false_iff, iff_false, eq_self, not_true_eq_false, not_false_eq_true]; try omega))))
      · have h4' : (D.2 != 0) = true := by simpa using h4
        rw [h2] at hbk
        clear hlaw ho ho2
        repeat' first | simp (disch := first | with_reducible assumption | omega) only [go_sem, Bool.true_and, Bool.and_true, Bool.and_self, Bool.false_and, Bool.and_false, Bool.true_or, Bool.or_true, Bool.false_or, Bool.or_false, ↓reduceIte, Nat.reduceEqDiff, Nat.reduceAdd, Nat.reduceMul, Nat.reduceSub, Nat.reduceBEq, Nat.reduceLeDiff, Nat.reduceLT, Nat.reduceMod, Nat.reduceDiv, Int.reduceToNat, Int.reducePow, Int.reduceMul, Int.reduceAdd, Int.reduceSub, Int.reduceLE, Int.reduceLT, Int.reduceNeg, Int.reduceDiv, Int.reduceMod, Int.reduceEq, Int.reduceBEq, Int.reduceBNe, f7, f7b, f7r0, f7r1, f7r2, f7r3, f7r4, f7r5, f7r6, f7r7, f7r8, f7r9, f7r10, f7r11, Pr.cells, h1, h2, hbk] | (refine BrW.of (fun hb => ?_) (fun hb => ?_) <;> (have hb' := hb; try simp only [decide_eq_true_eq, decide_eq_false_iff_not, beq_iff_eq, bne_iff_ne, beq_eq_false_iff_ne, bne_eq_false_iff_eq, Bool.not_eq_true', Bool.not_eq_false', Bool.not_eq_true, Bool.not_eq_false, Bool.and_eq_true, Bool.or_eq_true, Bool.and_eq_false_iff, Bool.or_eq_false_iff, Int.not_lt, Int.not_le, ne_eq, gt_iff_lt, ge_iff_le] at hb') <;> (try (exfalso; omega))) | (refine .of ((alive _).mono ?_); rintro v _ ⟨rfl, rfl⟩) | (refine .of ((Chain_spec s t _).mono ?_); rintro v _ ⟨rfl, rfl⟩; rw [hU]; simp only [ansP, Pr.val]) | (refine .of ((Chain_spec t s _).mono ?_); rintro v _ ⟨rfl, rfl⟩; rw [hcomm]; simp only [ansP, Pr.val]) | (refine .of ((Delay_spec c s _).mono ?_); rintro v _ ⟨rfl, rfl⟩; rw [hA]; simp only [ansI]) | (refine .of ((Backlog_spec c s _).mono ?_); rintro v _ ⟨rfl, rfl⟩; rw [hB]; simp only [ansI]) | (refine .of ((Delay_spec ⟨B.1, c.y⟩ t _).mono ?_); rintro v _ ⟨rfl, rfl⟩; rw [hD]; simp only [ansI]) | (refine .of ((Delay_spec c U.1 _).mono ?_); rintro v _ ⟨rfl, rfl⟩; rw [hL]; simp only [ansI])
        all_goals exact .back rfl (by (first | with_reducible rfl | (congr 1; first | with_reducible rfl | omega | (rw [Bool.eq_iff_iff]; simp only [decide_eq_true_eq, decide_eq_false_iff_not, beq_iff_eq, bne_iff_ne, beq_eq_false_iff_ne, bne_eq_false_iff_eq, Bool.not_eq_true', Bool.not_eq_false', Bool.not_eq_true, Bool.not_eq_false, Bool.and_eq_true, Bool.or_eq_true, Bool.and_eq_false_iff, Bool.or_eq_false_iff, Int.not_lt, Int.not_le, ne_eq, gt_iff_lt, ge_iff_le, Bool.and_false, Bool.false_and, Bool.or_true, Bool.true_or, Bool.false_eq_true, true_iff, iff_true, false_iff, iff_false, eq_self, not_true_eq_false, not_false_eq_true]; try omega))))
    · have h2' : (A.2 != 0) = true := by simpa using h2
      clear hlaw ho ho2
      repeat' first | simp (disch := first | with_reducible assumption | omega) only [go_sem, Bool.true_and, Bool.and_true, Bool.and_self, Bool.false_and, Bool.and_false, Bool.true_or, Bool.or_true, Bool.false_or, Bool.or_false, ↓reduceIte, Nat.reduceEqDiff, Nat.reduceAdd, Nat.reduceMul, Nat.reduceSub, Nat.reduceBEq, Nat.reduceLeDiff, Nat.reduceLT, Nat.reduceMod, Nat.reduceDiv, Int.reduceToNat, Int.reducePow, Int.reduceMul, Int.reduceAdd, Int.reduceSub, Int.reduceLE, Int.reduceLT, Int.reduceNeg, Int.reduceDiv, Int.reduceMod, Int.reduceEq, Int.reduceBEq, Int.reduceBNe, f7, f7b, f7r0, f7r1, f7r2, f7r3, f7r4, f7r5, f7r6, f7r7, f7r8, f7r9, f7r10, f7r11, Pr.cells, h1] | (refine BrW.of (fun hb => ?_) (fun hb => ?_) <;> (have hb' := hb; try simp only [decide_eq_true_eq, decide_eq_false_iff_not, beq_iff_eq, bne_iff_ne, beq_eq_false_iff_ne, bne_eq_false_iff_eq, Bool.not_eq_true', Bool.not_eq_false', Bool.not_eq_true, Bool.not_eq_false, Bool.and_eq_true, Bool.or_eq_true, Bool.and_eq_false_iff, Bool.or_eq_false_iff, Int.not_lt, Int.not_le, ne_eq, gt_iff_lt, ge_iff_le] at hb') <;> (try (exfalso; omega))) | (refine .of ((alive _).mono ?_); rintro v _ ⟨rfl, rfl⟩) | (refine .of ((Chain_spec s t _).mono ?_); rintro v _ ⟨rfl, rfl⟩; rw [hU]; simp only [ansP, Pr.val]) | (refine .of ((Chain_spec t s _).mono ?_); rintro v _ ⟨rfl, rfl⟩; rw [hcomm]; simp only [ansP, Pr.val]) | (refine .of ((Delay_spec c s _).mono ?_); rintro v _ ⟨rfl, rfl⟩; rw [hA]; simp only [ansI]) | (refine .of ((Backlog_spec c s _).mono ?_); rintro v _ ⟨rfl, rfl⟩; rw [hB]; simp only [ansI]) | (refine .of ((Delay_spec ⟨B.1, c.y⟩ t _).mono ?_); rintro v _ ⟨rfl, rfl⟩; rw [hD]; simp only [ansI]) | (refine .of ((Delay_spec c U.1 _).mono ?_); rintro v _ ⟨rfl, rfl⟩; rw [hL]; simp only [ansI])
      all_goals exact .back rfl (by (first | with_reducible rfl | (congr 1; first | with_reducible rfl | omega | (rw [Bool.eq_iff_iff]; simp only [decide_eq_true_eq, decide_eq_false_iff_not, beq_iff_eq, bne_iff_ne, beq_eq_false_iff_ne, bne_eq_false_iff_eq, Bool.not_eq_true', Bool.not_eq_false', Bool.not_eq_true, Bool.not_eq_false, Bool.and_eq_true, Bool.or_eq_true, Bool.and_eq_false_iff, Bool.or_eq_false_iff, Int.not_lt, Int.not_le, ne_eq, gt_iff_lt, ge_iff_le, Bool.and_false, Bool.false_and, Bool.or_true, Bool.true_or, Bool.false_eq_true, true_iff, iff_true, false_iff, iff_false, eq_self, not_true_eq_false, not_false_eq_true]; try omega))))
  · have h1' : (U.2 != 0) = true := by simpa using h1
    clear hlaw ho ho2
    repeat' first | simp (disch := first | with_reducible assumption | omega) only [go_sem, Bool.true_and, Bool.and_true, Bool.and_self, Bool.false_and, Bool.and_false, Bool.true_or, Bool.or_true, Bool.false_or, Bool.or_false, ↓reduceIte, Nat.reduceEqDiff, Nat.reduceAdd, Nat.reduceMul, Nat.reduceSub, Nat.reduceBEq, Nat.reduceLeDiff, Nat.reduceLT, Nat.reduceMod, Nat.reduceDiv, Int.reduceToNat, Int.reducePow, Int.reduceMul, Int.reduceAdd, Int.reduceSub, Int.reduceLE, Int.reduceLT, Int.reduceNeg, Int.reduceDiv, Int.reduceMod, Int.reduceEq, Int.reduceBEq, Int.reduceBNe, f7, f7b, f7r0, f7r1, f7r2, f7r3, f7r4, f7r5, f7r6, f7r7, f7r8, f7r9, f7r10, f7r11, Pr.cells, ee] | (refine BrW.of (fun hb => ?_) (fun hb => ?_) <;> (have hb' := hb; try simp only [decide_eq_true_eq, decide_eq_false_iff_not, beq_iff_eq, bne_iff_ne, beq_eq_false_iff_ne, bne_eq_false_iff_eq, Bool.not_eq_true', Bool.not_eq_false', Bool.not_eq_true, Bool.not_eq_false, Bool.and_eq_true, Bool.or_eq_true, Bool.and_eq_false_iff, Bool.or_eq_false_iff, Int.not_lt, Int.not_le, ne_eq, gt_iff_lt, ge_iff_le] at hb') <;> (try (exfalso; omega))) | (refine .of ((alive _).mono ?_); rintro v _ ⟨rfl, rfl⟩) | (refine .of ((Chain_spec s t _).mono ?_); rintro v _ ⟨rfl, rfl⟩; rw [hU]; simp only [ansP, Pr.val]) | (refine .of ((Chain_spec t s _).mono ?_); rintro v _ ⟨rfl, rfl⟩; rw [hcomm]; simp only [ansP, Pr.val]) | (refine .of ((Delay_spec c s _).mono ?_); rintro v _ ⟨rfl, rfl⟩; rw [hA]; simp only [ansI]) | (refine .of ((Backlog_spec c s _).mono ?_); rintro v _ ⟨rfl, rfl⟩; rw [hB]; simp only [ansI]) | (refine .of ((Delay_spec ⟨B.1, c.y⟩ t _).mono ?_); rintro v _ ⟨rfl, rfl⟩; rw [hD]; simp only [ansI]) | (refine .of ((Delay_spec c U.1 _).mono ?_); rintro v _ ⟨rfl, rfl⟩; rw [hL]; simp only [ansI])
    all_goals exact .back rfl (by (first | with_reducible rfl | (congr 1; first | with_reducible rfl | omega | (rw [Bool.eq_iff_iff]; simp only [decide_eq_true_eq, decide_eq_false_iff_not, beq_iff_eq, bne_iff_ne, beq_eq_false_iff_ne, bne_eq_false_iff_eq, Bool.not_eq_true', Bool.not_eq_false', Bool.not_eq_true, Bool.not_eq_false, Bool.and_eq_true, Bool.or_eq_true, Bool.and_eq_false_iff, Bool.or_eq_false_iff, Int.not_lt, Int.not_le, ne_eq, gt_iff_lt, ge_iff_le, Bool.and_false, Bool.false_and, Bool.or_true, Bool.true_or, Bool.false_eq_true, true_iff, iff_true, false_iff, iff_false, eq_self, not_true_eq_false, not_false_eq_true]; try omega))))
end Go.Proofs.Ytbgfplljfiahmaa
