import Derived.Test.YtmbcgelfnbnicaaDoorFns
import Derived.Test.YtmbcgelfnbnicaaDoorLib
import Derived.Test.YtmbcgelfnbnicaaDoorSl
import Derived.Test.YtmbcgelfnbnicaaDoorGpPlain
set_option linter.unusedSimpArgs false
set_option linter.unusedVariables false
set_option maxHeartbeats 2000000
set_option maxRecDepth 20000
set_option maxHeartbeats 1000000
namespace Go.Proofs.YtmbcgelfnbnicaaDoor.Gp
open Go Go.Am
attribute [local irreducible] opsW Ww loopW callW drawW outW outDW gW cW BrW bothW vW resW DropW RdW dcallW altW forkW splitW Later.run

theorem Wrong_spec (bs ws : List Int) (wb ww : Value) (A B : Nat → Prop) (H : Heap) (hb0 : IsN A H wb bs) (hw0 : IsN B H ww ws) (hbl : bs.length ≤ 9223372036854775807) (hwl : ws.length ≤ 9223372036854775807) :
    ACallK Tryd.prog 12 [wb, ww] H (fun v H' => ∃ e, v = .int .i64 e ∧ (e = 0 ↔ okB bs ws) ∧ H' = H) := by
  obtain ⟨k, o, g, c, _, rfl, hs, hc⟩ := hb0
  obtain ⟨k2, o2, g2, c2, _, rfl, hs2, hc2⟩ := hw0
  obtain ⟨ro, cs, hk, hcl, hcs⟩ := Ints.cell hs
  obtain ⟨ro2, cs2, hk2, hcl2, hcs2⟩ := Ints.cell hs2
  refine .walkW f12_ok (by simp; decide) (by decide) ?_
  by_cases h1 : bs.length = ws.length
  · by_cases h2 : bs.length ≤ 16
    · repeat' first | simp (disch := first | with_reducible assumption | omega) only [go_sem, Bool.true_and, Bool.and_true, Bool.and_self, Bool.false_and, Bool.and_false, Bool.true_or, Bool.or_true, Bool.false_or, Bool.or_false, ↓reduceIte, Nat.reduceEqDiff, Nat.reduceAdd, Nat.reduceMul, Nat.reduceSub, Nat.reduceBEq, Nat.reduceLeDiff, Nat.reduceLT, Nat.reduceMod, Nat.reduceDiv, Int.reduceToNat, Int.reducePow, Int.reduceMul, Int.reduceAdd, Int.reduceSub, Int.reduceLE, Int.reduceLT, Int.reduceNeg, Int.reduceDiv, Int.reduceMod, Int.reduceEq, Int.reduceBEq, Int.reduceBNe, f12, f12b, f12r0, f12r1, f12r2, f12r3, f12r4, f12r5, f12r6, f12r7, f12r8, f12r9, f12r10, f12r12, hk, hk2] | (refine BrW.of (fun hb => ?_) (fun hb => ?_) <;> (have hb' := hb; try simp only [decide_eq_true_eq, decide_eq_false_iff_not, beq_iff_eq, bne_iff_ne, beq_eq_false_iff_ne, bne_eq_false_iff_eq, Bool.not_eq_true', Bool.not_eq_false', Bool.not_eq_true, Bool.not_eq_false, Bool.and_eq_true, Bool.or_eq_true, Bool.and_eq_false_iff, Bool.or_eq_false_iff, Int.not_lt, Int.not_le, ne_eq, gt_iff_lt, ge_iff_le] at hb') <;> (try (exfalso; omega))) | (refine altW.of ?_ ?_)
      refine loopW.of (by decide) (fun m e J => ∃ i : Nat, e = [(1, slv k2 o2 g2 ws.length c2), (17, slv k o g bs.length c), (18, .int .i64 bs.length), (19, .int .i64 i)] ∧ J = H ∧ i ≤ bs.length ∧ m = bs.length - i ∧ ∀ q, q < i → (0 ≤ bs.getD q 0 ∧ bs.getD q 0 ≤ 1048576) ∧ 1 ≤ ws.getD q 0 ∧ ws.getD q 0 ≤ 1000) bs.length ⟨0, rfl, rfl, by omega, rfl, fun q hq => by omega⟩ ?_
      rintro m e J ⟨i, rfl, rfl, hi, rfl, hinv⟩
      by_cases hlt : i < bs.length
      · have e0 := hcs i hlt
        have e1 := hcs2 i (by omega)
        have hno : okB bs ws → (0 ≤ bs.getD i 0 ∧ bs.getD i 0 ≤ 1048576) ∧ 1 ≤ ws.getD i 0 ∧ ws.getD i 0 ≤ 1000 := fun h => h.2.2 i hlt
        have hnext : ((0 ≤ bs.getD i 0 ∧ bs.getD i 0 ≤ 1048576) ∧ 1 ≤ ws.getD i 0 ∧ ws.getD i 0 ≤ 1000) → ∀ q, q < i + 1 → (0 ≤ bs.getD q 0 ∧ bs.getD q 0 ≤ 1048576) ∧ 1 ≤ ws.getD q 0 ∧ ws.getD q 0 ≤ 1000 := fun h q hq => by
          by_cases e : q = i
          · subst e; exact h
          · exact hinv q (by omega)
        clear hinv hcs hcs2
        generalize bs.getD i 0 = n at *
        generalize ws.getD i 0 = w at *
        by_cases hg : (0 ≤ n ∧ n ≤ 1048576) ∧ 1 ≤ w ∧ w ≤ 1000
        · have hnext := hnext hg
          clear hno
          obtain ⟨⟨q1, q2⟩, q3, q4⟩ := hg
          repeat' first | simp (disch := first | with_reducible assumption | omega) only [go_sem, Bool.true_and, Bool.and_true, Bool.and_self, Bool.false_and, Bool.and_false, Bool.true_or, Bool.or_true, Bool.false_or, Bool.or_false, ↓reduceIte, Nat.reduceEqDiff, Nat.reduceAdd, Nat.reduceMul, Nat.reduceSub, Nat.reduceBEq, Nat.reduceLeDiff, Nat.reduceLT, Nat.reduceMod, Nat.reduceDiv, Int.reduceToNat, Int.reducePow, Int.reduceMul, Int.reduceAdd, Int.reduceSub, Int.reduceLE, Int.reduceLT, Int.reduceNeg, Int.reduceDiv, Int.reduceMod, Int.reduceEq, Int.reduceBEq, Int.reduceBNe, f12, f12b, f12r0, f12r1, f12r2, f12r3, f12r4, f12r5, f12r6, f12r7, f12r8, f12r9, f12r10, f12r12, f12l0, hk, hk2, e0, e1] | (refine BrW.of (fun hb => ?_) (fun hb => ?_) <;> (have hb' := hb; try simp only [decide_eq_true_eq, decide_eq_false_iff_not, beq_iff_eq, bne_iff_ne, beq_eq_false_iff_ne, bne_eq_false_iff_eq, Bool.not_eq_true', Bool.not_eq_false', Bool.not_eq_true, Bool.not_eq_false, Bool.and_eq_true, Bool.or_eq_true, Bool.and_eq_false_iff, Bool.or_eq_false_iff, Int.not_lt, Int.not_le, ne_eq, gt_iff_lt, ge_iff_le] at hb') <;> (try (exfalso; omega))) | (refine altW.of ?_ ?_)
          refine RdW.keep [1, 17, 18, 19] (bs.length - (i + 1)) (by omega) ?_
          simp (disch := first | with_reducible assumption | omega) only [go_sem, Bool.true_and, Bool.and_true, Bool.and_self, Bool.false_and, Bool.and_false, Bool.true_or, Bool.or_true, Bool.false_or, Bool.or_false, ↓reduceIte, Nat.reduceEqDiff, Nat.reduceAdd, Nat.reduceMul, Nat.reduceSub, Nat.reduceBEq, Nat.reduceLeDiff, Nat.reduceLT, Nat.reduceMod, Nat.reduceDiv, Int.reduceToNat, Int.reducePow, Int.reduceMul, Int.reduceAdd, Int.reduceSub, Int.reduceLE, Int.reduceLT, Int.reduceNeg, Int.reduceDiv, Int.reduceMod, Int.reduceEq, Int.reduceBEq, Int.reduceBNe]
          exact ⟨i + 1, rfl, by omega, rfl, hnext⟩
        · have hno : ¬ okB bs ws := fun h => hg (hno h)
          clear hnext
          have hg' : n < 0 ∨ (0 ≤ n ∧ 1048576 < n) ∨ (0 ≤ n ∧ n ≤ 1048576 ∧ w < 1) ∨ (0 ≤ n ∧ n ≤ 1048576 ∧ 1 ≤ w ∧ 1000 < w) := by omega
          clear hg
          rcases hg' with hg | hg | hg | hg
          · repeat' first | simp (disch := first | with_reducible assumption | omega) only [go_sem, Bool.true_and, Bool.and_true, Bool.and_self, Bool.false_and, Bool.and_false, Bool.true_or, Bool.or_true, Bool.false_or, Bool.or_false, ↓reduceIte, Nat.reduceEqDiff, Nat.reduceAdd, Nat.reduceMul, Nat.reduceSub, Nat.reduceBEq, Nat.reduceLeDiff, Nat.reduceLT, Nat.reduceMod, Nat.reduceDiv, Int.reduceToNat, Int.reducePow, Int.reduceMul, Int.reduceAdd, Int.reduceSub, Int.reduceLE, Int.reduceLT, Int.reduceNeg, Int.reduceDiv, Int.reduceMod, Int.reduceEq, Int.reduceBEq, Int.reduceBNe, f12, f12b, f12r0, f12r1, f12r2, f12r3, f12r4, f12r5, f12r6, f12r7, f12r8, f12r9, f12r10, f12r12, f12l0, f12, f12b, f12r0, f12r1, f12r2, f12r3, f12r4, f12r5, f12r6, f12r7, f12r8, f12r9, f12r10, f12r12, hk, hk2, e0, e1] | (refine BrW.of (fun hb => ?_) (fun hb => ?_) <;> (have hb' := hb; try simp only [decide_eq_true_eq, decide_eq_false_iff_not, beq_iff_eq, bne_iff_ne, beq_eq_false_iff_ne, bne_eq_false_iff_eq, Bool.not_eq_true', Bool.not_eq_false', Bool.not_eq_true, Bool.not_eq_false, Bool.and_eq_true, Bool.or_eq_true, Bool.and_eq_false_iff, Bool.or_eq_false_iff, Int.not_lt, Int.not_le, ne_eq, gt_iff_lt, ge_iff_le] at hb') <;> (try (exfalso; omega))) | (refine altW.of ?_ ?_)
            all_goals exact .here ⟨2, rfl, ⟨fun h => by omega, fun h => absurd h hno⟩, rfl⟩
          · repeat' first | simp (disch := first | with_reducible assumption | omega) only [go_sem, Bool.true_and, Bool.and_true, Bool.and_self, Bool.false_and, Bool.and_false, Bool.true_or, Bool.or_true, Bool.false_or, Bool.or_false, ↓reduceIte, Nat.reduceEqDiff, Nat.reduceAdd, Nat.reduceMul, Nat.reduceSub, Nat.reduceBEq, Nat.reduceLeDiff, Nat.reduceLT, Nat.reduceMod, Nat.reduceDiv, Int.reduceToNat, Int.reducePow, Int.reduceMul, Int.reduceAdd, Int.reduceSub, Int.reduceLE, Int.reduceLT, Int.reduceNeg, Int.reduceDiv, Int.reduceMod, Int.reduceEq, Int.reduceBEq, Int.reduceBNe, f12, f12b, f12r0, f12r1, f12r2, f12r3, f12r4, f12r5, f12r6, f12r7, f12r8, f12r9, f12r10, f12r12, f12l0, f12, f12b, f12r0, f12r1, f12r2, f12r3, f12r4, f12r5, f12r6, f12r7, f12r8, f12r9, f12r10, f12r12, hk, hk2, e0, e1] | (refine BrW.of (fun hb => ?_) (fun hb => ?_) <;> (have hb' := hb; try simp only [decide_eq_true_eq, decide_eq_false_iff_not, beq_iff_eq, bne_iff_ne, beq_eq_false_iff_ne, bne_eq_false_iff_eq, Bool.not_eq_true', Bool.not_eq_false', Bool.not_eq_true, Bool.not_eq_false, Bool.and_eq_true, Bool.or_eq_true, Bool.and_eq_false_iff, Bool.or_eq_false_iff, Int.not_lt, Int.not_le, ne_eq, gt_iff_lt, ge_iff_le] at hb') <;> (try (exfalso; omega))) | (refine altW.of ?_ ?_)
            all_goals exact .here ⟨2, rfl, ⟨fun h => by omega, fun h => absurd h hno⟩, rfl⟩
          · repeat' first | simp (disch := first | with_reducible assumption | omega) only [go_sem, Bool.true_and, Bool.and_true, Bool.and_self, Bool.false_and, Bool.and_false, Bool.true_or, Bool.or_true, Bool.false_or, Bool.or_false, ↓reduceIte, Nat.reduceEqDiff, Nat.reduceAdd, Nat.reduceMul, Nat.reduceSub, Nat.reduceBEq, Nat.reduceLeDiff, Nat.reduceLT, Nat.reduceMod, Nat.reduceDiv, Int.reduceToNat, Int.reducePow, Int.reduceMul, Int.reduceAdd, Int.reduceSub, Int.reduceLE, Int.reduceLT, Int.reduceNeg, Int.reduceDiv, Int.reduceMod, Int.reduceEq, Int.reduceBEq, Int.reduceBNe, f12, f12b, f12r0, f12r1, f12r2, f12r3, f12r4, f12r5, f12r6, f12r7, f12r8, f12r9, f12r10, f12r12, f12l0, f12, f12b, f12r0, f12r1, f12r2, f12r3, f12r4, f12r5, f12r6, f12r7, f12r8, f12r9, f12r10, f12r12, hk, hk2, e0, e1] | (refine BrW.of (fun hb => ?_) (fun hb => ?_) <;> (have hb' := hb; try simp only [decide_eq_true_eq, decide_eq_false_iff_not, beq_iff_eq, bne_iff_ne, beq_eq_false_iff_ne, bne_eq_false_iff_eq, Bool.not_eq_true', Bool.not_eq_false', Bool.not_eq_true, Bool.not_eq_false, Bool.and_eq_true, Bool.or_eq_true, Bool.and_eq_false_iff, Bool.or_eq_false_iff, Int.not_lt, Int.not_le, ne_eq, gt_iff_lt, ge_iff_le] at hb') <;> (try (exfalso; omega))) | (refine altW.of ?_ ?_)
            all_goals exact .here ⟨2, rfl, ⟨fun h => by omega, fun h => absurd h hno⟩, rfl⟩
          · repeat' first | simp (disch := first | with_reducible assumption | omega) only [go_sem, Bool.true_and, Bool.and_true, Bool.and_self, Bool.false_and, Bool.and_false, Bool.true_or, Bool.or_true, Bool.false_or, Bool.or_false, ↓reduceIte, Nat.reduceEqDiff, Nat.reduceAdd, Nat.reduceMul, Nat.reduceSub, Nat.reduceBEq, Nat.reduceLeDiff, Nat.reduceLT, Nat.reduceMod, Nat.reduceDiv, Int.reduceToNat, Int.reducePow, Int.reduceMul, Int.reduceAdd, Int.reduceSub, Int.reduceLE, Int.reduceLT, Int.reduceNeg, Int.reduceDiv, Int.reduceMod, Int.reduceEq, Int.reduceBEq, Int.reduceBNe, f12, f12b, f12r0, f12r1, f12r2, f12r3, f12r4, f12r5, f12r6, f12r7, f12r8, f12r9, f12r10, f12r12, f12l0, f12, f12b, f12r0, f12r1, f12r2, f12r3, f12r4, f12r5, f12r6, f12r7, f12r8, f12r9, f12r10, f12r12, hk, hk2, e0, e1] | (refine BrW.of (fun hb => ?_) (fun hb => ?_) <;> (have hb' := hb; try simp only [decide_eq_true_eq, decide_eq_false_iff_not, beq_iff_eq, bne_iff_ne, beq_eq_false_iff_ne, bne_eq_false_iff_eq, Bool.not_eq_true', Bool.not_eq_false', Bool.not_eq_true, Bool.not_eq_false, Bool.and_eq_true, Bool.or_eq_true, Bool.and_eq_false_iff, Bool.or_eq_false_iff, Int.not_lt, Int.not_le, ne_eq, gt_iff_lt, ge_iff_le] at hb') <;> (try (exfalso; omega))) | (refine altW.of ?_ ?_)
            all_goals exact .here ⟨2, rfl, ⟨fun h => by omega, fun h => absurd h hno⟩, rfl⟩
      · obtain rfl : i = bs.length := by omega
        have hok : okB bs ws := ⟨h1, h2, hinv⟩
        clear hinv hcs hcs2
        repeat' first | simp (disch := first | with_reducible assumption | omega) only [go_sem, Bool.true_and, Bool.and_true, Bool.and_self, Bool.false_and, Bool.and_false, Bool.true_or, Bool.or_true, Bool.false_or, Bool.or_false, ↓reduceIte, Nat.reduceEqDiff, Nat.reduceAdd, Nat.reduceMul, Nat.reduceSub, Nat.reduceBEq, Nat.reduceLeDiff, Nat.reduceLT, Nat.reduceMod, Nat.reduceDiv, Int.reduceToNat, Int.reducePow, Int.reduceMul, Int.reduceAdd, Int.reduceSub, Int.reduceLE, Int.reduceLT, Int.reduceNeg, Int.reduceDiv, Int.reduceMod, Int.reduceEq, Int.reduceBEq, Int.reduceBNe, f12, f12b, f12r0, f12r1, f12r2, f12r3, f12r4, f12r5, f12r6, f12r7, f12r8, f12r9, f12r10, f12r12, f12l0, f12, f12b, f12r0, f12r1, f12r2, f12r3, f12r4, f12r5, f12r6, f12r7, f12r8, f12r9, f12r10, f12r12] | (refine BrW.of (fun hb => ?_) (fun hb => ?_) <;> (have hb' := hb; try simp only [decide_eq_true_eq, decide_eq_false_iff_not, beq_iff_eq, bne_iff_ne, beq_eq_false_iff_ne, bne_eq_false_iff_eq, Bool.not_eq_true', Bool.not_eq_false', Bool.not_eq_true, Bool.not_eq_false, Bool.and_eq_true, Bool.or_eq_true, Bool.and_eq_false_iff, Bool.or_eq_false_iff, Int.not_lt, Int.not_le, ne_eq, gt_iff_lt, ge_iff_le] at hb') <;> (try (exfalso; omega))) | (refine altW.of ?_ ?_)
        exact .here ⟨0, rfl, ⟨fun _ => hok, fun _ => rfl⟩, rfl⟩
    · have hno : ¬ okB bs ws := fun h => h2 h.2.1
      repeat' first | simp (disch := first | with_reducible assumption | omega) only [go_sem, Bool.true_and, Bool.and_true, Bool.and_self, Bool.false_and, Bool.and_false, Bool.true_or, Bool.or_true, Bool.false_or, Bool.or_false, ↓reduceIte, Nat.reduceEqDiff, Nat.reduceAdd, Nat.reduceMul, Nat.reduceSub, Nat.reduceBEq, Nat.reduceLeDiff, Nat.reduceLT, Nat.reduceMod, Nat.reduceDiv, Int.reduceToNat, Int.reducePow, Int.reduceMul, Int.reduceAdd, Int.reduceSub, Int.reduceLE, Int.reduceLT, Int.reduceNeg, Int.reduceDiv, Int.reduceMod, Int.reduceEq, Int.reduceBEq, Int.reduceBNe, f12, f12b, f12r0, f12r1, f12r2, f12r3, f12r4, f12r5, f12r6, f12r7, f12r8, f12r9, f12r10, f12r12, hk, hk2] | (refine BrW.of (fun hb => ?_) (fun hb => ?_) <;> (have hb' := hb; try simp only [decide_eq_true_eq, decide_eq_false_iff_not, beq_iff_eq, bne_iff_ne, beq_eq_false_iff_ne, bne_eq_false_iff_eq, Bool.not_eq_true', Bool.not_eq_false', Bool.not_eq_true, Bool.not_eq_false, Bool.and_eq_true, Bool.or_eq_true, Bool.and_eq_false_iff, Bool.or_eq_false_iff, Int.not_lt, Int.not_le, ne_eq, gt_iff_lt, ge_iff_le] at hb') <;> (try (exfalso; omega))) | (refine altW.of ?_ ?_)
      all_goals exact .here ⟨2, rfl, ⟨fun h => by omega, fun h => absurd h hno⟩, rfl⟩
  · have hno : ¬ okB bs ws := fun h => h1 h.1
    repeat' first | simp (disch := first | with_reducible assumption | omega) only [go_sem, Bool.true_and, Bool.and_true, Bool.and_self, Bool.false_and, Bool.and_false, Bool.true_or, Bool.or_true, Bool.false_or, Bool.or_false, ↓reduceIte, Nat.reduceEqDiff, Nat.reduceAdd, Nat.reduceMul, Nat.reduceSub, Nat.reduceBEq, Nat.reduceLeDiff, Nat.reduceLT, Nat.reduceMod, Nat.reduceDiv, Int.reduceToNat, Int.reducePow, Int.reduceMul, Int.reduceAdd, Int.reduceSub, Int.reduceLE, Int.reduceLT, Int.reduceNeg, Int.reduceDiv, Int.reduceMod, Int.reduceEq, Int.reduceBEq, Int.reduceBNe, f12, f12b, f12r0, f12r1, f12r2, f12r3, f12r4, f12r5, f12r6, f12r7, f12r8, f12r9, f12r10, f12r12, hk, hk2] | (refine BrW.of (fun hb => ?_) (fun hb => ?_) <;> (have hb' := hb; try simp only [decide_eq_true_eq, decide_eq_false_iff_not, beq_iff_eq, bne_iff_ne, beq_eq_false_iff_ne, bne_eq_false_iff_eq, Bool.not_eq_true', Bool.not_eq_false', Bool.not_eq_true, Bool.not_eq_false, Bool.and_eq_true, Bool.or_eq_true, Bool.and_eq_false_iff, Bool.or_eq_false_iff, Int.not_lt, Int.not_le, ne_eq, gt_iff_lt, ge_iff_le] at hb') <;> (try (exfalso; omega))) | (refine altW.of ?_ ?_)
    all_goals exact .here ⟨1, rfl, ⟨fun h => by omega, fun h => absurd h hno⟩, rfl⟩

theorem End_spec (bs ws : List Int) (wb ww : Value) (A B : Nat → Prop) (H : Heap) (hb0 : IsN A H wb bs) (hw0 : IsN B H ww ws) (hbl : bs.length ≤ 9223372036854775807) (hwl : ws.length ≤ 9223372036854775807) :
    ACallK Tryd.prog 30 [wb, ww] H (fun v H' => ∃ a e, v = .tuple #[a, .int .i64 e] ∧ Le H H' ∧ (e = 0 ↔ okB bs ws) ∧ (e ≠ 0 → a = .slice none 0 0) ∧ (e = 0 → IsN (H.length ≤ ·) H' a (tbE bs ws bs.length))) := by
  have hW := Wrong_spec bs ws wb ww A B H hb0 hw0 hbl hwl
  obtain ⟨k, o, g, c, _, rfl, hs, hc⟩ := hb0
  obtain ⟨k2, o2, g2, c2, _, rfl, hs2, hc2⟩ := hw0
  obtain ⟨ro, cs, hk, hcl, hcs⟩ := Ints.cell hs
  obtain ⟨ro2, cs2, hk2, hcl2, hcs2⟩ := Ints.cell hs2
  refine .walkW f30_ok (by simp; decide) (by decide) ?_
  by_cases hok : okB bs ws
  · have hl16 := hok.2.1
    have hll := hok.1
    repeat' first | simp (disch := first | with_reducible assumption | omega) only [go_sem, Bool.true_and, Bool.and_true, Bool.and_self, Bool.false_and, Bool.and_false, Bool.true_or, Bool.or_true, Bool.false_or, Bool.or_false, ↓reduceIte, Nat.reduceEqDiff, Nat.reduceAdd, Nat.reduceMul, Nat.reduceSub, Nat.reduceBEq, Nat.reduceLeDiff, Nat.reduceLT, Nat.reduceMod, Nat.reduceDiv, Int.reduceToNat, Int.reducePow, Int.reduceMul, Int.reduceAdd, Int.reduceSub, Int.reduceLE, Int.reduceLT, Int.reduceNeg, Int.reduceDiv, Int.reduceMod, Int.reduceEq, Int.reduceBEq, Int.reduceBNe, f30, f30b, f30r0, f30r1, f30r2, f30r3, f30r4, f30r5, f30r6, f30r7, f30r8, f30r9, f30r10, f30r11, f30r12, f30r13, f30r15, f30r16, f30r18, hk] | (refine BrW.of (fun hb => ?_) (fun hb => ?_) <;> (have hb' := hb; try simp only [decide_eq_true_eq, decide_eq_false_iff_not, beq_iff_eq, bne_iff_ne, beq_eq_false_iff_ne, bne_eq_false_iff_eq, Bool.not_eq_true', Bool.not_eq_false', Bool.not_eq_true, Bool.not_eq_false, Bool.and_eq_true, Bool.or_eq_true, Bool.and_eq_false_iff, Bool.or_eq_false_iff, Int.not_lt, Int.not_le, ne_eq, gt_iff_lt, ge_iff_le] at hb') <;> (try (exfalso; omega))) | (refine altW.of ?_ ?_) | (refine .of (hW.mono ?_); rintro v H ⟨e, rfl, he, rfl⟩; obtain rfl := he.2 hok)
    refine loopW.ghost 7 1 rfl ?_
    simp (disch := first | with_reducible assumption | omega) only [go_sem, Bool.true_and, Bool.and_true, Bool.and_self, Bool.false_and, Bool.and_false, Bool.true_or, Bool.or_true, Bool.false_or, Bool.or_false, ↓reduceIte, Nat.reduceEqDiff, Nat.reduceAdd, Nat.reduceMul, Nat.reduceSub, Nat.reduceBEq, Nat.reduceLeDiff, Nat.reduceLT, Nat.reduceMod, Nat.reduceDiv, Int.reduceToNat, Int.reducePow, Int.reduceMul, Int.reduceAdd, Int.reduceSub, Int.reduceLE, Int.reduceLT, Int.reduceNeg, Int.reduceDiv, Int.reduceMod, Int.reduceEq, Int.reduceBEq, Int.reduceBNe]
    refine loopW.of (by decide) (fun m e J => ∃ (i gg : Nat) (x : Heap), e = [(0, slv k o g bs.length c), (1, slv k2 o2 g2 ws.length c2), (7, slv H.length 0 gg i i), (19, slv k o g bs.length c), (20, .int .i64 bs.length), (21, .int .i64 i)] ∧
      J = H ++ (.cells gg 1 false (ints (tbE bs ws i)) :: x) ∧ i ≤ bs.length ∧ m = bs.length - i) bs.length ⟨0, 0, [], rfl, rfl, by omega, rfl⟩ ?_
    rintro m e J ⟨i, gg, x, rfl, rfl, hi, rfl⟩
    by_cases hlt : i < bs.length
    · have e0 := hcs i hlt
      have e1 := hcs2 i (by omega)
      have ht := tbE_succ bs ws i
      have htl := tbE_len bs ws i
      have hpi := hok.2.2 i hlt
      have il := ints_length (tbE bs ws i)
      have it := ints_take (tbE bs ws i) i (by omega)
      have is := ints_snoc (tbE bs ws i) (endK bs ws i)
      rw [← ht] at is
      rw [htl] at il
      have hE : endK bs ws i = endR (bs.getD i 0) (ws.getD i 0) bs ws bs.length := rfl
      have hni : ¬ i + 1 ≤ i := by omega
      have hbR := fun j hj => endR_bound hok hpi.1 hpi.2 j hj
      clear ht
      generalize hX1 : ints (tbE bs ws i) = X1 at *
      generalize hX2 : ints (tbE bs ws (i + 1)) = X2 at *
      clear hX1
      rw [hE] at is
      clear hE
      generalize bs.getD i 0 = n at *
      generalize ws.getD i 0 = v at *
      repeat' first | simp (disch := first | with_reducible assumption | omega) only [go_sem, Bool.true_and, Bool.and_true, Bool.and_self, Bool.false_and, Bool.and_false, Bool.true_or, Bool.or_true, Bool.false_or, Bool.or_false, ↓reduceIte, Nat.reduceEqDiff, Nat.reduceAdd, Nat.reduceMul, Nat.reduceSub, Nat.reduceBEq, Nat.reduceLeDiff, Nat.reduceLT, Nat.reduceMod, Nat.reduceDiv, Int.reduceToNat, Int.reducePow, Int.reduceMul, Int.reduceAdd, Int.reduceSub, Int.reduceLE, Int.reduceLT, Int.reduceNeg, Int.reduceDiv, Int.reduceMod, Int.reduceEq, Int.reduceBEq, Int.reduceBNe, f30, f30b, f30r0, f30r1, f30r2, f30r3, f30r4, f30r5, f30r6, f30r7, f30r8, f30r9, f30r10, f30r11, f30r12, f30r13, f30r15, f30r16, f30r18, f30l1, hk, get_old hk, e0] | (refine BrW.of (fun hb => ?_) (fun hb => ?_) <;> (have hb' := hb; try simp only [decide_eq_true_eq, decide_eq_false_iff_not, beq_iff_eq, bne_iff_ne, beq_eq_false_iff_ne, bne_eq_false_iff_eq, Bool.not_eq_true', Bool.not_eq_false', Bool.not_eq_true, Bool.not_eq_false, Bool.and_eq_true, Bool.or_eq_true, Bool.and_eq_false_iff, Bool.or_eq_false_iff, Int.not_lt, Int.not_le, ne_eq, gt_iff_lt, ge_iff_le] at hb') <;> (try (exfalso; omega))) | (refine altW.of ?_ ?_)
      refine loopW.of (by decide) (fun m e J => ∃ (j : Nat), e = [(0, slv k o g bs.length c), (1, slv k2 o2 g2 ws.length c2), (7, slv H.length 0 gg i i), (8, .int .i64 i), (9, .int .i64 n), (10, .int .i64 (endR n v bs ws j)), (19, slv k o g bs.length c), (20, .int .i64 bs.length), (21, .int .i64 i), (26, slv k o g bs.length c), (27, .int .i64 bs.length), (28, .int .i64 j)] ∧
        J = H ++ (.cells gg 1 false X1 :: x) ∧ j ≤ bs.length ∧ m = bs.length - j) bs.length ⟨0, rfl, rfl, by omega, rfl⟩ ?_
      rintro m e J ⟨j, rfl, rfl, hj, rfl⟩
      by_cases hlj : j < bs.length
      · have f0 := hcs j hlj
        have f1 := hcs2 j (by omega)
        have hpj := hok.2.2 j hlj
        have b1 := hbR j (by omega)
        have hst : endR n v bs ws (j + 1) = endR n v bs ws j + min (bs.getD j 0 * v) (n * ws.getD j 0) := rfl
        clear hbR hcs hcs2
        generalize endR n v bs ws j = Z at *
        generalize bs.getD j 0 = m at *
        generalize ws.getD j 0 = w at *
        have m1 := mul_bound hpj.1.1 hpj.1.2 (show 0 ≤ v by omega) hpi.2.2
        have m2 := mul_bound hpi.1.1 hpi.1.2 (show 0 ≤ w by omega) hpj.2.2
        repeat' first | simp (disch := first | with_reducible assumption | omega) only [go_sem, Bool.true_and, Bool.and_true, Bool.and_self, Bool.false_and, Bool.and_false, Bool.true_or, Bool.or_true, Bool.false_or, Bool.or_false, ↓reduceIte, Nat.reduceEqDiff, Nat.reduceAdd, Nat.reduceMul, Nat.reduceSub, Nat.reduceBEq, Nat.reduceLeDiff, Nat.reduceLT, Nat.reduceMod, Nat.reduceDiv, Int.reduceToNat, Int.reducePow, Int.reduceMul, Int.reduceAdd, Int.reduceSub, Int.reduceLE, Int.reduceLT, Int.reduceNeg, Int.reduceDiv, Int.reduceMod, Int.reduceEq, Int.reduceBEq, Int.reduceBNe, f30, f30b, f30r0, f30r1, f30r2, f30r3, f30r4, f30r5, f30r6, f30r7, f30r8, f30r9, f30r10, f30r11, f30r12, f30r13, f30r15, f30r16, f30r18, f30l0, hk, get_old hk, hk2, get_old hk2, e1, f0, f1] | (refine BrW.of (fun hb => ?_) (fun hb => ?_) <;> (have hb' := hb; try simp only [decide_eq_true_eq, decide_eq_false_iff_not, beq_iff_eq, bne_iff_ne, beq_eq_false_iff_ne, bne_eq_false_iff_eq, Bool.not_eq_true', Bool.not_eq_false', Bool.not_eq_true, Bool.not_eq_false, Bool.and_eq_true, Bool.or_eq_true, Bool.and_eq_false_iff, Bool.or_eq_false_iff, Int.not_lt, Int.not_le, ne_eq, gt_iff_lt, ge_iff_le] at hb') <;> (try (exfalso; omega))) | (refine altW.of ?_ ?_)
        refine RdW.keep [0, 1, 7, 8, 9, 10, 19, 20, 21, 26, 27, 28] (bs.length - (j + 1)) (by omega) ?_
        simp (disch := first | with_reducible assumption | omega) only [go_sem, Bool.true_and, Bool.and_true, Bool.and_self, Bool.false_and, Bool.and_false, Bool.true_or, Bool.or_true, Bool.false_or, Bool.or_false, ↓reduceIte, Nat.reduceEqDiff, Nat.reduceAdd, Nat.reduceMul, Nat.reduceSub, Nat.reduceBEq, Nat.reduceLeDiff, Nat.reduceLT, Nat.reduceMod, Nat.reduceDiv, Int.reduceToNat, Int.reducePow, Int.reduceMul, Int.reduceAdd, Int.reduceSub, Int.reduceLE, Int.reduceLT, Int.reduceNeg, Int.reduceDiv, Int.reduceMod, Int.reduceEq, Int.reduceBEq, Int.reduceBNe]
        exact ⟨j + 1, by rw [hst]; rfl, by omega, rfl⟩
      · obtain rfl : j = bs.length := by omega
        clear hbR hcs hcs2
        generalize endR n v bs ws bs.length = Z at *
        repeat' first | simp (disch := first | with_reducible assumption | omega) only [go_sem, Bool.true_and, Bool.and_true, Bool.and_self, Bool.false_and, Bool.and_false, Bool.true_or, Bool.or_true, Bool.false_or, Bool.or_false, ↓reduceIte, Nat.reduceEqDiff, Nat.reduceAdd, Nat.reduceMul, Nat.reduceSub, Nat.reduceBEq, Nat.reduceLeDiff, Nat.reduceLT, Nat.reduceMod, Nat.reduceDiv, Int.reduceToNat, Int.reducePow, Int.reduceMul, Int.reduceAdd, Int.reduceSub, Int.reduceLE, Int.reduceLT, Int.reduceNeg, Int.reduceDiv, Int.reduceMod, Int.reduceEq, Int.reduceBEq, Int.reduceBNe, f30, f30b, f30r0, f30r1, f30r2, f30r3, f30r4, f30r5, f30r6, f30r7, f30r8, f30r9, f30r10, f30r11, f30r12, f30r13, f30r15, f30r16, f30r18, f30l0, f30, f30b, f30r0, f30r1, f30r2, f30r3, f30r4, f30r5, f30r6, f30r7, f30r8, f30r9, f30r10, f30r11, f30r12, f30r13, f30r15, f30r16, f30r18, f30l1, il, it, is, hni] | (refine BrW.of (fun hb => ?_) (fun hb => ?_) <;> (have hb' := hb; try simp only [decide_eq_true_eq, decide_eq_false_iff_not, beq_iff_eq, bne_iff_ne, beq_eq_false_iff_ne, bne_eq_false_iff_eq, Bool.not_eq_true', Bool.not_eq_false', Bool.not_eq_true, Bool.not_eq_false, Bool.and_eq_true, Bool.or_eq_true, Bool.and_eq_false_iff, Bool.or_eq_false_iff, Int.not_lt, Int.not_le, ne_eq, gt_iff_lt, ge_iff_le] at hb') <;> (try (exfalso; omega))) | (refine altW.of ?_ ?_)
        refine RdW.keep [0, 1, 7, 19, 20, 21] (bs.length - (i + 1)) (by omega) ?_
        simp (disch := first | with_reducible assumption | omega) only [go_sem, Bool.true_and, Bool.and_true, Bool.and_self, Bool.false_and, Bool.and_false, Bool.true_or, Bool.or_true, Bool.false_or, Bool.or_false, ↓reduceIte, Nat.reduceEqDiff, Nat.reduceAdd, Nat.reduceMul, Nat.reduceSub, Nat.reduceBEq, Nat.reduceLeDiff, Nat.reduceLT, Nat.reduceMod, Nat.reduceDiv, Int.reduceToNat, Int.reducePow, Int.reduceMul, Int.reduceAdd, Int.reduceSub, Int.reduceLE, Int.reduceLT, Int.reduceNeg, Int.reduceDiv, Int.reduceMod, Int.reduceEq, Int.reduceBEq, Int.reduceBNe]
        exact ⟨i + 1, gg + 1, _, rfl, by rw [hX2], by omega, rfl⟩
    · obtain rfl : i = bs.length := by omega
      repeat' first | simp (disch := first | with_reducible assumption | omega) only [go_sem, Bool.true_and, Bool.and_true, Bool.and_self, Bool.false_and, Bool.and_false, Bool.true_or, Bool.or_true, Bool.false_or, Bool.or_false, ↓reduceIte, Nat.reduceEqDiff, Nat.reduceAdd, Nat.reduceMul, Nat.reduceSub, Nat.reduceBEq, Nat.reduceLeDiff, Nat.reduceLT, Nat.reduceMod, Nat.reduceDiv, Int.reduceToNat, Int.reducePow, Int.reduceMul, Int.reduceAdd, Int.reduceSub, Int.reduceLE, Int.reduceLT, Int.reduceNeg, Int.reduceDiv, Int.reduceMod, Int.reduceEq, Int.reduceBEq, Int.reduceBNe, f30, f30b, f30r0, f30r1, f30r2, f30r3, f30r4, f30r5, f30r6, f30r7, f30r8, f30r9, f30r10, f30r11, f30r12, f30r13, f30r15, f30r16, f30r18, f30l1, f30, f30b, f30r0, f30r1, f30r2, f30r3, f30r4, f30r5, f30r6, f30r7, f30r8, f30r9, f30r10, f30r11, f30r12, f30r13, f30r15, f30r16, f30r18] | (refine BrW.of (fun hb => ?_) (fun hb => ?_) <;> (have hb' := hb; try simp only [decide_eq_true_eq, decide_eq_false_iff_not, beq_iff_eq, bne_iff_ne, beq_eq_false_iff_ne, bne_eq_false_iff_eq, Bool.not_eq_true', Bool.not_eq_false', Bool.not_eq_true, Bool.not_eq_false, Bool.and_eq_true, Bool.or_eq_true, Bool.and_eq_false_iff, Bool.or_eq_false_iff, Int.not_lt, Int.not_le, ne_eq, gt_iff_lt, ge_iff_le] at hb') <;> (try (exfalso; omega))) | (refine altW.of ?_ ?_)
      have htl := tbE_len bs ws bs.length
      exact .here ⟨_, 0, rfl, .app _ _, ⟨fun _ => hok, fun _ => rfl⟩, fun h => absurd rfl h, fun _ => ⟨H.length, 0, gg, bs.length, Nat.le_refl _, by rw [htl], Ints.new _ _ _ false _ (get_new0 _ _ _), by omega⟩⟩
  · repeat' first | simp (disch := first | with_reducible assumption | omega) only [go_sem, Bool.true_and, Bool.and_true, Bool.and_self, Bool.false_and, Bool.and_false, Bool.true_or, Bool.or_true, Bool.false_or, Bool.or_false, ↓reduceIte, Nat.reduceEqDiff, Nat.reduceAdd, Nat.reduceMul, Nat.reduceSub, Nat.reduceBEq, Nat.reduceLeDiff, Nat.reduceLT, Nat.reduceMod, Nat.reduceDiv, Int.reduceToNat, Int.reducePow, Int.reduceMul, Int.reduceAdd, Int.reduceSub, Int.reduceLE, Int.reduceLT, Int.reduceNeg, Int.reduceDiv, Int.reduceMod, Int.reduceEq, Int.reduceBEq, Int.reduceBNe, f30, f30b, f30r0, f30r1, f30r2, f30r3, f30r4, f30r5, f30r6, f30r7, f30r8, f30r9, f30r10, f30r11, f30r12, f30r13, f30r15, f30r16, f30r18, hk] | (refine BrW.of (fun hb => ?_) (fun hb => ?_) <;> (have hb' := hb; try simp only [decide_eq_true_eq, decide_eq_false_iff_not, beq_iff_eq, bne_iff_ne, beq_eq_false_iff_ne, bne_eq_false_iff_eq, Bool.not_eq_true', Bool.not_eq_false', Bool.not_eq_true, Bool.not_eq_false, Bool.and_eq_true, Bool.or_eq_true, Bool.and_eq_false_iff, Bool.or_eq_false_iff, Int.not_lt, Int.not_le, ne_eq, gt_iff_lt, ge_iff_le] at hb') <;> (try (exfalso; omega))) | (refine altW.of ?_ ?_) | (refine .of (hW.mono ?_); rintro v H ⟨e, rfl, he, rfl⟩; have hne : (e != 0) = true := by simpa using fun h => hok (he.1 h))
    all_goals first | exact .here ⟨_, _, rfl, .refl _, ⟨fun h => absurd (he.1 h) hok, fun h => absurd h hok⟩, fun _ => rfl, fun h => absurd (he.1 h) hok⟩ | (exfalso; exact hok (he.1 (by simpa using hb')))


/-- Sorting by insertion, with a function of two captured variables. -/
theorem Ins_spec (f : FuncId) (u1 u2 : Value) (G : Heap) (cf : Int → Int → Int) (D : Int → Prop) (ho : Swo D fun x y => decide (cf x y < 0)) (l : List Int) (hD : ∀ x ∈ l, D x) (hlen : l.length ≤ 9223372036854775806) (Q : List Int → Prop) (hQ0 : Q l) (hQ : ∀ (L : List Int) (j : Nat), j + 1 < L.length → cf (L.getD (j + 1) 0) (L.getD j 0) < 0 → Q L → Q (swapD L j))
    (hc : ∀ x y L, D x → D y → ACallK Tryd.prog f [.int .i64 x, .int .i64 y, u1, u2] (G ++ [.cells 0 1 false (ints L)]) (fun v H' => v = .int .i64 (cf x y) ∧ H' = G ++ [.cells 0 1 false (ints L)])) :
    ACallK Tryd.prog 56 [slv G.length 0 0 l.length l.length, .int .i64 0, .int .i64 l.length, .func (.func f) #[] #[u1, u2]] (G ++ [.cells 0 1 false (ints l)]) (fun v H' => v = .tuple #[] ∧ ∃ L, H' = G ++ [.cells 0 1 false (ints L)] ∧ Sorts (fun x y => decide (cf x y < 0)) l L ∧ Q L) := by
  refine .walkW f56_ok (by simp; decide) (by decide) ?_
  repeat' first | simp (disch := first | with_reducible assumption | omega) only [go_sem, Bool.true_and, Bool.and_true, Bool.and_self, Bool.false_and, Bool.and_false, Bool.true_or, Bool.or_true, Bool.false_or, Bool.or_false, ↓reduceIte, Nat.reduceEqDiff, Nat.reduceAdd, Nat.reduceMul, Nat.reduceSub, Nat.reduceBEq, Nat.reduceLeDiff, Nat.reduceLT, Nat.reduceMod, Nat.reduceDiv, Int.reduceToNat, Int.reducePow, Int.reduceMul, Int.reduceAdd, Int.reduceSub, Int.reduceLE, Int.reduceLT, Int.reduceNeg, Int.reduceDiv, Int.reduceMod, Int.reduceEq, Int.reduceBEq, Int.reduceBNe, f56, f56b, f56r0, f56r1, f56r2, f56r3, f56r4, f56r5, f56r7] | (refine BrW.of (fun hb => ?_) (fun hb => ?_) <;> (have hb' := hb; try simp only [decide_eq_true_eq, decide_eq_false_iff_not, beq_iff_eq, bne_iff_ne, beq_eq_false_iff_ne, bne_eq_false_iff_eq, Bool.not_eq_true', Bool.not_eq_false', Bool.not_eq_true, Bool.not_eq_false, Bool.and_eq_true, Bool.or_eq_true, Bool.and_eq_false_iff, Bool.or_eq_false_iff, Int.not_lt, Int.not_le, ne_eq, gt_iff_lt, ge_iff_le] at hb') <;> (try (exfalso; omega))) | (refine altW.of ?_ ?_)
  refine loopW.of (by decide) (fun m e J => ∃ (i : Nat) (L : List Int), e = [(0, slv G.length 0 0 l.length l.length), (1, .int .i64 0), (2, .int .i64 l.length), (3, .func (.func f) #[] #[u1, u2]), (8, .int .i64 i)] ∧ J = G ++ [.cells 0 1 false (ints L)] ∧ L.Perm l ∧ sortedTo (fun x y => decide (cf x y < 0)) L i ∧ Q L ∧ 1 ≤ i ∧ i ≤ l.length + 1 ∧ m = l.length + 1 - i) l.length
    ⟨1, l, rfl, rfl, .refl _, fun p q h1 h2 => by omega, hQ0, by omega, by omega, by omega⟩ ?_
  rintro m e J ⟨i, L, rfl, rfl, hp, hs, hq, hi1, hi, rfl⟩
  have hpl := hp.length_eq
  by_cases hlt : i < l.length
  · have hst := InsI.start (D := D) hp hs hlt
    repeat' first | simp (disch := first | with_reducible assumption | omega) only [go_sem, Bool.true_and, Bool.and_true, Bool.and_self, Bool.false_and, Bool.and_false, Bool.true_or, Bool.or_true, Bool.false_or, Bool.or_false, ↓reduceIte, Nat.reduceEqDiff, Nat.reduceAdd, Nat.reduceMul, Nat.reduceSub, Nat.reduceBEq, Nat.reduceLeDiff, Nat.reduceLT, Nat.reduceMod, Nat.reduceDiv, Int.reduceToNat, Int.reducePow, Int.reduceMul, Int.reduceAdd, Int.reduceSub, Int.reduceLE, Int.reduceLT, Int.reduceNeg, Int.reduceDiv, Int.reduceMod, Int.reduceEq, Int.reduceBEq, Int.reduceBNe, f56, f56b, f56r0, f56r1, f56r2, f56r3, f56r4, f56r5, f56r7, f56l1] | (refine BrW.of (fun hb => ?_) (fun hb => ?_) <;> (have hb' := hb; try simp only [decide_eq_true_eq, decide_eq_false_iff_not, beq_iff_eq, bne_iff_ne, beq_eq_false_iff_ne, bne_eq_false_iff_eq, Bool.not_eq_true', Bool.not_eq_false', Bool.not_eq_true, Bool.not_eq_false, Bool.and_eq_true, Bool.or_eq_true, Bool.and_eq_false_iff, Bool.or_eq_false_iff, Int.not_lt, Int.not_le, ne_eq, gt_iff_lt, ge_iff_le] at hb') <;> (try (exfalso; omega))) | (refine altW.of ?_ ?_)
    refine loopW.of (by decide) (fun m e J => ∃ (j : Nat) (L : List Int), e = [(0, slv G.length 0 0 l.length l.length), (1, .int .i64 0), (2, .int .i64 l.length), (3, .func (.func f) #[] #[u1, u2]), (8, .int .i64 i), (9, .int .i64 j)] ∧ J = G ++ [.cells 0 1 false (ints L)] ∧ InsI D (fun x y => decide (cf x y < 0)) l L i j ∧ Q L ∧ m = j) i
      ⟨i, L, rfl, rfl, hst, hq, rfl⟩ ?_
    clear hst hs hpl hp hq
    rintro m e J ⟨j, L, rfl, rfl, hI, hq, rfl⟩
    have hpl := hI.perm.length_eq
    have hle := hI.le
    have il := ints_length L
    rcases m with _ | j
    · have hz := hI.zero
      have hper := hI.perm
      repeat' first | simp (disch := first | with_reducible assumption | omega) only [go_sem, Bool.true_and, Bool.and_true, Bool.and_self, Bool.false_and, Bool.and_false, Bool.true_or, Bool.or_true, Bool.false_or, Bool.or_false, ↓reduceIte, Nat.reduceEqDiff, Nat.reduceAdd, Nat.reduceMul, Nat.reduceSub, Nat.reduceBEq, Nat.reduceLeDiff, Nat.reduceLT, Nat.reduceMod, Nat.reduceDiv, Int.reduceToNat, Int.reducePow, Int.reduceMul, Int.reduceAdd, Int.reduceSub, Int.reduceLE, Int.reduceLT, Int.reduceNeg, Int.reduceDiv, Int.reduceMod, Int.reduceEq, Int.reduceBEq, Int.reduceBNe, f56, f56b, f56r0, f56r1, f56r2, f56r3, f56r4, f56r5, f56r7, f56l0, f56, f56b, f56r0, f56r1, f56r2, f56r3, f56r4, f56r5, f56r7, f56l1] | (refine BrW.of (fun hb => ?_) (fun hb => ?_) <;> (have hb' := hb; try simp only [decide_eq_true_eq, decide_eq_false_iff_not, beq_iff_eq, bne_iff_ne, beq_eq_false_iff_ne, bne_eq_false_iff_eq, Bool.not_eq_true', Bool.not_eq_false', Bool.not_eq_true, Bool.not_eq_false, Bool.and_eq_true, Bool.or_eq_true, Bool.and_eq_false_iff, Bool.or_eq_false_iff, Int.not_lt, Int.not_le, ne_eq, gt_iff_lt, ge_iff_le] at hb') <;> (try (exfalso; omega))) | (refine altW.of ?_ ?_)
      refine RdW.keep [0, 1, 2, 3, 8] (l.length + 1 - (i + 1)) (by omega) ?_
      simp (disch := first | with_reducible assumption | omega) only [go_sem, Bool.true_and, Bool.and_true, Bool.and_self, Bool.false_and, Bool.and_false, Bool.true_or, Bool.or_true, Bool.false_or, Bool.or_false, ↓reduceIte, Nat.reduceEqDiff, Nat.reduceAdd, Nat.reduceMul, Nat.reduceSub, Nat.reduceBEq, Nat.reduceLeDiff, Nat.reduceLT, Nat.reduceMod, Nat.reduceDiv, Int.reduceToNat, Int.reducePow, Int.reduceMul, Int.reduceAdd, Int.reduceSub, Int.reduceLE, Int.reduceLT, Int.reduceNeg, Int.reduceDiv, Int.reduceMod, Int.reduceEq, Int.reduceBEq, Int.reduceBNe]
      exact ⟨i + 1, L, rfl, rfl, hper, hz, hq, by omega, by omega, rfl⟩
    · have g1 := ints_get L (j + 1) (by omega)
      have g0 := ints_get L j (by omega)
      have hcall := hc (L.getD (j + 1) 0) (L.getD j 0) L (perm_D hI.perm hD (by omega)) (perm_D hI.perm hD (by omega))
      by_cases hcmp : cf (L.getD (j + 1) 0) (L.getD j 0) < 0
      · have hnx := hI.next ho hD (by simpa using hcmp)
        have hqn := hQ L j (by omega) hcmp hq
        have s1 := ints_set L (j + 1) (L.getD j 0)
        have s2 := ints_set (L.set (j + 1) (L.getD j 0)) j (L.getD (j + 1) 0)
        have il2 := ints_length (L.set (j + 1) (L.getD j 0))
        rw [List.length_set] at il2
        change (ints _).set _ _ = ints (swapD L j) at s2
        have z1 : ((j + 1 : Nat) : Int) - 1 = j := by omega
        have z2 : ((j + 1 : Nat) : Int).toNat = j + 1 := by omega
        have z3 : (j : Int).toNat = j := by omega
        generalize hX : L.getD (j + 1) 0 = X at *
        generalize hY : L.getD j 0 = Y at *
        repeat' first | simp (disch := first | with_reducible assumption | omega) only [go_sem, Bool.true_and, Bool.and_true, Bool.and_self, Bool.false_and, Bool.and_false, Bool.true_or, Bool.or_true, Bool.false_or, Bool.or_false, ↓reduceIte, Nat.reduceEqDiff, Nat.reduceAdd, Nat.reduceMul, Nat.reduceSub, Nat.reduceBEq, Nat.reduceLeDiff, Nat.reduceLT, Nat.reduceMod, Nat.reduceDiv, Int.reduceToNat, Int.reducePow, Int.reduceMul, Int.reduceAdd, Int.reduceSub, Int.reduceLE, Int.reduceLT, Int.reduceNeg, Int.reduceDiv, Int.reduceMod, Int.reduceEq, Int.reduceBEq, Int.reduceBNe, f56, f56b, f56r0, f56r1, f56r2, f56r3, f56r4, f56r5, f56r7, f56l0, g1, g0, z1, z2, z3, s1, s2, il, il2] | (refine BrW.of (fun hb => ?_) (fun hb => ?_) <;> (have hb' := hb; try simp only [decide_eq_true_eq, decide_eq_false_iff_not, beq_iff_eq, bne_iff_ne, beq_eq_false_iff_ne, bne_eq_false_iff_eq, Bool.not_eq_true', Bool.not_eq_false', Bool.not_eq_true, Bool.not_eq_false, Bool.and_eq_true, Bool.or_eq_true, Bool.and_eq_false_iff, Bool.or_eq_false_iff, Int.not_lt, Int.not_le, ne_eq, gt_iff_lt, ge_iff_le] at hb') <;> (try (exfalso; omega))) | (refine altW.of ?_ ?_) | (refine dcallW.of _ _ hcall ?_) | (refine callW.ex _ _ hcall ?_)
        refine RdW.keep [0, 1, 2, 3, 8, 9] j (by omega) ?_
        simp (disch := first | with_reducible assumption | omega) only [go_sem, Bool.true_and, Bool.and_true, Bool.and_self, Bool.false_and, Bool.and_false, Bool.true_or, Bool.or_true, Bool.false_or, Bool.or_false, ↓reduceIte, Nat.reduceEqDiff, Nat.reduceAdd, Nat.reduceMul, Nat.reduceSub, Nat.reduceBEq, Nat.reduceLeDiff, Nat.reduceLT, Nat.reduceMod, Nat.reduceDiv, Int.reduceToNat, Int.reducePow, Int.reduceMul, Int.reduceAdd, Int.reduceSub, Int.reduceLE, Int.reduceLT, Int.reduceNeg, Int.reduceDiv, Int.reduceMod, Int.reduceEq, Int.reduceBEq, Int.reduceBNe]
        exact ⟨j, swapD L j, rfl, rfl, hnx, hqn, rfl⟩
      · have hstop := hI.stop ho hD (by simpa using hcmp)
        have hper := hI.perm
        have z1 : ((j + 1 : Nat) : Int) - 1 = j := by omega
        have z2 : ((j + 1 : Nat) : Int).toNat = j + 1 := by omega
        have z3 : (j : Int).toNat = j := by omega
        generalize hX : L.getD (j + 1) 0 = X at *
        generalize hY : L.getD j 0 = Y at *
        repeat' first | simp (disch := first | with_reducible assumption | omega) only [go_sem, Bool.true_and, Bool.and_true, Bool.and_self, Bool.false_and, Bool.and_false, Bool.true_or, Bool.or_true, Bool.false_or, Bool.or_false, ↓reduceIte, Nat.reduceEqDiff, Nat.reduceAdd, Nat.reduceMul, Nat.reduceSub, Nat.reduceBEq, Nat.reduceLeDiff, Nat.reduceLT, Nat.reduceMod, Nat.reduceDiv, Int.reduceToNat, Int.reducePow, Int.reduceMul, Int.reduceAdd, Int.reduceSub, Int.reduceLE, Int.reduceLT, Int.reduceNeg, Int.reduceDiv, Int.reduceMod, Int.reduceEq, Int.reduceBEq, Int.reduceBNe, f56, f56b, f56r0, f56r1, f56r2, f56r3, f56r4, f56r5, f56r7, f56l0, f56, f56b, f56r0, f56r1, f56r2, f56r3, f56r4, f56r5, f56r7, f56l1, g1, g0, z1, z2, z3, il] | (refine BrW.of (fun hb => ?_) (fun hb => ?_) <;> (have hb' := hb; try simp only [decide_eq_true_eq, decide_eq_false_iff_not, beq_iff_eq, bne_iff_ne, beq_eq_false_iff_ne, bne_eq_false_iff_eq, Bool.not_eq_true', Bool.not_eq_false', Bool.not_eq_true, Bool.not_eq_false, Bool.and_eq_true, Bool.or_eq_true, Bool.and_eq_false_iff, Bool.or_eq_false_iff, Int.not_lt, Int.not_le, ne_eq, gt_iff_lt, ge_iff_le] at hb') <;> (try (exfalso; omega))) | (refine altW.of ?_ ?_) | (refine dcallW.of _ _ hcall ?_) | (refine callW.ex _ _ hcall ?_)
        refine RdW.keep [0, 1, 2, 3, 8] (l.length + 1 - (i + 1)) (by omega) ?_
        simp (disch := first | with_reducible assumption | omega) only [go_sem, Bool.true_and, Bool.and_true, Bool.and_self, Bool.false_and, Bool.and_false, Bool.true_or, Bool.or_true, Bool.false_or, Bool.or_false, ↓reduceIte, Nat.reduceEqDiff, Nat.reduceAdd, Nat.reduceMul, Nat.reduceSub, Nat.reduceBEq, Nat.reduceLeDiff, Nat.reduceLT, Nat.reduceMod, Nat.reduceDiv, Int.reduceToNat, Int.reducePow, Int.reduceMul, Int.reduceAdd, Int.reduceSub, Int.reduceLE, Int.reduceLT, Int.reduceNeg, Int.reduceDiv, Int.reduceMod, Int.reduceEq, Int.reduceBEq, Int.reduceBNe]
        exact ⟨i + 1, L, rfl, rfl, hper, hstop, hq, by omega, by omega, rfl⟩
  · repeat' first | simp (disch := first | with_reducible assumption | omega) only [go_sem, Bool.true_and, Bool.and_true, Bool.and_self, Bool.false_and, Bool.and_false, Bool.true_or, Bool.or_true, Bool.false_or, Bool.or_false, ↓reduceIte, Nat.reduceEqDiff, Nat.reduceAdd, Nat.reduceMul, Nat.reduceSub, Nat.reduceBEq, Nat.reduceLeDiff, Nat.reduceLT, Nat.reduceMod, Nat.reduceDiv, Int.reduceToNat, Int.reducePow, Int.reduceMul, Int.reduceAdd, Int.reduceSub, Int.reduceLE, Int.reduceLT, Int.reduceNeg, Int.reduceDiv, Int.reduceMod, Int.reduceEq, Int.reduceBEq, Int.reduceBNe, f56, f56b, f56r0, f56r1, f56r2, f56r3, f56r4, f56r5, f56r7, f56l1, f56, f56b, f56r0, f56r1, f56r2, f56r3, f56r4, f56r5, f56r7] | (refine BrW.of (fun hb => ?_) (fun hb => ?_) <;> (have hb' := hb; try simp only [decide_eq_true_eq, decide_eq_false_iff_not, beq_iff_eq, bne_iff_ne, beq_eq_false_iff_ne, bne_eq_false_iff_eq, Bool.not_eq_true', Bool.not_eq_false', Bool.not_eq_true, Bool.not_eq_false, Bool.and_eq_true, Bool.or_eq_true, Bool.and_eq_false_iff, Bool.or_eq_false_iff, Int.not_lt, Int.not_le, ne_eq, gt_iff_lt, ge_iff_le] at hb') <;> (try (exfalso; omega))) | (refine altW.of ?_ ?_)
    exact .here ⟨rfl, L, rfl, ⟨hp, fun p q h1 h2 => hs p q h1 (by omega)⟩, hq⟩

theorem Stable_spec (f : FuncId) (u1 u2 : Value) (G : Heap) (cf : Int → Int → Int) (D : Int → Prop) (ho : Swo D fun x y => decide (cf x y < 0)) (l : List Int) (hD : ∀ x ∈ l, D x) (hlen : l.length ≤ 16) (Q : List Int → Prop) (hQ0 : Q l) (hQ : ∀ (L : List Int) (j : Nat), j + 1 < L.length → cf (L.getD (j + 1) 0) (L.getD j 0) < 0 → Q L → Q (swapD L j))
    (hc : ∀ x y L, D x → D y → ACallK Tryd.prog f [.int .i64 x, .int .i64 y, u1, u2] (G ++ [.cells 0 1 false (ints L)]) (fun v H' => v = .int .i64 (cf x y) ∧ H' = G ++ [.cells 0 1 false (ints L)])) :
    ACallK Tryd.prog 45 [slv G.length 0 0 l.length l.length, .int .i64 l.length, .func (.func f) #[] #[u1, u2]] (G ++ [.cells 0 1 false (ints l)]) (fun v H' => v = .tuple #[] ∧ ∃ L, H' = G ++ [.cells 0 1 false (ints L)] ∧ Sorts (fun x y => decide (cf x y < 0)) l L ∧ Q L) := by
  have hI := Ins_spec f u1 u2 G cf D ho l hD (by omega) Q hQ0 hQ hc
  refine .walkW f45_ok (by simp; decide) (by decide) ?_
  repeat' first | simp (disch := first | with_reducible assumption | omega) only [go_sem, Bool.true_and, Bool.and_true, Bool.and_self, Bool.false_and, Bool.and_false, Bool.true_or, Bool.or_true, Bool.false_or, Bool.or_false, ↓reduceIte, Nat.reduceEqDiff, Nat.reduceAdd, Nat.reduceMul, Nat.reduceSub, Nat.reduceBEq, Nat.reduceLeDiff, Nat.reduceLT, Nat.reduceMod, Nat.reduceDiv, Int.reduceToNat, Int.reducePow, Int.reduceMul, Int.reduceAdd, Int.reduceSub, Int.reduceLE, Int.reduceLT, Int.reduceNeg, Int.reduceDiv, Int.reduceMod, Int.reduceEq, Int.reduceBEq, Int.reduceBNe, f45, f45b, f45r0, f45r1, f45r2, f45r3, f45r4, f45r5, f45r7, f45r8, f45r9, f45r10, f45r11, f45r12, f45r13, f45r15, f45r16, f45r17, f45r18] | (refine BrW.of (fun hb => ?_) (fun hb => ?_) <;> (have hb' := hb; try simp only [decide_eq_true_eq, decide_eq_false_iff_not, beq_iff_eq, bne_iff_ne, beq_eq_false_iff_ne, bne_eq_false_iff_eq, Bool.not_eq_true', Bool.not_eq_false', Bool.not_eq_true, Bool.not_eq_false, Bool.and_eq_true, Bool.or_eq_true, Bool.and_eq_false_iff, Bool.or_eq_false_iff, Int.not_lt, Int.not_le, ne_eq, gt_iff_lt, ge_iff_le] at hb') <;> (try (exfalso; omega))) | (refine altW.of ?_ ?_)
  refine loopW.of (by decide) (fun m e J => e = [(0, slv G.length 0 0 l.length l.length), (1, .int .i64 l.length), (2, .func (.func f) #[] #[u1, u2]), (6, .int .i64 20), (7, .int .i64 0), (8, .int .i64 20)] ∧ J = G ++ [.cells 0 1 false (ints l)]) 0 ⟨rfl, rfl⟩ ?_
  rintro m e J ⟨rfl, rfl⟩
  repeat' first | simp (disch := first | with_reducible assumption | omega) only [go_sem, Bool.true_and, Bool.and_true, Bool.and_self, Bool.false_and, Bool.and_false, Bool.true_or, Bool.or_true, Bool.false_or, Bool.or_false, ↓reduceIte, Nat.reduceEqDiff, Nat.reduceAdd, Nat.reduceMul, Nat.reduceSub, Nat.reduceBEq, Nat.reduceLeDiff, Nat.reduceLT, Nat.reduceMod, Nat.reduceDiv, Int.reduceToNat, Int.reducePow, Int.reduceMul, Int.reduceAdd, Int.reduceSub, Int.reduceLE, Int.reduceLT, Int.reduceNeg, Int.reduceDiv, Int.reduceMod, Int.reduceEq, Int.reduceBEq, Int.reduceBNe, f45, f45b, f45r0, f45r1, f45r2, f45r3, f45r4, f45r5, f45r7, f45r8, f45r9, f45r10, f45r11, f45r12, f45r13, f45r15, f45r16, f45r17, f45r18, f45l0, f45, f45b, f45r0, f45r1, f45r2, f45r3, f45r4, f45r5, f45r7, f45r8, f45r9, f45r10, f45r11, f45r12, f45r13, f45r15, f45r16, f45r17, f45r18] | (refine BrW.of (fun hb => ?_) (fun hb => ?_) <;> (have hb' := hb; try simp only [decide_eq_true_eq, decide_eq_false_iff_not, beq_iff_eq, bne_iff_ne, beq_eq_false_iff_ne, bne_eq_false_iff_eq, Bool.not_eq_true', Bool.not_eq_false', Bool.not_eq_true, Bool.not_eq_false, Bool.and_eq_true, Bool.or_eq_true, Bool.and_eq_false_iff, Bool.or_eq_false_iff, Int.not_lt, Int.not_le, ne_eq, gt_iff_lt, ge_iff_le] at hb') <;> (try (exfalso; omega))) | (refine altW.of ?_ ?_) | (refine .of (hI.mono ?_); rintro v H ⟨rfl, L, rfl, hL⟩)
  refine loopW.of (by decide) (fun m e J => e = [(0, slv G.length 0 0 l.length l.length), (1, .int .i64 l.length), (2, .func (.func f) #[] #[u1, u2]), (6, .int .i64 20)] ∧ J = G ++ [.cells 0 1 false (ints L)]) 0 ⟨rfl, rfl⟩ ?_
  rintro m e J ⟨rfl, rfl⟩
  repeat' first | simp (disch := first | with_reducible assumption | omega) only [go_sem, Bool.true_and, Bool.and_true, Bool.and_self, Bool.false_and, Bool.and_false, Bool.true_or, Bool.or_true, Bool.false_or, Bool.or_false, ↓reduceIte, Nat.reduceEqDiff, Nat.reduceAdd, Nat.reduceMul, Nat.reduceSub, Nat.reduceBEq, Nat.reduceLeDiff, Nat.reduceLT, Nat.reduceMod, Nat.reduceDiv, Int.reduceToNat, Int.reducePow, Int.reduceMul, Int.reduceAdd, Int.reduceSub, Int.reduceLE, Int.reduceLT, Int.reduceNeg, Int.reduceDiv, Int.reduceMod, Int.reduceEq, Int.reduceBEq, Int.reduceBNe, f45, f45b, f45r0, f45r1, f45r2, f45r3, f45r4, f45r5, f45r7, f45r8, f45r9, f45r10, f45r11, f45r12, f45r13, f45r15, f45r16, f45r17, f45r18, f45l2, f45, f45b, f45r0, f45r1, f45r2, f45r3, f45r4, f45r5, f45r7, f45r8, f45r9, f45r10, f45r11, f45r12, f45r13, f45r15, f45r16, f45r17, f45r18] | (refine BrW.of (fun hb => ?_) (fun hb => ?_) <;> (have hb' := hb; try simp only [decide_eq_true_eq, decide_eq_false_iff_not, beq_iff_eq, bne_iff_ne, beq_eq_false_iff_ne, bne_eq_false_iff_eq, Bool.not_eq_true', Bool.not_eq_false', Bool.not_eq_true, Bool.not_eq_false, Bool.and_eq_true, Bool.or_eq_true, Bool.and_eq_false_iff, Bool.or_eq_false_iff, Int.not_lt, Int.not_le, ne_eq, gt_iff_lt, ge_iff_le] at hb') <;> (try (exfalso; omega))) | (refine altW.of ?_ ?_)
  exact .here ⟨rfl, L, rfl, hL⟩
theorem SortS_spec (f : FuncId) (u1 u2 : Value) (G : Heap) (cf : Int → Int → Int) (D : Int → Prop) (ho : Swo D fun x y => decide (cf x y < 0)) (l : List Int) (hD : ∀ x ∈ l, D x) (hlen : l.length ≤ 16) (Q : List Int → Prop) (hQ0 : Q l) (hQ : ∀ (L : List Int) (j : Nat), j + 1 < L.length → cf (L.getD (j + 1) 0) (L.getD j 0) < 0 → Q L → Q (swapD L j))
    (hc : ∀ x y L, D x → D y → ACallK Tryd.prog f [.int .i64 x, .int .i64 y, u1, u2] (G ++ [.cells 0 1 false (ints L)]) (fun v H' => v = .int .i64 (cf x y) ∧ H' = G ++ [.cells 0 1 false (ints L)])) :
    ACallK Tryd.prog 31 [slv G.length 0 0 l.length l.length, .func (.func f) #[] #[u1, u2]] (G ++ [.cells 0 1 false (ints l)]) (fun v H' => v = .tuple #[] ∧ ∃ L, H' = G ++ [.cells 0 1 false (ints L)] ∧ Sorts (fun x y => decide (cf x y < 0)) l L ∧ Q L) := by
  have hI := Stable_spec f u1 u2 G cf D ho l hD hlen Q hQ0 hQ hc
  refine .walkW f31_ok (by simp; decide) (by decide) ?_
  repeat' first | simp (disch := first | with_reducible assumption | omega) only [go_sem, Bool.true_and, Bool.and_true, Bool.and_self, Bool.false_and, Bool.and_false, Bool.true_or, Bool.or_true, Bool.false_or, Bool.or_false, ↓reduceIte, Nat.reduceEqDiff, Nat.reduceAdd, Nat.reduceMul, Nat.reduceSub, Nat.reduceBEq, Nat.reduceLeDiff, Nat.reduceLT, Nat.reduceMod, Nat.reduceDiv, Int.reduceToNat, Int.reducePow, Int.reduceMul, Int.reduceAdd, Int.reduceSub, Int.reduceLE, Int.reduceLT, Int.reduceNeg, Int.reduceDiv, Int.reduceMod, Int.reduceEq, Int.reduceBEq, Int.reduceBNe, f31, f31b, f31r0] | (refine BrW.of (fun hb => ?_) (fun hb => ?_) <;> (have hb' := hb; try simp only [decide_eq_true_eq, decide_eq_false_iff_not, beq_iff_eq, bne_iff_ne, beq_eq_false_iff_ne, bne_eq_false_iff_eq, Bool.not_eq_true', Bool.not_eq_false', Bool.not_eq_true, Bool.not_eq_false, Bool.and_eq_true, Bool.or_eq_true, Bool.and_eq_false_iff, Bool.or_eq_false_iff, Int.not_lt, Int.not_le, ne_eq, gt_iff_lt, ge_iff_le] at hb') <;> (try (exfalso; omega))) | (refine altW.of ?_ ?_) | (refine .of (hI.mono ?_); rintro v H ⟨rfl, L, rfl, hL⟩)
  exact .here ⟨rfl, L, rfl, hL⟩
/-- The comparison: when one is done, and when the other one. -/
theorem cmp_spec (bs ws : List Int) (h : okB bs ws) (x y : Int) (hx : DO bs.length x) (hy : DO bs.length y) (H : Heap) (p6 p3 g6 g3 k2 o2 g2 c2 k3 o3 g3' c3 : Nat) (z6 z3 : Nat)
    (h6 : H[p6]? = some (.cells 0 z6 false [slv k3 o3 g3' bs.length c3])) (h3 : H[p3]? = some (.cells 0 z3 false [slv k2 o2 g2 bs.length c2]))
    (hE : Ints H k3 o3 g3' (tbE bs ws bs.length)) (hW : Ints H k2 o2 g2 ws) :
    ACallK Tryd.prog 32 [.int .i64 x, .int .i64 y, .pointer (some ⟨p6, 0, some 1⟩), .pointer (some ⟨p3, 0, some 1⟩)] H (fun v H' => v = .int .i64 (cfO bs ws x y) ∧ H' = H) := by
  obtain ⟨roE, csE, hkE, hclE, hcsE⟩ := Ints.cell hE
  obtain ⟨roW, csW, hkW, hclW, hcsW⟩ := Ints.cell hW
  rw [tbE_len] at hclE hcsE
  unfold DO at hx hy
  have ex := hcsE x.toNat (by omega)
  have ey := hcsE y.toNat (by omega)
  have vx := hcsW x.toNat (by rw [← h.1]; omega)
  have vy := hcsW y.toNat (by rw [← h.1]; omega)
  rw [tbE_get _ _ _ _ (by omega)] at ex ey
  have bx := endK_bound h (k := x.toNat) (by omega)
  have by' := endK_bound h (k := y.toNat) (by omega)
  have wx := (h.2.2 x.toNat (by omega)).2
  have wy := (h.2.2 y.toNat (by omega)).2
  have m1 := mul_bound bx.1 bx.2 (show 0 ≤ ws.getD y.toNat 0 by omega) wy.2
  have m2 := mul_bound by'.1 by'.2 (show 0 ≤ ws.getD x.toNat 0 by omega) wx.2
  have hcf : cfO bs ws x y = endK bs ws x.toNat * ws.getD y.toNat 0 - endK bs ws y.toNat * ws.getD x.toNat 0 := rfl
  refine .walkW f32_ok (by simp; decide) (by decide) ?_
  clear hcsE hcsW
  have hlw := h.1
  rw [hcf]
  clear hcf
  generalize endK bs ws x.toNat = EX at *
  generalize endK bs ws y.toNat = EY at *
  generalize ws.getD x.toNat 0 = VX at *
  generalize ws.getD y.toNat 0 = VY at *
  repeat' first | simp (disch := first | with_reducible assumption | omega) only [go_sem, Bool.true_and, Bool.and_true, Bool.and_self, Bool.false_and, Bool.and_false, Bool.true_or, Bool.or_true, Bool.false_or, Bool.or_false, ↓reduceIte, Nat.reduceEqDiff, Nat.reduceAdd, Nat.reduceMul, Nat.reduceSub, Nat.reduceBEq, Nat.reduceLeDiff, Nat.reduceLT, Nat.reduceMod, Nat.reduceDiv, Int.reduceToNat, Int.reducePow, Int.reduceMul, Int.reduceAdd, Int.reduceSub, Int.reduceLE, Int.reduceLT, Int.reduceNeg, Int.reduceDiv, Int.reduceMod, Int.reduceEq, Int.reduceBEq, Int.reduceBNe, f32, f32b, f32r0, f32r1, h6, h3, hkE, hkW, ex, ey, vx, vy] | (refine BrW.of (fun hb => ?_) (fun hb => ?_) <;> (have hb' := hb; try simp only [decide_eq_true_eq, decide_eq_false_iff_not, beq_iff_eq, bne_iff_ne, beq_eq_false_iff_ne, bne_eq_false_iff_eq, Bool.not_eq_true', Bool.not_eq_false', Bool.not_eq_true, Bool.not_eq_false, Bool.and_eq_true, Bool.or_eq_true, Bool.and_eq_false_iff, Bool.or_eq_false_iff, Int.not_lt, Int.not_le, ne_eq, gt_iff_lt, ge_iff_le] at hb') <;> (try (exfalso; omega))) | (refine altW.of ?_ ?_)
  exact .here ⟨rfl, rfl⟩
/-- The first i are laidO, the others not yet. -/
def laidO (n i : Nat) : List Int := rng i ++ List.replicate (n - i) 0
theorem laidO_zero (n : Nat) : laidO n 0 = List.replicate n 0 := by simp [laidO, rng]
theorem laidO_all (n : Nat) : laidO n n = rng n := by simp [laidO]
theorem laidO_len (n i : Nat) (h : i ≤ n) : (laidO n i).length = n := by simp [laidO, rng]; omega
theorem laidO_succ (n i : Nat) (h : i < n) : (laidO n i).set i (i : Int) = laidO n (i + 1) := by
  unfold laidO
  rw [rng_succ, List.set_append_right _ _ (by rw [rng_len]; exact Nat.le_refl _), rng_len, Nat.sub_self, show n - i = n - (i + 1) + 1 by omega, List.replicate_succ]
  simp
/-- What is alike keeps its order. -/
def Tied (cf : Int → Int → Int) (L : List Int) : Prop := ∀ p q, p < q → q < L.length → cf (L.getD p 0) (L.getD q 0) = 0 → L.getD p 0 < L.getD q 0
theorem tied_rng (cf : Int → Int → Int) (n : Nat) : Tied cf (rng n) := fun p q h1 h2 _ => by
  rw [rng_len] at h2
  rw [rng_get _ _ (by omega), rng_get _ _ h2]; omega
theorem tied_swap {cf : Int → Int → Int} {L : List Int} {j : Nat} (hj : j + 1 < L.length) (hc : cf (L.getD (j + 1) 0) (L.getD j 0) < 0) (h : Tied cf L) : Tied cf (swapD L j) := fun p q h1 h2 h3 => by
  rw [swapD_len] at h2
  rw [swapD_get _ _ _ hj, swapD_get _ _ _ hj] at h3 ⊢
  by_cases a1 : p = j
  · rw [if_pos a1] at h3 ⊢
    rw [if_neg (by omega)] at h3 ⊢
    by_cases a2 : q = j + 1
    · rw [if_pos a2] at h3; omega
    · rw [if_neg a2] at h3 ⊢
      exact h (j + 1) q (by omega) h2 h3
  · rw [if_neg a1] at h3 ⊢
    by_cases a2 : p = j + 1
    · rw [if_pos a2] at h3 ⊢
      rw [if_neg (by omega), if_neg (by omega)] at h3 ⊢
      exact h j q (by omega) h2 h3
    · rw [if_neg a2] at h3 ⊢
      by_cases a3 : q = j
      · rw [if_pos a3] at h3 ⊢
        exact h p (j + 1) (by omega) hj h3
      · rw [if_neg a3] at h3 ⊢
        by_cases a4 : q = j + 1
        · rw [if_pos a4] at h3 ⊢
          exact h p j (by omega) (by omega) h3
        · rw [if_neg a4] at h3 ⊢
          exact h p q h1 h2 h3
theorem Order_spec (bs ws : List Int) (wb ww : Value) (A B : Nat → Prop) (H : Heap) (hb0 : IsN A H wb bs) (hw0 : IsN B H ww ws) (hbl : bs.length ≤ 9223372036854775807) (hwl : ws.length ≤ 9223372036854775807) :
    ACallK Tryd.prog 16 [wb, ww] H (fun v H' => ∃ a e, v = .tuple #[a, .int .i64 e] ∧ Le H H' ∧ (e = 0 ↔ okB bs ws) ∧ (e ≠ 0 → a = .slice none 0 0) ∧ (e = 0 → ∃ o, IsN (H.length ≤ ·) H' a o ∧ Sorts (ltO bs ws) (rng bs.length) o ∧ Tied (cfO bs ws) o)) := by
  obtain ⟨k2, o2, g2, c2, _, rfl, hs2, hc2⟩ := hw0
  have hE := End_spec bs ws wb (slv k2 o2 g2 ws.length c2) A (fun _ => True) (H ++ [.cells 0 0 false [slv k2 o2 g2 ws.length c2]]) (hb0.app _) (.of trivial (hs2.app _) hc2) hbl hwl
  obtain ⟨k, o, g, c, _, rfl, hs, hc⟩ := hb0
  obtain ⟨ro, cs, hk, hcl, hcs⟩ := Ints.cell hs
  clear hcs
  refine .walkW f16_ok (by simp; decide) (by decide) ?_
  repeat' first | simp (disch := first | with_reducible assumption | omega) only [go_sem, Bool.true_and, Bool.and_true, Bool.and_self, Bool.false_and, Bool.and_false, Bool.true_or, Bool.or_true, Bool.false_or, Bool.or_false, ↓reduceIte, Nat.reduceEqDiff, Nat.reduceAdd, Nat.reduceMul, Nat.reduceSub, Nat.reduceBEq, Nat.reduceLeDiff, Nat.reduceLT, Nat.reduceMod, Nat.reduceDiv, Int.reduceToNat, Int.reducePow, Int.reduceMul, Int.reduceAdd, Int.reduceSub, Int.reduceLE, Int.reduceLT, Int.reduceNeg, Int.reduceDiv, Int.reduceMod, Int.reduceEq, Int.reduceBEq, Int.reduceBNe, f16, f16b, f16r0, f16r1, f16r2, f16r3, f16r4, f16r5, f16r6, f16r7, f16r8, f16r9, f16r11, f16r12] | (refine BrW.of (fun hb => ?_) (fun hb => ?_) <;> (have hb' := hb; try simp only [decide_eq_true_eq, decide_eq_false_iff_not, beq_iff_eq, bne_iff_ne, beq_eq_false_iff_ne, bne_eq_false_iff_eq, Bool.not_eq_true', Bool.not_eq_false', Bool.not_eq_true, Bool.not_eq_false, Bool.and_eq_true, Bool.or_eq_true, Bool.and_eq_false_iff, Bool.or_eq_false_iff, Int.not_lt, Int.not_le, ne_eq, gt_iff_lt, ge_iff_le] at hb') <;> (try (exfalso; omega))) | (refine altW.of ?_ ?_)
  refine .of (hE.mono ?_)
  rintro v G ⟨a, e, rfl, hLe, he, hn, hy⟩
  have hle : Le H G := (Le.app _ _).trans hLe
  by_cases z : e = 0
  · have hok := he.1 z
    obtain ⟨k3, o3, g3, c3, _, rfl, hs3, hc3⟩ := hy z
    rw [tbE_len] at hc3 ⊢
    have hl16 := hok.2.1
    have hll := hok.1
    subst z
    clear hE he hn hy
    have hkG := hle.get hk
    have hz : (List.replicate bs.length [Value.int .i64 0]).flatten = ints (laidO bs.length 0) := by
      rw [laidO_zero]
      have : ∀ n : Nat, (List.replicate n [Value.int .i64 0]).flatten = List.replicate n (Value.int .i64 0) := fun n => by
        induction n with
        | zero => rfl
        | succ n ih => simp only [List.replicate_succ, List.flatten_cons, ih]; rfl
      rw [this]; simp [ints]
    have h3 := hLe.get (get_new0 H (.cells 0 0 false [slv k2 o2 g2 ws.length c2]) [])
    have hW3 : Ints G k2 o2 g2 ws := hs2.le hle
    have hHG : H.length < G.length := (List.getElem?_eq_some_iff.1 h3).1
    have hord := swoO hok
    have hcall := fun (u y : Int) (L : List Int) (hu : DO bs.length u) (hy : DO bs.length y) => cmp_spec bs ws hok u y hu hy (G ++ [.cells 0 0 false [slv k3 o3 g3 bs.length c3]] ++ [.cells 0 1 false (ints L)]) G.length H.length 0 0 k2 o2 g2 c2 k3 o3 g3 c3 0 0
      (by rw [List.append_assoc]; exact get_new0 _ _ _) (by rw [hll]; exact get_old (get_old h3 _) _) ((hs3.app _).app _) ((hW3.app _).app _)
    have hS := SortS_spec 32 (.pointer (some ⟨G.length, 0, some 1⟩)) (.pointer (some ⟨H.length, 0, some 1⟩)) (G ++ [.cells 0 0 false [slv k3 o3 g3 bs.length c3]]) (cfO bs ws) (DO bs.length) hord (rng bs.length) (fun x hx => rng_mem hx) (by rw [rng_len]; exact hl16) (Tied (cfO bs ws)) (tied_rng _ _) (fun L j => tied_swap) hcall
    rw [rng_len] at hS
    simp only [List.append_assoc, List.cons_append, List.nil_append, List.length_append, List.length_cons, List.length_nil, Nat.zero_add] at hS
    clear hcall
    repeat' first | simp (disch := first | with_reducible assumption | omega) only [go_sem, Bool.true_and, Bool.and_true, Bool.and_self, Bool.false_and, Bool.and_false, Bool.true_or, Bool.or_true, Bool.false_or, Bool.or_false, ↓reduceIte, Nat.reduceEqDiff, Nat.reduceAdd, Nat.reduceMul, Nat.reduceSub, Nat.reduceBEq, Nat.reduceLeDiff, Nat.reduceLT, Nat.reduceMod, Nat.reduceDiv, Int.reduceToNat, Int.reducePow, Int.reduceMul, Int.reduceAdd, Int.reduceSub, Int.reduceLE, Int.reduceLT, Int.reduceNeg, Int.reduceDiv, Int.reduceMod, Int.reduceEq, Int.reduceBEq, Int.reduceBNe, f16, f16b, f16r0, f16r1, f16r2, f16r3, f16r4, f16r5, f16r6, f16r7, f16r8, f16r9, f16r11, f16r12, hkG, get_old hkG, hz] | (refine BrW.of (fun hb => ?_) (fun hb => ?_) <;> (have hb' := hb; try simp only [decide_eq_true_eq, decide_eq_false_iff_not, beq_iff_eq, bne_iff_ne, beq_eq_false_iff_ne, bne_eq_false_iff_eq, Bool.not_eq_true', Bool.not_eq_false', Bool.not_eq_true, Bool.not_eq_false, Bool.and_eq_true, Bool.or_eq_true, Bool.and_eq_false_iff, Bool.or_eq_false_iff, Int.not_lt, Int.not_le, ne_eq, gt_iff_lt, ge_iff_le] at hb') <;> (try (exfalso; omega))) | (refine altW.of ?_ ?_)
    have hlz := laidO_len bs.length 0 (by omega)
    refine loopW.of (by decide) (fun m e J => ∃ i : Nat, e = [(3, .pointer (some ⟨H.length, 0, some 1⟩)), (6, .pointer (some ⟨G.length, 0, some 1⟩)), (8, slv (G.length + 1) 0 0 bs.length bs.length), (23, .int .i64 bs.length), (24, .int .i64 i)] ∧ J = G ++ [.cells 0 0 false [slv k3 o3 g3 bs.length c3], .cells 0 1 false (ints (laidO bs.length i))] ∧ i ≤ bs.length ∧ m = bs.length - i) bs.length ⟨0, rfl, rfl, by omega, rfl⟩ ?_
    rintro m e J ⟨i, rfl, rfl, hi, rfl⟩
    have il := ints_length (laidO bs.length i)
    rw [laidO_len _ _ hi] at il
    by_cases hlt : i < bs.length
    · have st := ints_set (laidO bs.length i) i (i : Int)
      rw [laidO_succ _ _ hlt] at st
      have z3 : (i : Int).toNat = i := by omega
      repeat' first | simp (disch := first | with_reducible assumption | omega) only [go_sem, Bool.true_and, Bool.and_true, Bool.and_self, Bool.false_and, Bool.and_false, Bool.true_or, Bool.or_true, Bool.false_or, Bool.or_false, ↓reduceIte, Nat.reduceEqDiff, Nat.reduceAdd, Nat.reduceMul, Nat.reduceSub, Nat.reduceBEq, Nat.reduceLeDiff, Nat.reduceLT, Nat.reduceMod, Nat.reduceDiv, Int.reduceToNat, Int.reducePow, Int.reduceMul, Int.reduceAdd, Int.reduceSub, Int.reduceLE, Int.reduceLT, Int.reduceNeg, Int.reduceDiv, Int.reduceMod, Int.reduceEq, Int.reduceBEq, Int.reduceBNe, f16, f16b, f16r0, f16r1, f16r2, f16r3, f16r4, f16r5, f16r6, f16r7, f16r8, f16r9, f16r11, f16r12, f16l0, il, st, z3] | (refine BrW.of (fun hb => ?_) (fun hb => ?_) <;> (have hb' := hb; try simp only [decide_eq_true_eq, decide_eq_false_iff_not, beq_iff_eq, bne_iff_ne, beq_eq_false_iff_ne, bne_eq_false_iff_eq, Bool.not_eq_true', Bool.not_eq_false', Bool.not_eq_true, Bool.not_eq_false, Bool.and_eq_true, Bool.or_eq_true, Bool.and_eq_false_iff, Bool.or_eq_false_iff, Int.not_lt, Int.not_le, ne_eq, gt_iff_lt, ge_iff_le] at hb') <;> (try (exfalso; omega))) | (refine altW.of ?_ ?_)
      refine RdW.keep [3, 6, 8, 23, 24] (bs.length - (i + 1)) (by omega) ?_
      simp (disch := first | with_reducible assumption | omega) only [go_sem, Bool.true_and, Bool.and_true, Bool.and_self, Bool.false_and, Bool.and_false, Bool.true_or, Bool.or_true, Bool.false_or, Bool.or_false, ↓reduceIte, Nat.reduceEqDiff, Nat.reduceAdd, Nat.reduceMul, Nat.reduceSub, Nat.reduceBEq, Nat.reduceLeDiff, Nat.reduceLT, Nat.reduceMod, Nat.reduceDiv, Int.reduceToNat, Int.reducePow, Int.reduceMul, Int.reduceAdd, Int.reduceSub, Int.reduceLE, Int.reduceLT, Int.reduceNeg, Int.reduceDiv, Int.reduceMod, Int.reduceEq, Int.reduceBEq, Int.reduceBNe]
      exact ⟨i + 1, rfl, rfl, by omega, rfl⟩
    · obtain rfl : i = bs.length := by omega
      rw [laidO_all]
      repeat' first | simp (disch := first | with_reducible assumption | omega) only [go_sem, Bool.true_and, Bool.and_true, Bool.and_self, Bool.false_and, Bool.and_false, Bool.true_or, Bool.or_true, Bool.false_or, Bool.or_false, ↓reduceIte, Nat.reduceEqDiff, Nat.reduceAdd, Nat.reduceMul, Nat.reduceSub, Nat.reduceBEq, Nat.reduceLeDiff, Nat.reduceLT, Nat.reduceMod, Nat.reduceDiv, Int.reduceToNat, Int.reducePow, Int.reduceMul, Int.reduceAdd, Int.reduceSub, Int.reduceLE, Int.reduceLT, Int.reduceNeg, Int.reduceDiv, Int.reduceMod, Int.reduceEq, Int.reduceBEq, Int.reduceBNe, f16, f16b, f16r0, f16r1, f16r2, f16r3, f16r4, f16r5, f16r6, f16r7, f16r8, f16r9, f16r11, f16r12, f16l0, f16, f16b, f16r0, f16r1, f16r2, f16r3, f16r4, f16r5, f16r6, f16r7, f16r8, f16r9, f16r11, f16r12] | (refine BrW.of (fun hb => ?_) (fun hb => ?_) <;> (have hb' := hb; try simp only [decide_eq_true_eq, decide_eq_false_iff_not, beq_iff_eq, bne_iff_ne, beq_eq_false_iff_ne, bne_eq_false_iff_eq, Bool.not_eq_true', Bool.not_eq_false', Bool.not_eq_true, Bool.not_eq_false, Bool.and_eq_true, Bool.or_eq_true, Bool.and_eq_false_iff, Bool.or_eq_false_iff, Int.not_lt, Int.not_le, ne_eq, gt_iff_lt, ge_iff_le] at hb') <;> (try (exfalso; omega))) | (refine altW.of ?_ ?_) | (refine .of (hS.mono ?_); rintro v J ⟨rfl, L, rfl, hL⟩)
      have hLl := hL.1.1.length_eq
      rw [rng_len] at hLl
      refine .here ⟨_, 0, rfl, hle.trans (.app _ _), ⟨fun _ => hok, fun _ => rfl⟩, fun h => absurd rfl h, fun _ => ⟨L, ?_, hL⟩⟩
      refine ⟨G.length + 1, 0, 0, bs.length, by omega, by rw [hLl], Ints.new _ _ _ false _ ?_, by omega⟩
      rw [get_new]; rfl
  · have z' : (e != 0) = true := by simpa using z
    obtain rfl := hn z
    repeat' first | simp (disch := first | with_reducible assumption | omega) only [go_sem, Bool.true_and, Bool.and_true, Bool.and_self, Bool.false_and, Bool.and_false, Bool.true_or, Bool.or_true, Bool.false_or, Bool.or_false, ↓reduceIte, Nat.reduceEqDiff, Nat.reduceAdd, Nat.reduceMul, Nat.reduceSub, Nat.reduceBEq, Nat.reduceLeDiff, Nat.reduceLT, Nat.reduceMod, Nat.reduceDiv, Int.reduceToNat, Int.reducePow, Int.reduceMul, Int.reduceAdd, Int.reduceSub, Int.reduceLE, Int.reduceLT, Int.reduceNeg, Int.reduceDiv, Int.reduceMod, Int.reduceEq, Int.reduceBEq, Int.reduceBNe, f16, f16b, f16r0, f16r1, f16r2, f16r3, f16r4, f16r5, f16r6, f16r7, f16r8, f16r9, f16r11, f16r12, z'] | (refine BrW.of (fun hb => ?_) (fun hb => ?_) <;> (have hb' := hb; try simp only [decide_eq_true_eq, decide_eq_false_iff_not, beq_iff_eq, bne_iff_ne, beq_eq_false_iff_ne, bne_eq_false_iff_eq, Bool.not_eq_true', Bool.not_eq_false', Bool.not_eq_true, Bool.not_eq_false, Bool.and_eq_true, Bool.or_eq_true, Bool.and_eq_false_iff, Bool.or_eq_false_iff, Int.not_lt, Int.not_le, ne_eq, gt_iff_lt, ge_iff_le] at hb') <;> (try (exfalso; omega))) | (refine altW.of ?_ ?_)
    exact .here ⟨_, _, rfl, hle.trans (Le.app _ _), he, fun _ => rfl, fun h => absurd h z⟩

end Go.Proofs.YtmbcgelfnbnicaaDoor.Gp
