import Derived.Test.YthdpcloggedhfaaSteps5
import Derived.Test.YthdpcloggedhfaaLaws
set_option linter.unusedSimpArgs false
set_option linter.unusedVariables false
set_option maxHeartbeats 2000000
set_option maxRecDepth 20000
namespace Go.Proofs.Ythdpcloggedhfaa
open Go Go.Am
attribute [local irreducible] opsW Ww loopW callW drawW outW outDW gW cW BrW bothW vW resW DropW RdW dcallW Later.run

theorem EqualS_nil (k o g c : Nat) (H : Heap) (hs : Tbl S S.cells 2 s0 H k o g []) : ACallK Try.prog 13 [.slice none 0 0, slv k o g 0 c] H (fun v H' => v = .bool true ∧ H' = H) := by
  obtain ⟨ro, cs, hk, _, _⟩ := hs.at'
  refine .walkW f13_ok (by simp; decide) (by decide) ?_
  repeat' first | simp (disch := first | with_reducible assumption | omega) only [go_sem, Bool.true_and, Bool.and_true, Bool.and_self, Bool.false_and, Bool.and_false, Bool.true_or, Bool.or_true, Bool.false_or, Bool.or_false, ↓reduceIte, Nat.reduceEqDiff, Nat.reduceAdd, Nat.reduceMul, Nat.reduceSub, Nat.reduceBEq, Nat.reduceLeDiff, Nat.reduceLT, Nat.reduceMod, Nat.reduceDiv, Int.reduceToNat, Int.reducePow, Int.reduceMul, Int.reduceAdd, Int.reduceSub, Int.reduceLE, Int.reduceLT, Int.reduceNeg, Int.reduceDiv, Int.reduceMod, Int.reduceEq, Int.reduceBEq, Int.reduceBNe, f13, f13b, f13r0, f13r1, f13r2, f13r3, f13r4, f13r5, f13r6, f13r7, f13r8, f13r10, hk] | (refine BrW.of (fun hb => ?_) (fun hb => ?_) <;> (have hb' := hb; try simp only [decide_eq_true_eq, decide_eq_false_iff_not, beq_iff_eq, bne_iff_ne, beq_eq_false_iff_ne, bne_eq_false_iff_eq, Bool.not_eq_true', Bool.not_eq_false', Bool.not_eq_true, Bool.not_eq_false, Bool.and_eq_true, Bool.or_eq_true, Bool.and_eq_false_iff, Bool.or_eq_false_iff, Int.not_lt, Int.not_le, ne_eq, gt_iff_lt, ge_iff_le] at hb') <;> (try (exfalso; omega)))
  refine loopW.of (by decide) (fun m e J => e = [(0, .slice none 0 0), (1, slv k o g 0 c), (12, .int .i64 0), (13, .int .i64 0)] ∧ J = H) 0 ⟨rfl, rfl⟩ ?_
  rintro m e J ⟨rfl, rfl⟩
  repeat' first | simp (disch := first | with_reducible assumption | omega) only [go_sem, Bool.true_and, Bool.and_true, Bool.and_self, Bool.false_and, Bool.and_false, Bool.true_or, Bool.or_true, Bool.false_or, Bool.or_false, ↓reduceIte, Nat.reduceEqDiff, Nat.reduceAdd, Nat.reduceMul, Nat.reduceSub, Nat.reduceBEq, Nat.reduceLeDiff, Nat.reduceLT, Nat.reduceMod, Nat.reduceDiv, Int.reduceToNat, Int.reducePow, Int.reduceMul, Int.reduceAdd, Int.reduceSub, Int.reduceLE, Int.reduceLT, Int.reduceNeg, Int.reduceDiv, Int.reduceMod, Int.reduceEq, Int.reduceBEq, Int.reduceBNe, f13, f13b, f13r0, f13r1, f13r2, f13r3, f13r4, f13r5, f13r6, f13r7, f13r8, f13r10, f13l0, f13, f13b, f13r0, f13r1, f13r2, f13r3, f13r4, f13r5, f13r6, f13r7, f13r8, f13r10] | (refine BrW.of (fun hb => ?_) (fun hb => ?_) <;> (have hb' := hb; try simp only [decide_eq_true_eq, decide_eq_false_iff_not, beq_iff_eq, bne_iff_ne, beq_eq_false_iff_ne, bne_eq_false_iff_eq, Bool.not_eq_true', Bool.not_eq_false', Bool.not_eq_true, Bool.not_eq_false, Bool.and_eq_true, Bool.or_eq_true, Bool.and_eq_false_iff, Bool.or_eq_false_iff, Int.not_lt, Int.not_le, ne_eq, gt_iff_lt, ge_iff_le] at hb') <;> (try (exfalso; omega)))
  exact .here ⟨rfl, rfl⟩
theorem DrrParts_args (H : Heap) (vals : List Value) (h : ArgsOk maxLen H DrrPartsSh vals) : ACallK Try.prog 7 vals H fun v _ => v = .bool true := by
  obtain ⟨wt, _, rfl, a1, h⟩ := h.cons
  obtain ⟨wf, _, rfl, a2, h⟩ := h.cons
  obtain ⟨_, _, rfl, a3, h⟩ := h.cons
  obtain rfl := h.nil
  obtain ⟨ts, hT, hB, _⟩ := IsN.ofArg a1
  obtain ⟨fl, hF, hB2, hB3⟩ := IsLL.ofArg a2
  obtain ⟨R, rfl, hRr⟩ := a3.cell.int_inv
  have hm : maxLen ≤ 9223372036854775807 := by decide
  clear a1 a2 a3 h
  refine .walkW f7_ok (by simp; decide) (by decide) ?_
  repeat' first | simp (disch := first | with_reducible assumption | omega) only [go_sem, Bool.true_and, Bool.and_true, Bool.and_self, Bool.false_and, Bool.and_false, Bool.true_or, Bool.or_true, Bool.false_or, Bool.or_false, ↓reduceIte, Nat.reduceEqDiff, Nat.reduceAdd, Nat.reduceMul, Nat.reduceSub, Nat.reduceBEq, Nat.reduceLeDiff, Nat.reduceLT, Nat.reduceMod, Nat.reduceDiv, Int.reduceToNat, Int.reducePow, Int.reduceMul, Int.reduceAdd, Int.reduceSub, Int.reduceLE, Int.reduceLT, Int.reduceNeg, Int.reduceDiv, Int.reduceMod, Int.reduceEq, Int.reduceBEq, Int.reduceBNe, f7, f7b, f7r0, f7r1, f7r2, f7r3, f7r4, f7r5, f7r6, f7r7, f7r8] | (refine BrW.of (fun hb => ?_) (fun hb => ?_) <;> (have hb' := hb; try simp only [decide_eq_true_eq, decide_eq_false_iff_not, beq_iff_eq, bne_iff_ne, beq_eq_false_iff_ne, bne_eq_false_iff_eq, Bool.not_eq_true', Bool.not_eq_false', Bool.not_eq_true, Bool.not_eq_false, Bool.and_eq_true, Bool.or_eq_true, Bool.and_eq_false_iff, Bool.or_eq_false_iff, Int.not_lt, Int.not_le, ne_eq, gt_iff_lt, ge_iff_le] at hb') <;> (try (exfalso; omega))) | (refine .of ((alive _).mono ?_); rintro v H ⟨rfl, rfl⟩)
  have hfb : ∀ i, i < fl.length → (fl.getD i []).length ≤ 9223372036854775807 := fun i hi => by have := (hB3 i hi).1; omega
  refine .of ((Rounds_spec ts fl R _ _ _ H hT hF (by omega) (by omega) hfb).mono ?_)
  rintro v G ⟨a, b, c, e, rfl, hLe, he, hn, hy⟩
  have hT1 := hT.le hLe
  have hF1 := hF.le hLe
  by_cases z : e = 0
  · obtain ⟨hok, hR0, hR1⟩ := he.1 z
    obtain ⟨hS, hL, hM⟩ := hy z
    subst z
    obtain ⟨r, rfl⟩ := Int.eq_ofNat_of_zero_le hR0
    simp only [Int.toNat_natCast] at hS hL hM
    by_cases h400 : r = 400
    · subst h400
      have h4 : ((400 : Nat) : Int) = 400 := rfl
      repeat' first | simp (disch := first | with_reducible assumption | omega) only [go_sem, Bool.true_and, Bool.and_true, Bool.and_self, Bool.false_and, Bool.and_false, Bool.true_or, Bool.or_true, Bool.false_or, Bool.or_false, ↓reduceIte, Nat.reduceEqDiff, Nat.reduceAdd, Nat.reduceMul, Nat.reduceSub, Nat.reduceBEq, Nat.reduceLeDiff, Nat.reduceLT, Nat.reduceMod, Nat.reduceDiv, Int.reduceToNat, Int.reducePow, Int.reduceMul, Int.reduceAdd, Int.reduceSub, Int.reduceLE, Int.reduceLT, Int.reduceNeg, Int.reduceDiv, Int.reduceMod, Int.reduceEq, Int.reduceBEq, Int.reduceBNe, f7, f7b, f7r0, f7r1, f7r2, f7r3, f7r4, f7r5, f7r6, f7r7, f7r8, h4] | (refine BrW.of (fun hb => ?_) (fun hb => ?_) <;> (have hb' := hb; try simp only [decide_eq_true_eq, decide_eq_false_iff_not, beq_iff_eq, bne_iff_ne, beq_eq_false_iff_ne, bne_eq_false_iff_eq, Bool.not_eq_true', Bool.not_eq_false', Bool.not_eq_true, Bool.not_eq_false, Bool.and_eq_true, Bool.or_eq_true, Bool.and_eq_false_iff, Bool.or_eq_false_iff, Int.not_lt, Int.not_le, ne_eq, gt_iff_lt, ge_iff_le] at hb') <;> (try (exfalso; omega)))
      all_goals first | exact .here rfl | (exfalso; simp at hb'; omega)
    · have h4 : ((r : Int) == 400) = false := by simp; omega
      have hro := run_ok hok r
      have hRo := Round_spec ts (runSt ts fl r).may (runSt ts fl r).left _ _ _ _ G hT1 hL hM hro.1 hro.2
      have hR2 := fun G' hT' hF' => Rounds_spec ts fl ((r : Int) + 1) wt wf (fun _ => True) G' hT' hF' (by omega) (by omega) hfb
      have hst : runSt ts fl (r + 1) = stepSt ts (runSt ts fl r) := rfl
      have hfew := sent_few hok r
      have hfew2 := sent_few hok (r + 1)
      have hlen2 := run_lens ts fl hok.1.symm (r + 1)
      have hro2 := (run_ok hok (r + 1)).1
      unfold stepSt at hst
      clear he hy hn hB3
      repeat' first | simp (disch := first | with_reducible assumption | omega) only [go_sem, Bool.true_and, Bool.and_true, Bool.and_self, Bool.false_and, Bool.and_false, Bool.true_or, Bool.or_true, Bool.false_or, Bool.or_false, ↓reduceIte, Nat.reduceEqDiff, Nat.reduceAdd, Nat.reduceMul, Nat.reduceSub, Nat.reduceBEq, Nat.reduceLeDiff, Nat.reduceLT, Nat.reduceMod, Nat.reduceDiv, Int.reduceToNat, Int.reducePow, Int.reduceMul, Int.reduceAdd, Int.reduceSub, Int.reduceLE, Int.reduceLT, Int.reduceNeg, Int.reduceDiv, Int.reduceMod, Int.reduceEq, Int.reduceBEq, Int.reduceBNe, f7, f7b, f7r0, f7r1, f7r2, f7r3, f7r4, f7r5, f7r6, f7r7, f7r8, h4] | (refine BrW.of (fun hb => ?_) (fun hb => ?_) <;> (have hb' := hb; try simp only [decide_eq_true_eq, decide_eq_false_iff_not, beq_iff_eq, bne_iff_ne, beq_eq_false_iff_ne, bne_eq_false_iff_eq, Bool.not_eq_true', Bool.not_eq_false', Bool.not_eq_true, Bool.not_eq_false, Bool.and_eq_true, Bool.or_eq_true, Bool.and_eq_false_iff, Bool.or_eq_false_iff, Int.not_lt, Int.not_le, ne_eq, gt_iff_lt, ge_iff_le] at hb') <;> (try (exfalso; omega)))
      refine .of (hRo.mono ?_)
      rintro v G1 ⟨a1, b1, c1, rfl, hLe1, hS1, hL1, hM1⟩
      repeat' first | simp (disch := first | with_reducible assumption | omega) only [go_sem, Bool.true_and, Bool.and_true, Bool.and_self, Bool.false_and, Bool.and_false, Bool.true_or, Bool.or_true, Bool.false_or, Bool.or_false, ↓reduceIte, Nat.reduceEqDiff, Nat.reduceAdd, Nat.reduceMul, Nat.reduceSub, Nat.reduceBEq, Nat.reduceLeDiff, Nat.reduceLT, Nat.reduceMod, Nat.reduceDiv, Int.reduceToNat, Int.reducePow, Int.reduceMul, Int.reduceAdd, Int.reduceSub, Int.reduceLE, Int.reduceLT, Int.reduceNeg, Int.reduceDiv, Int.reduceMod, Int.reduceEq, Int.reduceBEq, Int.reduceBNe, f7, f7b, f7r0, f7r1, f7r2, f7r3, f7r4, f7r5, f7r6, f7r7, f7r8] | (refine BrW.of (fun hb => ?_) (fun hb => ?_) <;> (have hb' := hb; try simp only [decide_eq_true_eq, decide_eq_false_iff_not, beq_iff_eq, bne_iff_ne, beq_eq_false_iff_ne, bne_eq_false_iff_eq, Bool.not_eq_true', Bool.not_eq_false', Bool.not_eq_true, Bool.not_eq_false, Bool.and_eq_true, Bool.or_eq_true, Bool.and_eq_false_iff, Bool.or_eq_false_iff, Int.not_lt, Int.not_le, ne_eq, gt_iff_lt, ge_iff_le] at hb') <;> (try (exfalso; omega)))
      refine .of ((hR2 _ (hT1.le hLe1) (hF1.le hLe1)).mono ?_)
      rintro v G2 ⟨a2, b2, c2, e2, rfl, hLe2, he2, _, hy2⟩
      obtain rfl := he2.2 ⟨hok, by omega, by omega⟩
      obtain ⟨hS2, hL2, hM2⟩ := hy2 rfl
      rw [show ((r : Int) + 1).toNat = r + 1 by omega, hst] at hS2 hL2 hM2
      have hsl : ((runSt ts fl r).sent ++ sentR ts (runSt ts fl r).may (runSt ts fl r).left ts.length).length ≤ 6400 := by have := hfew2; rw [hst] at this; exact this
      have hS' := (hS.le hLe1).le hLe2
      have hS1' := hS1.any.le hLe2
      have hL1' := hL1.any.le hLe2
      have hM1' := hM1.any.le hLe2
      have hll := hlen2.1
      have hlm := hlen2.2
      rw [hst] at hll hlm hro2
      simp only at hll hlm hro2 hS2 hL2 hM2
      clear hS hS1 hL1 hM1 hL hM hRo hR2 he2 hy2 hT hF hT1 hF1 hLe hLe1 hLe2 hst hro hlen2 hfew2
      have hn16 := hok.2.1
      have hTb : (sentR ts (runSt ts fl r).may (runSt ts fl r).left ts.length).length ≤ 6400 := by rw [List.length_append] at hsl; omega
      generalize sentR ts (runSt ts fl r).may (runSt ts fl r).left ts.length = SR at *
      generalize leftR ts (runSt ts fl r).may (runSt ts fl r).left ts.length = LR at *
      generalize yetR ts (runSt ts fl r).may (runSt ts fl r).left ts.length = YR at *
      generalize (runSt ts fl r).sent = SI at *
      have hzS : ∀ G v (l : List S), IsS (fun _ => True) G v l → IsSCatS G v l := fun G v l h => by
        obtain ⟨k, o, g, c, _, h1, h2, h3⟩ := h
        exact .inr ⟨k, o, g, c, h1, h2, h3⟩
      obtain ⟨sa, na, ca, rfl⟩ := hS'.slice
      obtain ⟨sb, nb, cb, rfl⟩ := hS1'.slice
      have hCat := CatS_spec SI SR (.slice sa na ca) (.slice sb nb cb) G2.length (G2 ++ [.cells 0 1 false [.slice sa na ca, .slice sb nb cb]]) (get_new0 _ _ _) (hzS _ _ _ (hS'.app _)) (hzS _ _ _ (hS1'.app _)) (by omega) (by omega)
      repeat' first | simp (disch := first | with_reducible assumption | omega) only [go_sem, Bool.true_and, Bool.and_true, Bool.and_self, Bool.false_and, Bool.and_false, Bool.true_or, Bool.or_true, Bool.false_or, Bool.or_false, ↓reduceIte, Nat.reduceEqDiff, Nat.reduceAdd, Nat.reduceMul, Nat.reduceSub, Nat.reduceBEq, Nat.reduceLeDiff, Nat.reduceLT, Nat.reduceMod, Nat.reduceDiv, Int.reduceToNat, Int.reducePow, Int.reduceMul, Int.reduceAdd, Int.reduceSub, Int.reduceLE, Int.reduceLT, Int.reduceNeg, Int.reduceDiv, Int.reduceMod, Int.reduceEq, Int.reduceBEq, Int.reduceBNe, f7, f7b, f7r0, f7r1, f7r2, f7r3, f7r4, f7r5, f7r6, f7r7, f7r8] | (refine BrW.of (fun hb => ?_) (fun hb => ?_) <;> (have hb' := hb; try simp only [decide_eq_true_eq, decide_eq_false_iff_not, beq_iff_eq, bne_iff_ne, beq_eq_false_iff_ne, bne_eq_false_iff_eq, Bool.not_eq_true', Bool.not_eq_false', Bool.not_eq_true, Bool.not_eq_false, Bool.and_eq_true, Bool.or_eq_true, Bool.and_eq_false_iff, Bool.or_eq_false_iff, Int.not_lt, Int.not_le, ne_eq, gt_iff_lt, ge_iff_le] at hb') <;> (try (exfalso; omega)))
      refine .of (hCat.mono ?_)
      rintro v G3 ⟨hLe3, hC⟩
      have hLe4 := (Le.app G2 [AObj.cells 0 1 false [.slice sa na ca, .slice sb nb cb]]).trans hLe3
      have hS2 := hS2.le hLe4
      have hL2 := hL2.le hLe4
      have hM2 := hM2.le hLe4
      have hL1' := hL1'.le hLe4
      have hM1' := hM1'.le hLe4
      have hEi : ∀ v w, IsN (fun _ => True) G3 v YR → IsN (fun _ => True) G3 w YR → ACallK Try.prog 15 [v, w] G3 (fun v H' => v = .bool true ∧ H' = G3) := fun v w h1 h2 => by
        obtain ⟨k, o, g, c, _, rfl, h1, _⟩ := h1
        obtain ⟨k', o', g', c', _, rfl, h2, _⟩ := h2
        have := EqualI_spec YR YR k o g c k' o' g' c' G3 h1 h2 (by omega) (by omega)
        rwa [decide_eq_true rfl] at this
      have hEq : ACallK Try.prog 13 [v, a2] G3 (fun v H' => v = .bool true ∧ H' = G3) := by
        obtain ⟨k, o, g, c, _, rfl, h2, _⟩ := hS2
        rcases hC with ⟨rfl, hC⟩ | ⟨k1, o1, g1, c3, rfl, hC, hCl⟩
        · rw [hC] at h2 ⊢
          exact EqualS_nil k o g c G3 h2
        · have := EqualS_spec _ _ k1 o1 g1 c3 k o g c G3 hC h2 (by omega) (by omega) same_S
          rwa [decide_eq_true rfl] at this
      have hSa := Same_spec LR LR b1 b2 _ _ G3 hL1' hL2 (by omega) (fun i _ => by have := (hro2.flow i).1; omega) rfl
      have hEi := hEi _ _ hM1' hM2
      clear hC hCat hzS hS2 hL2 hM2 hL1' hM1' hS' hS1'
      repeat' first | simp (disch := first | with_reducible assumption | omega) only [go_sem, Bool.true_and, Bool.and_true, Bool.and_self, Bool.false_and, Bool.and_false, Bool.true_or, Bool.or_true, Bool.false_or, Bool.or_false, ↓reduceIte, Nat.reduceEqDiff, Nat.reduceAdd, Nat.reduceMul, Nat.reduceSub, Nat.reduceBEq, Nat.reduceLeDiff, Nat.reduceLT, Nat.reduceMod, Nat.reduceDiv, Int.reduceToNat, Int.reducePow, Int.reduceMul, Int.reduceAdd, Int.reduceSub, Int.reduceLE, Int.reduceLT, Int.reduceNeg, Int.reduceDiv, Int.reduceMod, Int.reduceEq, Int.reduceBEq, Int.reduceBNe, f7, f7b, f7r0, f7r1, f7r2, f7r3, f7r4, f7r5, f7r6, f7r7, f7r8] | (refine BrW.of (fun hb => ?_) (fun hb => ?_) <;> (have hb' := hb; try simp only [decide_eq_true_eq, decide_eq_false_iff_not, beq_iff_eq, bne_iff_ne, beq_eq_false_iff_ne, bne_eq_false_iff_eq, Bool.not_eq_true', Bool.not_eq_false', Bool.not_eq_true, Bool.not_eq_false, Bool.and_eq_true, Bool.or_eq_true, Bool.and_eq_false_iff, Bool.or_eq_false_iff, Int.not_lt, Int.not_le, ne_eq, gt_iff_lt, ge_iff_le] at hb') <;> (try (exfalso; omega))) | (refine .of (hEq.mono ?_); rintro v _ ⟨rfl, rfl⟩) | (refine .of (hSa.mono ?_); rintro v _ ⟨rfl, rfl⟩) | (refine .of (hEi.mono ?_); rintro v _ ⟨rfl, rfl⟩)
      all_goals exact .here rfl
  · have z' : (e != 0) = true := by simpa using z
    repeat' first | simp (disch := first | with_reducible assumption | omega) only [go_sem, Bool.true_and, Bool.and_true, Bool.and_self, Bool.false_and, Bool.and_false, Bool.true_or, Bool.or_true, Bool.false_or, Bool.or_false, ↓reduceIte, Nat.reduceEqDiff, Nat.reduceAdd, Nat.reduceMul, Nat.reduceSub, Nat.reduceBEq, Nat.reduceLeDiff, Nat.reduceLT, Nat.reduceMod, Nat.reduceDiv, Int.reduceToNat, Int.reducePow, Int.reduceMul, Int.reduceAdd, Int.reduceSub, Int.reduceLE, Int.reduceLT, Int.reduceNeg, Int.reduceDiv, Int.reduceMod, Int.reduceEq, Int.reduceBEq, Int.reduceBNe, f7, f7b, f7r0, f7r1, f7r2, f7r3, f7r4, f7r5, f7r6, f7r7, f7r8, z'] | (refine BrW.of (fun hb => ?_) (fun hb => ?_) <;> (have hb' := hb; try simp only [decide_eq_true_eq, decide_eq_false_iff_not, beq_iff_eq, bne_iff_ne, beq_eq_false_iff_ne, bne_eq_false_iff_eq, Bool.not_eq_true', Bool.not_eq_false', Bool.not_eq_true, Bool.not_eq_false, Bool.and_eq_true, Bool.or_eq_true, Bool.and_eq_false_iff, Bool.or_eq_false_iff, Int.not_lt, Int.not_le, ne_eq, gt_iff_lt, ge_iff_le] at hb') <;> (try (exfalso; omega)))
    all_goals exact .here rfl
end Go.Proofs.Ythdpcloggedhfaa
