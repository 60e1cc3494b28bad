import Derived.Test.YthdpcloggedhfaaLaws
set_option linter.unusedSimpArgs false
set_option linter.unusedVariables false
set_option maxHeartbeats 2000000
set_option maxRecDepth 20000
namespace Go.Proofs.Ythdpcloggedhfaa
open Go Go.Am
attribute [local irreducible] opsW Ww loopW callW drawW outW outDW gW cW BrW bothW vW resW DropW RdW dcallW altW Later.run

theorem one_of {α : Type} (d : α) (l : List α) (w : Nat) (h : w < l.length) : (l.drop w).take 1 = [l.getD w d] := by
  rw [List.drop_eq_getElem_cons h, List.getD_eq_getElem?_getD, List.getElem?_eq_getElem h]; rfl
theorem sub_N {A : Nat → Prop} {H : Heap} {k o g c w : Nat} {l : List Int} (h : Ints H k o g l) (hA : A k) (hw : w < l.length) (hc : l.length ≤ c) : IsN A H (slv k (o + w) g 1 (c - w)) [l.getD w 0] := by
  have h1 := (h.drop w (by omega)).take 1
  rw [one_of 0 l w hw, Nat.mul_one] at h1
  exact .of hA h1 (by simp; omega)
theorem sub_LL {H : Heap} {k o g c w : Nat} {vs : List Value} {ls : List (List Int)} {A : Nat → Prop} (hv : Vals H k o g vs) (hA : A k) (hl : vs.length = ls.length) (hw : w < ls.length) (hc : ls.length ≤ c) (hin : ∀ i, i < ls.length → IsN A H (vs.getD i v0) (ls.getD i [])) :
    IsLL A H (slv k (o + w) g 1 (c - w)) [ls.getD w []] := by
  have h1 := (hv.drop w (by omega)).take 1
  rw [one_of v0 vs w (by omega), Nat.mul_one] at h1
  refine ⟨k, o + w, g, c - w, [vs.getD w v0], hA, rfl, h1, rfl, by simp; omega, fun i hi => ?_⟩
  obtain rfl : i = 0 := by simp at hi; omega
  exact hin w hw
theorem DrrApart_args (H : Heap) (vals : List Value) (h : ArgsOk maxLen H DrrApartSh vals) : ACallK Try.prog 5 vals H fun v _ => v = .bool true := by
  obtain ⟨wt, _, rfl, a1, h⟩ := h.cons
  obtain ⟨wf, _, rfl, a2, h⟩ := h.cons
  obtain ⟨_, _, rfl, a3, h⟩ := h.cons
  obtain ⟨_, _, rfl, a4, h⟩ := h.cons
  obtain rfl := h.nil
  obtain ⟨ts, hT, hB, _⟩ := IsN.ofArg a1
  obtain ⟨fl, hF, hB2, hB3⟩ := IsLL.ofArg a2
  obtain ⟨R, rfl, hRr⟩ := a3.cell.int_inv
  obtain ⟨wi, rfl, _⟩ := a4.cell.int_inv
  have hm : maxLen ≤ 9223372036854775807 := by decide
  clear a1 a2 a3 a4 h
  refine .walkW f5_ok (by simp; decide) (by decide) ?_
  repeat' first | simp (disch := first | with_reducible assumption | omega) only [go_sem, Bool.true_and, Bool.and_true, Bool.and_self, Bool.false_and, Bool.and_false, Bool.true_or, Bool.or_true, Bool.false_or, Bool.or_false, ↓reduceIte, Nat.reduceEqDiff, Nat.reduceAdd, Nat.reduceMul, Nat.reduceSub, Nat.reduceBEq, Nat.reduceLeDiff, Nat.reduceLT, Nat.reduceMod, Nat.reduceDiv, Int.reduceToNat, Int.reducePow, Int.reduceMul, Int.reduceAdd, Int.reduceSub, Int.reduceLE, Int.reduceLT, Int.reduceNeg, Int.reduceDiv, Int.reduceMod, Int.reduceEq, Int.reduceBEq, Int.reduceBNe, f5, f5b, f5r0, f5r1, f5r2, f5r3, f5r4, f5r5, f5r6, f5r7] | (refine BrW.of (fun hb => ?_) (fun hb => ?_) <;> (have hb' := hb; try simp only [decide_eq_true_eq, decide_eq_false_iff_not, beq_iff_eq, bne_iff_ne, beq_eq_false_iff_ne, bne_eq_false_iff_eq, Bool.not_eq_true', Bool.not_eq_false', Bool.not_eq_true, Bool.not_eq_false, Bool.and_eq_true, Bool.or_eq_true, Bool.and_eq_false_iff, Bool.or_eq_false_iff, Int.not_lt, Int.not_le, ne_eq, gt_iff_lt, ge_iff_le] at hb') <;> (try (exfalso; omega))) | (refine altW.of ?_ ?_) | (refine .of ((alive _).mono ?_); rintro v H ⟨rfl, rfl⟩)
  have hfb : ∀ i, i < fl.length → (fl.getD i []).length ≤ 9223372036854775807 := fun i hi => by have := (hB3 i hi).1; omega
  refine .of ((Rounds_spec ts fl R _ _ _ H hT hF (by omega) (by omega) hfb).mono ?_)
  rintro v G ⟨a, b, c, e, rfl, hLe, he, hn, hy⟩
  have hT1 := hT.le hLe
  have hF1 := hF.le hLe
  obtain ⟨k, o, g, cp, _, rfl, hs, hc⟩ := hT1
  obtain ⟨ro, cs, hk, hcl, hcs⟩ := Ints.cell hs
  by_cases z : e = 0
  · by_cases hw0 : 0 ≤ wi
    · obtain ⟨w, rfl⟩ := Int.eq_ofNat_of_zero_le hw0
      by_cases hw1 : w < ts.length
      · obtain ⟨hok, hR0, hR1⟩ := he.1 z
        obtain ⟨hS, hL, hM⟩ := hy z
        subst z
        obtain ⟨k2, o2, g2, c2, vs, _, rfl, hv, hvl, hc2, hin⟩ := hF1
        obtain ⟨ro2, cs2, hk2, hcl2, hcs2⟩ := hv.cell
        have hfl := hok.1
        have hT2 := sub_N (A := fun _ => True) hs trivial hw1 hc
        have hF2 := sub_LL hv trivial hvl (w := w) (by omega) hc2 hin
        have hR2 := Rounds_spec [ts.getD w 0] [fl.getD w []] R _ _ _ G hT2 hF2 (by simp) (by simp) (fun i hi => by
          obtain rfl : i = 0 := by simp at hi; omega
          exact hfb w (by omega))
        have hok2 : okT [ts.getD w 0] [fl.getD w []] := ⟨rfl, by simp, fun t ht => by rw [List.mem_singleton.1 ht]; exact hok.turn hw1, fun l hl => by rw [List.mem_singleton.1 hl]; exact hok.flow w⟩
        have z1 : (w : Int).toNat = w := by omega
        have z2 : ((w : Int) + 1).toNat = w + 1 := by omega
        have z3 : w + 1 - w = 1 := by omega
        clear hcs hcs2 he hn hy
        repeat' first | simp (disch := first | with_reducible assumption | omega) only [go_sem, Bool.true_and, Bool.and_true, Bool.and_self, Bool.false_and, Bool.and_false, Bool.true_or, Bool.or_true, Bool.false_or, Bool.or_false, ↓reduceIte, Nat.reduceEqDiff, Nat.reduceAdd, Nat.reduceMul, Nat.reduceSub, Nat.reduceBEq, Nat.reduceLeDiff, Nat.reduceLT, Nat.reduceMod, Nat.reduceDiv, Int.reduceToNat, Int.reducePow, Int.reduceMul, Int.reduceAdd, Int.reduceSub, Int.reduceLE, Int.reduceLT, Int.reduceNeg, Int.reduceDiv, Int.reduceMod, Int.reduceEq, Int.reduceBEq, Int.reduceBNe, f5, f5b, f5r0, f5r1, f5r2, f5r3, f5r4, f5r5, f5r6, f5r7, hk, hk2, z1, z2, z3, Nat.mul_one] | (refine BrW.of (fun hb => ?_) (fun hb => ?_) <;> (have hb' := hb; try simp only [decide_eq_true_eq, decide_eq_false_iff_not, beq_iff_eq, bne_iff_ne, beq_eq_false_iff_ne, bne_eq_false_iff_eq, Bool.not_eq_true', Bool.not_eq_false', Bool.not_eq_true, Bool.not_eq_false, Bool.and_eq_true, Bool.or_eq_true, Bool.and_eq_false_iff, Bool.or_eq_false_iff, Int.not_lt, Int.not_le, ne_eq, gt_iff_lt, ge_iff_le] at hb') <;> (try (exfalso; omega))) | (refine altW.of ?_ ?_)
        refine .of (hR2.mono ?_)
        rintro v G2 ⟨a2, b2, c2', e2, rfl, hLe2, he2, hn2, hy2⟩
        obtain rfl : e2 = 0 := he2.2 ⟨hok2, hR0, hR1⟩
        obtain ⟨hS2, _, _⟩ := hy2 rfl
        have hse := run_sent hok R.toNat
        have hse2 := run_sent hok2 R.toNat
        obtain ⟨r, rfl⟩ := Int.eq_ofNat_of_zero_le hR0
        simp only [Int.toNat_natCast] at *
        have s1 := fun G' hS' => sum_spec (runSt ts fl r).sent a w (fun _ => True) G' hS' (by have := hse.1; omega) (fun s hs => by obtain ⟨_, _, _, h⟩ := hse.2 s hs; exact h)
        have s2 := fun G' hS' => sum_spec (runSt [ts.getD w 0] [fl.getD w []] r).sent a2 0 (fun _ => True) G' hS' (by have := hse2.1; omega) (fun s hs => by obtain ⟨_, _, _, h⟩ := hse2.2 s hs; exact h)
        have q1 := (run_flow ts fl w hw1 r).2.2
        have q2 := (run_flow [ts.getD w 0] [fl.getD w []] 0 (by simp) r).2.2
        simp only [List.getD_cons_zero] at q2
        rw [q1] at s1
        rw [q2] at s2
        have hS1 := hS.le hLe2
        have z0 : ((0 : Nat) : Int) = 0 := rfl
        rw [z0] at s2
        generalize (runF (ts.getD w 0) (fl.getD w []) r).out.sum = X at *
        have hX : (X == X) = true := by simp
        repeat' first | simp (disch := first | with_reducible assumption | omega) only [go_sem, Bool.true_and, Bool.and_true, Bool.and_self, Bool.false_and, Bool.and_false, Bool.true_or, Bool.or_true, Bool.false_or, Bool.or_false, ↓reduceIte, Nat.reduceEqDiff, Nat.reduceAdd, Nat.reduceMul, Nat.reduceSub, Nat.reduceBEq, Nat.reduceLeDiff, Nat.reduceLT, Nat.reduceMod, Nat.reduceDiv, Int.reduceToNat, Int.reducePow, Int.reduceMul, Int.reduceAdd, Int.reduceSub, Int.reduceLE, Int.reduceLT, Int.reduceNeg, Int.reduceDiv, Int.reduceMod, Int.reduceEq, Int.reduceBEq, Int.reduceBNe, f5, f5b, f5r0, f5r1, f5r2, f5r3, f5r4, f5r5, f5r6, f5r7, hX] | (refine BrW.of (fun hb => ?_) (fun hb => ?_) <;> (have hb' := hb; try simp only [decide_eq_true_eq, decide_eq_false_iff_not, beq_iff_eq, bne_iff_ne, beq_eq_false_iff_ne, bne_eq_false_iff_eq, Bool.not_eq_true', Bool.not_eq_false', Bool.not_eq_true, Bool.not_eq_false, Bool.and_eq_true, Bool.or_eq_true, Bool.and_eq_false_iff, Bool.or_eq_false_iff, Int.not_lt, Int.not_le, ne_eq, gt_iff_lt, ge_iff_le] at hb') <;> (try (exfalso; omega))) | (refine altW.of ?_ ?_) | (refine .of ((s1 _ hS1).mono ?_); rintro v _ ⟨rfl, rfl⟩) | (refine .of ((s2 _ hS2).mono ?_); rintro v _ ⟨rfl, rfl⟩)
        all_goals exact .here rfl
      · subst z
        repeat' first | simp (disch := first | with_reducible assumption | omega) only [go_sem, Bool.true_and, Bool.and_true, Bool.and_self, Bool.false_and, Bool.and_false, Bool.true_or, Bool.or_true, Bool.false_or, Bool.or_false, ↓reduceIte, Nat.reduceEqDiff, Nat.reduceAdd, Nat.reduceMul, Nat.reduceSub, Nat.reduceBEq, Nat.reduceLeDiff, Nat.reduceLT, Nat.reduceMod, Nat.reduceDiv, Int.reduceToNat, Int.reducePow, Int.reduceMul, Int.reduceAdd, Int.reduceSub, Int.reduceLE, Int.reduceLT, Int.reduceNeg, Int.reduceDiv, Int.reduceMod, Int.reduceEq, Int.reduceBEq, Int.reduceBNe, f5, f5b, f5r0, f5r1, f5r2, f5r3, f5r4, f5r5, f5r6, f5r7, hk] | (refine BrW.of (fun hb => ?_) (fun hb => ?_) <;> (have hb' := hb; try simp only [decide_eq_true_eq, decide_eq_false_iff_not, beq_iff_eq, bne_iff_ne, beq_eq_false_iff_ne, bne_eq_false_iff_eq, Bool.not_eq_true', Bool.not_eq_false', Bool.not_eq_true, Bool.not_eq_false, Bool.and_eq_true, Bool.or_eq_true, Bool.and_eq_false_iff, Bool.or_eq_false_iff, Int.not_lt, Int.not_le, ne_eq, gt_iff_lt, ge_iff_le] at hb') <;> (try (exfalso; omega))) | (refine altW.of ?_ ?_)
        exact .here rfl
    · subst z
      repeat' first | simp (disch := first | with_reducible assumption | omega) only [go_sem, Bool.true_and, Bool.and_true, Bool.and_self, Bool.false_and, Bool.and_false, Bool.true_or, Bool.or_true, Bool.false_or, Bool.or_false, ↓reduceIte, Nat.reduceEqDiff, Nat.reduceAdd, Nat.reduceMul, Nat.reduceSub, Nat.reduceBEq, Nat.reduceLeDiff, Nat.reduceLT, Nat.reduceMod, Nat.reduceDiv, Int.reduceToNat, Int.reducePow, Int.reduceMul, Int.reduceAdd, Int.reduceSub, Int.reduceLE, Int.reduceLT, Int.reduceNeg, Int.reduceDiv, Int.reduceMod, Int.reduceEq, Int.reduceBEq, Int.reduceBNe, f5, f5b, f5r0, f5r1, f5r2, f5r3, f5r4, f5r5, f5r6, f5r7, hk] | (refine BrW.of (fun hb => ?_) (fun hb => ?_) <;> (have hb' := hb; try simp only [decide_eq_true_eq, decide_eq_false_iff_not, beq_iff_eq, bne_iff_ne, beq_eq_false_iff_ne, bne_eq_false_iff_eq, Bool.not_eq_true', Bool.not_eq_false', Bool.not_eq_true, Bool.not_eq_false, Bool.and_eq_true, Bool.or_eq_true, Bool.and_eq_false_iff, Bool.or_eq_false_iff, Int.not_lt, Int.not_le, ne_eq, gt_iff_lt, ge_iff_le] at hb') <;> (try (exfalso; omega))) | (refine altW.of ?_ ?_)
      all_goals exact .here rfl
  · have z' : (e != 0) = true := by simpa using z
    repeat' first | simp (disch := first | with_reducible assumption | omega) only [go_sem, Bool.true_and, Bool.and_true, Bool.and_self, Bool.false_and, Bool.and_false, Bool.true_or, Bool.or_true, Bool.false_or, Bool.or_false, ↓reduceIte, Nat.reduceEqDiff, Nat.reduceAdd, Nat.reduceMul, Nat.reduceSub, Nat.reduceBEq, Nat.reduceLeDiff, Nat.reduceLT, Nat.reduceMod, Nat.reduceDiv, Int.reduceToNat, Int.reducePow, Int.reduceMul, Int.reduceAdd, Int.reduceSub, Int.reduceLE, Int.reduceLT, Int.reduceNeg, Int.reduceDiv, Int.reduceMod, Int.reduceEq, Int.reduceBEq, Int.reduceBNe, f5, f5b, f5r0, f5r1, f5r2, f5r3, f5r4, f5r5, f5r6, f5r7, z', hk] | (refine BrW.of (fun hb => ?_) (fun hb => ?_) <;> (have hb' := hb; try simp only [decide_eq_true_eq, decide_eq_false_iff_not, beq_iff_eq, bne_iff_ne, beq_eq_false_iff_ne, bne_eq_false_iff_eq, Bool.not_eq_true', Bool.not_eq_false', Bool.not_eq_true, Bool.not_eq_false, Bool.and_eq_true, Bool.or_eq_true, Bool.and_eq_false_iff, Bool.or_eq_false_iff, Int.not_lt, Int.not_le, ne_eq, gt_iff_lt, ge_iff_le] at hb') <;> (try (exfalso; omega))) | (refine altW.of ?_ ?_)
    all_goals exact .here rfl
end Go.Proofs.Ythdpcloggedhfaa
