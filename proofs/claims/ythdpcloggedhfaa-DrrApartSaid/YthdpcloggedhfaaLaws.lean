import Derived.Test.YthdpcloggedhfaaSteps4
import Derived.Test.YthdpcloggedhfaaBase
set_option linter.unusedSimpArgs false
set_option linter.unusedVariables false
set_option maxHeartbeats 2000000
set_option maxRecDepth 20000
namespace Go.Proofs.Ythdpcloggedhfaa
open Go Go.Am
attribute [local irreducible] opsW Ww loopW callW drawW outW outDW gW cW BrW bothW vW resW DropW RdW dcallW altW Later.run

theorem natmul_bound {r : Nat} {t : Int} (hr : r ≤ 400) (ht : 1 ≤ t ∧ t ≤ 10000) : 0 ≤ (r : Int) * t ∧ (r : Int) * t ≤ 4000000 := by
  have h1 := Int.mul_nonneg (show (0 : Int) ≤ r by omega) (show 0 ≤ t by omega)
  have h2 := Int.mul_le_mul (show (r : Int) ≤ 400 by omega) ht.2 (by omega) (by omega)
  omega
theorem DrrFair_args (H : Heap) (vals : List Value) (h : ArgsOk maxLen H DrrFairSh vals) : ACallK Try.prog 3 vals H fun v _ => v = .bool true := by
  obtain ⟨_, _, rfl, a1, h⟩ := h.cons
  obtain ⟨_, _, rfl, a2, h⟩ := h.cons
  obtain ⟨_, _, rfl, a3, h⟩ := h.cons
  obtain rfl := h.nil
  obtain ⟨ts, hT, hB, _⟩ := IsN.ofArg a1
  obtain ⟨fl, hF, hB2, hB3⟩ := IsLL.ofArg a2
  obtain ⟨R, rfl, _⟩ := a3.cell.int_inv
  have hm : maxLen ≤ 9223372036854775807 := by decide
  clear a1 a2 a3 h
  refine .walkW f3_ok (by simp; decide) (by decide) ?_
  repeat' first | simp (disch := first | with_reducible assumption | omega) only [go_sem, Bool.true_and, Bool.and_true, Bool.and_self, Bool.false_and, Bool.and_false, Bool.true_or, Bool.or_true, Bool.false_or, Bool.or_false, ↓reduceIte, Nat.reduceEqDiff, Nat.reduceAdd, Nat.reduceMul, Nat.reduceSub, Nat.reduceBEq, Nat.reduceLeDiff, Nat.reduceLT, Nat.reduceMod, Nat.reduceDiv, Int.reduceToNat, Int.reducePow, Int.reduceMul, Int.reduceAdd, Int.reduceSub, Int.reduceLE, Int.reduceLT, Int.reduceNeg, Int.reduceDiv, Int.reduceMod, Int.reduceEq, Int.reduceBEq, Int.reduceBNe, f3, f3b, f3r0, f3r1, f3r2, f3r3, f3r4, f3r5, f3r6, f3r7, f3r8, f3r9, f3r10, f3r11, f3r12, f3r13, f3r14, f3r16] | (refine BrW.of (fun hb => ?_) (fun hb => ?_) <;> (have hb' := hb; try simp only [decide_eq_true_eq, decide_eq_false_iff_not, beq_iff_eq, bne_iff_ne, beq_eq_false_iff_ne, bne_eq_false_iff_eq, Bool.not_eq_true', Bool.not_eq_false', Bool.not_eq_true, Bool.not_eq_false, Bool.and_eq_true, Bool.or_eq_true, Bool.and_eq_false_iff, Bool.or_eq_false_iff, Int.not_lt, Int.not_le, ne_eq, gt_iff_lt, ge_iff_le] at hb') <;> (try (exfalso; omega))) | (refine altW.of ?_ ?_) | (refine .of ((alive _).mono ?_); rintro v H ⟨rfl, rfl⟩)
  refine .of ((Rounds_spec ts fl R _ _ _ H hT hF (by omega) (by omega) (fun i hi => by have := (hB3 i hi).1; omega)).mono ?_)
  rintro v G ⟨a, b, c, e, rfl, hLe, he, hn, hy⟩
  have hT1 := hT.le hLe
  by_cases z : e = 0
  · obtain ⟨hok, hR0, hR1⟩ := he.1 z
    obtain ⟨hS, hL, hM⟩ := hy z
    subst z
    obtain ⟨r, rfl⟩ := Int.eq_ofNat_of_zero_le hR0
    simp only [Int.toNat_natCast] at hS hL hM
    have hlens := run_lens ts fl hok.1.symm r
    have hflow := fun k hk => run_flow ts fl k hk r
    have hsent := run_sent hok r
    have hSu := fun k => sum_spec (runSt ts fl r).sent a k _ G hS (by have := hsent.1; omega) (fun s hs => by obtain ⟨_, _, _, h⟩ := hsent.2 s hs; exact h)
    obtain ⟨k, o, g, cp, _, rfl, hs, hc⟩ := hT1
    obtain ⟨ro, cs, hk, hcl, hcs⟩ := Ints.cell hs
    obtain ⟨k2, o2, g2, c2, vs, _, rfl, hv, hvl, hc2, hin⟩ := hL
    obtain ⟨ro2, cs2, hk2, hcl2, hcs2⟩ := hv.cell
    obtain ⟨k3, o3, g3, c3, _, rfl, hs3, hc3⟩ := hM
    obtain ⟨ro3, cs3, hk3, hcl3, hcs3⟩ := Ints.cell hs3
    clear hT hF he hn hy hLe
    generalize runSt ts fl r = st at *
    obtain ⟨sent, left, may⟩ := st
    simp only at *
    obtain ⟨hl1, hl2⟩ := hlens
    repeat' first | simp (disch := first | with_reducible assumption | omega) only [go_sem, Bool.true_and, Bool.and_true, Bool.and_self, Bool.false_and, Bool.and_false, Bool.true_or, Bool.or_true, Bool.false_or, Bool.or_false, ↓reduceIte, Nat.reduceEqDiff, Nat.reduceAdd, Nat.reduceMul, Nat.reduceSub, Nat.reduceBEq, Nat.reduceLeDiff, Nat.reduceLT, Nat.reduceMod, Nat.reduceDiv, Int.reduceToNat, Int.reducePow, Int.reduceMul, Int.reduceAdd, Int.reduceSub, Int.reduceLE, Int.reduceLT, Int.reduceNeg, Int.reduceDiv, Int.reduceMod, Int.reduceEq, Int.reduceBEq, Int.reduceBNe, f3, f3b, f3r0, f3r1, f3r2, f3r3, f3r4, f3r5, f3r6, f3r7, f3r8, f3r9, f3r10, f3r11, f3r12, f3r13, f3r14, f3r16, hk] | (refine BrW.of (fun hb => ?_) (fun hb => ?_) <;> (have hb' := hb; try simp only [decide_eq_true_eq, decide_eq_false_iff_not, beq_iff_eq, bne_iff_ne, beq_eq_false_iff_ne, bne_eq_false_iff_eq, Bool.not_eq_true', Bool.not_eq_false', Bool.not_eq_true, Bool.not_eq_false, Bool.and_eq_true, Bool.or_eq_true, Bool.and_eq_false_iff, Bool.or_eq_false_iff, Int.not_lt, Int.not_le, ne_eq, gt_iff_lt, ge_iff_le] at hb') <;> (try (exfalso; omega))) | (refine altW.of ?_ ?_)
    refine loopW.of (by decide) (fun m e J => ∃ i : Nat, e = [(2, .int .i64 r), (7, a), (8, slv k2 o2 g2 left.length c2), (9, slv k3 o3 g3 may.length c3), (30, slv k o g ts.length cp), (31, .int .i64 ts.length), (32, .int .i64 i)] ∧ J = G ∧ i ≤ ts.length ∧ m = ts.length - i) ts.length ⟨0, rfl, rfl, by omega, rfl⟩ ?_
    rintro m e J ⟨i, rfl, rfl, hi, rfl⟩
    by_cases hlt : i < ts.length
    · have e0 := hcs i hlt
      have e1 := hcs2 i (by omega)
      have e3 := hcs3 i (by omega)
      obtain ⟨k4, o4, g4, c4, _, hve, hs4, hc4⟩ := hin i (by omega)
      rw [hve] at e1
      obtain ⟨ro4, cs4, hk4, hcl4, hcs4⟩ := Ints.cell hs4
      have ht := hok.turn hlt
      have hfl := hok.flow i
      obtain ⟨w1, w2, w3⟩ := hflow i hlt
      obtain ⟨hF, hF0⟩ := run_fair (t := ts.getD i 0) (by omega) (fl.getD i []) (fun x hx => (hfl.2 x hx).1) r
      rw [← w2] at hF0
      obtain ⟨hall, hmost, hdone, hrest⟩ := hF
      rw [← w3] at hall hmost hrest
      rw [← w1] at hall hdone hrest
      rw [← w2] at hdone hrest
      have hSi := hSu i
      have hP := natmul_bound (r := r) (by omega) ht
      have hmem := fun (h : 0 < (left.getD i []).length) => hfl.2 _ (by rw [← hall]; exact List.mem_append_right _ (getD_mem (d := (0 : Int)) h))
      have hso := ofF_bound i sent (fun s hs => by obtain ⟨_, _, _, h⟩ := hsent.2 s hs; exact h)
      have hsl := hsent.1
      clear hcs hcs2 hcs3 hin hSu hflow hsent hall w1 w2 w3 hve hs4 hs3 hs hv
      generalize left.getD i [] = l at *
      generalize may.getD i 0 = m0 at *
      generalize ts.getD i 0 = t at *
      generalize (ofF i sent).sum = n at *
      by_cases hz : l.length = 0
      · obtain rfl := List.eq_nil_of_length_eq_zero hz
        simp only [List.length_nil] at *
        clear hrest hdone hmem hfl
        repeat' first | simp (disch := first | with_reducible assumption | omega) only [go_sem, Bool.true_and, Bool.and_true, Bool.and_self, Bool.false_and, Bool.and_false, Bool.true_or, Bool.or_true, Bool.false_or, Bool.or_false, ↓reduceIte, Nat.reduceEqDiff, Nat.reduceAdd, Nat.reduceMul, Nat.reduceSub, Nat.reduceBEq, Nat.reduceLeDiff, Nat.reduceLT, Nat.reduceMod, Nat.reduceDiv, Int.reduceToNat, Int.reducePow, Int.reduceMul, Int.reduceAdd, Int.reduceSub, Int.reduceLE, Int.reduceLT, Int.reduceNeg, Int.reduceDiv, Int.reduceMod, Int.reduceEq, Int.reduceBEq, Int.reduceBNe, f3, f3b, f3r0, f3r1, f3r2, f3r3, f3r4, f3r5, f3r6, f3r7, f3r8, f3r9, f3r10, f3r11, f3r12, f3r13, f3r14, f3r16, f3l0, hk, hk2, hk3, hk4, e0, e1, e3] | (refine BrW.of (fun hb => ?_) (fun hb => ?_) <;> (have hb' := hb; try simp only [decide_eq_true_eq, decide_eq_false_iff_not, beq_iff_eq, bne_iff_ne, beq_eq_false_iff_ne, bne_eq_false_iff_eq, Bool.not_eq_true', Bool.not_eq_false', Bool.not_eq_true, Bool.not_eq_false, Bool.and_eq_true, Bool.or_eq_true, Bool.and_eq_false_iff, Bool.or_eq_false_iff, Int.not_lt, Int.not_le, ne_eq, gt_iff_lt, ge_iff_le] at hb') <;> (try (exfalso; omega))) | (refine altW.of ?_ ?_) | (refine .of (hSi.mono ?_); rintro v _ ⟨rfl, rfl⟩)
        all_goals first | (exfalso; simp at hb'; omega) | skip
        all_goals (refine RdW.keep [2, 7, 8, 9, 30, 31, 32] (ts.length - (i + 1)) (by omega) ?_; simp (disch := first | with_reducible assumption | omega) only [go_sem, Bool.true_and, Bool.and_true, Bool.and_self, Bool.false_and, Bool.and_false, Bool.true_or, Bool.or_true, Bool.false_or, Bool.or_false, ↓reduceIte, Nat.reduceEqDiff, Nat.reduceAdd, Nat.reduceMul, Nat.reduceSub, Nat.reduceBEq, Nat.reduceLeDiff, Nat.reduceLT, Nat.reduceMod, Nat.reduceDiv, Int.reduceToNat, Int.reducePow, Int.reduceMul, Int.reduceAdd, Int.reduceSub, Int.reduceLE, Int.reduceLT, Int.reduceNeg, Int.reduceDiv, Int.reduceMod, Int.reduceEq, Int.reduceBEq, Int.reduceBNe]; exact ⟨i + 1, rfl, by omega, rfl⟩)
      · have hp : 0 < l.length := by omega
        have e4 := hcs4 0 hp
        rw [Nat.add_zero] at e4
        obtain ⟨r1, r2, r3⟩ := hrest (fun h => by rw [h] at hz; exact hz rfl)
        have hx := hmem hp
        clear hrest hdone hmem hfl hcs4
        generalize l.getD 0 0 = x at *
        repeat' first | simp (disch := first | with_reducible assumption | omega) only [go_sem, Bool.true_and, Bool.and_true, Bool.and_self, Bool.false_and, Bool.and_false, Bool.true_or, Bool.or_true, Bool.false_or, Bool.or_false, ↓reduceIte, Nat.reduceEqDiff, Nat.reduceAdd, Nat.reduceMul, Nat.reduceSub, Nat.reduceBEq, Nat.reduceLeDiff, Nat.reduceLT, Nat.reduceMod, Nat.reduceDiv, Int.reduceToNat, Int.reducePow, Int.reduceMul, Int.reduceAdd, Int.reduceSub, Int.reduceLE, Int.reduceLT, Int.reduceNeg, Int.reduceDiv, Int.reduceMod, Int.reduceEq, Int.reduceBEq, Int.reduceBNe, f3, f3b, f3r0, f3r1, f3r2, f3r3, f3r4, f3r5, f3r6, f3r7, f3r8, f3r9, f3r10, f3r11, f3r12, f3r13, f3r14, f3r16, f3l0, hk, hk2, hk3, hk4, e0, e1, e3, e4] | (refine BrW.of (fun hb => ?_) (fun hb => ?_) <;> (have hb' := hb; try simp only [decide_eq_true_eq, decide_eq_false_iff_not, beq_iff_eq, bne_iff_ne, beq_eq_false_iff_ne, bne_eq_false_iff_eq, Bool.not_eq_true', Bool.not_eq_false', Bool.not_eq_true, Bool.not_eq_false, Bool.and_eq_true, Bool.or_eq_true, Bool.and_eq_false_iff, Bool.or_eq_false_iff, Int.not_lt, Int.not_le, ne_eq, gt_iff_lt, ge_iff_le] at hb') <;> (try (exfalso; omega))) | (refine altW.of ?_ ?_) | (refine .of (hSi.mono ?_); rintro v _ ⟨rfl, rfl⟩)
        all_goals first | (exfalso; simp at hb'; omega) | skip
        all_goals (refine RdW.keep [2, 7, 8, 9, 30, 31, 32] (ts.length - (i + 1)) (by omega) ?_; simp (disch := first | with_reducible assumption | omega) only [go_sem, Bool.true_and, Bool.and_true, Bool.and_self, Bool.false_and, Bool.and_false, Bool.true_or, Bool.or_true, Bool.false_or, Bool.or_false, ↓reduceIte, Nat.reduceEqDiff, Nat.reduceAdd, Nat.reduceMul, Nat.reduceSub, Nat.reduceBEq, Nat.reduceLeDiff, Nat.reduceLT, Nat.reduceMod, Nat.reduceDiv, Int.reduceToNat, Int.reducePow, Int.reduceMul, Int.reduceAdd, Int.reduceSub, Int.reduceLE, Int.reduceLT, Int.reduceNeg, Int.reduceDiv, Int.reduceMod, Int.reduceEq, Int.reduceBEq, Int.reduceBNe]; exact ⟨i + 1, rfl, by omega, rfl⟩)
    · obtain rfl : i = ts.length := by omega
      repeat' first | simp (disch := first | with_reducible assumption | omega) only [go_sem, Bool.true_and, Bool.and_true, Bool.and_self, Bool.false_and, Bool.and_false, Bool.true_or, Bool.or_true, Bool.false_or, Bool.or_false, ↓reduceIte, Nat.reduceEqDiff, Nat.reduceAdd, Nat.reduceMul, Nat.reduceSub, Nat.reduceBEq, Nat.reduceLeDiff, Nat.reduceLT, Nat.reduceMod, Nat.reduceDiv, Int.reduceToNat, Int.reducePow, Int.reduceMul, Int.reduceAdd, Int.reduceSub, Int.reduceLE, Int.reduceLT, Int.reduceNeg, Int.reduceDiv, Int.reduceMod, Int.reduceEq, Int.reduceBEq, Int.reduceBNe, f3, f3b, f3r0, f3r1, f3r2, f3r3, f3r4, f3r5, f3r6, f3r7, f3r8, f3r9, f3r10, f3r11, f3r12, f3r13, f3r14, f3r16, f3l0, f3, f3b, f3r0, f3r1, f3r2, f3r3, f3r4, f3r5, f3r6, f3r7, f3r8, f3r9, f3r10, f3r11, f3r12, f3r13, f3r14, f3r16] | (refine BrW.of (fun hb => ?_) (fun hb => ?_) <;> (have hb' := hb; try simp only [decide_eq_true_eq, decide_eq_false_iff_not, beq_iff_eq, bne_iff_ne, beq_eq_false_iff_ne, bne_eq_false_iff_eq, Bool.not_eq_true', Bool.not_eq_false', Bool.not_eq_true, Bool.not_eq_false, Bool.and_eq_true, Bool.or_eq_true, Bool.and_eq_false_iff, Bool.or_eq_false_iff, Int.not_lt, Int.not_le, ne_eq, gt_iff_lt, ge_iff_le] at hb') <;> (try (exfalso; omega))) | (refine altW.of ?_ ?_)
      exact .here rfl
  · have z' : (e != 0) = true := by simpa using z
    obtain rfl := hn z
    repeat' first | simp (disch := first | with_reducible assumption | omega) only [go_sem, Bool.true_and, Bool.and_true, Bool.and_self, Bool.false_and, Bool.and_false, Bool.true_or, Bool.or_true, Bool.false_or, Bool.or_false, ↓reduceIte, Nat.reduceEqDiff, Nat.reduceAdd, Nat.reduceMul, Nat.reduceSub, Nat.reduceBEq, Nat.reduceLeDiff, Nat.reduceLT, Nat.reduceMod, Nat.reduceDiv, Int.reduceToNat, Int.reducePow, Int.reduceMul, Int.reduceAdd, Int.reduceSub, Int.reduceLE, Int.reduceLT, Int.reduceNeg, Int.reduceDiv, Int.reduceMod, Int.reduceEq, Int.reduceBEq, Int.reduceBNe, f3, f3b, f3r0, f3r1, f3r2, f3r3, f3r4, f3r5, f3r6, f3r7, f3r8, f3r9, f3r10, f3r11, f3r12, f3r13, f3r14, f3r16, z'] | (refine BrW.of (fun hb => ?_) (fun hb => ?_) <;> (have hb' := hb; try simp only [decide_eq_true_eq, decide_eq_false_iff_not, beq_iff_eq, bne_iff_ne, beq_eq_false_iff_ne, bne_eq_false_iff_eq, Bool.not_eq_true', Bool.not_eq_false', Bool.not_eq_true, Bool.not_eq_false, Bool.and_eq_true, Bool.or_eq_true, Bool.and_eq_false_iff, Bool.or_eq_false_iff, Int.not_lt, Int.not_le, ne_eq, gt_iff_lt, ge_iff_le] at hb') <;> (try (exfalso; omega))) | (refine altW.of ?_ ?_)
    all_goals exact .here rfl
end Go.Proofs.Ythdpcloggedhfaa
