import Derived.Test.YtknfaoonjmlncaaPlainX
import Derived.Test.YtknfaoonjmlncaaFSteps3
import Derived.Test.YtknfaoonjmlncaaArgs
set_option linter.unusedSimpArgs false
set_option linter.unusedVariables false
set_option maxHeartbeats 2000000
set_option maxRecDepth 20000
namespace Go.Proofs.Ytknfaoonjmlncaa
open Go Go.Am
attribute [local irreducible] opsW Ww loopW callW drawW outW outDW gW cW BrW bothW vW resW DropW RdW dcallW altW Later.run

theorem flO (l : List Op) : (flat' Op.cells l).length = l.length * 3 := flat'_length (enc := Op.cells) (s := 3) (fun _ => rfl) l
theorem flO_tk (l : List Op) : (flat' Op.cells l).take (l.length * 3) = flat' Op.cells l := List.take_of_length_le (by rw [flO]; omega)
theorem flO_sn (l : List Op) (o : Op) : flat' Op.cells l ++ [.int .i64 o.k, .int .i64 o.f, .int .i64 o.b] = flat' Op.cells (l ++ [o]) := by
  rw [← flat'_app]; rfl
theorem flN (l : List Nd) : (flat' Nd.cells l).length = l.length * 2 := flat'_length (enc := Nd.cells) (s := 2) (fun _ => rfl) l
theorem flN_tk (l : List Nd) : (flat' Nd.cells l).take (l.length * 2) = flat' Nd.cells l := List.take_of_length_le (by rw [flN]; omega)
theorem flN_sn (l : List Nd) (o : Nd) : flat' Nd.cells l ++ [.int .i64 o.u, .int .i64 o.w] = flat' Nd.cells (l ++ [o]) := by
  rw [← flat'_app]; rfl
theorem flatT_take (ws : List Int) (i : Nat) (h : i < ws.length) : (flatT ws).take (i + 1 + 1) = (flatT ws).take (i + 1) ++ [⟨0, ws.getD i 0⟩] := by
  rw [List.take_add_one, ← flatT_at ws h, List.getD_eq_getElem?_getD]
  have : i + 1 < (flatT ws).length := by rw [flatT_len]; omega
  rw [List.getElem?_eq_getElem this]; rfl
/-- A tree of one step is a row. -/
theorem HierFlat_args (H : Heap) (vals : List Value) (h : ArgsOk maxLen H HierFlatSh vals) : ACallK Try.prog 4 vals H fun v _ => v = .bool true := by
  obtain ⟨ww, _, rfl, a1, h⟩ := h.cons
  obtain ⟨wz, _, rfl, a2, h⟩ := h.cons
  obtain rfl := h.nil
  obtain ⟨ws, hT, hB, _⟩ := IsN.ofArg a1
  obtain ⟨z, hZ, hB2, _⟩ := IsN.ofArg a2
  have hm : maxLen ≤ 9223372036854775807 := by decide
  clear a1 a2 h
  have hT0 := hT
  obtain ⟨kw, ow, gw, cw, _, rfl, hsw, hcw⟩ := hT
  obtain ⟨row, csw, hkw, w2, w3⟩ := Ints.cell hsw
  obtain ⟨kz, oz, gz, cz, _, rfl, hsz, hcz⟩ := hZ
  obtain ⟨roz, csz, hkz, z2, z3⟩ := Ints.cell hsz
  have hWr := Q.Wrong_spec ws _ _ H hT0 (by omega)
  refine .walkW f4_ok (by simp; decide) (by decide) ?_
  repeat' first | simp (disch := first | with_reducible assumption | omega) only [go_sem, Bool.true_and, Bool.and_true, Bool.and_self, Bool.false_and, Bool.and_false, Bool.true_or, Bool.or_true, Bool.false_or, Bool.or_false, ↓reduceIte, Nat.reduceEqDiff, Nat.reduceAdd, Nat.reduceMul, Nat.reduceSub, Nat.reduceBEq, Nat.reduceLeDiff, Nat.reduceLT, Nat.reduceMod, Nat.reduceDiv, Int.reduceToNat, Int.reducePow, Int.reduceMul, Int.reduceAdd, Int.reduceSub, Int.reduceLE, Int.reduceLT, Int.reduceNeg, Int.reduceDiv, Int.reduceMod, Int.reduceEq, Int.reduceBEq, Int.reduceBNe, f4, f4b, f4r0, f4r1, f4r2, f4r3, f4r4, f4r5, f4r6, f4r7, f4r8, f4r9, f4r10, f4r11, f4r12, f4r13, f4r15, f4r16, f4r17, f4r18, f4r19, f4r20, f4r21, f4r23, f4r24, f4r25, f4r26, f4r28, f4r29, f4r30, f4r31, f4r32, f4r33, f4r34, f4r35, f4r36, f4r37, f4r39] | (refine BrW.of (fun hb => ?_) (fun hb => ?_) <;> (have hb' := hb; try simp only [decide_eq_true_eq, decide_eq_false_iff_not, beq_iff_eq, bne_iff_ne, beq_eq_false_iff_ne, bne_eq_false_iff_eq, Bool.not_eq_true', Bool.not_eq_false', Bool.not_eq_true, Bool.not_eq_false, Bool.and_eq_true, Bool.or_eq_true, Bool.and_eq_false_iff, Bool.or_eq_false_iff, Int.not_lt, Int.not_le, ne_eq, gt_iff_lt, ge_iff_le] at hb') <;> (try (exfalso; omega))) | (refine altW.of ?_ ?_) | (refine .of ((alive _).mono ?_); rintro v H ⟨rfl, rfl⟩)
  by_cases hc1 : ws.length < 1
  · repeat' first | simp (disch := first | with_reducible assumption | omega) only [go_sem, Bool.true_and, Bool.and_true, Bool.and_self, Bool.false_and, Bool.and_false, Bool.true_or, Bool.or_true, Bool.false_or, Bool.or_false, ↓reduceIte, Nat.reduceEqDiff, Nat.reduceAdd, Nat.reduceMul, Nat.reduceSub, Nat.reduceBEq, Nat.reduceLeDiff, Nat.reduceLT, Nat.reduceMod, Nat.reduceDiv, Int.reduceToNat, Int.reducePow, Int.reduceMul, Int.reduceAdd, Int.reduceSub, Int.reduceLE, Int.reduceLT, Int.reduceNeg, Int.reduceDiv, Int.reduceMod, Int.reduceEq, Int.reduceBEq, Int.reduceBNe, f4, f4b, f4r0, f4r1, f4r2, f4r3, f4r4, f4r5, f4r6, f4r7, f4r8, f4r9, f4r10, f4r11, f4r12, f4r13, f4r15, f4r16, f4r17, f4r18, f4r19, f4r20, f4r21, f4r23, f4r24, f4r25, f4r26, f4r28, f4r29, f4r30, f4r31, f4r32, f4r33, f4r34, f4r35, f4r36, f4r37, f4r39, hkw, hkz] | (refine BrW.of (fun hb => ?_) (fun hb => ?_) <;> (have hb' := hb; try simp only [decide_eq_true_eq, decide_eq_false_iff_not, beq_iff_eq, bne_iff_ne, beq_eq_false_iff_ne, bne_eq_false_iff_eq, Bool.not_eq_true', Bool.not_eq_false', Bool.not_eq_true, Bool.not_eq_false, Bool.and_eq_true, Bool.or_eq_true, Bool.and_eq_false_iff, Bool.or_eq_false_iff, Int.not_lt, Int.not_le, ne_eq, gt_iff_lt, ge_iff_le] at hb') <;> (try (exfalso; omega))) | (refine altW.of ?_ ?_)
    exact .here rfl
  by_cases hc2 : 16 ≤ ws.length
  · repeat' first | simp (disch := first | with_reducible assumption | omega) only [go_sem, Bool.true_and, Bool.and_true, Bool.and_self, Bool.false_and, Bool.and_false, Bool.true_or, Bool.or_true, Bool.false_or, Bool.or_false, ↓reduceIte, Nat.reduceEqDiff, Nat.reduceAdd, Nat.reduceMul, Nat.reduceSub, Nat.reduceBEq, Nat.reduceLeDiff, Nat.reduceLT, Nat.reduceMod, Nat.reduceDiv, Int.reduceToNat, Int.reducePow, Int.reduceMul, Int.reduceAdd, Int.reduceSub, Int.reduceLE, Int.reduceLT, Int.reduceNeg, Int.reduceDiv, Int.reduceMod, Int.reduceEq, Int.reduceBEq, Int.reduceBNe, f4, f4b, f4r0, f4r1, f4r2, f4r3, f4r4, f4r5, f4r6, f4r7, f4r8, f4r9, f4r10, f4r11, f4r12, f4r13, f4r15, f4r16, f4r17, f4r18, f4r19, f4r20, f4r21, f4r23, f4r24, f4r25, f4r26, f4r28, f4r29, f4r30, f4r31, f4r32, f4r33, f4r34, f4r35, f4r36, f4r37, f4r39, hkw, hkz] | (refine BrW.of (fun hb => ?_) (fun hb => ?_) <;> (have hb' := hb; try simp only [decide_eq_true_eq, decide_eq_false_iff_not, beq_iff_eq, bne_iff_ne, beq_eq_false_iff_ne, bne_eq_false_iff_eq, Bool.not_eq_true', Bool.not_eq_false', Bool.not_eq_true, Bool.not_eq_false, Bool.and_eq_true, Bool.or_eq_true, Bool.and_eq_false_iff, Bool.or_eq_false_iff, Int.not_lt, Int.not_le, ne_eq, gt_iff_lt, ge_iff_le] at hb') <;> (try (exfalso; omega))) | (refine altW.of ?_ ?_)
    exact .here rfl
  by_cases hc3 : ¬ ws.length = z.length
  · repeat' first | simp (disch := first | with_reducible assumption | omega) only [go_sem, Bool.true_and, Bool.and_true, Bool.and_self, Bool.false_and, Bool.and_false, Bool.true_or, Bool.or_true, Bool.false_or, Bool.or_false, ↓reduceIte, Nat.reduceEqDiff, Nat.reduceAdd, Nat.reduceMul, Nat.reduceSub, Nat.reduceBEq, Nat.reduceLeDiff, Nat.reduceLT, Nat.reduceMod, Nat.reduceDiv, Int.reduceToNat, Int.reducePow, Int.reduceMul, Int.reduceAdd, Int.reduceSub, Int.reduceLE, Int.reduceLT, Int.reduceNeg, Int.reduceDiv, Int.reduceMod, Int.reduceEq, Int.reduceBEq, Int.reduceBNe, f4, f4b, f4r0, f4r1, f4r2, f4r3, f4r4, f4r5, f4r6, f4r7, f4r8, f4r9, f4r10, f4r11, f4r12, f4r13, f4r15, f4r16, f4r17, f4r18, f4r19, f4r20, f4r21, f4r23, f4r24, f4r25, f4r26, f4r28, f4r29, f4r30, f4r31, f4r32, f4r33, f4r34, f4r35, f4r36, f4r37, f4r39, hkw, hkz] | (refine BrW.of (fun hb => ?_) (fun hb => ?_) <;> (have hb' := hb; try simp only [decide_eq_true_eq, decide_eq_false_iff_not, beq_iff_eq, bne_iff_ne, beq_eq_false_iff_ne, bne_eq_false_iff_eq, Bool.not_eq_true', Bool.not_eq_false', Bool.not_eq_true, Bool.not_eq_false, Bool.and_eq_true, Bool.or_eq_true, Bool.and_eq_false_iff, Bool.or_eq_false_iff, Int.not_lt, Int.not_le, ne_eq, gt_iff_lt, ge_iff_le] at hb') <;> (try (exfalso; omega))) | (refine altW.of ?_ ?_)
    exact .here rfl
  repeat' first | simp (disch := first | with_reducible assumption | omega) only [go_sem, Bool.true_and, Bool.and_true, Bool.and_self, Bool.false_and, Bool.and_false, Bool.true_or, Bool.or_true, Bool.false_or, Bool.or_false, ↓reduceIte, Nat.reduceEqDiff, Nat.reduceAdd, Nat.reduceMul, Nat.reduceSub, Nat.reduceBEq, Nat.reduceLeDiff, Nat.reduceLT, Nat.reduceMod, Nat.reduceDiv, Int.reduceToNat, Int.reducePow, Int.reduceMul, Int.reduceAdd, Int.reduceSub, Int.reduceLE, Int.reduceLT, Int.reduceNeg, Int.reduceDiv, Int.reduceMod, Int.reduceEq, Int.reduceBEq, Int.reduceBNe, f4, f4b, f4r0, f4r1, f4r2, f4r3, f4r4, f4r5, f4r6, f4r7, f4r8, f4r9, f4r10, f4r11, f4r12, f4r13, f4r15, f4r16, f4r17, f4r18, f4r19, f4r20, f4r21, f4r23, f4r24, f4r25, f4r26, f4r28, f4r29, f4r30, f4r31, f4r32, f4r33, f4r34, f4r35, f4r36, f4r37, f4r39, hkw, hkz] | (refine BrW.of (fun hb => ?_) (fun hb => ?_) <;> (have hb' := hb; try simp only [decide_eq_true_eq, decide_eq_false_iff_not, beq_iff_eq, bne_iff_ne, beq_eq_false_iff_ne, bne_eq_false_iff_eq, Bool.not_eq_true', Bool.not_eq_false', Bool.not_eq_true, Bool.not_eq_false, Bool.and_eq_true, Bool.or_eq_true, Bool.and_eq_false_iff, Bool.or_eq_false_iff, Int.not_lt, Int.not_le, ne_eq, gt_iff_lt, ge_iff_le] at hb') <;> (try (exfalso; omega))) | (refine altW.of ?_ ?_)
  refine .of (hWr.mono ?_)
  rintro v H ⟨e, rfl, he, he2, rfl⟩
  by_cases ze : e = 0
  · subst ze
    obtain ⟨_, hwt⟩ := he.1 rfl
    clear he he2 hWr
    have hlz : ws.length = z.length := Classical.not_not.1 hc3
    have hs0 : ∀ i, i ≤ ws.length → 0 ≤ (ws.take i).sum := fun i => by
      induction i with
      | zero => intro _; simp
      | succ i ih =>
        intro hi
        have := ih (by omega)
        have := hwt i (by omega)
        rw [take_snocI ws i (by omega), List.sum_append, List.sum_cons, List.sum_nil]; omega
    have hsum := hs0 ws.length (Nat.le_refl _)
    rw [List.take_length] at hsum
    clear hs0
    have hlT := flatT_len ws
    repeat' first | simp (disch := first | with_reducible assumption | omega) only [go_sem, Bool.true_and, Bool.and_true, Bool.and_self, Bool.false_and, Bool.and_false, Bool.true_or, Bool.or_true, Bool.false_or, Bool.or_false, ↓reduceIte, Nat.reduceEqDiff, Nat.reduceAdd, Nat.reduceMul, Nat.reduceSub, Nat.reduceBEq, Nat.reduceLeDiff, Nat.reduceLT, Nat.reduceMod, Nat.reduceDiv, Int.reduceToNat, Int.reducePow, Int.reduceMul, Int.reduceAdd, Int.reduceSub, Int.reduceLE, Int.reduceLT, Int.reduceNeg, Int.reduceDiv, Int.reduceMod, Int.reduceEq, Int.reduceBEq, Int.reduceBNe, f4, f4b, f4r0, f4r1, f4r2, f4r3, f4r4, f4r5, f4r6, f4r7, f4r8, f4r9, f4r10, f4r11, f4r12, f4r13, f4r15, f4r16, f4r17, f4r18, f4r19, f4r20, f4r21, f4r23, f4r24, f4r25, f4r26, f4r28, f4r29, f4r30, f4r31, f4r32, f4r33, f4r34, f4r35, f4r36, f4r37, f4r39, hkw, hkz, get_old hkw, get_old hkz] | (refine BrW.of (fun hb => ?_) (fun hb => ?_) <;> (have hb' := hb; try simp only [decide_eq_true_eq, decide_eq_false_iff_not, beq_iff_eq, bne_iff_ne, beq_eq_false_iff_ne, bne_eq_false_iff_eq, Bool.not_eq_true', Bool.not_eq_false', Bool.not_eq_true, Bool.not_eq_false, Bool.and_eq_true, Bool.or_eq_true, Bool.and_eq_false_iff, Bool.or_eq_false_iff, Int.not_lt, Int.not_le, ne_eq, gt_iff_lt, ge_iff_le] at hb') <;> (try (exfalso; omega))) | (refine altW.of ?_ ?_)
    refine loopW.ghost 6 3 rfl ?_
    simp (disch := first | with_reducible assumption | omega) only [go_sem, Bool.true_and, Bool.and_true, Bool.and_self, Bool.false_and, Bool.and_false, Bool.true_or, Bool.or_true, Bool.false_or, Bool.or_false, ↓reduceIte, Nat.reduceEqDiff, Nat.reduceAdd, Nat.reduceMul, Nat.reduceSub, Nat.reduceBEq, Nat.reduceLeDiff, Nat.reduceLT, Nat.reduceMod, Nat.reduceDiv, Int.reduceToNat, Int.reducePow, Int.reduceMul, Int.reduceAdd, Int.reduceSub, Int.reduceLE, Int.reduceLT, Int.reduceNeg, Int.reduceDiv, Int.reduceMod, Int.reduceEq, Int.reduceBEq, Int.reduceBNe]
    refine loopW.ghost 7 3 rfl ?_
    simp (disch := first | with_reducible assumption | omega) only [go_sem, Bool.true_and, Bool.and_true, Bool.and_self, Bool.false_and, Bool.and_false, Bool.true_or, Bool.or_true, Bool.false_or, Bool.or_false, ↓reduceIte, Nat.reduceEqDiff, Nat.reduceAdd, Nat.reduceMul, Nat.reduceSub, Nat.reduceBEq, Nat.reduceLeDiff, Nat.reduceLT, Nat.reduceMod, Nat.reduceDiv, Int.reduceToNat, Int.reducePow, Int.reduceMul, Int.reduceAdd, Int.reduceSub, Int.reduceLE, Int.reduceLT, Int.reduceNeg, Int.reduceDiv, Int.reduceMod, Int.reduceEq, Int.reduceBEq, Int.reduceBNe]
    refine loopW.of (by decide) (fun m e J => ∃ (i g : Nat) (x : Heap), e = [(0, slv kw ow gw ws.length cw), (1, slv kz oz gz z.length cz), (5, slv H.length 0 g (i + 1) (i + 1)), (6, slv (H.length + 1) 0 0 0 0), (7, slv (H.length + 2) 0 0 0 0), (44, slv kw ow gw ws.length cw), (45, .int .i64 ws.length), (46, .int .i64 i)] ∧
      J = H ++ (.cells g 2 false (flat' Nd.cells ((flatT ws).take (i + 1))) :: .cells 0 3 false [] :: .cells 0 3 false [] :: x) ∧ i ≤ ws.length ∧ m = ws.length - i ∧ ∀ j, j < i → 1 ≤ z.getD j 0 ∧ z.getD j 0 ≤ 1500) ws.length ⟨0, 0, [], rfl, rfl, by omega, rfl, fun j h => by omega⟩ ?_
    rintro m e J ⟨i, g, x, rfl, rfl, hi, rfl, hzz⟩
    by_cases hlt : i < ws.length
    · have e0 := w3 i hlt
      have e1 := z3 i (by omega)
      have hsn := flN_sn ((flatT ws).take (i + 1)) ⟨0, ws.getD i 0⟩
      rw [← flatT_take ws i hlt] at hsn
      have hfl := flN ((flatT ws).take (i + 1))
      have htk := flN_tk ((flatT ws).take (i + 1))
      rw [List.length_take, Nat.min_eq_left (by omega)] at hfl htk
      have hni : ¬ i + 1 + 1 ≤ i + 1 := by omega
      simp only at hsn
      have hzi : ∀ x, z.getD i 0 = x → 1 ≤ x ∧ x ≤ 1500 → ∀ j, j < i + 1 → 1 ≤ z.getD j 0 ∧ z.getD j 0 ≤ 1500 := fun x hx h j hj => by
        by_cases e : j = i
        · rw [e, hx]; exact h
        · exact hzz j (by omega)
      clear w3 z3 hzz hsum hwt
      generalize hxx : z.getD i 0 = xx at *
      generalize ws.getD i 0 = wx at *
      generalize flat' Nd.cells ((flatT ws).take (i + 1)) = L1 at *
      generalize hL2 : flat' Nd.cells ((flatT ws).take (i + 1 + 1)) = L2 at *
      by_cases hx1 : 1 ≤ xx ∧ xx ≤ 1500
      · have hz2 := hzi xx rfl hx1
        clear hzi
        obtain ⟨hx1, hx2⟩ := hx1
        repeat' first | simp (disch := first | with_reducible assumption | omega) only [go_sem, Bool.true_and, Bool.and_true, Bool.and_self, Bool.false_and, Bool.and_false, Bool.true_or, Bool.or_true, Bool.false_or, Bool.or_false, ↓reduceIte, Nat.reduceEqDiff, Nat.reduceAdd, Nat.reduceMul, Nat.reduceSub, Nat.reduceBEq, Nat.reduceLeDiff, Nat.reduceLT, Nat.reduceMod, Nat.reduceDiv, Int.reduceToNat, Int.reducePow, Int.reduceMul, Int.reduceAdd, Int.reduceSub, Int.reduceLE, Int.reduceLT, Int.reduceNeg, Int.reduceDiv, Int.reduceMod, Int.reduceEq, Int.reduceBEq, Int.reduceBNe, f4, f4b, f4r0, f4r1, f4r2, f4r3, f4r4, f4r5, f4r6, f4r7, f4r8, f4r9, f4r10, f4r11, f4r12, f4r13, f4r15, f4r16, f4r17, f4r18, f4r19, f4r20, f4r21, f4r23, f4r24, f4r25, f4r26, f4r28, f4r29, f4r30, f4r31, f4r32, f4r33, f4r34, f4r35, f4r36, f4r37, f4r39, f4l0, hkw, hkz, get_old hkw, get_old hkz, e0, e1, hfl, htk, hsn, hni] | (refine BrW.of (fun hb => ?_) (fun hb => ?_) <;> (have hb' := hb; try simp only [decide_eq_true_eq, decide_eq_false_iff_not, beq_iff_eq, bne_iff_ne, beq_eq_false_iff_ne, bne_eq_false_iff_eq, Bool.not_eq_true', Bool.not_eq_false', Bool.not_eq_true, Bool.not_eq_false, Bool.and_eq_true, Bool.or_eq_true, Bool.and_eq_false_iff, Bool.or_eq_false_iff, Int.not_lt, Int.not_le, ne_eq, gt_iff_lt, ge_iff_le] at hb') <;> (try (exfalso; omega))) | (refine altW.of ?_ ?_)
        refine RdW.keep [0, 1, 5, 6, 7, 44, 45, 46] (ws.length - (i + 1)) (by omega) ?_
        simp (disch := first | with_reducible assumption | omega) only [go_sem, Bool.true_and, Bool.and_true, Bool.and_self, Bool.false_and, Bool.and_false, Bool.true_or, Bool.or_true, Bool.false_or, Bool.or_false, ↓reduceIte, Nat.reduceEqDiff, Nat.reduceAdd, Nat.reduceMul, Nat.reduceSub, Nat.reduceBEq, Nat.reduceLeDiff, Nat.reduceLT, Nat.reduceMod, Nat.reduceDiv, Int.reduceToNat, Int.reducePow, Int.reduceMul, Int.reduceAdd, Int.reduceSub, Int.reduceLE, Int.reduceLT, Int.reduceNeg, Int.reduceDiv, Int.reduceMod, Int.reduceEq, Int.reduceBEq, Int.reduceBNe]
        exact ⟨i + 1, g + 1, _, rfl, by rw [hL2], by omega, rfl, hz2⟩
      · clear hzi
        have hbad : xx < 1 ∨ (1 ≤ xx ∧ 1500 < xx) := by omega
        clear hx1
        rcases hbad with hbad | ⟨hbad, hbad2⟩
        · repeat' first | simp (disch := first | with_reducible assumption | omega) only [go_sem, Bool.true_and, Bool.and_true, Bool.and_self, Bool.false_and, Bool.and_false, Bool.true_or, Bool.or_true, Bool.false_or, Bool.or_false, ↓reduceIte, Nat.reduceEqDiff, Nat.reduceAdd, Nat.reduceMul, Nat.reduceSub, Nat.reduceBEq, Nat.reduceLeDiff, Nat.reduceLT, Nat.reduceMod, Nat.reduceDiv, Int.reduceToNat, Int.reducePow, Int.reduceMul, Int.reduceAdd, Int.reduceSub, Int.reduceLE, Int.reduceLT, Int.reduceNeg, Int.reduceDiv, Int.reduceMod, Int.reduceEq, Int.reduceBEq, Int.reduceBNe, f4, f4b, f4r0, f4r1, f4r2, f4r3, f4r4, f4r5, f4r6, f4r7, f4r8, f4r9, f4r10, f4r11, f4r12, f4r13, f4r15, f4r16, f4r17, f4r18, f4r19, f4r20, f4r21, f4r23, f4r24, f4r25, f4r26, f4r28, f4r29, f4r30, f4r31, f4r32, f4r33, f4r34, f4r35, f4r36, f4r37, f4r39, f4l0, hkw, hkz, get_old hkw, get_old hkz, e0, e1] | (refine BrW.of (fun hb => ?_) (fun hb => ?_) <;> (have hb' := hb; try simp only [decide_eq_true_eq, decide_eq_false_iff_not, beq_iff_eq, bne_iff_ne, beq_eq_false_iff_ne, bne_eq_false_iff_eq, Bool.not_eq_true', Bool.not_eq_false', Bool.not_eq_true, Bool.not_eq_false, Bool.and_eq_true, Bool.or_eq_true, Bool.and_eq_false_iff, Bool.or_eq_false_iff, Int.not_lt, Int.not_le, ne_eq, gt_iff_lt, ge_iff_le] at hb') <;> (try (exfalso; omega))) | (refine altW.of ?_ ?_)
          all_goals first | exact .here rfl | (exfalso; omega)
        · repeat' first | simp (disch := first | with_reducible assumption | omega) only [go_sem, Bool.true_and, Bool.and_true, Bool.and_self, Bool.false_and, Bool.and_false, Bool.true_or, Bool.or_true, Bool.false_or, Bool.or_false, ↓reduceIte, Nat.reduceEqDiff, Nat.reduceAdd, Nat.reduceMul, Nat.reduceSub, Nat.reduceBEq, Nat.reduceLeDiff, Nat.reduceLT, Nat.reduceMod, Nat.reduceDiv, Int.reduceToNat, Int.reducePow, Int.reduceMul, Int.reduceAdd, Int.reduceSub, Int.reduceLE, Int.reduceLT, Int.reduceNeg, Int.reduceDiv, Int.reduceMod, Int.reduceEq, Int.reduceBEq, Int.reduceBNe, f4, f4b, f4r0, f4r1, f4r2, f4r3, f4r4, f4r5, f4r6, f4r7, f4r8, f4r9, f4r10, f4r11, f4r12, f4r13, f4r15, f4r16, f4r17, f4r18, f4r19, f4r20, f4r21, f4r23, f4r24, f4r25, f4r26, f4r28, f4r29, f4r30, f4r31, f4r32, f4r33, f4r34, f4r35, f4r36, f4r37, f4r39, f4l0, hkw, hkz, get_old hkw, get_old hkz, e0, e1] | (refine BrW.of (fun hb => ?_) (fun hb => ?_) <;> (have hb' := hb; try simp only [decide_eq_true_eq, decide_eq_false_iff_not, beq_iff_eq, bne_iff_ne, beq_eq_false_iff_ne, bne_eq_false_iff_eq, Bool.not_eq_true', Bool.not_eq_false', Bool.not_eq_true, Bool.not_eq_false, Bool.and_eq_true, Bool.or_eq_true, Bool.and_eq_false_iff, Bool.or_eq_false_iff, Int.not_lt, Int.not_le, ne_eq, gt_iff_lt, ge_iff_le] at hb') <;> (try (exfalso; omega))) | (refine altW.of ?_ ?_)
          all_goals first | exact .here rfl | (exfalso; omega)
    · obtain rfl : i = ws.length := by omega
      rw [List.take_of_length_le (by omega)]
      have e0 := z3 0 (by omega)
      have hz0 := hzz 0 (by omega)
      have hA1 : flat' Op.cells (aF z 1) = [.int .i64 1, .int .i64 1, .int .i64 (z.getD 0 0)] := rfl
      have hB1 : flat' Op.cells (bF z 1) = [.int .i64 1, .int .i64 0, .int .i64 (z.getD 0 0), .int .i64 2, .int .i64 0, .int .i64 0] := rfl
      generalize hLL : flat' Nd.cells (flatT ws) = LL at *
      have h00 : ¬ (0 + 1 ≤ 0) := by omega
      have h02 : ¬ (0 + 2 ≤ 0) := by omega
      have e0 : csz[oz]? = some (.int .i64 (z.getD 0 0)) := by simpa using e0
      repeat' first | simp (disch := first | with_reducible assumption | omega) only [go_sem, Bool.true_and, Bool.and_true, Bool.and_self, Bool.false_and, Bool.and_false, Bool.true_or, Bool.or_true, Bool.false_or, Bool.or_false, ↓reduceIte, Nat.reduceEqDiff, Nat.reduceAdd, Nat.reduceMul, Nat.reduceSub, Nat.reduceBEq, Nat.reduceLeDiff, Nat.reduceLT, Nat.reduceMod, Nat.reduceDiv, Int.reduceToNat, Int.reducePow, Int.reduceMul, Int.reduceAdd, Int.reduceSub, Int.reduceLE, Int.reduceLT, Int.reduceNeg, Int.reduceDiv, Int.reduceMod, Int.reduceEq, Int.reduceBEq, Int.reduceBNe, f4, f4b, f4r0, f4r1, f4r2, f4r3, f4r4, f4r5, f4r6, f4r7, f4r8, f4r9, f4r10, f4r11, f4r12, f4r13, f4r15, f4r16, f4r17, f4r18, f4r19, f4r20, f4r21, f4r23, f4r24, f4r25, f4r26, f4r28, f4r29, f4r30, f4r31, f4r32, f4r33, f4r34, f4r35, f4r36, f4r37, f4r39, f4l0, f4, f4b, f4r0, f4r1, f4r2, f4r3, f4r4, f4r5, f4r6, f4r7, f4r8, f4r9, f4r10, f4r11, f4r12, f4r13, f4r15, f4r16, f4r17, f4r18, f4r19, f4r20, f4r21, f4r23, f4r24, f4r25, f4r26, f4r28, f4r29, f4r30, f4r31, f4r32, f4r33, f4r34, f4r35, f4r36, f4r37, f4r39, hkz, get_old hkz, e0] | (refine BrW.of (fun hb => ?_) (fun hb => ?_) <;> (have hb' := hb; try simp only [decide_eq_true_eq, decide_eq_false_iff_not, beq_iff_eq, bne_iff_ne, beq_eq_false_iff_ne, bne_eq_false_iff_eq, Bool.not_eq_true', Bool.not_eq_false', Bool.not_eq_true, Bool.not_eq_false, Bool.and_eq_true, Bool.or_eq_true, Bool.and_eq_false_iff, Bool.or_eq_false_iff, Int.not_lt, Int.not_le, ne_eq, gt_iff_lt, ge_iff_le] at hb') <;> (try (exfalso; omega))) | (refine altW.of ?_ ?_)
      rw [← hA1, ← hB1]
      refine loopW.of (by decide) (fun m e J => ∃ (k ga gb : Nat) (x : Heap), e = [(0, slv kw ow gw ws.length cw), (1, slv kz oz gz z.length cz), (5, slv H.length 0 g (ws.length + 1) (ws.length + 1)), (6, slv (H.length + 1) 0 ga k k), (7, slv (H.length + 2) 0 gb (k + 1) (k + 1)), (10, .int .i64 k)] ∧
        J = H ++ (.cells g 2 false LL :: .cells ga 3 false (flat' Op.cells (aF z k)) :: .cells gb 3 false (flat' Op.cells (bF z k)) :: x) ∧ 1 ≤ k ∧ k ≤ ws.length ∧ m = ws.length - k) (ws.length - 1) ⟨1, 1, 1, _, rfl, rfl, by omega, by omega, rfl⟩ ?_
      clear hA1 hB1 e0 hz0
      clear x
      rintro m e J ⟨k, ga, gb, x, rfl, rfl, hk1, hk2, rfl⟩
      by_cases hlk : k < ws.length
      · have e1 := z3 k (by omega)
        have hfa := flO (aF z k)
        have hta := flO_tk (aF z k)
        have hsa : flat' Op.cells (aF z k) ++ [.int .i64 1, .int .i64 ((k : Int) + 1), .int .i64 (z.getD k 0)] = flat' Op.cells (aF z (k + 1)) := flO_sn (aF z k) ⟨1, (k : Int) + 1, z.getD k 0⟩
        have hfb := flO (bF z k)
        have htb := flO_tk (bF z k)
        have hsb : flat' Op.cells (bF z k) ++ [.int .i64 1, .int .i64 (k : Int), .int .i64 (z.getD k 0)] = flat' Op.cells (bF z (k + 1)) := by
          rw [flO_sn (bF z k) ⟨1, k, z.getD k 0⟩]
          show _ = flat' Op.cells (bF z k ++ _)
          rw [if_neg (by omega)]
        have hbl : (bF z k).length = k + 1 := by
          obtain ⟨k', rfl⟩ : ∃ k', k = k' + 1 := ⟨k - 1, by omega⟩
          exact bF_len z k'
        rw [aF_len] at hfa hta
        rw [hbl] at hfb htb
        have hn1 : ¬ k + 1 ≤ k := by omega
        have hn2 : ¬ k + 1 + 1 ≤ k + 1 := by omega
        clear w3 z3 hzz hsum hwt
        generalize z.getD k 0 = xx at *
        generalize flat' Op.cells (aF z k) = LA at *
        generalize flat' Op.cells (bF z k) = LB at *
        generalize hLA : flat' Op.cells (aF z (k + 1)) = LA2 at *
        generalize hLB : flat' Op.cells (bF z (k + 1)) = LB2 at *
        repeat' first | simp (disch := first | with_reducible assumption | omega) only [go_sem, Bool.true_and, Bool.and_true, Bool.and_self, Bool.false_and, Bool.and_false, Bool.true_or, Bool.or_true, Bool.false_or, Bool.or_false, ↓reduceIte, Nat.reduceEqDiff, Nat.reduceAdd, Nat.reduceMul, Nat.reduceSub, Nat.reduceBEq, Nat.reduceLeDiff, Nat.reduceLT, Nat.reduceMod, Nat.reduceDiv, Int.reduceToNat, Int.reducePow, Int.reduceMul, Int.reduceAdd, Int.reduceSub, Int.reduceLE, Int.reduceLT, Int.reduceNeg, Int.reduceDiv, Int.reduceMod, Int.reduceEq, Int.reduceBEq, Int.reduceBNe, f4, f4b, f4r0, f4r1, f4r2, f4r3, f4r4, f4r5, f4r6, f4r7, f4r8, f4r9, f4r10, f4r11, f4r12, f4r13, f4r15, f4r16, f4r17, f4r18, f4r19, f4r20, f4r21, f4r23, f4r24, f4r25, f4r26, f4r28, f4r29, f4r30, f4r31, f4r32, f4r33, f4r34, f4r35, f4r36, f4r37, f4r39, f4l1, hkz, get_old hkz, e1, hfa, hta, hsa, hfb, htb, hsb, hn1, hn2] | (refine BrW.of (fun hb => ?_) (fun hb => ?_) <;> (have hb' := hb; try simp only [decide_eq_true_eq, decide_eq_false_iff_not, beq_iff_eq, bne_iff_ne, beq_eq_false_iff_ne, bne_eq_false_iff_eq, Bool.not_eq_true', Bool.not_eq_false', Bool.not_eq_true, Bool.not_eq_false, Bool.and_eq_true, Bool.or_eq_true, Bool.and_eq_false_iff, Bool.or_eq_false_iff, Int.not_lt, Int.not_le, ne_eq, gt_iff_lt, ge_iff_le] at hb') <;> (try (exfalso; omega))) | (refine altW.of ?_ ?_)
        refine RdW.keep [0, 1, 5, 6, 7, 10] (ws.length - (k + 1)) (by omega) ?_
        simp (disch := first | with_reducible assumption | omega) only [go_sem, Bool.true_and, Bool.and_true, Bool.and_self, Bool.false_and, Bool.and_false, Bool.true_or, Bool.or_true, Bool.false_or, Bool.or_false, ↓reduceIte, Nat.reduceEqDiff, Nat.reduceAdd, Nat.reduceMul, Nat.reduceSub, Nat.reduceBEq, Nat.reduceLeDiff, Nat.reduceLT, Nat.reduceMod, Nat.reduceDiv, Int.reduceToNat, Int.reducePow, Int.reduceMul, Int.reduceAdd, Int.reduceSub, Int.reduceLE, Int.reduceLT, Int.reduceNeg, Int.reduceDiv, Int.reduceMod, Int.reduceEq, Int.reduceBEq, Int.reduceBNe]
        exact ⟨k + 1, ga + 1, gb + 1, _, rfl, by rw [hLA, hLB], by omega, by omega, rfl⟩
      · obtain rfl : k = ws.length := by omega
        repeat' first | simp (disch := first | with_reducible assumption | omega) only [go_sem, Bool.true_and, Bool.and_true, Bool.and_self, Bool.false_and, Bool.and_false, Bool.true_or, Bool.or_true, Bool.false_or, Bool.or_false, ↓reduceIte, Nat.reduceEqDiff, Nat.reduceAdd, Nat.reduceMul, Nat.reduceSub, Nat.reduceBEq, Nat.reduceLeDiff, Nat.reduceLT, Nat.reduceMod, Nat.reduceDiv, Int.reduceToNat, Int.reducePow, Int.reduceMul, Int.reduceAdd, Int.reduceSub, Int.reduceLE, Int.reduceLT, Int.reduceNeg, Int.reduceDiv, Int.reduceMod, Int.reduceEq, Int.reduceBEq, Int.reduceBNe, f4, f4b, f4r0, f4r1, f4r2, f4r3, f4r4, f4r5, f4r6, f4r7, f4r8, f4r9, f4r10, f4r11, f4r12, f4r13, f4r15, f4r16, f4r17, f4r18, f4r19, f4r20, f4r21, f4r23, f4r24, f4r25, f4r26, f4r28, f4r29, f4r30, f4r31, f4r32, f4r33, f4r34, f4r35, f4r36, f4r37, f4r39, f4l1, f4, f4b, f4r0, f4r1, f4r2, f4r3, f4r4, f4r5, f4r6, f4r7, f4r8, f4r9, f4r10, f4r11, f4r12, f4r13, f4r15, f4r16, f4r17, f4r18, f4r19, f4r20, f4r21, f4r23, f4r24, f4r25, f4r26, f4r28, f4r29, f4r30, f4r31, f4r32, f4r33, f4r34, f4r35, f4r36, f4r37, f4r39, hkz, get_old hkz] | (refine BrW.of (fun hb => ?_) (fun hb => ?_) <;> (have hb' := hb; try simp only [decide_eq_true_eq, decide_eq_false_iff_not, beq_iff_eq, bne_iff_ne, beq_eq_false_iff_ne, bne_eq_false_iff_eq, Bool.not_eq_true', Bool.not_eq_false', Bool.not_eq_true, Bool.not_eq_false, Bool.and_eq_true, Bool.or_eq_true, Bool.and_eq_false_iff, Bool.or_eq_false_iff, Int.not_lt, Int.not_le, ne_eq, gt_iff_lt, ge_iff_le] at hb') <;> (try (exfalso; omega))) | (refine altW.of ?_ ?_)
        refine loopW.of (by decide) (fun m e J => ∃ (i ga gb : Nat) (x : Heap), e = [(0, slv kw ow gw ws.length cw), (5, slv H.length 0 g (ws.length + 1) (ws.length + 1)), (6, slv (H.length + 1) 0 ga (ws.length + i) (ws.length + i)), (7, slv (H.length + 2) 0 gb (ws.length + 1 + i) (ws.length + 1 + i)), (110, .int .i64 z.length), (111, .int .i64 i)] ∧
          J = H ++ (.cells g 2 false LL :: .cells ga 3 false (flat' Op.cells (aF z ws.length ++ outs i)) :: .cells gb 3 false (flat' Op.cells (bF z ws.length ++ outs i)) :: x) ∧ i ≤ ws.length ∧ m = ws.length - i) ws.length ⟨0, ga, gb, _, rfl, by simp only [outs, List.replicate_zero, List.append_nil]; rfl, by omega, rfl⟩ ?_
        clear x ga gb
        rintro m e J ⟨i, ga, gb, x, rfl, rfl, hi, rfl⟩
        have hal : (aF z ws.length ++ outs i).length = ws.length + i := by rw [List.length_append, aF_len, outs_len]
        have hbl : (bF z ws.length ++ outs i).length = ws.length + 1 + i := by
          obtain ⟨k', hk'⟩ : ∃ k', ws.length = k' + 1 := ⟨ws.length - 1, by omega⟩
          rw [List.length_append, outs_len, hk', bF_len z k']
        by_cases hli : i < ws.length
        · have hfa := flO (aF z ws.length ++ outs i)
          have hta := flO_tk (aF z ws.length ++ outs i)
          have hsa : flat' Op.cells (aF z ws.length ++ outs i) ++ [.int .i64 2, .int .i64 0, .int .i64 0] = flat' Op.cells (aF z ws.length ++ outs (i + 1)) := by
            rw [flO_sn _ ⟨2, 0, 0⟩, List.append_assoc, ← outs_succ]
          have hfb := flO (bF z ws.length ++ outs i)
          have htb := flO_tk (bF z ws.length ++ outs i)
          have hsb : flat' Op.cells (bF z ws.length ++ outs i) ++ [.int .i64 2, .int .i64 0, .int .i64 0] = flat' Op.cells (bF z ws.length ++ outs (i + 1)) := by
            rw [flO_sn _ ⟨2, 0, 0⟩, List.append_assoc, ← outs_succ]
          rw [hal] at hfa hta
          rw [hbl] at hfb htb
          have hn1 : ¬ ws.length + i + 1 ≤ ws.length + i := by omega
          have hn2 : ¬ ws.length + 1 + i + 1 ≤ ws.length + 1 + i := by omega
          clear w3 z3 hzz hsum hwt hal hbl
          generalize flat' Op.cells (aF z ws.length ++ outs i) = LA at *
          generalize flat' Op.cells (bF z ws.length ++ outs i) = LB at *
          generalize hLA : flat' Op.cells (aF z ws.length ++ outs (i + 1)) = LA2 at *
          generalize hLB : flat' Op.cells (bF z ws.length ++ outs (i + 1)) = LB2 at *
          generalize hma : ws.length + i = ma at *
          generalize hmb : ws.length + 1 + i = mb at *
          repeat' first | simp (disch := first | with_reducible assumption | omega) only [go_sem, Bool.true_and, Bool.and_true, Bool.and_self, Bool.false_and, Bool.and_false, Bool.true_or, Bool.or_true, Bool.false_or, Bool.or_false, ↓reduceIte, Nat.reduceEqDiff, Nat.reduceAdd, Nat.reduceMul, Nat.reduceSub, Nat.reduceBEq, Nat.reduceLeDiff, Nat.reduceLT, Nat.reduceMod, Nat.reduceDiv, Int.reduceToNat, Int.reducePow, Int.reduceMul, Int.reduceAdd, Int.reduceSub, Int.reduceLE, Int.reduceLT, Int.reduceNeg, Int.reduceDiv, Int.reduceMod, Int.reduceEq, Int.reduceBEq, Int.reduceBNe, f4, f4b, f4r0, f4r1, f4r2, f4r3, f4r4, f4r5, f4r6, f4r7, f4r8, f4r9, f4r10, f4r11, f4r12, f4r13, f4r15, f4r16, f4r17, f4r18, f4r19, f4r20, f4r21, f4r23, f4r24, f4r25, f4r26, f4r28, f4r29, f4r30, f4r31, f4r32, f4r33, f4r34, f4r35, f4r36, f4r37, f4r39, f4l2, hfa, hta, hsa, hfb, htb, hsb, hn1, hn2] | (refine BrW.of (fun hb => ?_) (fun hb => ?_) <;> (have hb' := hb; try simp only [decide_eq_true_eq, decide_eq_false_iff_not, beq_iff_eq, bne_iff_ne, beq_eq_false_iff_ne, bne_eq_false_iff_eq, Bool.not_eq_true', Bool.not_eq_false', Bool.not_eq_true, Bool.not_eq_false, Bool.and_eq_true, Bool.or_eq_true, Bool.and_eq_false_iff, Bool.or_eq_false_iff, Int.not_lt, Int.not_le, ne_eq, gt_iff_lt, ge_iff_le] at hb') <;> (try (exfalso; omega))) | (refine altW.of ?_ ?_)
          refine RdW.keep [0, 5, 6, 7, 110, 111] (ws.length - (i + 1)) (by omega) ?_
          simp (disch := first | with_reducible assumption | omega) only [go_sem, Bool.true_and, Bool.and_true, Bool.and_self, Bool.false_and, Bool.and_false, Bool.true_or, Bool.or_true, Bool.false_or, Bool.or_false, ↓reduceIte, Nat.reduceEqDiff, Nat.reduceAdd, Nat.reduceMul, Nat.reduceSub, Nat.reduceBEq, Nat.reduceLeDiff, Nat.reduceLT, Nat.reduceMod, Nat.reduceDiv, Int.reduceToNat, Int.reducePow, Int.reduceMul, Int.reduceAdd, Int.reduceSub, Int.reduceLE, Int.reduceLT, Int.reduceNeg, Int.reduceDiv, Int.reduceMod, Int.reduceEq, Int.reduceBEq, Int.reduceBNe]
          exact ⟨i + 1, ga + 1, gb + 1, _, by rw [show ws.length + (i + 1) = ma + 1 by omega, show ws.length + 1 + (i + 1) = mb + 1 by omega]; rfl, by rw [hLA, hLB], by omega, rfl⟩
        · obtain rfl : i = ws.length := by omega
          subst hLL
          have hokT := flatT_ok (ws := ws) (by omega) hwt
          have hrun := flat_run (ws := ws) (z := z) (by omega) hwt hsum hzz
          have hsf := run_sent_f ws (bF z ws.length ++ outs ws.length)
          have q1 : (H ++ (AObj.cells g 2 false (flat' Nd.cells (flatT ws)) :: AObj.cells ga 3 false (flat' Op.cells (aF z ws.length ++ outs ws.length)) :: AObj.cells gb 3 false (flat' Op.cells (bF z ws.length ++ outs ws.length)) :: x))[H.length]? = some (AObj.cells g 2 false (flat' Nd.cells (flatT ws))) := get_new0 _ _ _
          have q2 : (H ++ (AObj.cells g 2 false (flat' Nd.cells (flatT ws)) :: AObj.cells ga 3 false (flat' Op.cells (aF z ws.length ++ outs ws.length)) :: AObj.cells gb 3 false (flat' Op.cells (bF z ws.length ++ outs ws.length)) :: x))[H.length + 1]? = some (AObj.cells ga 3 false (flat' Op.cells (aF z ws.length ++ outs ws.length))) := by rw [get_new]; rfl
          have q3 : (H ++ (AObj.cells g 2 false (flat' Nd.cells (flatT ws)) :: AObj.cells ga 3 false (flat' Op.cells (aF z ws.length ++ outs ws.length)) :: AObj.cells gb 3 false (flat' Op.cells (bF z ws.length ++ outs ws.length)) :: x))[H.length + 2]? = some (AObj.cells gb 3 false (flat' Op.cells (bF z ws.length ++ outs ws.length))) := by rw [get_new]; rfl
          have hT1 := Tbl.new (enc := Nd.cells) (s := 2) (d := n0) (fun _ => rfl) _ _ _ false _ q1
          have hT2 := Tbl.new (enc := Op.cells) (s := 3) (d := o0) (fun _ => rfl) _ _ _ false _ q2
          have hT3 := Tbl.new (enc := Op.cells) (s := 3) (d := o0) (fun _ => rfl) _ _ _ false _ q3
          have hO2 := IsT.of (A := fun _ => True) (c := ws.length + ws.length) trivial hT2 (by omega)
          have hO3 := IsT.of (A := fun _ => True) (c := ws.length + 1 + ws.length) trivial hT3 (by omega)
          rw [hal] at hO2
          rw [hbl] at hO3
          have hW0 := hT0.le (Le.app H (AObj.cells g 2 false (flat' Nd.cells (flatT ws)) :: AObj.cells ga 3 false (flat' Op.cells (aF z ws.length ++ outs ws.length)) :: AObj.cells gb 3 false (flat' Op.cells (bF z ws.length ++ outs ws.length)) :: x))
          repeat' first | simp (disch := first | with_reducible assumption | omega) only [go_sem, Bool.true_and, Bool.and_true, Bool.and_self, Bool.false_and, Bool.and_false, Bool.true_or, Bool.or_true, Bool.false_or, Bool.or_false, ↓reduceIte, Nat.reduceEqDiff, Nat.reduceAdd, Nat.reduceMul, Nat.reduceSub, Nat.reduceBEq, Nat.reduceLeDiff, Nat.reduceLT, Nat.reduceMod, Nat.reduceDiv, Int.reduceToNat, Int.reducePow, Int.reduceMul, Int.reduceAdd, Int.reduceSub, Int.reduceLE, Int.reduceLT, Int.reduceNeg, Int.reduceDiv, Int.reduceMod, Int.reduceEq, Int.reduceBEq, Int.reduceBNe, f4, f4b, f4r0, f4r1, f4r2, f4r3, f4r4, f4r5, f4r6, f4r7, f4r8, f4r9, f4r10, f4r11, f4r12, f4r13, f4r15, f4r16, f4r17, f4r18, f4r19, f4r20, f4r21, f4r23, f4r24, f4r25, f4r26, f4r28, f4r29, f4r30, f4r31, f4r32, f4r33, f4r34, f4r35, f4r36, f4r37, f4r39, f4l2, f4, f4b, f4r0, f4r1, f4r2, f4r3, f4r4, f4r5, f4r6, f4r7, f4r8, f4r9, f4r10, f4r11, f4r12, f4r13, f4r15, f4r16, f4r17, f4r18, f4r19, f4r20, f4r21, f4r23, f4r24, f4r25, f4r26, f4r28, f4r29, f4r30, f4r31, f4r32, f4r33, f4r34, f4r35, f4r36, f4r37, f4r39] | (refine BrW.of (fun hb => ?_) (fun hb => ?_) <;> (have hb' := hb; try simp only [decide_eq_true_eq, decide_eq_false_iff_not, beq_iff_eq, bne_iff_ne, beq_eq_false_iff_ne, bne_eq_false_iff_eq, Bool.not_eq_true', Bool.not_eq_false', Bool.not_eq_true, Bool.not_eq_false, Bool.and_eq_true, Bool.or_eq_true, Bool.and_eq_false_iff, Bool.or_eq_false_iff, Int.not_lt, Int.not_le, ne_eq, gt_iff_lt, ge_iff_le] at hb') <;> (try (exfalso; omega))) | (refine altW.of ?_ ?_)
          clear q1 q2 q3
          generalize H ++ (AObj.cells g 2 false (flat' Nd.cells (flatT ws)) :: AObj.cells ga 3 false (flat' Op.cells (aF z ws.length ++ outs ws.length)) :: AObj.cells gb 3 false (flat' Op.cells (bF z ws.length ++ outs ws.length)) :: x) = J at *
          have hal400 : (aF z ws.length ++ outs ws.length).length ≤ 400 := by omega
          have hbl400 : (bF z ws.length ++ outs ws.length).length ≤ 400 := by omega
          have hlTi : ((ws.length + 1 : Nat) : Int) = (flatT ws).length := by omega
          rw [show slv H.length 0 g (ws.length + 1) (ws.length + 1) = slv H.length 0 g (flatT ws).length (flatT ws).length by rw [hlT]]
          refine .of ((Play_spec (flatT ws) (aF z ws.length ++ outs ws.length) _ 0 g _ _ (fun _ => True) J hT1 (by omega) hO2 (by omega)).mono ?_)
          rintro v G ⟨a, b, c, e, rfl, hLe, he, _, hy⟩
          obtain rfl := he.2 ⟨hokT, hal400⟩
          obtain ⟨_, hS, _⟩ := hy rfl
          have hW1 := hW0.le hLe
          have hO4 := hO3.le hLe
          clear hy he hT1 hT2 hT3 hO2 hO3 hLe hW0
          repeat' first | simp (disch := first | with_reducible assumption | omega) only [go_sem, Bool.true_and, Bool.and_true, Bool.and_self, Bool.false_and, Bool.and_false, Bool.true_or, Bool.or_true, Bool.false_or, Bool.or_false, ↓reduceIte, Nat.reduceEqDiff, Nat.reduceAdd, Nat.reduceMul, Nat.reduceSub, Nat.reduceBEq, Nat.reduceLeDiff, Nat.reduceLT, Nat.reduceMod, Nat.reduceDiv, Int.reduceToNat, Int.reducePow, Int.reduceMul, Int.reduceAdd, Int.reduceSub, Int.reduceLE, Int.reduceLT, Int.reduceNeg, Int.reduceDiv, Int.reduceMod, Int.reduceEq, Int.reduceBEq, Int.reduceBNe, f4, f4b, f4r0, f4r1, f4r2, f4r3, f4r4, f4r5, f4r6, f4r7, f4r8, f4r9, f4r10, f4r11, f4r12, f4r13, f4r15, f4r16, f4r17, f4r18, f4r19, f4r20, f4r21, f4r23, f4r24, f4r25, f4r26, f4r28, f4r29, f4r30, f4r31, f4r32, f4r33, f4r34, f4r35, f4r36, f4r37, f4r39] | (refine BrW.of (fun hb => ?_) (fun hb => ?_) <;> (have hb' := hb; try simp only [decide_eq_true_eq, decide_eq_false_iff_not, beq_iff_eq, bne_iff_ne, beq_eq_false_iff_ne, bne_eq_false_iff_eq, Bool.not_eq_true', Bool.not_eq_false', Bool.not_eq_true, Bool.not_eq_false, Bool.and_eq_true, Bool.or_eq_true, Bool.and_eq_false_iff, Bool.or_eq_false_iff, Int.not_lt, Int.not_le, ne_eq, gt_iff_lt, ge_iff_le] at hb') <;> (try (exfalso; omega))) | (refine altW.of ?_ ?_)
          refine .of ((Q.Play_spec ws (bF z ws.length ++ outs ws.length) _ _ (fun _ => True) G hW1 hO4 (by omega) (by omega)).mono ?_)
          rintro v G2 ⟨a2, b2, c2, e2, rfl, hLe2, he2, _, hy2⟩
          obtain rfl := he2.2 ⟨⟨by omega, hwt⟩, hbl400⟩
          obtain ⟨_, hS2, _⟩ := hy2 rfl
          have hS := hS.le hLe2
          rw [hrun] at hS
          clear hy2 he2 hLe2 hW1 hO4 hrun
          have hTl := (Q.run_lens ws ws.sum (bF z ws.length ++ outs ws.length)).2.1
          generalize (Q.runR ws ws.sum (bF z ws.length ++ outs ws.length)).sent = T at *
          obtain ⟨ks, os, gs, cs, _, rfl, hss, hcs⟩ := hS
          obtain ⟨kt, ot, gt, ct, _, rfl, hst, hct⟩ := hS2
          rw [List.length_map] at *
          obtain ⟨ros, css, hks, s2, s3⟩ := hss.at'
          obtain ⟨rot, cst, hkt, t2, t3⟩ := hst.at'
          rw [List.length_map] at s3
          repeat' first | simp (disch := first | with_reducible assumption | omega) only [go_sem, Bool.true_and, Bool.and_true, Bool.and_self, Bool.false_and, Bool.and_false, Bool.true_or, Bool.or_true, Bool.false_or, Bool.or_false, ↓reduceIte, Nat.reduceEqDiff, Nat.reduceAdd, Nat.reduceMul, Nat.reduceSub, Nat.reduceBEq, Nat.reduceLeDiff, Nat.reduceLT, Nat.reduceMod, Nat.reduceDiv, Int.reduceToNat, Int.reducePow, Int.reduceMul, Int.reduceAdd, Int.reduceSub, Int.reduceLE, Int.reduceLT, Int.reduceNeg, Int.reduceDiv, Int.reduceMod, Int.reduceEq, Int.reduceBEq, Int.reduceBNe, f4, f4b, f4r0, f4r1, f4r2, f4r3, f4r4, f4r5, f4r6, f4r7, f4r8, f4r9, f4r10, f4r11, f4r12, f4r13, f4r15, f4r16, f4r17, f4r18, f4r19, f4r20, f4r21, f4r23, f4r24, f4r25, f4r26, f4r28, f4r29, f4r30, f4r31, f4r32, f4r33, f4r34, f4r35, f4r36, f4r37, f4r39, hks, hkt] | (refine BrW.of (fun hb => ?_) (fun hb => ?_) <;> (have hb' := hb; try simp only [decide_eq_true_eq, decide_eq_false_iff_not, beq_iff_eq, bne_iff_ne, beq_eq_false_iff_ne, bne_eq_false_iff_eq, Bool.not_eq_true', Bool.not_eq_false', Bool.not_eq_true, Bool.not_eq_false, Bool.and_eq_true, Bool.or_eq_true, Bool.and_eq_false_iff, Bool.or_eq_false_iff, Int.not_lt, Int.not_le, ne_eq, gt_iff_lt, ge_iff_le] at hb') <;> (try (exfalso; omega))) | (refine altW.of ?_ ?_)
          all_goals first | (exfalso; omega) | skip
          refine loopW.of (by decide) (fun m e J => ∃ (i : Nat), e = [(12, slv ks os gs T.length cs), (16, slv kt ot gt T.length ct), (152, .int .i64 T.length), (153, .int .i64 i)] ∧ J = G2 ∧ i ≤ T.length ∧ m = T.length - i) T.length ⟨0, rfl, rfl, by omega, rfl⟩ ?_
          rintro m e J ⟨i, rfl, rfl, hi, rfl⟩
          by_cases hli : i < T.length
          · have x0 := s3 i hli 0 (by omega)
            have x1 := s3 i hli 1 (by omega)
            have y0 := t3 i hli 0 (by omega)
            have y1 := t3 i hli 1 (by omega)
            have hmap : (T.map fun s => (⟨s.f + 1, s.n⟩ : S)).getD i s0 = ⟨(T.getD i s0).f + 1, (T.getD i s0).n⟩ := by
              simp [List.getD_eq_getElem?_getD, List.getElem?_eq_getElem hli]
            have hf := hsf (T.getD i s0) (by rw [List.getD_eq_getElem?_getD, List.getElem?_eq_getElem hli]; exact List.getElem_mem hli)
            rw [hmap] at x0 x1
            simp only [S.cells, List.getElem?_cons_zero, List.getElem?_cons_succ, Nat.add_zero] at x0 x1 y0 y1
            clear hsf s3 t3 hmap
            generalize T.getD i s0 = s at *
            repeat' first | simp (disch := first | with_reducible assumption | omega) only [go_sem, Bool.true_and, Bool.and_true, Bool.and_self, Bool.false_and, Bool.and_false, Bool.true_or, Bool.or_true, Bool.false_or, Bool.or_false, ↓reduceIte, Nat.reduceEqDiff, Nat.reduceAdd, Nat.reduceMul, Nat.reduceSub, Nat.reduceBEq, Nat.reduceLeDiff, Nat.reduceLT, Nat.reduceMod, Nat.reduceDiv, Int.reduceToNat, Int.reducePow, Int.reduceMul, Int.reduceAdd, Int.reduceSub, Int.reduceLE, Int.reduceLT, Int.reduceNeg, Int.reduceDiv, Int.reduceMod, Int.reduceEq, Int.reduceBEq, Int.reduceBNe, f4, f4b, f4r0, f4r1, f4r2, f4r3, f4r4, f4r5, f4r6, f4r7, f4r8, f4r9, f4r10, f4r11, f4r12, f4r13, f4r15, f4r16, f4r17, f4r18, f4r19, f4r20, f4r21, f4r23, f4r24, f4r25, f4r26, f4r28, f4r29, f4r30, f4r31, f4r32, f4r33, f4r34, f4r35, f4r36, f4r37, f4r39, f4l3, hks, hkt, x0, x1, y0, y1] | (refine BrW.of (fun hb => ?_) (fun hb => ?_) <;> (have hb' := hb; try simp only [decide_eq_true_eq, decide_eq_false_iff_not, beq_iff_eq, bne_iff_ne, beq_eq_false_iff_ne, bne_eq_false_iff_eq, Bool.not_eq_true', Bool.not_eq_false', Bool.not_eq_true, Bool.not_eq_false, Bool.and_eq_true, Bool.or_eq_true, Bool.and_eq_false_iff, Bool.or_eq_false_iff, Int.not_lt, Int.not_le, ne_eq, gt_iff_lt, ge_iff_le] at hb') <;> (try (exfalso; omega))) | (refine altW.of ?_ ?_)
            all_goals first | (exfalso; omega) | skip
            refine RdW.keep [12, 16, 152, 153] (T.length - (i + 1)) (by omega) ?_
            simp (disch := first | with_reducible assumption | omega) only [go_sem, Bool.true_and, Bool.and_true, Bool.and_self, Bool.false_and, Bool.and_false, Bool.true_or, Bool.or_true, Bool.false_or, Bool.or_false, ↓reduceIte, Nat.reduceEqDiff, Nat.reduceAdd, Nat.reduceMul, Nat.reduceSub, Nat.reduceBEq, Nat.reduceLeDiff, Nat.reduceLT, Nat.reduceMod, Nat.reduceDiv, Int.reduceToNat, Int.reducePow, Int.reduceMul, Int.reduceAdd, Int.reduceSub, Int.reduceLE, Int.reduceLT, Int.reduceNeg, Int.reduceDiv, Int.reduceMod, Int.reduceEq, Int.reduceBEq, Int.reduceBNe]
            exact ⟨i + 1, rfl, by omega, rfl⟩
          · repeat' first | simp (disch := first | with_reducible assumption | omega) only [go_sem, Bool.true_and, Bool.and_true, Bool.and_self, Bool.false_and, Bool.and_false, Bool.true_or, Bool.or_true, Bool.false_or, Bool.or_false, ↓reduceIte, Nat.reduceEqDiff, Nat.reduceAdd, Nat.reduceMul, Nat.reduceSub, Nat.reduceBEq, Nat.reduceLeDiff, Nat.reduceLT, Nat.reduceMod, Nat.reduceDiv, Int.reduceToNat, Int.reducePow, Int.reduceMul, Int.reduceAdd, Int.reduceSub, Int.reduceLE, Int.reduceLT, Int.reduceNeg, Int.reduceDiv, Int.reduceMod, Int.reduceEq, Int.reduceBEq, Int.reduceBNe, f4, f4b, f4r0, f4r1, f4r2, f4r3, f4r4, f4r5, f4r6, f4r7, f4r8, f4r9, f4r10, f4r11, f4r12, f4r13, f4r15, f4r16, f4r17, f4r18, f4r19, f4r20, f4r21, f4r23, f4r24, f4r25, f4r26, f4r28, f4r29, f4r30, f4r31, f4r32, f4r33, f4r34, f4r35, f4r36, f4r37, f4r39, f4l3, f4, f4b, f4r0, f4r1, f4r2, f4r3, f4r4, f4r5, f4r6, f4r7, f4r8, f4r9, f4r10, f4r11, f4r12, f4r13, f4r15, f4r16, f4r17, f4r18, f4r19, f4r20, f4r21, f4r23, f4r24, f4r25, f4r26, f4r28, f4r29, f4r30, f4r31, f4r32, f4r33, f4r34, f4r35, f4r36, f4r37, f4r39] | (refine BrW.of (fun hb => ?_) (fun hb => ?_) <;> (have hb' := hb; try simp only [decide_eq_true_eq, decide_eq_false_iff_not, beq_iff_eq, bne_iff_ne, beq_eq_false_iff_ne, bne_eq_false_iff_eq, Bool.not_eq_true', Bool.not_eq_false', Bool.not_eq_true, Bool.not_eq_false, Bool.and_eq_true, Bool.or_eq_true, Bool.and_eq_false_iff, Bool.or_eq_false_iff, Int.not_lt, Int.not_le, ne_eq, gt_iff_lt, ge_iff_le] at hb') <;> (try (exfalso; omega))) | (refine altW.of ?_ ?_)
            exact .here rfl
  · repeat' first | simp (disch := first | with_reducible assumption | omega) only [go_sem, Bool.true_and, Bool.and_true, Bool.and_self, Bool.false_and, Bool.and_false, Bool.true_or, Bool.or_true, Bool.false_or, Bool.or_false, ↓reduceIte, Nat.reduceEqDiff, Nat.reduceAdd, Nat.reduceMul, Nat.reduceSub, Nat.reduceBEq, Nat.reduceLeDiff, Nat.reduceLT, Nat.reduceMod, Nat.reduceDiv, Int.reduceToNat, Int.reducePow, Int.reduceMul, Int.reduceAdd, Int.reduceSub, Int.reduceLE, Int.reduceLT, Int.reduceNeg, Int.reduceDiv, Int.reduceMod, Int.reduceEq, Int.reduceBEq, Int.reduceBNe, f4, f4b, f4r0, f4r1, f4r2, f4r3, f4r4, f4r5, f4r6, f4r7, f4r8, f4r9, f4r10, f4r11, f4r12, f4r13, f4r15, f4r16, f4r17, f4r18, f4r19, f4r20, f4r21, f4r23, f4r24, f4r25, f4r26, f4r28, f4r29, f4r30, f4r31, f4r32, f4r33, f4r34, f4r35, f4r36, f4r37, f4r39, hkw, hkz] | (refine BrW.of (fun hb => ?_) (fun hb => ?_) <;> (have hb' := hb; try simp only [decide_eq_true_eq, decide_eq_false_iff_not, beq_iff_eq, bne_iff_ne, beq_eq_false_iff_ne, bne_eq_false_iff_eq, Bool.not_eq_true', Bool.not_eq_false', Bool.not_eq_true, Bool.not_eq_false, Bool.and_eq_true, Bool.or_eq_true, Bool.and_eq_false_iff, Bool.or_eq_false_iff, Int.not_lt, Int.not_le, ne_eq, gt_iff_lt, ge_iff_le] at hb') <;> (try (exfalso; omega))) | (refine altW.of ?_ ?_)
    exact .here rfl
end Go.Proofs.Ytknfaoonjmlncaa
