import Derived.Test.YtadogoahnpakbaaLaws
import Derived.Test.YtadogoahnpakbaaSteps6
set_option linter.unusedSimpArgs false
set_option linter.unusedVariables false
set_option maxHeartbeats 2000000
set_option maxRecDepth 20000
namespace Go.Proofs.Ytadogoahnpakbaa
open Go Go.Am
attribute [local irreducible] opsW Ww loopW callW drawW outW outDW gW cW BrW bothW vW resW DropW RdW dcallW Later.run

theorem join_cnt {R W : Nat} (hW : 1 ≤ W) (l m : List C) : joinT (cnt false R W l) (cnt false R W m) (cnt false R W l).length = cnt false R W (m ++ l) := extI (by rw [joinT_length, cnt_len, cnt_len]) fun j hj => by
  rw [joinT_length] at hj
  rw [joinT_get _ _ _ _ hj, if_pos hj, cnt_get hW, cnt_get hW, cnt_get hW, tot_app, Int.add_comm]
theorem join_cnt' {R W : Nat} (hW : 1 ≤ W) (l m : List C) : joinT (cnt false R W m) (cnt false R W l) (cnt false R W m).length = cnt false R W (m ++ l) := extI (by rw [joinT_length, cnt_len, cnt_len]) fun j hj => by
  rw [joinT_length] at hj
  rw [joinT_get _ _ _ _ hj, if_pos hj, cnt_get hW, cnt_get hW, cnt_get hW, tot_app]

theorem SketchJoin_args (H : Heap) (vals : List Value) (h : ArgsOk 1048576 H SketchJoinSh vals) : ACallK Try.prog 6 vals H fun v _ => v = .bool true := by
  obtain ⟨_, _, rfl, a1, h⟩ := h.cons
  obtain ⟨_, _, rfl, a2, h⟩ := h.cons
  obtain ⟨_, _, rfl, a3, h⟩ := h.cons
  obtain ⟨_, _, rfl, a4, h⟩ := h.cons
  obtain rfl := h.nil
  obtain ⟨rows, rfl, _⟩ := a1.cell.int_inv
  obtain ⟨w, rfl, _⟩ := a2.cell.int_inv
  obtain ⟨k, c, l, rfl, hB, hlc, hs, _⟩ := rows_of (enc := C.cells) (ok := fun _ => True) 2 (fun _ => rfl) c0 rfl (fun cs h => C.of h) a3
  obtain ⟨km, cm, m, rfl, hBm, hlcm, hsm, _⟩ := rows_of (enc := C.cells) (ok := fun _ => True) 2 (fun _ => rfl) c0 rfl (fun cs h => C.of h) a4
  clear a1 a2 a3 a4 h
  refine .walkW f6_ok (by simp; decide) (by decide) ?_
  repeat' first | simp (disch := first | with_reducible assumption | omega) only [go_sem, Bool.true_and, Bool.and_true, Bool.and_self, Bool.false_and, Bool.and_false, Bool.true_or, Bool.or_true, Bool.false_or, Bool.or_false, ↓reduceIte, Nat.reduceEqDiff, Nat.reduceAdd, Nat.reduceMul, Nat.reduceSub, Nat.reduceBEq, Nat.reduceLeDiff, Nat.reduceLT, Nat.reduceMod, Nat.reduceDiv, Int.reduceToNat, Int.reducePow, Int.reduceMul, Int.reduceAdd, Int.reduceSub, Int.reduceLE, Int.reduceLT, Int.reduceNeg, Int.reduceDiv, Int.reduceMod, Int.reduceEq, Int.reduceBEq, Int.reduceBNe, f6, f6b, f6r0, f6r1, f6r2, f6r3, f6r4, f6r5, f6r6, f6r7, f6r8, f6r9, f6r10] | (refine BrW.of (fun hb => ?_) (fun hb => ?_) <;> (have hb' := hb; try simp only [decide_eq_true_eq, decide_eq_false_iff_not, beq_iff_eq, bne_iff_ne, beq_eq_false_iff_ne, bne_eq_false_iff_eq, Bool.not_eq_true', Bool.not_eq_false', Bool.not_eq_true, Bool.not_eq_false, Bool.and_eq_true, Bool.or_eq_true, Bool.and_eq_false_iff, Bool.or_eq_false_iff, Int.not_lt, Int.not_le, ne_eq, gt_iff_lt, ge_iff_le] at hb') <;> (try (exfalso; omega))) | (refine .of ((alive _).mono ?_); rintro v H ⟨rfl, rfl⟩)
  refine .of ((counted_u rows w l k 0 0 c false _ hs (by omega)).mono ?_)
  rintro v H1 ⟨s1, u1, ok1, rfl, le1, hI1, hl1, hg1⟩
  repeat' first | simp (disch := first | with_reducible assumption | omega) only [go_sem, Bool.true_and, Bool.and_true, Bool.and_self, Bool.false_and, Bool.and_false, Bool.true_or, Bool.or_true, Bool.false_or, Bool.or_false, ↓reduceIte, Nat.reduceEqDiff, Nat.reduceAdd, Nat.reduceMul, Nat.reduceSub, Nat.reduceBEq, Nat.reduceLeDiff, Nat.reduceLT, Nat.reduceMod, Nat.reduceDiv, Int.reduceToNat, Int.reducePow, Int.reduceMul, Int.reduceAdd, Int.reduceSub, Int.reduceLE, Int.reduceLT, Int.reduceNeg, Int.reduceDiv, Int.reduceMod, Int.reduceEq, Int.reduceBEq, Int.reduceBNe, f6, f6b, f6r0, f6r1, f6r2, f6r3, f6r4, f6r5, f6r6, f6r7, f6r8, f6r9, f6r10, S.val] | (refine BrW.of (fun hb => ?_) (fun hb => ?_) <;> (have hb' := hb; try simp only [decide_eq_true_eq, decide_eq_false_iff_not, beq_iff_eq, bne_iff_ne, beq_eq_false_iff_ne, bne_eq_false_iff_eq, Bool.not_eq_true', Bool.not_eq_false', Bool.not_eq_true, Bool.not_eq_false, Bool.and_eq_true, Bool.or_eq_true, Bool.and_eq_false_iff, Bool.or_eq_false_iff, Int.not_lt, Int.not_le, ne_eq, gt_iff_lt, ge_iff_le] at hb') <;> (try (exfalso; omega)))
  refine .of ((counted_u rows w m km 0 0 cm false _ ((hsm.le le1).app _) (by omega)).mono ?_)
  rintro v H2 ⟨s2, u2, ok2, rfl, le2, hI2, hl2, hg2⟩
  have hs2 := ((hs.le le1).app [AObj.cells 0 0 false [.int .i64 s1.rows, .int .i64 s1.w, u1]]).le le2
  have hsm2 := ((hsm.le le1).app [AObj.cells 0 0 false [.int .i64 s1.rows, .int .i64 s1.w, u1]]).le le2
  have hJ1 := (hI1.app [AObj.cells 0 0 false [.int .i64 s1.rows, .int .i64 s1.w, u1]]).le le2
  have hbA := le2.get (get_new0 H1 (AObj.cells 0 0 false [.int .i64 s1.rows, .int .i64 s1.w, u1]) [])
  clear hs hsm le1 le2 hI1
  generalize H1.length = P1 at *
  obtain ⟨ro, cs, hk, hcl, hcs⟩ := hs2.at'
  obtain ⟨ro2, cs2, hk2, hcl2, hcs2⟩ := hsm2.at'
  have ht1 := Tbl.cells (enc := C.cells) (fun _ => rfl) hcl hcs
  have ht2 := Tbl.cells (enc := C.cells) (fun _ => rfl) hcl2 hcs2
  clear hcs hcs2 hs2 hsm2
  simp only [List.drop_zero] at ht1 ht2
  by_cases zm : m.length = 0
  · have em : m = [] := List.eq_nil_of_length_eq_zero zm
    by_cases zl : l.length = 0
    · have el : l = [] := List.eq_nil_of_length_eq_zero zl
      have hML : ([] : List C) = m ++ l := by rw [em, el]; rfl
      have hLen : ([] : List C).length = 0 := rfl
      repeat' first | simp (disch := first | with_reducible assumption | omega) only [go_sem, Bool.true_and, Bool.and_true, Bool.and_self, Bool.false_and, Bool.and_false, Bool.true_or, Bool.or_true, Bool.false_or, Bool.or_false, ↓reduceIte, Nat.reduceEqDiff, Nat.reduceAdd, Nat.reduceMul, Nat.reduceSub, Nat.reduceBEq, Nat.reduceLeDiff, Nat.reduceLT, Nat.reduceMod, Nat.reduceDiv, Int.reduceToNat, Int.reducePow, Int.reduceMul, Int.reduceAdd, Int.reduceSub, Int.reduceLE, Int.reduceLT, Int.reduceNeg, Int.reduceDiv, Int.reduceMod, Int.reduceEq, Int.reduceBEq, Int.reduceBNe, f6, f6b, f6r0, f6r1, f6r2, f6r3, f6r4, f6r5, f6r6, f6r7, f6r8, f6r9, f6r10, S.val, hk, get_old hk, hk2, get_old hk2, ht1, ht2, zm, zl] | (refine BrW.of (fun hb => ?_) (fun hb => ?_) <;> (have hb' := hb; try simp only [decide_eq_true_eq, decide_eq_false_iff_not, beq_iff_eq, bne_iff_ne, beq_eq_false_iff_ne, bne_eq_false_iff_eq, Bool.not_eq_true', Bool.not_eq_false', Bool.not_eq_true, Bool.not_eq_false, Bool.and_eq_true, Bool.or_eq_true, Bool.and_eq_false_iff, Bool.or_eq_false_iff, Int.not_lt, Int.not_le, ne_eq, gt_iff_lt, ge_iff_le] at hb') <;> (try (exfalso; omega)))
      have hOB := fun (Z : AObj) => (Tbl.new (enc := C.cells) (s := 2) (d := c0) (fun _ => rfl) (H2 ++ [Z, .cells 0 2 false (flat' C.cells (([] : List C)))]) (H2.length + 1) 0 false (([] : List C)) (by rw [get_new]; rfl))
      have hbA2 := get_old hbA [AObj.cells 0 0 false [.int .i64 s2.rows, .int .i64 s2.w, u2], AObj.cells 0 2 false (flat' C.cells (([] : List C)))]
      have hbB2 := get_new0 H2 (AObj.cells 0 0 false [.int .i64 s2.rows, .int .i64 s2.w, u2]) [AObj.cells 0 2 false (flat' C.cells (([] : List C)))]
      have hK1 := hJ1.app [AObj.cells 0 0 false [.int .i64 s2.rows, .int .i64 s2.w, u2], AObj.cells 0 2 false (flat' C.cells (([] : List C)))]
      have hK2 := hI2.app [AObj.cells 0 0 false [.int .i64 s2.rows, .int .i64 s2.w, u2], AObj.cells 0 2 false (flat' C.cells (([] : List C)))]
      have hcu := counted_u rows w (([] : List C)) (H2.length + 1) 0 0 (([] : List C)).length false _ (hOB (.cells 0 0 false [.int .i64 s2.rows, .int .i64 s2.w, u2])) (by rw [hML]; simp; omega)
      try rw [hLen] at hcu
      refine .of (hcu.mono ?_)
      clear hcu hOB
      generalize H2 ++ [AObj.cells 0 0 false [.int .i64 s2.rows, .int .i64 s2.w, u2], AObj.cells 0 2 false (flat' C.cells (([] : List C)))] = G2 at *
      generalize H2.length = P2 at *
      rintro v H3 ⟨s3, u3, ok3, rfl, le3, hI3, hl3, hg3⟩
      rw [hML] at hg3
      cases ok1 with
      | false =>
        repeat' first | simp (disch := first | with_reducible assumption | omega) only [go_sem, Bool.true_and, Bool.and_true, Bool.and_self, Bool.false_and, Bool.and_false, Bool.true_or, Bool.or_true, Bool.false_or, Bool.or_false, ↓reduceIte, Nat.reduceEqDiff, Nat.reduceAdd, Nat.reduceMul, Nat.reduceSub, Nat.reduceBEq, Nat.reduceLeDiff, Nat.reduceLT, Nat.reduceMod, Nat.reduceDiv, Int.reduceToNat, Int.reducePow, Int.reduceMul, Int.reduceAdd, Int.reduceSub, Int.reduceLE, Int.reduceLT, Int.reduceNeg, Int.reduceDiv, Int.reduceMod, Int.reduceEq, Int.reduceBEq, Int.reduceBNe, f6, f6b, f6r0, f6r1, f6r2, f6r3, f6r4, f6r5, f6r6, f6r7, f6r8, f6r9, f6r10, S.val] | (refine BrW.of (fun hb => ?_) (fun hb => ?_) <;> (have hb' := hb; try simp only [decide_eq_true_eq, decide_eq_false_iff_not, beq_iff_eq, bne_iff_ne, beq_eq_false_iff_ne, bne_eq_false_iff_eq, Bool.not_eq_true', Bool.not_eq_false', Bool.not_eq_true, Bool.not_eq_false, Bool.and_eq_true, Bool.or_eq_true, Bool.and_eq_false_iff, Bool.or_eq_false_iff, Int.not_lt, Int.not_le, ne_eq, gt_iff_lt, ge_iff_le] at hb') <;> (try (exfalso; omega)))
        all_goals exact .here rfl
      | true =>
        cases ok2 with
        | false =>
          repeat' first | simp (disch := first | with_reducible assumption | omega) only [go_sem, Bool.true_and, Bool.and_true, Bool.and_self, Bool.false_and, Bool.and_false, Bool.true_or, Bool.or_true, Bool.false_or, Bool.or_false, ↓reduceIte, Nat.reduceEqDiff, Nat.reduceAdd, Nat.reduceMul, Nat.reduceSub, Nat.reduceBEq, Nat.reduceLeDiff, Nat.reduceLT, Nat.reduceMod, Nat.reduceDiv, Int.reduceToNat, Int.reducePow, Int.reduceMul, Int.reduceAdd, Int.reduceSub, Int.reduceLE, Int.reduceLT, Int.reduceNeg, Int.reduceDiv, Int.reduceMod, Int.reduceEq, Int.reduceBEq, Int.reduceBNe, f6, f6b, f6r0, f6r1, f6r2, f6r3, f6r4, f6r5, f6r6, f6r7, f6r8, f6r9, f6r10, S.val] | (refine BrW.of (fun hb => ?_) (fun hb => ?_) <;> (have hb' := hb; try simp only [decide_eq_true_eq, decide_eq_false_iff_not, beq_iff_eq, bne_iff_ne, beq_eq_false_iff_ne, bne_eq_false_iff_eq, Bool.not_eq_true', Bool.not_eq_false', Bool.not_eq_true, Bool.not_eq_false, Bool.and_eq_true, Bool.or_eq_true, Bool.and_eq_false_iff, Bool.or_eq_false_iff, Int.not_lt, Int.not_le, ne_eq, gt_iff_lt, ge_iff_le] at hb') <;> (try (exfalso; omega)))
          all_goals exact .here rfl
        | true =>
          cases ok3 with
          | false =>
            repeat' first | simp (disch := first | with_reducible assumption | omega) only [go_sem, Bool.true_and, Bool.and_true, Bool.and_self, Bool.false_and, Bool.and_false, Bool.true_or, Bool.or_true, Bool.false_or, Bool.or_false, ↓reduceIte, Nat.reduceEqDiff, Nat.reduceAdd, Nat.reduceMul, Nat.reduceSub, Nat.reduceBEq, Nat.reduceLeDiff, Nat.reduceLT, Nat.reduceMod, Nat.reduceDiv, Int.reduceToNat, Int.reducePow, Int.reduceMul, Int.reduceAdd, Int.reduceSub, Int.reduceLE, Int.reduceLT, Int.reduceNeg, Int.reduceDiv, Int.reduceMod, Int.reduceEq, Int.reduceBEq, Int.reduceBNe, f6, f6b, f6r0, f6r1, f6r2, f6r3, f6r4, f6r5, f6r6, f6r7, f6r8, f6r9, f6r10, S.val] | (refine BrW.of (fun hb => ?_) (fun hb => ?_) <;> (have hb' := hb; try simp only [decide_eq_true_eq, decide_eq_false_iff_not, beq_iff_eq, bne_iff_ne, beq_eq_false_iff_ne, bne_eq_false_iff_eq, Bool.not_eq_true', Bool.not_eq_false', Bool.not_eq_true, Bool.not_eq_false, Bool.and_eq_true, Bool.or_eq_true, Bool.and_eq_false_iff, Bool.or_eq_false_iff, Int.not_lt, Int.not_le, ne_eq, gt_iff_lt, ge_iff_le] at hb') <;> (try (exfalso; omega)))
            all_goals exact .here rfl
          | true =>
            obtain ⟨R, W, rfl, rfl, hR, hW, rfl, hr1, hn1⟩ := hg1 rfl
            obtain ⟨R', W', e1, e2, _, _, rfl, hr2, hn2⟩ := hg2 rfl
            obtain rfl : R = R' := by omega
            obtain rfl : W = W' := by omega
            obtain ⟨R', W', e3, e4, _, _, rfl, hr3, hn3⟩ := hg3 rfl
            obtain rfl : R = R' := by omega
            obtain rfl : W = W' := by omega
            have hf3 := fits_of (l := cnt false R W (m ++ l)) hr3.2.2.2.2.2
            have j1 := join_cnt hW.1 (R := R) l m
            have j2 := join_cnt' hW.1 (R := R) l m
            have c1 := cnt_len false R W l
            have c2 := cnt_len false R W m
            have c3 := cnt_len false R W (m ++ l)
            have hs1 : ∀ j, j < (cnt false R W l).length → (cnt false R W l).getD j 0 + (cnt false R W m).getD j 0 ≤ 1099511627776 := fun j _ => by
              have := (hf3 j).2
              rw [cnt_get hW.1, tot_app, ← cnt_get hW.1, ← cnt_get hW.1] at this
              omega
            have hs2 : ∀ j, j < (cnt false R W m).length → (cnt false R W m).getD j 0 + (cnt false R W l).getD j 0 ≤ 1099511627776 := fun j _ => by
              have := (hf3 j).2
              rw [cnt_get hW.1, tot_app, ← cnt_get hW.1, ← cnt_get hW.1] at this
              omega
            have hT : 1 ≤ R * W ∧ R * W ≤ 512 := ⟨Nat.mul_le_mul (show 1 ≤ R by omega) (show 1 ≤ W by omega), Nat.mul_le_mul (show R ≤ 8 by omega) (show W ≤ 64 by omega)⟩
            simp only at hK1 hK2 hI3 hbA2 hbB2
            have hU1 := (hK1.le le3).app [AObj.cells 0 0 false [.int .i64 R, .int .i64 W, u3]]
            have hU2 := (hK2.le le3).app [AObj.cells 0 0 false [.int .i64 R, .int .i64 W, u3]]
            have hU3 := hI3.app [AObj.cells 0 0 false [.int .i64 R, .int .i64 W, u3]]
            have b1 := get_old (le3.get hbA2) [AObj.cells 0 0 false [.int .i64 R, .int .i64 W, u3]]
            have b2 := get_old (le3.get hbB2) [AObj.cells 0 0 false [.int .i64 R, .int .i64 W, u3]]
            have b3 := get_new0 H3 (AObj.cells 0 0 false [.int .i64 R, .int .i64 W, u3]) []
            have hJoin1 := fun G h1 h2 => Join_u R W (cnt false R W l) (cnt false R W m) u1 u2 G h1 h2 hr1 hr2 hs1
            have hJoin2 := fun G h1 h2 => Join_u R W (cnt false R W m) (cnt false R W l) u2 u1 G h1 h2 hr2 hr1 hs2
            rw [j1] at hJoin1
            rw [j2] at hJoin2
            clear hg1 hg2 hg3 hr1 hr2 hr3 hn1 hn2 hn3 hf3 j1 j2 hs1 hs2 hK1 hK2 hI3 hbA2 hbB2 le3
            simp only [S.val] at hJoin1 hJoin2
            repeat' first | simp (disch := first | with_reducible assumption | omega) only [go_sem, Bool.true_and, Bool.and_true, Bool.and_self, Bool.false_and, Bool.and_false, Bool.true_or, Bool.or_true, Bool.false_or, Bool.or_false, ↓reduceIte, Nat.reduceEqDiff, Nat.reduceAdd, Nat.reduceMul, Nat.reduceSub, Nat.reduceBEq, Nat.reduceLeDiff, Nat.reduceLT, Nat.reduceMod, Nat.reduceDiv, Int.reduceToNat, Int.reducePow, Int.reduceMul, Int.reduceAdd, Int.reduceSub, Int.reduceLE, Int.reduceLT, Int.reduceNeg, Int.reduceDiv, Int.reduceMod, Int.reduceEq, Int.reduceBEq, Int.reduceBNe, f6, f6b, f6r0, f6r1, f6r2, f6r3, f6r4, f6r5, f6r6, f6r7, f6r8, f6r9, f6r10, S.val, b1, b2] | (refine BrW.of (fun hb => ?_) (fun hb => ?_) <;> (have hb' := hb; try simp only [decide_eq_true_eq, decide_eq_false_iff_not, beq_iff_eq, bne_iff_ne, beq_eq_false_iff_ne, bne_eq_false_iff_eq, Bool.not_eq_true', Bool.not_eq_false', Bool.not_eq_true, Bool.not_eq_false, Bool.and_eq_true, Bool.or_eq_true, Bool.and_eq_false_iff, Bool.or_eq_false_iff, Int.not_lt, Int.not_le, ne_eq, gt_iff_lt, ge_iff_le] at hb') <;> (try (exfalso; omega)))
            generalize H3 ++ [AObj.cells 0 0 false [.int .i64 R, .int .i64 W, u3]] = G3 at *
            generalize H3.length = P3 at *
            refine .of ((hJoin1 _ hU1 hU2).mono ?_)
            rintro v _ ⟨X4, w4, rfl, rfl, hX4⟩
            have hD := hX4.is.app [AObj.cells 0 0 false [.int .i64 R, .int .i64 W, w4]]
            have hU1 := (hU1.app X4).app [AObj.cells 0 0 false [.int .i64 R, .int .i64 W, w4]]
            have hU2 := (hU2.app X4).app [AObj.cells 0 0 false [.int .i64 R, .int .i64 W, w4]]
            have hU3 := (hU3.app X4).app [AObj.cells 0 0 false [.int .i64 R, .int .i64 W, w4]]
            have b1 := get_old (get_old b1 X4) [AObj.cells 0 0 false [.int .i64 R, .int .i64 W, w4]]
            have b2 := get_old (get_old b2 X4) [AObj.cells 0 0 false [.int .i64 R, .int .i64 W, w4]]
            have b3 := get_old (get_old b3 X4) [AObj.cells 0 0 false [.int .i64 R, .int .i64 W, w4]]
            generalize G3 ++ X4 = G4 at *
            have b4 := get_new0 G4 (AObj.cells 0 0 false [.int .i64 R, .int .i64 W, w4]) []
            repeat' first | simp (disch := first | with_reducible assumption | omega) only [go_sem, Bool.true_and, Bool.and_true, Bool.and_self, Bool.false_and, Bool.and_false, Bool.true_or, Bool.or_true, Bool.false_or, Bool.or_false, ↓reduceIte, Nat.reduceEqDiff, Nat.reduceAdd, Nat.reduceMul, Nat.reduceSub, Nat.reduceBEq, Nat.reduceLeDiff, Nat.reduceLT, Nat.reduceMod, Nat.reduceDiv, Int.reduceToNat, Int.reducePow, Int.reduceMul, Int.reduceAdd, Int.reduceSub, Int.reduceLE, Int.reduceLT, Int.reduceNeg, Int.reduceDiv, Int.reduceMod, Int.reduceEq, Int.reduceBEq, Int.reduceBNe, f6, f6b, f6r0, f6r1, f6r2, f6r3, f6r4, f6r5, f6r6, f6r7, f6r8, f6r9, f6r10, S.val, b1, b2] | (refine BrW.of (fun hb => ?_) (fun hb => ?_) <;> (have hb' := hb; try simp only [decide_eq_true_eq, decide_eq_false_iff_not, beq_iff_eq, bne_iff_ne, beq_eq_false_iff_ne, bne_eq_false_iff_eq, Bool.not_eq_true', Bool.not_eq_false', Bool.not_eq_true, Bool.not_eq_false, Bool.and_eq_true, Bool.or_eq_true, Bool.and_eq_false_iff, Bool.or_eq_false_iff, Int.not_lt, Int.not_le, ne_eq, gt_iff_lt, ge_iff_le] at hb') <;> (try (exfalso; omega)))
            generalize G4 ++ [AObj.cells 0 0 false [.int .i64 R, .int .i64 W, w4]] = G5 at *
            generalize G4.length = P4 at *
            refine .of ((hJoin2 _ hU2 hU1).mono ?_)
            rintro v _ ⟨X5, w5, rfl, rfl, hX5⟩
            have hE := hX5.is.app [AObj.cells 0 0 false [.int .i64 R, .int .i64 W, w5]]
            have hD := (hD.app X5).app [AObj.cells 0 0 false [.int .i64 R, .int .i64 W, w5]]
            have hU3 := (hU3.app X5).app [AObj.cells 0 0 false [.int .i64 R, .int .i64 W, w5]]
            have b3 := get_old (get_old b3 X5) [AObj.cells 0 0 false [.int .i64 R, .int .i64 W, w5]]
            have b4 := get_old (get_old b4 X5) [AObj.cells 0 0 false [.int .i64 R, .int .i64 W, w5]]
            have b5 := get_new0 (G5 ++ X5) (AObj.cells 0 0 false [.int .i64 R, .int .i64 W, w5]) []
            generalize G5 ++ X5 = G6 at *
            have hSame1 := Same_spec R W (cnt false R W (m ++ l)) u3 w4 _ hU3 hD (by omega)
            have hSame2 := Same_spec R W (cnt false R W (m ++ l)) w4 w5 _ hD hE (by omega)
            simp only [S.val] at hSame1 hSame2
            repeat' first | simp (disch := first | with_reducible assumption | omega) only [go_sem, Bool.true_and, Bool.and_true, Bool.and_self, Bool.false_and, Bool.and_false, Bool.true_or, Bool.or_true, Bool.false_or, Bool.or_false, ↓reduceIte, Nat.reduceEqDiff, Nat.reduceAdd, Nat.reduceMul, Nat.reduceSub, Nat.reduceBEq, Nat.reduceLeDiff, Nat.reduceLT, Nat.reduceMod, Nat.reduceDiv, Int.reduceToNat, Int.reducePow, Int.reduceMul, Int.reduceAdd, Int.reduceSub, Int.reduceLE, Int.reduceLT, Int.reduceNeg, Int.reduceDiv, Int.reduceMod, Int.reduceEq, Int.reduceBEq, Int.reduceBNe, f6, f6b, f6r0, f6r1, f6r2, f6r3, f6r4, f6r5, f6r6, f6r7, f6r8, f6r9, f6r10, S.val, b3, b4, b5] | (refine BrW.of (fun hb => ?_) (fun hb => ?_) <;> (have hb' := hb; try simp only [decide_eq_true_eq, decide_eq_false_iff_not, beq_iff_eq, bne_iff_ne, beq_eq_false_iff_ne, bne_eq_false_iff_eq, Bool.not_eq_true', Bool.not_eq_false', Bool.not_eq_true, Bool.not_eq_false, Bool.and_eq_true, Bool.or_eq_true, Bool.and_eq_false_iff, Bool.or_eq_false_iff, Int.not_lt, Int.not_le, ne_eq, gt_iff_lt, ge_iff_le] at hb') <;> (try (exfalso; omega))) | (refine .of (hSame1.mono ?_); rintro v _ ⟨rfl, rfl⟩) | (refine .of (hSame2.mono ?_); rintro v _ ⟨rfl, rfl⟩)
            all_goals exact .here rfl
    · have hML : l = m ++ l := by rw [em]; rfl
      have hLen : l.length = l.length := rfl
      have hni : ¬ l.length ≤ 0 := by omega
      repeat' first | simp (disch := first | with_reducible assumption | omega) only [go_sem, Bool.true_and, Bool.and_true, Bool.and_self, Bool.false_and, Bool.and_false, Bool.true_or, Bool.or_true, Bool.false_or, Bool.or_false, ↓reduceIte, Nat.reduceEqDiff, Nat.reduceAdd, Nat.reduceMul, Nat.reduceSub, Nat.reduceBEq, Nat.reduceLeDiff, Nat.reduceLT, Nat.reduceMod, Nat.reduceDiv, Int.reduceToNat, Int.reducePow, Int.reduceMul, Int.reduceAdd, Int.reduceSub, Int.reduceLE, Int.reduceLT, Int.reduceNeg, Int.reduceDiv, Int.reduceMod, Int.reduceEq, Int.reduceBEq, Int.reduceBNe, f6, f6b, f6r0, f6r1, f6r2, f6r3, f6r4, f6r5, f6r6, f6r7, f6r8, f6r9, f6r10, S.val, hk, get_old hk, hk2, get_old hk2, ht1, ht2, zm, zl, hni] | (refine BrW.of (fun hb => ?_) (fun hb => ?_) <;> (have hb' := hb; try simp only [decide_eq_true_eq, decide_eq_false_iff_not, beq_iff_eq, bne_iff_ne, beq_eq_false_iff_ne, bne_eq_false_iff_eq, Bool.not_eq_true', Bool.not_eq_false', Bool.not_eq_true, Bool.not_eq_false, Bool.and_eq_true, Bool.or_eq_true, Bool.and_eq_false_iff, Bool.or_eq_false_iff, Int.not_lt, Int.not_le, ne_eq, gt_iff_lt, ge_iff_le] at hb') <;> (try (exfalso; omega)))
      have hOB := fun (Z : AObj) => (Tbl.new (enc := C.cells) (s := 2) (d := c0) (fun _ => rfl) (H2 ++ [Z, .cells 1 2 false (flat' C.cells (l))]) (H2.length + 1) 1 false (l) (by rw [get_new]; rfl))
      have hbA2 := get_old hbA [AObj.cells 0 0 false [.int .i64 s2.rows, .int .i64 s2.w, u2], AObj.cells 1 2 false (flat' C.cells (l))]
      have hbB2 := get_new0 H2 (AObj.cells 0 0 false [.int .i64 s2.rows, .int .i64 s2.w, u2]) [AObj.cells 1 2 false (flat' C.cells (l))]
      have hK1 := hJ1.app [AObj.cells 0 0 false [.int .i64 s2.rows, .int .i64 s2.w, u2], AObj.cells 1 2 false (flat' C.cells (l))]
      have hK2 := hI2.app [AObj.cells 0 0 false [.int .i64 s2.rows, .int .i64 s2.w, u2], AObj.cells 1 2 false (flat' C.cells (l))]
      have hcu := counted_u rows w (l) (H2.length + 1) 0 1 (l).length false _ (hOB (.cells 0 0 false [.int .i64 s2.rows, .int .i64 s2.w, u2])) (by rw [hML]; simp; omega)
      try rw [hLen] at hcu
      refine .of (hcu.mono ?_)
      clear hcu hOB
      generalize H2 ++ [AObj.cells 0 0 false [.int .i64 s2.rows, .int .i64 s2.w, u2], AObj.cells 1 2 false (flat' C.cells (l))] = G2 at *
      generalize H2.length = P2 at *
      rintro v H3 ⟨s3, u3, ok3, rfl, le3, hI3, hl3, hg3⟩
      rw [hML] at hg3
      cases ok1 with
      | false =>
        repeat' first | simp (disch := first | with_reducible assumption | omega) only [go_sem, Bool.true_and, Bool.and_true, Bool.and_self, Bool.false_and, Bool.and_false, Bool.true_or, Bool.or_true, Bool.false_or, Bool.or_false, ↓reduceIte, Nat.reduceEqDiff, Nat.reduceAdd, Nat.reduceMul, Nat.reduceSub, Nat.reduceBEq, Nat.reduceLeDiff, Nat.reduceLT, Nat.reduceMod, Nat.reduceDiv, Int.reduceToNat, Int.reducePow, Int.reduceMul, Int.reduceAdd, Int.reduceSub, Int.reduceLE, Int.reduceLT, Int.reduceNeg, Int.reduceDiv, Int.reduceMod, Int.reduceEq, Int.reduceBEq, Int.reduceBNe, f6, f6b, f6r0, f6r1, f6r2, f6r3, f6r4, f6r5, f6r6, f6r7, f6r8, f6r9, f6r10, S.val] | (refine BrW.of (fun hb => ?_) (fun hb => ?_) <;> (have hb' := hb; try simp only [decide_eq_true_eq, decide_eq_false_iff_not, beq_iff_eq, bne_iff_ne, beq_eq_false_iff_ne, bne_eq_false_iff_eq, Bool.not_eq_true', Bool.not_eq_false', Bool.not_eq_true, Bool.not_eq_false, Bool.and_eq_true, Bool.or_eq_true, Bool.and_eq_false_iff, Bool.or_eq_false_iff, Int.not_lt, Int.not_le, ne_eq, gt_iff_lt, ge_iff_le] at hb') <;> (try (exfalso; omega)))
        all_goals exact .here rfl
      | true =>
        cases ok2 with
        | false =>
          repeat' first | simp (disch := first | with_reducible assumption | omega) only [go_sem, Bool.true_and, Bool.and_true, Bool.and_self, Bool.false_and, Bool.and_false, Bool.true_or, Bool.or_true, Bool.false_or, Bool.or_false, ↓reduceIte, Nat.reduceEqDiff, Nat.reduceAdd, Nat.reduceMul, Nat.reduceSub, Nat.reduceBEq, Nat.reduceLeDiff, Nat.reduceLT, Nat.reduceMod, Nat.reduceDiv, Int.reduceToNat, Int.reducePow, Int.reduceMul, Int.reduceAdd, Int.reduceSub, Int.reduceLE, Int.reduceLT, Int.reduceNeg, Int.reduceDiv, Int.reduceMod, Int.reduceEq, Int.reduceBEq, Int.reduceBNe, f6, f6b, f6r0, f6r1, f6r2, f6r3, f6r4, f6r5, f6r6, f6r7, f6r8, f6r9, f6r10, S.val] | (refine BrW.of (fun hb => ?_) (fun hb => ?_) <;> (have hb' := hb; try simp only [decide_eq_true_eq, decide_eq_false_iff_not, beq_iff_eq, bne_iff_ne, beq_eq_false_iff_ne, bne_eq_false_iff_eq, Bool.not_eq_true', Bool.not_eq_false', Bool.not_eq_true, Bool.not_eq_false, Bool.and_eq_true, Bool.or_eq_true, Bool.and_eq_false_iff, Bool.or_eq_false_iff, Int.not_lt, Int.not_le, ne_eq, gt_iff_lt, ge_iff_le] at hb') <;> (try (exfalso; omega)))
          all_goals exact .here rfl
        | true =>
          cases ok3 with
          | false =>
            repeat' first | simp (disch := first | with_reducible assumption | omega) only [go_sem, Bool.true_and, Bool.and_true, Bool.and_self, Bool.false_and, Bool.and_false, Bool.true_or, Bool.or_true, Bool.false_or, Bool.or_false, ↓reduceIte, Nat.reduceEqDiff, Nat.reduceAdd, Nat.reduceMul, Nat.reduceSub, Nat.reduceBEq, Nat.reduceLeDiff, Nat.reduceLT, Nat.reduceMod, Nat.reduceDiv, Int.reduceToNat, Int.reducePow, Int.reduceMul, Int.reduceAdd, Int.reduceSub, Int.reduceLE, Int.reduceLT, Int.reduceNeg, Int.reduceDiv, Int.reduceMod, Int.reduceEq, Int.reduceBEq, Int.reduceBNe, f6, f6b, f6r0, f6r1, f6r2, f6r3, f6r4, f6r5, f6r6, f6r7, f6r8, f6r9, f6r10, S.val] | (refine BrW.of (fun hb => ?_) (fun hb => ?_) <;> (have hb' := hb; try simp only [decide_eq_true_eq, decide_eq_false_iff_not, beq_iff_eq, bne_iff_ne, beq_eq_false_iff_ne, bne_eq_false_iff_eq, Bool.not_eq_true', Bool.not_eq_false', Bool.not_eq_true, Bool.not_eq_false, Bool.and_eq_true, Bool.or_eq_true, Bool.and_eq_false_iff, Bool.or_eq_false_iff, Int.not_lt, Int.not_le, ne_eq, gt_iff_lt, ge_iff_le] at hb') <;> (try (exfalso; omega)))
            all_goals exact .here rfl
          | true =>
            obtain ⟨R, W, rfl, rfl, hR, hW, rfl, hr1, hn1⟩ := hg1 rfl
            obtain ⟨R', W', e1, e2, _, _, rfl, hr2, hn2⟩ := hg2 rfl
            obtain rfl : R = R' := by omega
            obtain rfl : W = W' := by omega
            obtain ⟨R', W', e3, e4, _, _, rfl, hr3, hn3⟩ := hg3 rfl
            obtain rfl : R = R' := by omega
            obtain rfl : W = W' := by omega
            have hf3 := fits_of (l := cnt false R W (m ++ l)) hr3.2.2.2.2.2
            have j1 := join_cnt hW.1 (R := R) l m
            have j2 := join_cnt' hW.1 (R := R) l m
            have c1 := cnt_len false R W l
            have c2 := cnt_len false R W m
            have c3 := cnt_len false R W (m ++ l)
            have hs1 : ∀ j, j < (cnt false R W l).length → (cnt false R W l).getD j 0 + (cnt false R W m).getD j 0 ≤ 1099511627776 := fun j _ => by
              have := (hf3 j).2
              rw [cnt_get hW.1, tot_app, ← cnt_get hW.1, ← cnt_get hW.1] at this
              omega
            have hs2 : ∀ j, j < (cnt false R W m).length → (cnt false R W m).getD j 0 + (cnt false R W l).getD j 0 ≤ 1099511627776 := fun j _ => by
              have := (hf3 j).2
              rw [cnt_get hW.1, tot_app, ← cnt_get hW.1, ← cnt_get hW.1] at this
              omega
            have hT : 1 ≤ R * W ∧ R * W ≤ 512 := ⟨Nat.mul_le_mul (show 1 ≤ R by omega) (show 1 ≤ W by omega), Nat.mul_le_mul (show R ≤ 8 by omega) (show W ≤ 64 by omega)⟩
            simp only at hK1 hK2 hI3 hbA2 hbB2
            have hU1 := (hK1.le le3).app [AObj.cells 0 0 false [.int .i64 R, .int .i64 W, u3]]
            have hU2 := (hK2.le le3).app [AObj.cells 0 0 false [.int .i64 R, .int .i64 W, u3]]
            have hU3 := hI3.app [AObj.cells 0 0 false [.int .i64 R, .int .i64 W, u3]]
            have b1 := get_old (le3.get hbA2) [AObj.cells 0 0 false [.int .i64 R, .int .i64 W, u3]]
            have b2 := get_old (le3.get hbB2) [AObj.cells 0 0 false [.int .i64 R, .int .i64 W, u3]]
            have b3 := get_new0 H3 (AObj.cells 0 0 false [.int .i64 R, .int .i64 W, u3]) []
            have hJoin1 := fun G h1 h2 => Join_u R W (cnt false R W l) (cnt false R W m) u1 u2 G h1 h2 hr1 hr2 hs1
            have hJoin2 := fun G h1 h2 => Join_u R W (cnt false R W m) (cnt false R W l) u2 u1 G h1 h2 hr2 hr1 hs2
            rw [j1] at hJoin1
            rw [j2] at hJoin2
            clear hg1 hg2 hg3 hr1 hr2 hr3 hn1 hn2 hn3 hf3 j1 j2 hs1 hs2 hK1 hK2 hI3 hbA2 hbB2 le3
            simp only [S.val] at hJoin1 hJoin2
            repeat' first | simp (disch := first | with_reducible assumption | omega) only [go_sem, Bool.true_and, Bool.and_true, Bool.and_self, Bool.false_and, Bool.and_false, Bool.true_or, Bool.or_true, Bool.false_or, Bool.or_false, ↓reduceIte, Nat.reduceEqDiff, Nat.reduceAdd, Nat.reduceMul, Nat.reduceSub, Nat.reduceBEq, Nat.reduceLeDiff, Nat.reduceLT, Nat.reduceMod, Nat.reduceDiv, Int.reduceToNat, Int.reducePow, Int.reduceMul, Int.reduceAdd, Int.reduceSub, Int.reduceLE, Int.reduceLT, Int.reduceNeg, Int.reduceDiv, Int.reduceMod, Int.reduceEq, Int.reduceBEq, Int.reduceBNe, f6, f6b, f6r0, f6r1, f6r2, f6r3, f6r4, f6r5, f6r6, f6r7, f6r8, f6r9, f6r10, S.val, b1, b2] | (refine BrW.of (fun hb => ?_) (fun hb => ?_) <;> (have hb' := hb; try simp only [decide_eq_true_eq, decide_eq_false_iff_not, beq_iff_eq, bne_iff_ne, beq_eq_false_iff_ne, bne_eq_false_iff_eq, Bool.not_eq_true', Bool.not_eq_false', Bool.not_eq_true, Bool.not_eq_false, Bool.and_eq_true, Bool.or_eq_true, Bool.and_eq_false_iff, Bool.or_eq_false_iff, Int.not_lt, Int.not_le, ne_eq, gt_iff_lt, ge_iff_le] at hb') <;> (try (exfalso; omega)))
            generalize H3 ++ [AObj.cells 0 0 false [.int .i64 R, .int .i64 W, u3]] = G3 at *
            generalize H3.length = P3 at *
            refine .of ((hJoin1 _ hU1 hU2).mono ?_)
            rintro v _ ⟨X4, w4, rfl, rfl, hX4⟩
            have hD := hX4.is.app [AObj.cells 0 0 false [.int .i64 R, .int .i64 W, w4]]
            have hU1 := (hU1.app X4).app [AObj.cells 0 0 false [.int .i64 R, .int .i64 W, w4]]
            have hU2 := (hU2.app X4).app [AObj.cells 0 0 false [.int .i64 R, .int .i64 W, w4]]
            have hU3 := (hU3.app X4).app [AObj.cells 0 0 false [.int .i64 R, .int .i64 W, w4]]
            have b1 := get_old (get_old b1 X4) [AObj.cells 0 0 false [.int .i64 R, .int .i64 W, w4]]
            have b2 := get_old (get_old b2 X4) [AObj.cells 0 0 false [.int .i64 R, .int .i64 W, w4]]
            have b3 := get_old (get_old b3 X4) [AObj.cells 0 0 false [.int .i64 R, .int .i64 W, w4]]
            generalize G3 ++ X4 = G4 at *
            have b4 := get_new0 G4 (AObj.cells 0 0 false [.int .i64 R, .int .i64 W, w4]) []
            repeat' first | simp (disch := first | with_reducible assumption | omega) only [go_sem, Bool.true_and, Bool.and_true, Bool.and_self, Bool.false_and, Bool.and_false, Bool.true_or, Bool.or_true, Bool.false_or, Bool.or_false, ↓reduceIte, Nat.reduceEqDiff, Nat.reduceAdd, Nat.reduceMul, Nat.reduceSub, Nat.reduceBEq, Nat.reduceLeDiff, Nat.reduceLT, Nat.reduceMod, Nat.reduceDiv, Int.reduceToNat, Int.reducePow, Int.reduceMul, Int.reduceAdd, Int.reduceSub, Int.reduceLE, Int.reduceLT, Int.reduceNeg, Int.reduceDiv, Int.reduceMod, Int.reduceEq, Int.reduceBEq, Int.reduceBNe, f6, f6b, f6r0, f6r1, f6r2, f6r3, f6r4, f6r5, f6r6, f6r7, f6r8, f6r9, f6r10, S.val, b1, b2] | (refine BrW.of (fun hb => ?_) (fun hb => ?_) <;> (have hb' := hb; try simp only [decide_eq_true_eq, decide_eq_false_iff_not, beq_iff_eq, bne_iff_ne, beq_eq_false_iff_ne, bne_eq_false_iff_eq, Bool.not_eq_true', Bool.not_eq_false', Bool.not_eq_true, Bool.not_eq_false, Bool.and_eq_true, Bool.or_eq_true, Bool.and_eq_false_iff, Bool.or_eq_false_iff, Int.not_lt, Int.not_le, ne_eq, gt_iff_lt, ge_iff_le] at hb') <;> (try (exfalso; omega)))
            generalize G4 ++ [AObj.cells 0 0 false [.int .i64 R, .int .i64 W, w4]] = G5 at *
            generalize G4.length = P4 at *
            refine .of ((hJoin2 _ hU2 hU1).mono ?_)
            rintro v _ ⟨X5, w5, rfl, rfl, hX5⟩
            have hE := hX5.is.app [AObj.cells 0 0 false [.int .i64 R, .int .i64 W, w5]]
            have hD := (hD.app X5).app [AObj.cells 0 0 false [.int .i64 R, .int .i64 W, w5]]
            have hU3 := (hU3.app X5).app [AObj.cells 0 0 false [.int .i64 R, .int .i64 W, w5]]
            have b3 := get_old (get_old b3 X5) [AObj.cells 0 0 false [.int .i64 R, .int .i64 W, w5]]
            have b4 := get_old (get_old b4 X5) [AObj.cells 0 0 false [.int .i64 R, .int .i64 W, w5]]
            have b5 := get_new0 (G5 ++ X5) (AObj.cells 0 0 false [.int .i64 R, .int .i64 W, w5]) []
            generalize G5 ++ X5 = G6 at *
            have hSame1 := Same_spec R W (cnt false R W (m ++ l)) u3 w4 _ hU3 hD (by omega)
            have hSame2 := Same_spec R W (cnt false R W (m ++ l)) w4 w5 _ hD hE (by omega)
            simp only [S.val] at hSame1 hSame2
            repeat' first | simp (disch := first | with_reducible assumption | omega) only [go_sem, Bool.true_and, Bool.and_true, Bool.and_self, Bool.false_and, Bool.and_false, Bool.true_or, Bool.or_true, Bool.false_or, Bool.or_false, ↓reduceIte, Nat.reduceEqDiff, Nat.reduceAdd, Nat.reduceMul, Nat.reduceSub, Nat.reduceBEq, Nat.reduceLeDiff, Nat.reduceLT, Nat.reduceMod, Nat.reduceDiv, Int.reduceToNat, Int.reducePow, Int.reduceMul, Int.reduceAdd, Int.reduceSub, Int.reduceLE, Int.reduceLT, Int.reduceNeg, Int.reduceDiv, Int.reduceMod, Int.reduceEq, Int.reduceBEq, Int.reduceBNe, f6, f6b, f6r0, f6r1, f6r2, f6r3, f6r4, f6r5, f6r6, f6r7, f6r8, f6r9, f6r10, S.val, b3, b4, b5] | (refine BrW.of (fun hb => ?_) (fun hb => ?_) <;> (have hb' := hb; try simp only [decide_eq_true_eq, decide_eq_false_iff_not, beq_iff_eq, bne_iff_ne, beq_eq_false_iff_ne, bne_eq_false_iff_eq, Bool.not_eq_true', Bool.not_eq_false', Bool.not_eq_true, Bool.not_eq_false, Bool.and_eq_true, Bool.or_eq_true, Bool.and_eq_false_iff, Bool.or_eq_false_iff, Int.not_lt, Int.not_le, ne_eq, gt_iff_lt, ge_iff_le] at hb') <;> (try (exfalso; omega))) | (refine .of (hSame1.mono ?_); rintro v _ ⟨rfl, rfl⟩) | (refine .of (hSame2.mono ?_); rintro v _ ⟨rfl, rfl⟩)
            all_goals exact .here rfl
  · have hnm : ¬ m.length ≤ 0 := by omega
    by_cases zl : l.length = 0
    · have el : l = [] := List.eq_nil_of_length_eq_zero zl
      have hML : m = m ++ l := by rw [el, List.append_nil]
      have hLen : m.length = m.length := rfl
      repeat' first | simp (disch := first | with_reducible assumption | omega) only [go_sem, Bool.true_and, Bool.and_true, Bool.and_self, Bool.false_and, Bool.and_false, Bool.true_or, Bool.or_true, Bool.false_or, Bool.or_false, ↓reduceIte, Nat.reduceEqDiff, Nat.reduceAdd, Nat.reduceMul, Nat.reduceSub, Nat.reduceBEq, Nat.reduceLeDiff, Nat.reduceLT, Nat.reduceMod, Nat.reduceDiv, Int.reduceToNat, Int.reducePow, Int.reduceMul, Int.reduceAdd, Int.reduceSub, Int.reduceLE, Int.reduceLT, Int.reduceNeg, Int.reduceDiv, Int.reduceMod, Int.reduceEq, Int.reduceBEq, Int.reduceBNe, f6, f6b, f6r0, f6r1, f6r2, f6r3, f6r4, f6r5, f6r6, f6r7, f6r8, f6r9, f6r10, S.val, hk, get_old hk, hk2, get_old hk2, ht1, ht2, zm, zl, hnm] | (refine BrW.of (fun hb => ?_) (fun hb => ?_) <;> (have hb' := hb; try simp only [decide_eq_true_eq, decide_eq_false_iff_not, beq_iff_eq, bne_iff_ne, beq_eq_false_iff_ne, bne_eq_false_iff_eq, Bool.not_eq_true', Bool.not_eq_false', Bool.not_eq_true, Bool.not_eq_false, Bool.and_eq_true, Bool.or_eq_true, Bool.and_eq_false_iff, Bool.or_eq_false_iff, Int.not_lt, Int.not_le, ne_eq, gt_iff_lt, ge_iff_le] at hb') <;> (try (exfalso; omega)))
      have hOB := fun (Z : AObj) => (Tbl.new (enc := C.cells) (s := 2) (d := c0) (fun _ => rfl) (H2 ++ [Z, .cells 1 2 false (flat' C.cells (m))]) (H2.length + 1) 1 false (m) (by rw [get_new]; rfl))
      have hbA2 := get_old hbA [AObj.cells 0 0 false [.int .i64 s2.rows, .int .i64 s2.w, u2], AObj.cells 1 2 false (flat' C.cells (m))]
      have hbB2 := get_new0 H2 (AObj.cells 0 0 false [.int .i64 s2.rows, .int .i64 s2.w, u2]) [AObj.cells 1 2 false (flat' C.cells (m))]
      have hK1 := hJ1.app [AObj.cells 0 0 false [.int .i64 s2.rows, .int .i64 s2.w, u2], AObj.cells 1 2 false (flat' C.cells (m))]
      have hK2 := hI2.app [AObj.cells 0 0 false [.int .i64 s2.rows, .int .i64 s2.w, u2], AObj.cells 1 2 false (flat' C.cells (m))]
      have hcu := counted_u rows w (m) (H2.length + 1) 0 1 (m).length false _ (hOB (.cells 0 0 false [.int .i64 s2.rows, .int .i64 s2.w, u2])) (by rw [hML]; simp; omega)
      try rw [hLen] at hcu
      refine .of (hcu.mono ?_)
      clear hcu hOB
      generalize H2 ++ [AObj.cells 0 0 false [.int .i64 s2.rows, .int .i64 s2.w, u2], AObj.cells 1 2 false (flat' C.cells (m))] = G2 at *
      generalize H2.length = P2 at *
      rintro v H3 ⟨s3, u3, ok3, rfl, le3, hI3, hl3, hg3⟩
      rw [hML] at hg3
      cases ok1 with
      | false =>
        repeat' first | simp (disch := first | with_reducible assumption | omega) only [go_sem, Bool.true_and, Bool.and_true, Bool.and_self, Bool.false_and, Bool.and_false, Bool.true_or, Bool.or_true, Bool.false_or, Bool.or_false, ↓reduceIte, Nat.reduceEqDiff, Nat.reduceAdd, Nat.reduceMul, Nat.reduceSub, Nat.reduceBEq, Nat.reduceLeDiff, Nat.reduceLT, Nat.reduceMod, Nat.reduceDiv, Int.reduceToNat, Int.reducePow, Int.reduceMul, Int.reduceAdd, Int.reduceSub, Int.reduceLE, Int.reduceLT, Int.reduceNeg, Int.reduceDiv, Int.reduceMod, Int.reduceEq, Int.reduceBEq, Int.reduceBNe, f6, f6b, f6r0, f6r1, f6r2, f6r3, f6r4, f6r5, f6r6, f6r7, f6r8, f6r9, f6r10, S.val] | (refine BrW.of (fun hb => ?_) (fun hb => ?_) <;> (have hb' := hb; try simp only [decide_eq_true_eq, decide_eq_false_iff_not, beq_iff_eq, bne_iff_ne, beq_eq_false_iff_ne, bne_eq_false_iff_eq, Bool.not_eq_true', Bool.not_eq_false', Bool.not_eq_true, Bool.not_eq_false, Bool.and_eq_true, Bool.or_eq_true, Bool.and_eq_false_iff, Bool.or_eq_false_iff, Int.not_lt, Int.not_le, ne_eq, gt_iff_lt, ge_iff_le] at hb') <;> (try (exfalso; omega)))
        all_goals exact .here rfl
      | true =>
        cases ok2 with
        | false =>
          repeat' first | simp (disch := first | with_reducible assumption | omega) only [go_sem, Bool.true_and, Bool.and_true, Bool.and_self, Bool.false_and, Bool.and_false, Bool.true_or, Bool.or_true, Bool.false_or, Bool.or_false, ↓reduceIte, Nat.reduceEqDiff, Nat.reduceAdd, Nat.reduceMul, Nat.reduceSub, Nat.reduceBEq, Nat.reduceLeDiff, Nat.reduceLT, Nat.reduceMod, Nat.reduceDiv, Int.reduceToNat, Int.reducePow, Int.reduceMul, Int.reduceAdd, Int.reduceSub, Int.reduceLE, Int.reduceLT, Int.reduceNeg, Int.reduceDiv, Int.reduceMod, Int.reduceEq, Int.reduceBEq, Int.reduceBNe, f6, f6b, f6r0, f6r1, f6r2, f6r3, f6r4, f6r5, f6r6, f6r7, f6r8, f6r9, f6r10, S.val] | (refine BrW.of (fun hb => ?_) (fun hb => ?_) <;> (have hb' := hb; try simp only [decide_eq_true_eq, decide_eq_false_iff_not, beq_iff_eq, bne_iff_ne, beq_eq_false_iff_ne, bne_eq_false_iff_eq, Bool.not_eq_true', Bool.not_eq_false', Bool.not_eq_true, Bool.not_eq_false, Bool.and_eq_true, Bool.or_eq_true, Bool.and_eq_false_iff, Bool.or_eq_false_iff, Int.not_lt, Int.not_le, ne_eq, gt_iff_lt, ge_iff_le] at hb') <;> (try (exfalso; omega)))
          all_goals exact .here rfl
        | true =>
          cases ok3 with
          | false =>
            repeat' first | simp (disch := first | with_reducible assumption | omega) only [go_sem, Bool.true_and, Bool.and_true, Bool.and_self, Bool.false_and, Bool.and_false, Bool.true_or, Bool.or_true, Bool.false_or, Bool.or_false, ↓reduceIte, Nat.reduceEqDiff, Nat.reduceAdd, Nat.reduceMul, Nat.reduceSub, Nat.reduceBEq, Nat.reduceLeDiff, Nat.reduceLT, Nat.reduceMod, Nat.reduceDiv, Int.reduceToNat, Int.reducePow, Int.reduceMul, Int.reduceAdd, Int.reduceSub, Int.reduceLE, Int.reduceLT, Int.reduceNeg, Int.reduceDiv, Int.reduceMod, Int.reduceEq, Int.reduceBEq, Int.reduceBNe, f6, f6b, f6r0, f6r1, f6r2, f6r3, f6r4, f6r5, f6r6, f6r7, f6r8, f6r9, f6r10, S.val] | (refine BrW.of (fun hb => ?_) (fun hb => ?_) <;> (have hb' := hb; try simp only [decide_eq_true_eq, decide_eq_false_iff_not, beq_iff_eq, bne_iff_ne, beq_eq_false_iff_ne, bne_eq_false_iff_eq, Bool.not_eq_true', Bool.not_eq_false', Bool.not_eq_true, Bool.not_eq_false, Bool.and_eq_true, Bool.or_eq_true, Bool.and_eq_false_iff, Bool.or_eq_false_iff, Int.not_lt, Int.not_le, ne_eq, gt_iff_lt, ge_iff_le] at hb') <;> (try (exfalso; omega)))
            all_goals exact .here rfl
          | true =>
            obtain ⟨R, W, rfl, rfl, hR, hW, rfl, hr1, hn1⟩ := hg1 rfl
            obtain ⟨R', W', e1, e2, _, _, rfl, hr2, hn2⟩ := hg2 rfl
            obtain rfl : R = R' := by omega
            obtain rfl : W = W' := by omega
            obtain ⟨R', W', e3, e4, _, _, rfl, hr3, hn3⟩ := hg3 rfl
            obtain rfl : R = R' := by omega
            obtain rfl : W = W' := by omega
            have hf3 := fits_of (l := cnt false R W (m ++ l)) hr3.2.2.2.2.2
            have j1 := join_cnt hW.1 (R := R) l m
            have j2 := join_cnt' hW.1 (R := R) l m
            have c1 := cnt_len false R W l
            have c2 := cnt_len false R W m
            have c3 := cnt_len false R W (m ++ l)
            have hs1 : ∀ j, j < (cnt false R W l).length → (cnt false R W l).getD j 0 + (cnt false R W m).getD j 0 ≤ 1099511627776 := fun j _ => by
              have := (hf3 j).2
              rw [cnt_get hW.1, tot_app, ← cnt_get hW.1, ← cnt_get hW.1] at this
              omega
            have hs2 : ∀ j, j < (cnt false R W m).length → (cnt false R W m).getD j 0 + (cnt false R W l).getD j 0 ≤ 1099511627776 := fun j _ => by
              have := (hf3 j).2
              rw [cnt_get hW.1, tot_app, ← cnt_get hW.1, ← cnt_get hW.1] at this
              omega
            have hT : 1 ≤ R * W ∧ R * W ≤ 512 := ⟨Nat.mul_le_mul (show 1 ≤ R by omega) (show 1 ≤ W by omega), Nat.mul_le_mul (show R ≤ 8 by omega) (show W ≤ 64 by omega)⟩
            simp only at hK1 hK2 hI3 hbA2 hbB2
            have hU1 := (hK1.le le3).app [AObj.cells 0 0 false [.int .i64 R, .int .i64 W, u3]]
            have hU2 := (hK2.le le3).app [AObj.cells 0 0 false [.int .i64 R, .int .i64 W, u3]]
            have hU3 := hI3.app [AObj.cells 0 0 false [.int .i64 R, .int .i64 W, u3]]
            have b1 := get_old (le3.get hbA2) [AObj.cells 0 0 false [.int .i64 R, .int .i64 W, u3]]
            have b2 := get_old (le3.get hbB2) [AObj.cells 0 0 false [.int .i64 R, .int .i64 W, u3]]
            have b3 := get_new0 H3 (AObj.cells 0 0 false [.int .i64 R, .int .i64 W, u3]) []
            have hJoin1 := fun G h1 h2 => Join_u R W (cnt false R W l) (cnt false R W m) u1 u2 G h1 h2 hr1 hr2 hs1
            have hJoin2 := fun G h1 h2 => Join_u R W (cnt false R W m) (cnt false R W l) u2 u1 G h1 h2 hr2 hr1 hs2
            rw [j1] at hJoin1
            rw [j2] at hJoin2
            clear hg1 hg2 hg3 hr1 hr2 hr3 hn1 hn2 hn3 hf3 j1 j2 hs1 hs2 hK1 hK2 hI3 hbA2 hbB2 le3
            simp only [S.val] at hJoin1 hJoin2
            repeat' first | simp (disch := first | with_reducible assumption | omega) only [go_sem, Bool.true_and, Bool.and_true, Bool.and_self, Bool.false_and, Bool.and_false, Bool.true_or, Bool.or_true, Bool.false_or, Bool.or_false, ↓reduceIte, Nat.reduceEqDiff, Nat.reduceAdd, Nat.reduceMul, Nat.reduceSub, Nat.reduceBEq, Nat.reduceLeDiff, Nat.reduceLT, Nat.reduceMod, Nat.reduceDiv, Int.reduceToNat, Int.reducePow, Int.reduceMul, Int.reduceAdd, Int.reduceSub, Int.reduceLE, Int.reduceLT, Int.reduceNeg, Int.reduceDiv, Int.reduceMod, Int.reduceEq, Int.reduceBEq, Int.reduceBNe, f6, f6b, f6r0, f6r1, f6r2, f6r3, f6r4, f6r5, f6r6, f6r7, f6r8, f6r9, f6r10, S.val, b1, b2] | (refine BrW.of (fun hb => ?_) (fun hb => ?_) <;> (have hb' := hb; try simp only [decide_eq_true_eq, decide_eq_false_iff_not, beq_iff_eq, bne_iff_ne, beq_eq_false_iff_ne, bne_eq_false_iff_eq, Bool.not_eq_true', Bool.not_eq_false', Bool.not_eq_true, Bool.not_eq_false, Bool.and_eq_true, Bool.or_eq_true, Bool.and_eq_false_iff, Bool.or_eq_false_iff, Int.not_lt, Int.not_le, ne_eq, gt_iff_lt, ge_iff_le] at hb') <;> (try (exfalso; omega)))
            generalize H3 ++ [AObj.cells 0 0 false [.int .i64 R, .int .i64 W, u3]] = G3 at *
            generalize H3.length = P3 at *
            refine .of ((hJoin1 _ hU1 hU2).mono ?_)
            rintro v _ ⟨X4, w4, rfl, rfl, hX4⟩
            have hD := hX4.is.app [AObj.cells 0 0 false [.int .i64 R, .int .i64 W, w4]]
            have hU1 := (hU1.app X4).app [AObj.cells 0 0 false [.int .i64 R, .int .i64 W, w4]]
            have hU2 := (hU2.app X4).app [AObj.cells 0 0 false [.int .i64 R, .int .i64 W, w4]]
            have hU3 := (hU3.app X4).app [AObj.cells 0 0 false [.int .i64 R, .int .i64 W, w4]]
            have b1 := get_old (get_old b1 X4) [AObj.cells 0 0 false [.int .i64 R, .int .i64 W, w4]]
            have b2 := get_old (get_old b2 X4) [AObj.cells 0 0 false [.int .i64 R, .int .i64 W, w4]]
            have b3 := get_old (get_old b3 X4) [AObj.cells 0 0 false [.int .i64 R, .int .i64 W, w4]]
            generalize G3 ++ X4 = G4 at *
            have b4 := get_new0 G4 (AObj.cells 0 0 false [.int .i64 R, .int .i64 W, w4]) []
            repeat' first | simp (disch := first | with_reducible assumption | omega) only [go_sem, Bool.true_and, Bool.and_true, Bool.and_self, Bool.false_and, Bool.and_false, Bool.true_or, Bool.or_true, Bool.false_or, Bool.or_false, ↓reduceIte, Nat.reduceEqDiff, Nat.reduceAdd, Nat.reduceMul, Nat.reduceSub, Nat.reduceBEq, Nat.reduceLeDiff, Nat.reduceLT, Nat.reduceMod, Nat.reduceDiv, Int.reduceToNat, Int.reducePow, Int.reduceMul, Int.reduceAdd, Int.reduceSub, Int.reduceLE, Int.reduceLT, Int.reduceNeg, Int.reduceDiv, Int.reduceMod, Int.reduceEq, Int.reduceBEq, Int.reduceBNe, f6, f6b, f6r0, f6r1, f6r2, f6r3, f6r4, f6r5, f6r6, f6r7, f6r8, f6r9, f6r10, S.val, b1, b2] | (refine BrW.of (fun hb => ?_) (fun hb => ?_) <;> (have hb' := hb; try simp only [decide_eq_true_eq, decide_eq_false_iff_not, beq_iff_eq, bne_iff_ne, beq_eq_false_iff_ne, bne_eq_false_iff_eq, Bool.not_eq_true', Bool.not_eq_false', Bool.not_eq_true, Bool.not_eq_false, Bool.and_eq_true, Bool.or_eq_true, Bool.and_eq_false_iff, Bool.or_eq_false_iff, Int.not_lt, Int.not_le, ne_eq, gt_iff_lt, ge_iff_le] at hb') <;> (try (exfalso; omega)))
            generalize G4 ++ [AObj.cells 0 0 false [.int .i64 R, .int .i64 W, w4]] = G5 at *
            generalize G4.length = P4 at *
            refine .of ((hJoin2 _ hU2 hU1).mono ?_)
            rintro v _ ⟨X5, w5, rfl, rfl, hX5⟩
            have hE := hX5.is.app [AObj.cells 0 0 false [.int .i64 R, .int .i64 W, w5]]
            have hD := (hD.app X5).app [AObj.cells 0 0 false [.int .i64 R, .int .i64 W, w5]]
            have hU3 := (hU3.app X5).app [AObj.cells 0 0 false [.int .i64 R, .int .i64 W, w5]]
            have b3 := get_old (get_old b3 X5) [AObj.cells 0 0 false [.int .i64 R, .int .i64 W, w5]]
            have b4 := get_old (get_old b4 X5) [AObj.cells 0 0 false [.int .i64 R, .int .i64 W, w5]]
            have b5 := get_new0 (G5 ++ X5) (AObj.cells 0 0 false [.int .i64 R, .int .i64 W, w5]) []
            generalize G5 ++ X5 = G6 at *
            have hSame1 := Same_spec R W (cnt false R W (m ++ l)) u3 w4 _ hU3 hD (by omega)
            have hSame2 := Same_spec R W (cnt false R W (m ++ l)) w4 w5 _ hD hE (by omega)
            simp only [S.val] at hSame1 hSame2
            repeat' first | simp (disch := first | with_reducible assumption | omega) only [go_sem, Bool.true_and, Bool.and_true, Bool.and_self, Bool.false_and, Bool.and_false, Bool.true_or, Bool.or_true, Bool.false_or, Bool.or_false, ↓reduceIte, Nat.reduceEqDiff, Nat.reduceAdd, Nat.reduceMul, Nat.reduceSub, Nat.reduceBEq, Nat.reduceLeDiff, Nat.reduceLT, Nat.reduceMod, Nat.reduceDiv, Int.reduceToNat, Int.reducePow, Int.reduceMul, Int.reduceAdd, Int.reduceSub, Int.reduceLE, Int.reduceLT, Int.reduceNeg, Int.reduceDiv, Int.reduceMod, Int.reduceEq, Int.reduceBEq, Int.reduceBNe, f6, f6b, f6r0, f6r1, f6r2, f6r3, f6r4, f6r5, f6r6, f6r7, f6r8, f6r9, f6r10, S.val, b3, b4, b5] | (refine BrW.of (fun hb => ?_) (fun hb => ?_) <;> (have hb' := hb; try simp only [decide_eq_true_eq, decide_eq_false_iff_not, beq_iff_eq, bne_iff_ne, beq_eq_false_iff_ne, bne_eq_false_iff_eq, Bool.not_eq_true', Bool.not_eq_false', Bool.not_eq_true, Bool.not_eq_false, Bool.and_eq_true, Bool.or_eq_true, Bool.and_eq_false_iff, Bool.or_eq_false_iff, Int.not_lt, Int.not_le, ne_eq, gt_iff_lt, ge_iff_le] at hb') <;> (try (exfalso; omega))) | (refine .of (hSame1.mono ?_); rintro v _ ⟨rfl, rfl⟩) | (refine .of (hSame2.mono ?_); rintro v _ ⟨rfl, rfl⟩)
            all_goals exact .here rfl
    · have hML : m ++ l = m ++ l := rfl
      have hLen : (m ++ l).length = m.length + l.length := List.length_append
      have hnl : ¬ m.length + l.length ≤ m.length := by omega
      have hfl := flat'_length (enc := C.cells) (s := 2) (fun _ => rfl) m
      have htk : (flat' C.cells m).take (m.length * 2) = flat' C.cells m := List.take_of_length_le (by omega)
      have hap : flat' C.cells m ++ flat' C.cells l = flat' C.cells (m ++ l) := by rw [flat'_app]
      repeat' first | simp (disch := first | with_reducible assumption | omega) only [go_sem, Bool.true_and, Bool.and_true, Bool.and_self, Bool.false_and, Bool.and_false, Bool.true_or, Bool.or_true, Bool.false_or, Bool.or_false, ↓reduceIte, Nat.reduceEqDiff, Nat.reduceAdd, Nat.reduceMul, Nat.reduceSub, Nat.reduceBEq, Nat.reduceLeDiff, Nat.reduceLT, Nat.reduceMod, Nat.reduceDiv, Int.reduceToNat, Int.reducePow, Int.reduceMul, Int.reduceAdd, Int.reduceSub, Int.reduceLE, Int.reduceLT, Int.reduceNeg, Int.reduceDiv, Int.reduceMod, Int.reduceEq, Int.reduceBEq, Int.reduceBNe, f6, f6b, f6r0, f6r1, f6r2, f6r3, f6r4, f6r5, f6r6, f6r7, f6r8, f6r9, f6r10, S.val, hk, get_old hk, hk2, get_old hk2, ht1, ht2, zm, zl, hnm, hnl, hfl, htk, hap] | (refine BrW.of (fun hb => ?_) (fun hb => ?_) <;> (have hb' := hb; try simp only [decide_eq_true_eq, decide_eq_false_iff_not, beq_iff_eq, bne_iff_ne, beq_eq_false_iff_ne, bne_eq_false_iff_eq, Bool.not_eq_true', Bool.not_eq_false', Bool.not_eq_true, Bool.not_eq_false, Bool.and_eq_true, Bool.or_eq_true, Bool.and_eq_false_iff, Bool.or_eq_false_iff, Int.not_lt, Int.not_le, ne_eq, gt_iff_lt, ge_iff_le] at hb') <;> (try (exfalso; omega)))
      have hOB := fun (Z : AObj) => (Tbl.new (enc := C.cells) (s := 2) (d := c0) (fun _ => rfl) (H2 ++ [Z, .cells 2 2 false (flat' C.cells (m ++ l))]) (H2.length + 1) 2 false (m ++ l) (by rw [get_new]; rfl))
      have hbA2 := get_old hbA [AObj.cells 0 0 false [.int .i64 s2.rows, .int .i64 s2.w, u2], AObj.cells 2 2 false (flat' C.cells (m ++ l))]
      have hbB2 := get_new0 H2 (AObj.cells 0 0 false [.int .i64 s2.rows, .int .i64 s2.w, u2]) [AObj.cells 2 2 false (flat' C.cells (m ++ l))]
      have hK1 := hJ1.app [AObj.cells 0 0 false [.int .i64 s2.rows, .int .i64 s2.w, u2], AObj.cells 2 2 false (flat' C.cells (m ++ l))]
      have hK2 := hI2.app [AObj.cells 0 0 false [.int .i64 s2.rows, .int .i64 s2.w, u2], AObj.cells 2 2 false (flat' C.cells (m ++ l))]
      have hcu := counted_u rows w (m ++ l) (H2.length + 1) 0 2 (m ++ l).length false _ (hOB (.cells 0 0 false [.int .i64 s2.rows, .int .i64 s2.w, u2])) (by rw [hML]; simp; omega)
      try rw [hLen] at hcu
      refine .of (hcu.mono ?_)
      clear hcu hOB
      generalize H2 ++ [AObj.cells 0 0 false [.int .i64 s2.rows, .int .i64 s2.w, u2], AObj.cells 2 2 false (flat' C.cells (m ++ l))] = G2 at *
      generalize H2.length = P2 at *
      rintro v H3 ⟨s3, u3, ok3, rfl, le3, hI3, hl3, hg3⟩
      rw [hML] at hg3
      cases ok1 with
      | false =>
        repeat' first | simp (disch := first | with_reducible assumption | omega) only [go_sem, Bool.true_and, Bool.and_true, Bool.and_self, Bool.false_and, Bool.and_false, Bool.true_or, Bool.or_true, Bool.false_or, Bool.or_false, ↓reduceIte, Nat.reduceEqDiff, Nat.reduceAdd, Nat.reduceMul, Nat.reduceSub, Nat.reduceBEq, Nat.reduceLeDiff, Nat.reduceLT, Nat.reduceMod, Nat.reduceDiv, Int.reduceToNat, Int.reducePow, Int.reduceMul, Int.reduceAdd, Int.reduceSub, Int.reduceLE, Int.reduceLT, Int.reduceNeg, Int.reduceDiv, Int.reduceMod, Int.reduceEq, Int.reduceBEq, Int.reduceBNe, f6, f6b, f6r0, f6r1, f6r2, f6r3, f6r4, f6r5, f6r6, f6r7, f6r8, f6r9, f6r10, S.val] | (refine BrW.of (fun hb => ?_) (fun hb => ?_) <;> (have hb' := hb; try simp only [decide_eq_true_eq, decide_eq_false_iff_not, beq_iff_eq, bne_iff_ne, beq_eq_false_iff_ne, bne_eq_false_iff_eq, Bool.not_eq_true', Bool.not_eq_false', Bool.not_eq_true, Bool.not_eq_false, Bool.and_eq_true, Bool.or_eq_true, Bool.and_eq_false_iff, Bool.or_eq_false_iff, Int.not_lt, Int.not_le, ne_eq, gt_iff_lt, ge_iff_le] at hb') <;> (try (exfalso; omega)))
        all_goals exact .here rfl
      | true =>
        cases ok2 with
        | false =>
          repeat' first | simp (disch := first | with_reducible assumption | omega) only [go_sem, Bool.true_and, Bool.and_true, Bool.and_self, Bool.false_and, Bool.and_false, Bool.true_or, Bool.or_true, Bool.false_or, Bool.or_false, ↓reduceIte, Nat.reduceEqDiff, Nat.reduceAdd, Nat.reduceMul, Nat.reduceSub, Nat.reduceBEq, Nat.reduceLeDiff, Nat.reduceLT, Nat.reduceMod, Nat.reduceDiv, Int.reduceToNat, Int.reducePow, Int.reduceMul, Int.reduceAdd, Int.reduceSub, Int.reduceLE, Int.reduceLT, Int.reduceNeg, Int.reduceDiv, Int.reduceMod, Int.reduceEq, Int.reduceBEq, Int.reduceBNe, f6, f6b, f6r0, f6r1, f6r2, f6r3, f6r4, f6r5, f6r6, f6r7, f6r8, f6r9, f6r10, S.val] | (refine BrW.of (fun hb => ?_) (fun hb => ?_) <;> (have hb' := hb; try simp only [decide_eq_true_eq, decide_eq_false_iff_not, beq_iff_eq, bne_iff_ne, beq_eq_false_iff_ne, bne_eq_false_iff_eq, Bool.not_eq_true', Bool.not_eq_false', Bool.not_eq_true, Bool.not_eq_false, Bool.and_eq_true, Bool.or_eq_true, Bool.and_eq_false_iff, Bool.or_eq_false_iff, Int.not_lt, Int.not_le, ne_eq, gt_iff_lt, ge_iff_le] at hb') <;> (try (exfalso; omega)))
          all_goals exact .here rfl
        | true =>
          cases ok3 with
          | false =>
            repeat' first | simp (disch := first | with_reducible assumption | omega) only [go_sem, Bool.true_and, Bool.and_true, Bool.and_self, Bool.false_and, Bool.and_false, Bool.true_or, Bool.or_true, Bool.false_or, Bool.or_false, ↓reduceIte, Nat.reduceEqDiff, Nat.reduceAdd, Nat.reduceMul, Nat.reduceSub, Nat.reduceBEq, Nat.reduceLeDiff, Nat.reduceLT, Nat.reduceMod, Nat.reduceDiv, Int.reduceToNat, Int.reducePow, Int.reduceMul, Int.reduceAdd, Int.reduceSub, Int.reduceLE, Int.reduceLT, Int.reduceNeg, Int.reduceDiv, Int.reduceMod, Int.reduceEq, Int.reduceBEq, Int.reduceBNe, f6, f6b, f6r0, f6r1, f6r2, f6r3, f6r4, f6r5, f6r6, f6r7, f6r8, f6r9, f6r10, S.val] | (refine BrW.of (fun hb => ?_) (fun hb => ?_) <;> (have hb' := hb; try simp only [decide_eq_true_eq, decide_eq_false_iff_not, beq_iff_eq, bne_iff_ne, beq_eq_false_iff_ne, bne_eq_false_iff_eq, Bool.not_eq_true', Bool.not_eq_false', Bool.not_eq_true, Bool.not_eq_false, Bool.and_eq_true, Bool.or_eq_true, Bool.and_eq_false_iff, Bool.or_eq_false_iff, Int.not_lt, Int.not_le, ne_eq, gt_iff_lt, ge_iff_le] at hb') <;> (try (exfalso; omega)))
            all_goals exact .here rfl
          | true =>
            obtain ⟨R, W, rfl, rfl, hR, hW, rfl, hr1, hn1⟩ := hg1 rfl
            obtain ⟨R', W', e1, e2, _, _, rfl, hr2, hn2⟩ := hg2 rfl
            obtain rfl : R = R' := by omega
            obtain rfl : W = W' := by omega
            obtain ⟨R', W', e3, e4, _, _, rfl, hr3, hn3⟩ := hg3 rfl
            obtain rfl : R = R' := by omega
            obtain rfl : W = W' := by omega
            have hf3 := fits_of (l := cnt false R W (m ++ l)) hr3.2.2.2.2.2
            have j1 := join_cnt hW.1 (R := R) l m
            have j2 := join_cnt' hW.1 (R := R) l m
            have c1 := cnt_len false R W l
            have c2 := cnt_len false R W m
            have c3 := cnt_len false R W (m ++ l)
            have hs1 : ∀ j, j < (cnt false R W l).length → (cnt false R W l).getD j 0 + (cnt false R W m).getD j 0 ≤ 1099511627776 := fun j _ => by
              have := (hf3 j).2
              rw [cnt_get hW.1, tot_app, ← cnt_get hW.1, ← cnt_get hW.1] at this
              omega
            have hs2 : ∀ j, j < (cnt false R W m).length → (cnt false R W m).getD j 0 + (cnt false R W l).getD j 0 ≤ 1099511627776 := fun j _ => by
              have := (hf3 j).2
              rw [cnt_get hW.1, tot_app, ← cnt_get hW.1, ← cnt_get hW.1] at this
              omega
            have hT : 1 ≤ R * W ∧ R * W ≤ 512 := ⟨Nat.mul_le_mul (show 1 ≤ R by omega) (show 1 ≤ W by omega), Nat.mul_le_mul (show R ≤ 8 by omega) (show W ≤ 64 by omega)⟩
            simp only at hK1 hK2 hI3 hbA2 hbB2
            have hU1 := (hK1.le le3).app [AObj.cells 0 0 false [.int .i64 R, .int .i64 W, u3]]
            have hU2 := (hK2.le le3).app [AObj.cells 0 0 false [.int .i64 R, .int .i64 W, u3]]
            have hU3 := hI3.app [AObj.cells 0 0 false [.int .i64 R, .int .i64 W, u3]]
            have b1 := get_old (le3.get hbA2) [AObj.cells 0 0 false [.int .i64 R, .int .i64 W, u3]]
            have b2 := get_old (le3.get hbB2) [AObj.cells 0 0 false [.int .i64 R, .int .i64 W, u3]]
            have b3 := get_new0 H3 (AObj.cells 0 0 false [.int .i64 R, .int .i64 W, u3]) []
            have hJoin1 := fun G h1 h2 => Join_u R W (cnt false R W l) (cnt false R W m) u1 u2 G h1 h2 hr1 hr2 hs1
            have hJoin2 := fun G h1 h2 => Join_u R W (cnt false R W m) (cnt false R W l) u2 u1 G h1 h2 hr2 hr1 hs2
            rw [j1] at hJoin1
            rw [j2] at hJoin2
            clear hg1 hg2 hg3 hr1 hr2 hr3 hn1 hn2 hn3 hf3 j1 j2 hs1 hs2 hK1 hK2 hI3 hbA2 hbB2 le3
            simp only [S.val] at hJoin1 hJoin2
            repeat' first | simp (disch := first | with_reducible assumption | omega) only [go_sem, Bool.true_and, Bool.and_true, Bool.and_self, Bool.false_and, Bool.and_false, Bool.true_or, Bool.or_true, Bool.false_or, Bool.or_false, ↓reduceIte, Nat.reduceEqDiff, Nat.reduceAdd, Nat.reduceMul, Nat.reduceSub, Nat.reduceBEq, Nat.reduceLeDiff, Nat.reduceLT, Nat.reduceMod, Nat.reduceDiv, Int.reduceToNat, Int.reducePow, Int.reduceMul, Int.reduceAdd, Int.reduceSub, Int.reduceLE, Int.reduceLT, Int.reduceNeg, Int.reduceDiv, Int.reduceMod, Int.reduceEq, Int.reduceBEq, Int.reduceBNe, f6, f6b, f6r0, f6r1, f6r2, f6r3, f6r4, f6r5, f6r6, f6r7, f6r8, f6r9, f6r10, S.val, b1, b2] | (refine BrW.of (fun hb => ?_) (fun hb => ?_) <;> (have hb' := hb; try simp only [decide_eq_true_eq, decide_eq_false_iff_not, beq_iff_eq, bne_iff_ne, beq_eq_false_iff_ne, bne_eq_false_iff_eq, Bool.not_eq_true', Bool.not_eq_false', Bool.not_eq_true, Bool.not_eq_false, Bool.and_eq_true, Bool.or_eq_true, Bool.and_eq_false_iff, Bool.or_eq_false_iff, Int.not_lt, Int.not_le, ne_eq, gt_iff_lt, ge_iff_le] at hb') <;> (try (exfalso; omega)))
            generalize H3 ++ [AObj.cells 0 0 false [.int .i64 R, .int .i64 W, u3]] = G3 at *
            generalize H3.length = P3 at *
            refine .of ((hJoin1 _ hU1 hU2).mono ?_)
            rintro v _ ⟨X4, w4, rfl, rfl, hX4⟩
            have hD := hX4.is.app [AObj.cells 0 0 false [.int .i64 R, .int .i64 W, w4]]
            have hU1 := (hU1.app X4).app [AObj.cells 0 0 false [.int .i64 R, .int .i64 W, w4]]
            have hU2 := (hU2.app X4).app [AObj.cells 0 0 false [.int .i64 R, .int .i64 W, w4]]
            have hU3 := (hU3.app X4).app [AObj.cells 0 0 false [.int .i64 R, .int .i64 W, w4]]
            have b1 := get_old (get_old b1 X4) [AObj.cells 0 0 false [.int .i64 R, .int .i64 W, w4]]
            have b2 := get_old (get_old b2 X4) [AObj.cells 0 0 false [.int .i64 R, .int .i64 W, w4]]
            have b3 := get_old (get_old b3 X4) [AObj.cells 0 0 false [.int .i64 R, .int .i64 W, w4]]
            generalize G3 ++ X4 = G4 at *
            have b4 := get_new0 G4 (AObj.cells 0 0 false [.int .i64 R, .int .i64 W, w4]) []
            repeat' first | simp (disch := first | with_reducible assumption | omega) only [go_sem, Bool.true_and, Bool.and_true, Bool.and_self, Bool.false_and, Bool.and_false, Bool.true_or, Bool.or_true, Bool.false_or, Bool.or_false, ↓reduceIte, Nat.reduceEqDiff, Nat.reduceAdd, Nat.reduceMul, Nat.reduceSub, Nat.reduceBEq, Nat.reduceLeDiff, Nat.reduceLT, Nat.reduceMod, Nat.reduceDiv, Int.reduceToNat, Int.reducePow, Int.reduceMul, Int.reduceAdd, Int.reduceSub, Int.reduceLE, Int.reduceLT, Int.reduceNeg, Int.reduceDiv, Int.reduceMod, Int.reduceEq, Int.reduceBEq, Int.reduceBNe, f6, f6b, f6r0, f6r1, f6r2, f6r3, f6r4, f6r5, f6r6, f6r7, f6r8, f6r9, f6r10, S.val, b1, b2] | (refine BrW.of (fun hb => ?_) (fun hb => ?_) <;> (have hb' := hb; try simp only [decide_eq_true_eq, decide_eq_false_iff_not, beq_iff_eq, bne_iff_ne, beq_eq_false_iff_ne, bne_eq_false_iff_eq, Bool.not_eq_true', Bool.not_eq_false', Bool.not_eq_true, Bool.not_eq_false, Bool.and_eq_true, Bool.or_eq_true, Bool.and_eq_false_iff, Bool.or_eq_false_iff, Int.not_lt, Int.not_le, ne_eq, gt_iff_lt, ge_iff_le] at hb') <;> (try (exfalso; omega)))
            generalize G4 ++ [AObj.cells 0 0 false [.int .i64 R, .int .i64 W, w4]] = G5 at *
            generalize G4.length = P4 at *
            refine .of ((hJoin2 _ hU2 hU1).mono ?_)
            rintro v _ ⟨X5, w5, rfl, rfl, hX5⟩
            have hE := hX5.is.app [AObj.cells 0 0 false [.int .i64 R, .int .i64 W, w5]]
            have hD := (hD.app X5).app [AObj.cells 0 0 false [.int .i64 R, .int .i64 W, w5]]
            have hU3 := (hU3.app X5).app [AObj.cells 0 0 false [.int .i64 R, .int .i64 W, w5]]
            have b3 := get_old (get_old b3 X5) [AObj.cells 0 0 false [.int .i64 R, .int .i64 W, w5]]
            have b4 := get_old (get_old b4 X5) [AObj.cells 0 0 false [.int .i64 R, .int .i64 W, w5]]
            have b5 := get_new0 (G5 ++ X5) (AObj.cells 0 0 false [.int .i64 R, .int .i64 W, w5]) []
            generalize G5 ++ X5 = G6 at *
            have hSame1 := Same_spec R W (cnt false R W (m ++ l)) u3 w4 _ hU3 hD (by omega)
            have hSame2 := Same_spec R W (cnt false R W (m ++ l)) w4 w5 _ hD hE (by omega)
            simp only [S.val] at hSame1 hSame2
            repeat' first | simp (disch := first | with_reducible assumption | omega) only [go_sem, Bool.true_and, Bool.and_true, Bool.and_self, Bool.false_and, Bool.and_false, Bool.true_or, Bool.or_true, Bool.false_or, Bool.or_false, ↓reduceIte, Nat.reduceEqDiff, Nat.reduceAdd, Nat.reduceMul, Nat.reduceSub, Nat.reduceBEq, Nat.reduceLeDiff, Nat.reduceLT, Nat.reduceMod, Nat.reduceDiv, Int.reduceToNat, Int.reducePow, Int.reduceMul, Int.reduceAdd, Int.reduceSub, Int.reduceLE, Int.reduceLT, Int.reduceNeg, Int.reduceDiv, Int.reduceMod, Int.reduceEq, Int.reduceBEq, Int.reduceBNe, f6, f6b, f6r0, f6r1, f6r2, f6r3, f6r4, f6r5, f6r6, f6r7, f6r8, f6r9, f6r10, S.val, b3, b4, b5] | (refine BrW.of (fun hb => ?_) (fun hb => ?_) <;> (have hb' := hb; try simp only [decide_eq_true_eq, decide_eq_false_iff_not, beq_iff_eq, bne_iff_ne, beq_eq_false_iff_ne, bne_eq_false_iff_eq, Bool.not_eq_true', Bool.not_eq_false', Bool.not_eq_true, Bool.not_eq_false, Bool.and_eq_true, Bool.or_eq_true, Bool.and_eq_false_iff, Bool.or_eq_false_iff, Int.not_lt, Int.not_le, ne_eq, gt_iff_lt, ge_iff_le] at hb') <;> (try (exfalso; omega))) | (refine .of (hSame1.mono ?_); rintro v _ ⟨rfl, rfl⟩) | (refine .of (hSame2.mono ?_); rintro v _ ⟨rfl, rfl⟩)
            all_goals exact .here rfl
end Go.Proofs.Ytadogoahnpakbaa
