import Derived.Test.YtfoooabhfecjhaaSteps8
import Derived.Test.YtfoooabhfecjhaaBase
set_option linter.unusedSimpArgs false
set_option linter.unusedVariables false
set_option maxHeartbeats 2000000
set_option maxRecDepth 20000
namespace Go.Proofs.Ytfoooabhfecjhaa
open Go Go.Am
attribute [local irreducible] opsW Ww loopW callW drawW outW outDW gW cW BrW bothW vW resW DropW RdW dcallW altW Later.run

theorem PaceBusy_args (H : Heap) (vals : List Value) (h : ArgsOk 1048576 H PaceBusySh vals) : ACallK Try.prog 4 vals H fun v _ => v = .bool true := by
  obtain ⟨_, _, rfl, a1, h1⟩ := h.cons
  obtain ⟨_, _, rfl, a2, h2⟩ := h1.cons
  obtain ⟨_, _, rfl, a3, h3⟩ := h2.cons
  obtain ⟨_, _, rfl, a4, h4⟩ := h3.cons
  obtain ⟨_, _, rfl, a5, h5⟩ := h4.cons
  obtain rfl := h5.nil
  obtain ⟨n, rfl, hn⟩ := int_of a1
  obtain ⟨d, rfl, hd⟩ := int_of a2
  obtain ⟨b, rfl, hb⟩ := int_of a3
  obtain ⟨k, c, l, rfl, hl, hlc, hO⟩ := ops_of a4
  obtain ⟨room, rfl, hroom⟩ := int_of a5
  clear a1 a2 a3 a4 a5 h h1 h2 h3 h4 h5
  obtain ⟨ro, cs, hk, hcl, hcs⟩ := hO.at'
  refine .walkW f4_ok (by simp; decide) (by decide) ?_
  repeat' first | simp (disch := first | with_reducible assumption | omega) only [go_sem, Bool.true_and, Bool.and_true, Bool.and_self, Bool.false_and, Bool.and_false, Bool.true_or, Bool.or_true, Bool.false_or, Bool.or_false, ↓reduceIte, Nat.reduceEqDiff, Nat.reduceAdd, Nat.reduceMul, Nat.reduceSub, Nat.reduceBEq, Nat.reduceLeDiff, Nat.reduceLT, Nat.reduceMod, Nat.reduceDiv, Int.reduceToNat, Int.reducePow, Int.reduceMul, Int.reduceAdd, Int.reduceSub, Int.reduceLE, Int.reduceLT, Int.reduceNeg, Int.reduceDiv, Int.reduceMod, Int.reduceEq, Int.reduceBEq, Int.reduceBNe, f4, f4b, f4r0, f4r1, f4r2, f4r3, f4r4, f4r5, f4r6, f4r7, f4r8, f4r9, f4r10, f4r11, f4r12, f4r13, f4r15] | (refine BrW.of (fun hb => ?_) (fun hb => ?_) <;> (have hb' := hb; try simp only [decide_eq_true_eq, decide_eq_false_iff_not, beq_iff_eq, bne_iff_ne, beq_eq_false_iff_ne, bne_eq_false_iff_eq, Bool.not_eq_true', Bool.not_eq_false', Bool.not_eq_true, Bool.not_eq_false, Bool.and_eq_true, Bool.or_eq_true, Bool.and_eq_false_iff, Bool.or_eq_false_iff, Int.not_lt, Int.not_le, ne_eq, gt_iff_lt, ge_iff_le] at hb') <;> (try (exfalso; omega))) | (refine altW.of ?_ ?_) | (refine .of ((alive _).mono ?_); rintro v H ⟨rfl, rfl⟩)
  refine .of ((CloneO_spec l k 0 0 c _ hO (by omega) hlc).mono ?_)
  rintro v J ⟨g', rfl, rfl⟩
  have hfl := flat'_length (enc := O.cells) (s := 2) (fun _ => rfl) l
  have htk : (flat' O.cells l).take (l.length * 2) = flat' O.cells l := List.take_of_length_le (by omega)
  have hni : ¬ l.length + 1 ≤ l.length := by omega
  repeat' first | simp (disch := first | with_reducible assumption | omega) only [go_sem, Bool.true_and, Bool.and_true, Bool.and_self, Bool.false_and, Bool.and_false, Bool.true_or, Bool.or_true, Bool.false_or, Bool.or_false, ↓reduceIte, Nat.reduceEqDiff, Nat.reduceAdd, Nat.reduceMul, Nat.reduceSub, Nat.reduceBEq, Nat.reduceLeDiff, Nat.reduceLT, Nat.reduceMod, Nat.reduceDiv, Int.reduceToNat, Int.reducePow, Int.reduceMul, Int.reduceAdd, Int.reduceSub, Int.reduceLE, Int.reduceLT, Int.reduceNeg, Int.reduceDiv, Int.reduceMod, Int.reduceEq, Int.reduceBEq, Int.reduceBNe, f4, f4b, f4r0, f4r1, f4r2, f4r3, f4r4, f4r5, f4r6, f4r7, f4r8, f4r9, f4r10, f4r11, f4r12, f4r13, f4r15, hk, get_old hk, hfl, htk, hni] | (refine BrW.of (fun hb => ?_) (fun hb => ?_) <;> (have hb' := hb; try simp only [decide_eq_true_eq, decide_eq_false_iff_not, beq_iff_eq, bne_iff_ne, beq_eq_false_iff_ne, bne_eq_false_iff_eq, Bool.not_eq_true', Bool.not_eq_false', Bool.not_eq_true, Bool.not_eq_false, Bool.and_eq_true, Bool.or_eq_true, Bool.and_eq_false_iff, Bool.or_eq_false_iff, Int.not_lt, Int.not_le, ne_eq, gt_iff_lt, ge_iff_le] at hb') <;> (try (exfalso; omega))) | (refine altW.of ?_ ?_)
  refine .of ((Play_w n d b (l ++ [⟨3, room⟩]) H.length 0 (g' + 1) (l.length + 1) _ (ops_new (by rw [get_new0, ← flat'_app]; rfl)) (by simp; omega)).mono ?_ |> fun h => by simpa using h)
  rintro v J ⟨X, rfl, hbad, hgood⟩
  clear hcs hO hfl htk
  by_cases hw : wrongP n d b = 0
  · obtain ⟨w', kq, gq, cq, rfl, hI, hq, hR⟩ := hgood hw
    clear hbad hgood
    have hnum := wrong_num hw
    have hok := runP_ok (start_ok hw) l
    have hsm := run_same (p0 n d b) l
    obtain ⟨v, x0, x1, hv⟩ := hR.2 l.length (by rw [ansP_length]; simp)
    have hg : (ansP (p0 n d b) (l ++ [⟨3, room⟩])).getD l.length (0, []) = (doP (runP (p0 n d b) l) ⟨3, room⟩).2 := by
      rw [ansP_snoc, List.getD_eq_getElem?_getD, List.getElem?_append_right (by rw [ansP_length]; omega), ansP_length]; simp
    rw [hg] at x0 hv
    rw [runP_snoc] at hI ⊢
    have hden : (runP (p0 n d b) l).b.den = d := hsm.2.1
    have hL : (l ++ [(⟨3, room⟩ : O)]).length = l.length + 1 := by simp
    rw [hL]
    have hkG := get_old (get_old hk [AObj.cells (g' + 1) 2 false (flat' O.cells l ++ [Value.int IntKind.i64 3, Value.int IntKind.i64 room]), AObj.cells 0 2 false [Value.int IntKind.i64 3, Value.int IntKind.i64 room]]) X
    generalize H ++ [AObj.cells (g' + 1) 2 false (flat' O.cells l ++ [Value.int IntKind.i64 3, Value.int IntKind.i64 room]), AObj.cells 0 2 false [Value.int IntKind.i64 3, Value.int IntKind.i64 room]] ++ X = G at *
    have hcl2 := hR.1
    rw [ansP_length, hL] at hcl2
    clear hR hg hsm hk
    generalize runP (p0 n d b) l = p at *
    by_cases hr : 0 ≤ room ∧ room ≤ 1073741824
    · have hdo : doP p ⟨3, room⟩ = (pollP p room, 0, (pollL p.b.den p.l p.b.lv room).1) := by
        unfold doP
        rw [if_neg (by show ¬ (3 : Int) = 1; decide), if_neg (by show ¬ (3 : Int) = 2; decide), if_pos rfl, if_pos hr]
      have hse := do_sent hok ⟨3, room⟩
      obtain ⟨hb1, hb2⟩ := busy hok room hr.1
      rw [hdo] at x0 hv hI hse ⊢
      rw [hden] at *
      simp only at x0 hv hI hse
      obtain ⟨hs1, hs2⟩ := hse
      have hsum := take_sum hs1
      have hpos := (sum_bound _ hs1).1
      have hpr := (doP_ok hok ⟨3, room⟩).q.2.2.2.2.2.2.2.1
      have hpb := (doP_ok hok ⟨3, room⟩).b.prod
      rw [hdo] at hpr hpb
      have hlv := (doP_ok hok ⟨3, room⟩).b.2.2.2.2.2.2
      rw [hdo] at hlv
      simp only at hlv hpr hpb
      replace hpr : ∀ x ∈ (pollP p room).l, 1 ≤ x ∧ x ≤ 1500 := hpr
      generalize hsn : (pollL d p.l p.b.lv room).1 = sn at *
      generalize pollP p room = p' at *
      clear hok hdo hsn hden
      obtain ⟨pl, pdr, pb, pse⟩ := p'
      simp only at hI hpr hpb hlv hb2
      rcases hv with ⟨rfl, rfl⟩ | ⟨kv, ov, gv, cv, rfl, hV, hcv⟩
      · repeat' first | simp (disch := first | with_reducible assumption | omega) only [go_sem, Bool.true_and, Bool.and_true, Bool.and_self, Bool.false_and, Bool.and_false, Bool.true_or, Bool.or_true, Bool.false_or, Bool.or_false, ↓reduceIte, Nat.reduceEqDiff, Nat.reduceAdd, Nat.reduceMul, Nat.reduceSub, Nat.reduceBEq, Nat.reduceLeDiff, Nat.reduceLT, Nat.reduceMod, Nat.reduceDiv, Int.reduceToNat, Int.reducePow, Int.reduceMul, Int.reduceAdd, Int.reduceSub, Int.reduceLE, Int.reduceLT, Int.reduceNeg, Int.reduceDiv, Int.reduceMod, Int.reduceEq, Int.reduceBEq, Int.reduceBNe, f4, f4b, f4r0, f4r1, f4r2, f4r3, f4r4, f4r5, f4r6, f4r7, f4r8, f4r9, f4r10, f4r11, f4r12, f4r13, f4r15, P.val, hkG, get_old hkG, hq, get_old hq, x0, x1] | (refine BrW.of (fun hb => ?_) (fun hb => ?_) <;> (have hb' := hb; try simp only [decide_eq_true_eq, decide_eq_false_iff_not, beq_iff_eq, bne_iff_ne, beq_eq_false_iff_ne, bne_eq_false_iff_eq, Bool.not_eq_true', Bool.not_eq_false', Bool.not_eq_true, Bool.not_eq_false, Bool.and_eq_true, Bool.or_eq_true, Bool.and_eq_false_iff, Bool.or_eq_false_iff, Int.not_lt, Int.not_le, ne_eq, gt_iff_lt, ge_iff_le] at hb') <;> (try (exfalso; omega))) | (refine altW.of ?_ ?_)
        refine loopW.of (by decide) (fun m e J => e = [(1, .int .i64 d), (4, .int .i64 room), (12, .pointer (some ⟨G.length, 0, some 1⟩)), (14, .int .i64 0), (63, .slice none 0 0), (64, .int .i64 0), (65, .int .i64 0)] ∧ J = G ++ [.cells 0 0 false [w', .int .i64 100, .int .i64 60000, .int .i64 pdr, .int .i64 pb.num, .int .i64 pb.den, .int .i64 pb.bu, .int .i64 pb.lv, .int .i64 pb.at', .int .i64 pse]]) 0 ⟨rfl, rfl⟩ ?_
        rintro m e J ⟨rfl, rfl⟩
        simp only [List.sum_nil, Int.sub_zero] at hb2
        rcases hI with ⟨rfl, rfl⟩ | ⟨ki, oi, gi, ci, rfl, hIi, hci⟩
        · repeat' first | simp (disch := first | with_reducible assumption | omega) only [go_sem, Bool.true_and, Bool.and_true, Bool.and_self, Bool.false_and, Bool.and_false, Bool.true_or, Bool.or_true, Bool.false_or, Bool.or_false, ↓reduceIte, Nat.reduceEqDiff, Nat.reduceAdd, Nat.reduceMul, Nat.reduceSub, Nat.reduceBEq, Nat.reduceLeDiff, Nat.reduceLT, Nat.reduceMod, Nat.reduceDiv, Int.reduceToNat, Int.reducePow, Int.reduceMul, Int.reduceAdd, Int.reduceSub, Int.reduceLE, Int.reduceLT, Int.reduceNeg, Int.reduceDiv, Int.reduceMod, Int.reduceEq, Int.reduceBEq, Int.reduceBNe, f4, f4b, f4r0, f4r1, f4r2, f4r3, f4r4, f4r5, f4r6, f4r7, f4r8, f4r9, f4r10, f4r11, f4r12, f4r13, f4r15, f4l0, f4, f4b, f4r0, f4r1, f4r2, f4r3, f4r4, f4r5, f4r6, f4r7, f4r8, f4r9, f4r10, f4r11, f4r12, f4r13, f4r15] | (refine BrW.of (fun hb => ?_) (fun hb => ?_) <;> (have hb' := hb; try simp only [decide_eq_true_eq, decide_eq_false_iff_not, beq_iff_eq, bne_iff_ne, beq_eq_false_iff_ne, bne_eq_false_iff_eq, Bool.not_eq_true', Bool.not_eq_false', Bool.not_eq_true, Bool.not_eq_false, Bool.and_eq_true, Bool.or_eq_true, Bool.and_eq_false_iff, Bool.or_eq_false_iff, Int.not_lt, Int.not_le, ne_eq, gt_iff_lt, ge_iff_le] at hb') <;> (try (exfalso; omega))) | (refine altW.of ?_ ?_)
          all_goals first | exact .here rfl | (refine .here ?_; rw [decide_eq_true (by omega)]) | (exfalso; omega)
        · obtain ⟨ri, cc2, hki, _, i0⟩ := Ints.cell hIi
          cases pl with
          | nil =>
            repeat' first | simp (disch := first | with_reducible assumption | omega) only [go_sem, Bool.true_and, Bool.and_true, Bool.and_self, Bool.false_and, Bool.and_false, Bool.true_or, Bool.or_true, Bool.false_or, Bool.or_false, ↓reduceIte, Nat.reduceEqDiff, Nat.reduceAdd, Nat.reduceMul, Nat.reduceSub, Nat.reduceBEq, Nat.reduceLeDiff, Nat.reduceLT, Nat.reduceMod, Nat.reduceDiv, Int.reduceToNat, Int.reducePow, Int.reduceMul, Int.reduceAdd, Int.reduceSub, Int.reduceLE, Int.reduceLT, Int.reduceNeg, Int.reduceDiv, Int.reduceMod, Int.reduceEq, Int.reduceBEq, Int.reduceBNe, f4, f4b, f4r0, f4r1, f4r2, f4r3, f4r4, f4r5, f4r6, f4r7, f4r8, f4r9, f4r10, f4r11, f4r12, f4r13, f4r15, f4l0, f4, f4b, f4r0, f4r1, f4r2, f4r3, f4r4, f4r5, f4r6, f4r7, f4r8, f4r9, f4r10, f4r11, f4r12, f4r13, f4r15, hki, get_old hki] | (refine BrW.of (fun hb => ?_) (fun hb => ?_) <;> (have hb' := hb; try simp only [decide_eq_true_eq, decide_eq_false_iff_not, beq_iff_eq, bne_iff_ne, beq_eq_false_iff_ne, bne_eq_false_iff_eq, Bool.not_eq_true', Bool.not_eq_false', Bool.not_eq_true, Bool.not_eq_false, Bool.and_eq_true, Bool.or_eq_true, Bool.and_eq_false_iff, Bool.or_eq_false_iff, Int.not_lt, Int.not_le, ne_eq, gt_iff_lt, ge_iff_le] at hb') <;> (try (exfalso; omega))) | (refine altW.of ?_ ?_)
            all_goals first | exact .here rfl | (refine .here ?_; rw [decide_eq_true (by omega)]) | (exfalso; omega)
          | cons x r =>
            have z0 := i0 0 (by simp)
            rw [Nat.add_zero, show (x :: r).getD 0 0 = x from rfl] at z0
            have hx := hpr x (by simp)
            have hxd := Int.mul_le_mul hx.2 hnum.2.2.2.1 (by omega) (by omega)
            have hxd0 := Int.mul_nonneg (show 0 ≤ x by omega) (show 0 ≤ d by omega)
            have hfin : room < x ∨ pb.lv < x * d := by
              rcases hb2 with h | ⟨_, _, h, h2⟩
              · cases h
              · cases h; exact h2
            clear hb2 hpr
            generalize hrl : (x :: r).length = rl at *
            have hrl0 : ¬ rl = 0 := by simp at hrl; omega
            clear hrl
            repeat' first | simp (disch := first | with_reducible assumption | omega) only [go_sem, Bool.true_and, Bool.and_true, Bool.and_self, Bool.false_and, Bool.and_false, Bool.true_or, Bool.or_true, Bool.false_or, Bool.or_false, ↓reduceIte, Nat.reduceEqDiff, Nat.reduceAdd, Nat.reduceMul, Nat.reduceSub, Nat.reduceBEq, Nat.reduceLeDiff, Nat.reduceLT, Nat.reduceMod, Nat.reduceDiv, Int.reduceToNat, Int.reducePow, Int.reduceMul, Int.reduceAdd, Int.reduceSub, Int.reduceLE, Int.reduceLT, Int.reduceNeg, Int.reduceDiv, Int.reduceMod, Int.reduceEq, Int.reduceBEq, Int.reduceBNe, f4, f4b, f4r0, f4r1, f4r2, f4r3, f4r4, f4r5, f4r6, f4r7, f4r8, f4r9, f4r10, f4r11, f4r12, f4r13, f4r15, f4l0, f4, f4b, f4r0, f4r1, f4r2, f4r3, f4r4, f4r5, f4r6, f4r7, f4r8, f4r9, f4r10, f4r11, f4r12, f4r13, f4r15, hki, get_old hki, z0] | (refine BrW.of (fun hb => ?_) (fun hb => ?_) <;> (have hb' := hb; try simp only [decide_eq_true_eq, decide_eq_false_iff_not, beq_iff_eq, bne_iff_ne, beq_eq_false_iff_ne, bne_eq_false_iff_eq, Bool.not_eq_true', Bool.not_eq_false', Bool.not_eq_true, Bool.not_eq_false, Bool.and_eq_true, Bool.or_eq_true, Bool.and_eq_false_iff, Bool.or_eq_false_iff, Int.not_lt, Int.not_le, ne_eq, gt_iff_lt, ge_iff_le] at hb') <;> (try (exfalso; omega))) | (refine altW.of ?_ ?_)
            all_goals first | exact .here rfl | (refine .here ?_; rw [decide_eq_true (by omega)]) | (exfalso; omega)
      · obtain ⟨rv, cc, hkv, hcv2, v0⟩ := Ints.cell hV
        repeat' first | simp (disch := first | with_reducible assumption | omega) only [go_sem, Bool.true_and, Bool.and_true, Bool.and_self, Bool.false_and, Bool.and_false, Bool.true_or, Bool.or_true, Bool.false_or, Bool.or_false, ↓reduceIte, Nat.reduceEqDiff, Nat.reduceAdd, Nat.reduceMul, Nat.reduceSub, Nat.reduceBEq, Nat.reduceLeDiff, Nat.reduceLT, Nat.reduceMod, Nat.reduceDiv, Int.reduceToNat, Int.reducePow, Int.reduceMul, Int.reduceAdd, Int.reduceSub, Int.reduceLE, Int.reduceLT, Int.reduceNeg, Int.reduceDiv, Int.reduceMod, Int.reduceEq, Int.reduceBEq, Int.reduceBNe, f4, f4b, f4r0, f4r1, f4r2, f4r3, f4r4, f4r5, f4r6, f4r7, f4r8, f4r9, f4r10, f4r11, f4r12, f4r13, f4r15, P.val, hkG, get_old hkG, hq, get_old hq, x0, x1, hkv, get_old hkv] | (refine BrW.of (fun hb => ?_) (fun hb => ?_) <;> (have hb' := hb; try simp only [decide_eq_true_eq, decide_eq_false_iff_not, beq_iff_eq, bne_iff_ne, beq_eq_false_iff_ne, bne_eq_false_iff_eq, Bool.not_eq_true', Bool.not_eq_false', Bool.not_eq_true, Bool.not_eq_false, Bool.and_eq_true, Bool.or_eq_true, Bool.and_eq_false_iff, Bool.or_eq_false_iff, Int.not_lt, Int.not_le, ne_eq, gt_iff_lt, ge_iff_le] at hb') <;> (try (exfalso; omega))) | (refine altW.of ?_ ?_)
        refine loopW.of (by decide) (fun m e J => ∃ i : Nat, e = [(1, .int .i64 d), (4, .int .i64 room), (12, .pointer (some ⟨G.length, 0, some 1⟩)), (14, .int .i64 (sn.take i).sum), (63, slv kv ov gv sn.length cv), (64, .int .i64 sn.length), (65, .int .i64 i)] ∧ J = G ++ [.cells 0 0 false [w', .int .i64 100, .int .i64 60000, .int .i64 pdr, .int .i64 pb.num, .int .i64 pb.den, .int .i64 pb.bu, .int .i64 pb.lv, .int .i64 pb.at', .int .i64 pse]] ∧ i ≤ sn.length ∧ m = sn.length - i) sn.length ⟨0, rfl, rfl, by omega, rfl⟩ ?_
        rintro m e J ⟨i, rfl, rfl, hi, rfl⟩
        by_cases hlt : i < sn.length
        · obtain ⟨s1, s2, s3, s4, s5⟩ := hsum i hlt
          have y0 := v0 i hlt
          generalize sn.getD i 0 = y at *
          repeat' first | simp (disch := first | with_reducible assumption | omega) only [go_sem, Bool.true_and, Bool.and_true, Bool.and_self, Bool.false_and, Bool.and_false, Bool.true_or, Bool.or_true, Bool.false_or, Bool.or_false, ↓reduceIte, Nat.reduceEqDiff, Nat.reduceAdd, Nat.reduceMul, Nat.reduceSub, Nat.reduceBEq, Nat.reduceLeDiff, Nat.reduceLT, Nat.reduceMod, Nat.reduceDiv, Int.reduceToNat, Int.reducePow, Int.reduceMul, Int.reduceAdd, Int.reduceSub, Int.reduceLE, Int.reduceLT, Int.reduceNeg, Int.reduceDiv, Int.reduceMod, Int.reduceEq, Int.reduceBEq, Int.reduceBNe, f4, f4b, f4r0, f4r1, f4r2, f4r3, f4r4, f4r5, f4r6, f4r7, f4r8, f4r9, f4r10, f4r11, f4r12, f4r13, f4r15, f4l0, get_old hkv, y0] | (refine BrW.of (fun hb => ?_) (fun hb => ?_) <;> (have hb' := hb; try simp only [decide_eq_true_eq, decide_eq_false_iff_not, beq_iff_eq, bne_iff_ne, beq_eq_false_iff_ne, bne_eq_false_iff_eq, Bool.not_eq_true', Bool.not_eq_false', Bool.not_eq_true, Bool.not_eq_false, Bool.and_eq_true, Bool.or_eq_true, Bool.and_eq_false_iff, Bool.or_eq_false_iff, Int.not_lt, Int.not_le, ne_eq, gt_iff_lt, ge_iff_le] at hb') <;> (try (exfalso; omega))) | (refine altW.of ?_ ?_)
          refine RdW.keep [1, 4, 12, 14, 63, 64, 65] (sn.length - (i + 1)) (by omega) ?_
          simp (disch := first | with_reducible assumption | omega) only [go_sem, Bool.true_and, Bool.and_true, Bool.and_self, Bool.false_and, Bool.and_false, Bool.true_or, Bool.or_true, Bool.false_or, Bool.or_false, ↓reduceIte, Nat.reduceEqDiff, Nat.reduceAdd, Nat.reduceMul, Nat.reduceSub, Nat.reduceBEq, Nat.reduceLeDiff, Nat.reduceLT, Nat.reduceMod, Nat.reduceDiv, Int.reduceToNat, Int.reducePow, Int.reduceMul, Int.reduceAdd, Int.reduceSub, Int.reduceLE, Int.reduceLT, Int.reduceNeg, Int.reduceDiv, Int.reduceMod, Int.reduceEq, Int.reduceBEq, Int.reduceBNe]
          exact ⟨i + 1, by rw [s1]; rfl, by omega, rfl⟩
        · obtain rfl : i = sn.length := by omega
          rw [List.take_length]
          generalize sn.sum = sm at *
          rcases hI with ⟨rfl, rfl⟩ | ⟨ki, oi, gi, ci, rfl, hIi, hci⟩
          · repeat' first | simp (disch := first | with_reducible assumption | omega) only [go_sem, Bool.true_and, Bool.and_true, Bool.and_self, Bool.false_and, Bool.and_false, Bool.true_or, Bool.or_true, Bool.false_or, Bool.or_false, ↓reduceIte, Nat.reduceEqDiff, Nat.reduceAdd, Nat.reduceMul, Nat.reduceSub, Nat.reduceBEq, Nat.reduceLeDiff, Nat.reduceLT, Nat.reduceMod, Nat.reduceDiv, Int.reduceToNat, Int.reducePow, Int.reduceMul, Int.reduceAdd, Int.reduceSub, Int.reduceLE, Int.reduceLT, Int.reduceNeg, Int.reduceDiv, Int.reduceMod, Int.reduceEq, Int.reduceBEq, Int.reduceBNe, f4, f4b, f4r0, f4r1, f4r2, f4r3, f4r4, f4r5, f4r6, f4r7, f4r8, f4r9, f4r10, f4r11, f4r12, f4r13, f4r15, f4l0, f4, f4b, f4r0, f4r1, f4r2, f4r3, f4r4, f4r5, f4r6, f4r7, f4r8, f4r9, f4r10, f4r11, f4r12, f4r13, f4r15] | (refine BrW.of (fun hb => ?_) (fun hb => ?_) <;> (have hb' := hb; try simp only [decide_eq_true_eq, decide_eq_false_iff_not, beq_iff_eq, bne_iff_ne, beq_eq_false_iff_ne, bne_eq_false_iff_eq, Bool.not_eq_true', Bool.not_eq_false', Bool.not_eq_true, Bool.not_eq_false, Bool.and_eq_true, Bool.or_eq_true, Bool.and_eq_false_iff, Bool.or_eq_false_iff, Int.not_lt, Int.not_le, ne_eq, gt_iff_lt, ge_iff_le] at hb') <;> (try (exfalso; omega))) | (refine altW.of ?_ ?_)
            all_goals first | exact .here rfl | (refine .here ?_; rw [decide_eq_true (by omega)]) | (exfalso; omega)
          · obtain ⟨ri, cc2, hki, _, i0⟩ := Ints.cell hIi
            cases pl with
            | nil =>
              repeat' first | simp (disch := first | with_reducible assumption | omega) only [go_sem, Bool.true_and, Bool.and_true, Bool.and_self, Bool.false_and, Bool.and_false, Bool.true_or, Bool.or_true, Bool.false_or, Bool.or_false, ↓reduceIte, Nat.reduceEqDiff, Nat.reduceAdd, Nat.reduceMul, Nat.reduceSub, Nat.reduceBEq, Nat.reduceLeDiff, Nat.reduceLT, Nat.reduceMod, Nat.reduceDiv, Int.reduceToNat, Int.reducePow, Int.reduceMul, Int.reduceAdd, Int.reduceSub, Int.reduceLE, Int.reduceLT, Int.reduceNeg, Int.reduceDiv, Int.reduceMod, Int.reduceEq, Int.reduceBEq, Int.reduceBNe, f4, f4b, f4r0, f4r1, f4r2, f4r3, f4r4, f4r5, f4r6, f4r7, f4r8, f4r9, f4r10, f4r11, f4r12, f4r13, f4r15, f4l0, f4, f4b, f4r0, f4r1, f4r2, f4r3, f4r4, f4r5, f4r6, f4r7, f4r8, f4r9, f4r10, f4r11, f4r12, f4r13, f4r15, hki, get_old hki] | (refine BrW.of (fun hb => ?_) (fun hb => ?_) <;> (have hb' := hb; try simp only [decide_eq_true_eq, decide_eq_false_iff_not, beq_iff_eq, bne_iff_ne, beq_eq_false_iff_ne, bne_eq_false_iff_eq, Bool.not_eq_true', Bool.not_eq_false', Bool.not_eq_true, Bool.not_eq_false, Bool.and_eq_true, Bool.or_eq_true, Bool.and_eq_false_iff, Bool.or_eq_false_iff, Int.not_lt, Int.not_le, ne_eq, gt_iff_lt, ge_iff_le] at hb') <;> (try (exfalso; omega))) | (refine altW.of ?_ ?_)
              all_goals first | exact .here rfl | (refine .here ?_; rw [decide_eq_true (by omega)]) | (exfalso; omega)
            | cons x r =>
              have z0 := i0 0 (by simp)
              rw [Nat.add_zero, show (x :: r).getD 0 0 = x from rfl] at z0
              have hx := hpr x (by simp)
              have hxd := Int.mul_le_mul hx.2 hnum.2.2.2.1 (by omega) (by omega)
              have hxd0 := Int.mul_nonneg (show 0 ≤ x by omega) (show 0 ≤ d by omega)
              have hfin : room - sm < x ∨ pb.lv < x * d := by
                rcases hb2 with h | ⟨_, _, h, h2⟩
                · cases h
                · cases h; exact h2
              clear hb2 hpr
              generalize hrl : (x :: r).length = rl at *
              have hrl0 : ¬ rl = 0 := by simp at hrl; omega
              clear hrl
              repeat' first | simp (disch := first | with_reducible assumption | omega) only [go_sem, Bool.true_and, Bool.and_true, Bool.and_self, Bool.false_and, Bool.and_false, Bool.true_or, Bool.or_true, Bool.false_or, Bool.or_false, ↓reduceIte, Nat.reduceEqDiff, Nat.reduceAdd, Nat.reduceMul, Nat.reduceSub, Nat.reduceBEq, Nat.reduceLeDiff, Nat.reduceLT, Nat.reduceMod, Nat.reduceDiv, Int.reduceToNat, Int.reducePow, Int.reduceMul, Int.reduceAdd, Int.reduceSub, Int.reduceLE, Int.reduceLT, Int.reduceNeg, Int.reduceDiv, Int.reduceMod, Int.reduceEq, Int.reduceBEq, Int.reduceBNe, f4, f4b, f4r0, f4r1, f4r2, f4r3, f4r4, f4r5, f4r6, f4r7, f4r8, f4r9, f4r10, f4r11, f4r12, f4r13, f4r15, f4l0, f4, f4b, f4r0, f4r1, f4r2, f4r3, f4r4, f4r5, f4r6, f4r7, f4r8, f4r9, f4r10, f4r11, f4r12, f4r13, f4r15, hki, get_old hki, z0] | (refine BrW.of (fun hb => ?_) (fun hb => ?_) <;> (have hb' := hb; try simp only [decide_eq_true_eq, decide_eq_false_iff_not, beq_iff_eq, bne_iff_ne, beq_eq_false_iff_ne, bne_eq_false_iff_eq, Bool.not_eq_true', Bool.not_eq_false', Bool.not_eq_true, Bool.not_eq_false, Bool.and_eq_true, Bool.or_eq_true, Bool.and_eq_false_iff, Bool.or_eq_false_iff, Int.not_lt, Int.not_le, ne_eq, gt_iff_lt, ge_iff_le] at hb') <;> (try (exfalso; omega))) | (refine altW.of ?_ ?_)
              all_goals first | exact .here rfl | (refine .here ?_; rw [decide_eq_true (by omega)]) | (exfalso; omega)
    · have hdo : doP p ⟨3, room⟩ = (p, 2, []) := by
        unfold doP
        rw [if_neg (by show ¬ (3 : Int) = 1; decide), if_neg (by show ¬ (3 : Int) = 2; decide), if_pos rfl, if_neg hr]
      rw [hdo] at x0 hv hI ⊢
      repeat' first | simp (disch := first | with_reducible assumption | omega) only [go_sem, Bool.true_and, Bool.and_true, Bool.and_self, Bool.false_and, Bool.and_false, Bool.true_or, Bool.or_true, Bool.false_or, Bool.or_false, ↓reduceIte, Nat.reduceEqDiff, Nat.reduceAdd, Nat.reduceMul, Nat.reduceSub, Nat.reduceBEq, Nat.reduceLeDiff, Nat.reduceLT, Nat.reduceMod, Nat.reduceDiv, Int.reduceToNat, Int.reducePow, Int.reduceMul, Int.reduceAdd, Int.reduceSub, Int.reduceLE, Int.reduceLT, Int.reduceNeg, Int.reduceDiv, Int.reduceMod, Int.reduceEq, Int.reduceBEq, Int.reduceBNe, f4, f4b, f4r0, f4r1, f4r2, f4r3, f4r4, f4r5, f4r6, f4r7, f4r8, f4r9, f4r10, f4r11, f4r12, f4r13, f4r15, P.val, hkG, get_old hkG, hq, get_old hq, x0, x1] | (refine BrW.of (fun hb => ?_) (fun hb => ?_) <;> (have hb' := hb; try simp only [decide_eq_true_eq, decide_eq_false_iff_not, beq_iff_eq, bne_iff_ne, beq_eq_false_iff_ne, bne_eq_false_iff_eq, Bool.not_eq_true', Bool.not_eq_false', Bool.not_eq_true, Bool.not_eq_false, Bool.and_eq_true, Bool.or_eq_true, Bool.and_eq_false_iff, Bool.or_eq_false_iff, Int.not_lt, Int.not_le, ne_eq, gt_iff_lt, ge_iff_le] at hb') <;> (try (exfalso; omega))) | (refine altW.of ?_ ?_)
      all_goals first | exact .here rfl | (refine .here ?_; rw [decide_eq_true (by omega)]) | (exfalso; omega)
  · obtain rfl := hbad hw
    clear hbad hgood
    generalize wrongP n d b = e at *
    repeat' first | simp (disch := first | with_reducible assumption | omega) only [go_sem, Bool.true_and, Bool.and_true, Bool.and_self, Bool.false_and, Bool.and_false, Bool.true_or, Bool.or_true, Bool.false_or, Bool.or_false, ↓reduceIte, Nat.reduceEqDiff, Nat.reduceAdd, Nat.reduceMul, Nat.reduceSub, Nat.reduceBEq, Nat.reduceLeDiff, Nat.reduceLT, Nat.reduceMod, Nat.reduceDiv, Int.reduceToNat, Int.reducePow, Int.reduceMul, Int.reduceAdd, Int.reduceSub, Int.reduceLE, Int.reduceLT, Int.reduceNeg, Int.reduceDiv, Int.reduceMod, Int.reduceEq, Int.reduceBEq, Int.reduceBNe, f4, f4b, f4r0, f4r1, f4r2, f4r3, f4r4, f4r5, f4r6, f4r7, f4r8, f4r9, f4r10, f4r11, f4r12, f4r13, f4r15, badT, hk, get_old hk] | (refine BrW.of (fun hb => ?_) (fun hb => ?_) <;> (have hb' := hb; try simp only [decide_eq_true_eq, decide_eq_false_iff_not, beq_iff_eq, bne_iff_ne, beq_eq_false_iff_ne, bne_eq_false_iff_eq, Bool.not_eq_true', Bool.not_eq_false', Bool.not_eq_true, Bool.not_eq_false, Bool.and_eq_true, Bool.or_eq_true, Bool.and_eq_false_iff, Bool.or_eq_false_iff, Int.not_lt, Int.not_le, ne_eq, gt_iff_lt, ge_iff_le] at hb') <;> (try (exfalso; omega))) | (refine altW.of ?_ ?_)
    all_goals first | (rw [hb]; exact .here rfl) | (exfalso; omega)
end Go.Proofs.Ytfoooabhfecjhaa
