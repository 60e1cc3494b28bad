import Derived.Test.YtamnmcljomgboaaSteps
import Derived.Test.YtamnmcljomgboaaBase
set_option linter.unusedSimpArgs false
set_option linter.unusedVariables false
set_option maxHeartbeats 4000000
set_option maxRecDepth 20000
namespace Go.Proofs.Ytamnmcljomgboaa
open Go Go.Am
attribute [local irreducible] opsW Ww loopW callW drawW outW outDW gW cW BrW bothW vW resW DropW RdW dcallW Later.run

theorem CloneI_spec (l : List Int) (k o g c : Nat) (H : Heap) (hs : Tbl Int ienc 1 0 H k o g l) (hl : l.length ≤ 1099511627776) (hc : l.length ≤ c) :
    ACallK Try.prog 11 [slv k o g l.length c] H (fun v H' => ∃ g', v = slv H.length 0 g' l.length l.length ∧ H' = H ++ [.cells g' 1 false (flat' ienc l)]) := by
  obtain ⟨ro, cs, hk, hle, hcs⟩ := hs.at'
  have ht := Tbl.cells (enc := ienc) (fun _ => rfl) hle hcs
  try simp only [Nat.mul_one] at ht
  refine .walkW f11_ok (by simp; decide) (by decide) ?_
  have hkn := get_old hk
  simp (disch := first | with_reducible assumption | omega) only [go_sem, Bool.true_and, Bool.and_true, Bool.and_self, Bool.false_and, Bool.and_false, Bool.true_or, Bool.or_true, Bool.false_or, Bool.or_false, ↓reduceIte, Nat.reduceEqDiff, Nat.reduceAdd, Nat.reduceMul, Nat.reduceSub, Nat.reduceBEq, Nat.reduceLeDiff, Nat.reduceLT, Nat.reduceMod, Nat.reduceDiv, Int.reduceToNat, Int.reducePow, Int.reduceMul, Int.reduceAdd, Int.reduceSub, Int.reduceLE, Int.reduceLT, Int.reduceNeg, Int.reduceDiv, Int.reduceMod, Int.reduceEq, Int.reduceBEq, Int.reduceBNe, f11, f11b, f11r0, f11r1, f11r2, f11r3, hk]
  refine .of ?_ (fun hn => ?_)
  · by_cases hz : l.length = 0
    · have hb : flat' ienc l = [] := by rw [List.length_eq_zero_iff.1 hz]; rfl
      simp (disch := first | with_reducible assumption | omega) only [go_sem, Bool.true_and, Bool.and_true, Bool.and_self, Bool.false_and, Bool.and_false, Bool.true_or, Bool.or_true, Bool.false_or, Bool.or_false, ↓reduceIte, Nat.reduceEqDiff, Nat.reduceAdd, Nat.reduceMul, Nat.reduceSub, Nat.reduceBEq, Nat.reduceLeDiff, Nat.reduceLT, Nat.reduceMod, Nat.reduceDiv, Int.reduceToNat, Int.reducePow, Int.reduceMul, Int.reduceAdd, Int.reduceSub, Int.reduceLE, Int.reduceLT, Int.reduceNeg, Int.reduceDiv, Int.reduceMod, Int.reduceEq, Int.reduceBEq, Int.reduceBNe, f11, f11b, f11r0, f11r1, f11r2, f11r3, hk, hkn, hz]
      exact .here ⟨0, by rw [hz], by rw [hb]⟩
    · have hz' : ¬ l.length ≤ 0 := by omega
      simp (disch := first | with_reducible assumption | omega) only [go_sem, Bool.true_and, Bool.and_true, Bool.and_self, Bool.false_and, Bool.and_false, Bool.true_or, Bool.or_true, Bool.false_or, Bool.or_false, ↓reduceIte, Nat.reduceEqDiff, Nat.reduceAdd, Nat.reduceMul, Nat.reduceSub, Nat.reduceBEq, Nat.reduceLeDiff, Nat.reduceLT, Nat.reduceMod, Nat.reduceDiv, Int.reduceToNat, Int.reducePow, Int.reduceMul, Int.reduceAdd, Int.reduceSub, Int.reduceLE, Int.reduceLT, Int.reduceNeg, Int.reduceDiv, Int.reduceMod, Int.reduceEq, Int.reduceBEq, Int.reduceBNe, f11, f11b, f11r0, f11r1, f11r2, f11r3, hk, hkn, hz, hz', ht, List.take_zero, List.drop_nil]
      exact .here ⟨1, rfl, rfl⟩
  · have hz : l.length = 0 := by have : c = 0 := by simpa using hn
                                 omega
    have hb : flat' ienc l = [] := by rw [List.length_eq_zero_iff.1 hz]; rfl
    simp (disch := first | with_reducible assumption | omega) only [go_sem, Bool.true_and, Bool.and_true, Bool.and_self, Bool.false_and, Bool.and_false, Bool.true_or, Bool.or_true, Bool.false_or, Bool.or_false, ↓reduceIte, Nat.reduceEqDiff, Nat.reduceAdd, Nat.reduceMul, Nat.reduceSub, Nat.reduceBEq, Nat.reduceLeDiff, Nat.reduceLT, Nat.reduceMod, Nat.reduceDiv, Int.reduceToNat, Int.reducePow, Int.reduceMul, Int.reduceAdd, Int.reduceSub, Int.reduceLE, Int.reduceLT, Int.reduceNeg, Int.reduceDiv, Int.reduceMod, Int.reduceEq, Int.reduceBEq, Int.reduceBNe, f11, f11b, f11r0, f11r1, f11r2, f11r3, hk]
    refine .ghost 1 false ⟨0, by rw [hz], by rw [hb]⟩

theorem map_mul {l : List Int} {by' : Int} (hb : 1 ≤ by' ∧ by' ≤ 20) (h : ∀ k, k < l.length → 0 ≤ l.getD k 0 ∧ l.getD k 0 ≤ 1048576) : l.map (fun x => imul .i64 x by') = l.map (· * by') := by
  refine List.map_congr_left fun x hx => ?_
  obtain ⟨k, hk, rfl⟩ := mem_getD (d := (0 : Int)) hx
  have h1 := h k hk
  have h2 := mul_bound h1.1 h1.2 (show 0 ≤ by' by omega) hb.2
  exact imul_i64 _ _ (by omega)

theorem GpsScale_args (H : Heap) (vals : List Value) (h : ArgsOk 1048576 H GpsScaleSh vals) : ACallK Try.prog 7 vals H fun v _ => v = .bool true := by
  obtain ⟨wb, _, rfl, a1, h⟩ := h.cons
  obtain ⟨ww, _, rfl, a2, h⟩ := h.cons
  obtain ⟨_, _, rfl, a3, h⟩ := h.cons
  obtain rfl := h.nil
  obtain ⟨bs, hb0, hB, hBr⟩ := IsN.ofArg a1
  obtain ⟨ws, hw0, hB2, hBr2⟩ := IsN.ofArg a2
  obtain ⟨b, rfl, _⟩ := a3.cell.int_inv
  clear a1 a2 a3 h
  refine .walkW f7_ok (by simp; decide) (by decide) ?_
  by_cases hby : 1 ≤ b ∧ b ≤ 20
  · obtain ⟨hby1, hby2⟩ := hby
    repeat' first | simp (disch := first | with_reducible assumption | omega) only [go_sem, Bool.true_and, Bool.and_true, Bool.and_self, Bool.false_and, Bool.and_false, Bool.true_or, Bool.or_true, Bool.false_or, Bool.or_false, ↓reduceIte, Nat.reduceEqDiff, Nat.reduceAdd, Nat.reduceMul, Nat.reduceSub, Nat.reduceBEq, Nat.reduceLeDiff, Nat.reduceLT, Nat.reduceMod, Nat.reduceDiv, Int.reduceToNat, Int.reducePow, Int.reduceMul, Int.reduceAdd, Int.reduceSub, Int.reduceLE, Int.reduceLT, Int.reduceNeg, Int.reduceDiv, Int.reduceMod, Int.reduceEq, Int.reduceBEq, Int.reduceBNe, f7, f7b, f7r0, f7r1, f7r2, f7r3, f7r4, f7r5, f7r6, f7r7, f7r8, f7r9, f7r10, f7r12, f7r13, f7r14, f7r15, f7r16, f7r18, f7r19, f7r20, f7r21, f7r22, f7r23, f7r24, f7r25, f7r26, f7r27, f7r28, f7r30] | (refine BrW.of (fun hb => ?_) (fun hb => ?_) <;> (have hb' := hb; try simp only [decide_eq_true_eq, decide_eq_false_iff_not, beq_iff_eq, bne_iff_ne, beq_eq_false_iff_ne, bne_eq_false_iff_eq, Bool.not_eq_true', Bool.not_eq_false', Bool.not_eq_true, Bool.not_eq_false, Bool.and_eq_true, Bool.or_eq_true, Bool.and_eq_false_iff, Bool.or_eq_false_iff, Int.not_lt, Int.not_le, ne_eq, gt_iff_lt, ge_iff_le] at hb') <;> (try (exfalso; omega))) | (refine .of ((alive _).mono ?_); rintro v H ⟨rfl, rfl⟩)
    obtain ⟨k, o, g, c, t1, rfl, hs, hc⟩ := hb0
    obtain ⟨k2, o2, g2, c2, t2, rfl, hs2, hc2⟩ := hw0
    refine .of ((CloneI_spec bs k o g c H hs (by omega) hc).mono ?_)
    rintro v _ ⟨g5, rfl, rfl⟩
    repeat' first | simp (disch := first | with_reducible assumption | omega) only [go_sem, Bool.true_and, Bool.and_true, Bool.and_self, Bool.false_and, Bool.and_false, Bool.true_or, Bool.or_true, Bool.false_or, Bool.or_false, ↓reduceIte, Nat.reduceEqDiff, Nat.reduceAdd, Nat.reduceMul, Nat.reduceSub, Nat.reduceBEq, Nat.reduceLeDiff, Nat.reduceLT, Nat.reduceMod, Nat.reduceDiv, Int.reduceToNat, Int.reducePow, Int.reduceMul, Int.reduceAdd, Int.reduceSub, Int.reduceLE, Int.reduceLT, Int.reduceNeg, Int.reduceDiv, Int.reduceMod, Int.reduceEq, Int.reduceBEq, Int.reduceBNe, f7, f7b, f7r0, f7r1, f7r2, f7r3, f7r4, f7r5, f7r6, f7r7, f7r8, f7r9, f7r10, f7r12, f7r13, f7r14, f7r15, f7r16, f7r18, f7r19, f7r20, f7r21, f7r22, f7r23, f7r24, f7r25, f7r26, f7r27, f7r28, f7r30] | (refine BrW.of (fun hb => ?_) (fun hb => ?_) <;> (have hb' := hb; try simp only [decide_eq_true_eq, decide_eq_false_iff_not, beq_iff_eq, bne_iff_ne, beq_eq_false_iff_ne, bne_eq_false_iff_eq, Bool.not_eq_true', Bool.not_eq_false', Bool.not_eq_true, Bool.not_eq_false, Bool.and_eq_true, Bool.or_eq_true, Bool.and_eq_false_iff, Bool.or_eq_false_iff, Int.not_lt, Int.not_le, ne_eq, gt_iff_lt, ge_iff_le] at hb') <;> (try (exfalso; omega)))
    refine .of ((CloneI_spec ws k2 o2 g2 c2 _ (hs2.app _) (by omega) hc2).mono ?_)
    rintro v _ ⟨g6, rfl, rfl⟩
    simp only [flat'_ienc, heap_assoc, len_app, List.cons_append, List.nil_append, List.length_cons, List.length_nil, Nat.zero_add]
    repeat' first | simp (disch := first | with_reducible assumption | omega) only [go_sem, Bool.true_and, Bool.and_true, Bool.and_self, Bool.false_and, Bool.and_false, Bool.true_or, Bool.or_true, Bool.false_or, Bool.or_false, ↓reduceIte, Nat.reduceEqDiff, Nat.reduceAdd, Nat.reduceMul, Nat.reduceSub, Nat.reduceBEq, Nat.reduceLeDiff, Nat.reduceLT, Nat.reduceMod, Nat.reduceDiv, Int.reduceToNat, Int.reducePow, Int.reduceMul, Int.reduceAdd, Int.reduceSub, Int.reduceLE, Int.reduceLT, Int.reduceNeg, Int.reduceDiv, Int.reduceMod, Int.reduceEq, Int.reduceBEq, Int.reduceBNe, f7, f7b, f7r0, f7r1, f7r2, f7r3, f7r4, f7r5, f7r6, f7r7, f7r8, f7r9, f7r10, f7r12, f7r13, f7r14, f7r15, f7r16, f7r18, f7r19, f7r20, f7r21, f7r22, f7r23, f7r24, f7r25, f7r26, f7r27, f7r28, f7r30] | (refine BrW.of (fun hb => ?_) (fun hb => ?_) <;> (have hb' := hb; try simp only [decide_eq_true_eq, decide_eq_false_iff_not, beq_iff_eq, bne_iff_ne, beq_eq_false_iff_ne, bne_eq_false_iff_eq, Bool.not_eq_true', Bool.not_eq_false', Bool.not_eq_true, Bool.not_eq_false, Bool.and_eq_true, Bool.or_eq_true, Bool.and_eq_false_iff, Bool.or_eq_false_iff, Int.not_lt, Int.not_le, ne_eq, gt_iff_lt, ge_iff_le] at hb') <;> (try (exfalso; omega)))
    refine loopW.of (by decide) (fun m e J => ∃ i : Nat, e = [(0, slv k o g bs.length c), (1, slv k2 o2 g2 ws.length c2), (2, .int .i64 b), (7, slv H.length 0 g5 bs.length bs.length), (8, slv (H.length + 1) 0 g6 ws.length ws.length), (31, .int .i64 bs.length), (32, .int .i64 i)] ∧
      J = H ++ [.cells g5 1 false (ints (upd (fun x => imul .i64 x b) bs i)), .cells g6 1 false (ints ws)] ∧ i ≤ bs.length ∧ m = bs.length - i) bs.length ⟨0, rfl, by rw [upd_zero], by omega, rfl⟩ ?_
    rintro m e J ⟨i, rfl, rfl, hi, rfl⟩
    by_cases hlt : i < bs.length
    · have e0 := ints_get (upd (fun x => imul .i64 x b) bs i) i (by rw [upd_len]; exact hlt)
      rw [upd_get _ _ 0 i hlt] at e0
      have e1 := ints_set (upd (fun x => imul .i64 x b) bs i) i (imul .i64 (bs.getD i 0) b)
      rw [upd_succ (fun x => imul .i64 x b) bs 0 i hlt] at e1
      have e2 := ints_length (upd (fun x => imul .i64 x b) bs i)
      rw [upd_len] at e2
      generalize hU1 : ints (upd (fun x => imul .i64 x b) bs i) = U1 at *
      generalize hU2 : ints (upd (fun x => imul .i64 x b) bs (i + 1)) = U2 at *
      clear hU1 hs hs2 hBr hBr2
      generalize bs.getD i 0 = x at *
      generalize hY : imul .i64 x b = y at *
      repeat' first | simp (disch := first | with_reducible assumption | omega) only [go_sem, Bool.true_and, Bool.and_true, Bool.and_self, Bool.false_and, Bool.and_false, Bool.true_or, Bool.or_true, Bool.false_or, Bool.or_false, ↓reduceIte, Nat.reduceEqDiff, Nat.reduceAdd, Nat.reduceMul, Nat.reduceSub, Nat.reduceBEq, Nat.reduceLeDiff, Nat.reduceLT, Nat.reduceMod, Nat.reduceDiv, Int.reduceToNat, Int.reducePow, Int.reduceMul, Int.reduceAdd, Int.reduceSub, Int.reduceLE, Int.reduceLT, Int.reduceNeg, Int.reduceDiv, Int.reduceMod, Int.reduceEq, Int.reduceBEq, Int.reduceBNe, f7, f7b, f7r0, f7r1, f7r2, f7r3, f7r4, f7r5, f7r6, f7r7, f7r8, f7r9, f7r10, f7r12, f7r13, f7r14, f7r15, f7r16, f7r18, f7r19, f7r20, f7r21, f7r22, f7r23, f7r24, f7r25, f7r26, f7r27, f7r28, f7r30, f7l0, e0, e1, e2, hY] | (refine BrW.of (fun hb => ?_) (fun hb => ?_) <;> (have hb' := hb; try simp only [decide_eq_true_eq, decide_eq_false_iff_not, beq_iff_eq, bne_iff_ne, beq_eq_false_iff_ne, bne_eq_false_iff_eq, Bool.not_eq_true', Bool.not_eq_false', Bool.not_eq_true, Bool.not_eq_false, Bool.and_eq_true, Bool.or_eq_true, Bool.and_eq_false_iff, Bool.or_eq_false_iff, Int.not_lt, Int.not_le, ne_eq, gt_iff_lt, ge_iff_le] at hb') <;> (try (exfalso; omega)))
      refine RdW.keep [0, 1, 2, 7, 8, 31, 32] (bs.length - (i + 1)) (by omega) ?_
      simp (disch := first | with_reducible assumption | omega) only [go_sem, Bool.true_and, Bool.and_true, Bool.and_self, Bool.false_and, Bool.and_false, Bool.true_or, Bool.or_true, Bool.false_or, Bool.or_false, ↓reduceIte, Nat.reduceEqDiff, Nat.reduceAdd, Nat.reduceMul, Nat.reduceSub, Nat.reduceBEq, Nat.reduceLeDiff, Nat.reduceLT, Nat.reduceMod, Nat.reduceDiv, Int.reduceToNat, Int.reducePow, Int.reduceMul, Int.reduceAdd, Int.reduceSub, Int.reduceLE, Int.reduceLT, Int.reduceNeg, Int.reduceDiv, Int.reduceMod, Int.reduceEq, Int.reduceBEq, Int.reduceBNe]
      exact ⟨i + 1, rfl, by rw [hU2], by omega, rfl⟩
    · obtain rfl : i = bs.length := by omega
      rw [upd_all]
      repeat' first | simp (disch := first | with_reducible assumption | omega) only [go_sem, Bool.true_and, Bool.and_true, Bool.and_self, Bool.false_and, Bool.and_false, Bool.true_or, Bool.or_true, Bool.false_or, Bool.or_false, ↓reduceIte, Nat.reduceEqDiff, Nat.reduceAdd, Nat.reduceMul, Nat.reduceSub, Nat.reduceBEq, Nat.reduceLeDiff, Nat.reduceLT, Nat.reduceMod, Nat.reduceDiv, Int.reduceToNat, Int.reducePow, Int.reduceMul, Int.reduceAdd, Int.reduceSub, Int.reduceLE, Int.reduceLT, Int.reduceNeg, Int.reduceDiv, Int.reduceMod, Int.reduceEq, Int.reduceBEq, Int.reduceBNe, f7, f7b, f7r0, f7r1, f7r2, f7r3, f7r4, f7r5, f7r6, f7r7, f7r8, f7r9, f7r10, f7r12, f7r13, f7r14, f7r15, f7r16, f7r18, f7r19, f7r20, f7r21, f7r22, f7r23, f7r24, f7r25, f7r26, f7r27, f7r28, f7r30, f7l0, f7, f7b, f7r0, f7r1, f7r2, f7r3, f7r4, f7r5, f7r6, f7r7, f7r8, f7r9, f7r10, f7r12, f7r13, f7r14, f7r15, f7r16, f7r18, f7r19, f7r20, f7r21, f7r22, f7r23, f7r24, f7r25, f7r26, f7r27, f7r28, f7r30] | (refine BrW.of (fun hb => ?_) (fun hb => ?_) <;> (have hb' := hb; try simp only [decide_eq_true_eq, decide_eq_false_iff_not, beq_iff_eq, bne_iff_ne, beq_eq_false_iff_ne, bne_eq_false_iff_eq, Bool.not_eq_true', Bool.not_eq_false', Bool.not_eq_true, Bool.not_eq_false, Bool.and_eq_true, Bool.or_eq_true, Bool.and_eq_false_iff, Bool.or_eq_false_iff, Int.not_lt, Int.not_le, ne_eq, gt_iff_lt, ge_iff_le] at hb') <;> (try (exfalso; omega)))
      refine loopW.of (by decide) (fun m e J => ∃ i : Nat, e = [(0, slv k o g bs.length c), (1, slv k2 o2 g2 ws.length c2), (2, .int .i64 b), (7, slv H.length 0 g5 bs.length bs.length), (8, slv (H.length + 1) 0 g6 ws.length ws.length), (44, .int .i64 ws.length), (45, .int .i64 i)] ∧
        J = H ++ [.cells g5 1 false (ints (bs.map fun x => imul .i64 x b)), .cells g6 1 false (ints (upd (fun x => imul .i64 x b) ws i))] ∧ i ≤ ws.length ∧ m = ws.length - i) ws.length ⟨0, rfl, by rw [upd_zero], by omega, rfl⟩ ?_
      rintro m e J ⟨i, rfl, rfl, hi, rfl⟩
      generalize hBM : ints (bs.map fun x => imul .i64 x b) = BM at *
      by_cases hlt : i < ws.length
      · have e0 := ints_get (upd (fun x => imul .i64 x b) ws i) i (by rw [upd_len]; exact hlt)
        rw [upd_get _ _ 0 i hlt] at e0
        have e1 := ints_set (upd (fun x => imul .i64 x b) ws i) i (imul .i64 (ws.getD i 0) b)
        rw [upd_succ (fun x => imul .i64 x b) ws 0 i hlt] at e1
        have e2 := ints_length (upd (fun x => imul .i64 x b) ws i)
        rw [upd_len] at e2
        generalize hU1 : ints (upd (fun x => imul .i64 x b) ws i) = U1 at *
        generalize hU2 : ints (upd (fun x => imul .i64 x b) ws (i + 1)) = U2 at *
        clear hU1 hs hs2 hBr hBr2 hBM
        generalize ws.getD i 0 = x at *
        generalize hY : imul .i64 x b = y at *
        repeat' first | simp (disch := first | with_reducible assumption | omega) only [go_sem, Bool.true_and, Bool.and_true, Bool.and_self, Bool.false_and, Bool.and_false, Bool.true_or, Bool.or_true, Bool.false_or, Bool.or_false, ↓reduceIte, Nat.reduceEqDiff, Nat.reduceAdd, Nat.reduceMul, Nat.reduceSub, Nat.reduceBEq, Nat.reduceLeDiff, Nat.reduceLT, Nat.reduceMod, Nat.reduceDiv, Int.reduceToNat, Int.reducePow, Int.reduceMul, Int.reduceAdd, Int.reduceSub, Int.reduceLE, Int.reduceLT, Int.reduceNeg, Int.reduceDiv, Int.reduceMod, Int.reduceEq, Int.reduceBEq, Int.reduceBNe, f7, f7b, f7r0, f7r1, f7r2, f7r3, f7r4, f7r5, f7r6, f7r7, f7r8, f7r9, f7r10, f7r12, f7r13, f7r14, f7r15, f7r16, f7r18, f7r19, f7r20, f7r21, f7r22, f7r23, f7r24, f7r25, f7r26, f7r27, f7r28, f7r30, f7l1, e0, e1, e2, hY] | (refine BrW.of (fun hb => ?_) (fun hb => ?_) <;> (have hb' := hb; try simp only [decide_eq_true_eq, decide_eq_false_iff_not, beq_iff_eq, bne_iff_ne, beq_eq_false_iff_ne, bne_eq_false_iff_eq, Bool.not_eq_true', Bool.not_eq_false', Bool.not_eq_true, Bool.not_eq_false, Bool.and_eq_true, Bool.or_eq_true, Bool.and_eq_false_iff, Bool.or_eq_false_iff, Int.not_lt, Int.not_le, ne_eq, gt_iff_lt, ge_iff_le] at hb') <;> (try (exfalso; omega)))
        refine RdW.keep [0, 1, 2, 7, 8, 44, 45] (ws.length - (i + 1)) (by omega) ?_
        simp (disch := first | with_reducible assumption | omega) only [go_sem, Bool.true_and, Bool.and_true, Bool.and_self, Bool.false_and, Bool.and_false, Bool.true_or, Bool.or_true, Bool.false_or, Bool.or_false, ↓reduceIte, Nat.reduceEqDiff, Nat.reduceAdd, Nat.reduceMul, Nat.reduceSub, Nat.reduceBEq, Nat.reduceLeDiff, Nat.reduceLT, Nat.reduceMod, Nat.reduceDiv, Int.reduceToNat, Int.reducePow, Int.reduceMul, Int.reduceAdd, Int.reduceSub, Int.reduceLE, Int.reduceLT, Int.reduceNeg, Int.reduceDiv, Int.reduceMod, Int.reduceEq, Int.reduceBEq, Int.reduceBNe]
        exact ⟨i + 1, rfl, by rw [hU2], by omega, rfl⟩
      · obtain rfl : i = ws.length := by omega
        rw [upd_all]
        generalize hWM : ints (ws.map fun x => imul .i64 x b) = WM at *
        have hb0 : IsN (fun _ => True) (H ++ [.cells g5 1 false BM, .cells g6 1 false WM]) (slv k o g bs.length c) bs := ⟨k, o, g, c, trivial, rfl, hs.app _, hc⟩
        have hw0 : IsN (fun _ => True) (H ++ [.cells g5 1 false BM, .cells g6 1 false WM]) (slv k2 o2 g2 ws.length c2) ws := ⟨k2, o2, g2, c2, trivial, rfl, hs2.app _, hc2⟩
        have hb5 : IsN (fun _ => True) (H ++ [.cells g5 1 false BM, .cells g6 1 false WM]) (slv H.length 0 g5 bs.length bs.length) (bs.map fun x => imul .i64 x b) :=
          ⟨H.length, 0, g5, bs.length, trivial, by rw [List.length_map], Ints.new _ _ _ false _ (by rw [hBM]; exact get_new0 _ _ _), by rw [List.length_map]; exact Nat.le_refl _⟩
        have hw5 : IsN (fun _ => True) (H ++ [.cells g5 1 false BM, .cells g6 1 false WM]) (slv (H.length + 1) 0 g6 ws.length ws.length) (ws.map fun x => imul .i64 x b) :=
          ⟨H.length + 1, 0, g6, ws.length, trivial, by rw [List.length_map], Ints.new _ _ _ false _ (by rw [hWM, get_new]; rfl), by rw [List.length_map]; exact Nat.le_refl _⟩
        generalize H ++ [.cells g5 1 false BM, .cells g6 1 false WM] = G0 at *
        clear hs hs2 hBM hWM
        repeat' first | simp (disch := first | with_reducible assumption | omega) only [go_sem, Bool.true_and, Bool.and_true, Bool.and_self, Bool.false_and, Bool.and_false, Bool.true_or, Bool.or_true, Bool.false_or, Bool.or_false, ↓reduceIte, Nat.reduceEqDiff, Nat.reduceAdd, Nat.reduceMul, Nat.reduceSub, Nat.reduceBEq, Nat.reduceLeDiff, Nat.reduceLT, Nat.reduceMod, Nat.reduceDiv, Int.reduceToNat, Int.reducePow, Int.reduceMul, Int.reduceAdd, Int.reduceSub, Int.reduceLE, Int.reduceLT, Int.reduceNeg, Int.reduceDiv, Int.reduceMod, Int.reduceEq, Int.reduceBEq, Int.reduceBNe, f7, f7b, f7r0, f7r1, f7r2, f7r3, f7r4, f7r5, f7r6, f7r7, f7r8, f7r9, f7r10, f7r12, f7r13, f7r14, f7r15, f7r16, f7r18, f7r19, f7r20, f7r21, f7r22, f7r23, f7r24, f7r25, f7r26, f7r27, f7r28, f7r30, f7l1, f7, f7b, f7r0, f7r1, f7r2, f7r3, f7r4, f7r5, f7r6, f7r7, f7r8, f7r9, f7r10, f7r12, f7r13, f7r14, f7r15, f7r16, f7r18, f7r19, f7r20, f7r21, f7r22, f7r23, f7r24, f7r25, f7r26, f7r27, f7r28, f7r30] | (refine BrW.of (fun hb => ?_) (fun hb => ?_) <;> (have hb' := hb; try simp only [decide_eq_true_eq, decide_eq_false_iff_not, beq_iff_eq, bne_iff_ne, beq_eq_false_iff_ne, bne_eq_false_iff_eq, Bool.not_eq_true', Bool.not_eq_false', Bool.not_eq_true, Bool.not_eq_false, Bool.and_eq_true, Bool.or_eq_true, Bool.and_eq_false_iff, Bool.or_eq_false_iff, Int.not_lt, Int.not_le, ne_eq, gt_iff_lt, ge_iff_le] at hb') <;> (try (exfalso; omega)))
        refine .of ((End_spec bs ws _ _ _ _ _ hb0 hw0 (by omega) (by omega)).mono ?_)
        rintro v G1 ⟨a, e, rfl, hLe1, he, hn, hy⟩
        have hb1 := hb0.le hLe1
        have hw5 := hw5.le hLe1
        repeat' first | simp (disch := first | with_reducible assumption | omega) only [go_sem, Bool.true_and, Bool.and_true, Bool.and_self, Bool.false_and, Bool.and_false, Bool.true_or, Bool.or_true, Bool.false_or, Bool.or_false, ↓reduceIte, Nat.reduceEqDiff, Nat.reduceAdd, Nat.reduceMul, Nat.reduceSub, Nat.reduceBEq, Nat.reduceLeDiff, Nat.reduceLT, Nat.reduceMod, Nat.reduceDiv, Int.reduceToNat, Int.reducePow, Int.reduceMul, Int.reduceAdd, Int.reduceSub, Int.reduceLE, Int.reduceLT, Int.reduceNeg, Int.reduceDiv, Int.reduceMod, Int.reduceEq, Int.reduceBEq, Int.reduceBNe, f7, f7b, f7r0, f7r1, f7r2, f7r3, f7r4, f7r5, f7r6, f7r7, f7r8, f7r9, f7r10, f7r12, f7r13, f7r14, f7r15, f7r16, f7r18, f7r19, f7r20, f7r21, f7r22, f7r23, f7r24, f7r25, f7r26, f7r27, f7r28, f7r30] | (refine BrW.of (fun hb => ?_) (fun hb => ?_) <;> (have hb' := hb; try simp only [decide_eq_true_eq, decide_eq_false_iff_not, beq_iff_eq, bne_iff_ne, beq_eq_false_iff_ne, bne_eq_false_iff_eq, Bool.not_eq_true', Bool.not_eq_false', Bool.not_eq_true, Bool.not_eq_false, Bool.and_eq_true, Bool.or_eq_true, Bool.and_eq_false_iff, Bool.or_eq_false_iff, Int.not_lt, Int.not_le, ne_eq, gt_iff_lt, ge_iff_le] at hb') <;> (try (exfalso; omega)))
        refine .of ((End_spec bs _ _ _ _ _ _ hb1 hw5 (by omega) (by rw [List.length_map]; omega)).mono ?_)
        rintro v G2 ⟨x, f, rfl, hLe2, hf, hn2, hy2⟩
        have hb5 := (hb5.le hLe1).le hLe2
        have hw1 := (hw0.le hLe1).le hLe2
        repeat' first | simp (disch := first | with_reducible assumption | omega) only [go_sem, Bool.true_and, Bool.and_true, Bool.and_self, Bool.false_and, Bool.and_false, Bool.true_or, Bool.or_true, Bool.false_or, Bool.or_false, ↓reduceIte, Nat.reduceEqDiff, Nat.reduceAdd, Nat.reduceMul, Nat.reduceSub, Nat.reduceBEq, Nat.reduceLeDiff, Nat.reduceLT, Nat.reduceMod, Nat.reduceDiv, Int.reduceToNat, Int.reducePow, Int.reduceMul, Int.reduceAdd, Int.reduceSub, Int.reduceLE, Int.reduceLT, Int.reduceNeg, Int.reduceDiv, Int.reduceMod, Int.reduceEq, Int.reduceBEq, Int.reduceBNe, f7, f7b, f7r0, f7r1, f7r2, f7r3, f7r4, f7r5, f7r6, f7r7, f7r8, f7r9, f7r10, f7r12, f7r13, f7r14, f7r15, f7r16, f7r18, f7r19, f7r20, f7r21, f7r22, f7r23, f7r24, f7r25, f7r26, f7r27, f7r28, f7r30] | (refine BrW.of (fun hb => ?_) (fun hb => ?_) <;> (have hb' := hb; try simp only [decide_eq_true_eq, decide_eq_false_iff_not, beq_iff_eq, bne_iff_ne, beq_eq_false_iff_ne, bne_eq_false_iff_eq, Bool.not_eq_true', Bool.not_eq_false', Bool.not_eq_true, Bool.not_eq_false, Bool.and_eq_true, Bool.or_eq_true, Bool.and_eq_false_iff, Bool.or_eq_false_iff, Int.not_lt, Int.not_le, ne_eq, gt_iff_lt, ge_iff_le] at hb') <;> (try (exfalso; omega)))
        refine .of ((End_spec _ ws _ _ _ _ _ hb5 hw1 (by rw [List.length_map]; omega) (by omega)).mono ?_)
        rintro v G3 ⟨y, p, rfl, hLe3, hp, hn3, hy3⟩
        clear hb0 hw0 hb1 hw5 hb5 hw1 hBr hBr2
        by_cases z : e = 0
        · have hok := he.1 z
          have hl16 := hok.2.1
          have hll := hok.1
          have hA := ((hy z).le hLe2).le hLe3
          have hX := fun z => (hy2 z).le hLe3
          have hmb := map_mul ⟨hby1, hby2⟩ (l := bs) (fun k hk => (hok.2.2 k hk).1)
          have hmw := map_mul ⟨hby1, hby2⟩ (l := ws) (fun k hk => by have := (hok.2.2 k (by omega)).2; omega)
          rw [hmw] at hX
          rw [hmb] at hy3
          rw [List.length_map] at hy3
          subst z
          have htl := tbE_len bs ws bs.length
          have htl2 := tbE_len bs (ws.map (· * b)) bs.length
          have htl3 := tbE_len (bs.map (· * b)) ws bs.length
          obtain ⟨k7, o7, g7, c7, _, rfl, hs7, hc7⟩ := hA
          obtain ⟨ro7, cs7, hk7, hcl7, hcs7⟩ := Ints.cell hs7
          rw [htl] at hcl7 hcs7 hc7
          have hEw := fun i => endK_w (bs := bs) (ws := ws) (by' := b) (by omega) i
          have hEb := fun i => endK_b (bs := bs) (ws := ws) (by' := b) (by omega) i
          have hXc : f = 0 → ∃ kx ox gx cx rox csx, x = slv kx ox gx bs.length cx ∧ G3[kx]? = some (.cells gx 1 rox csx) ∧ ∀ i, i < bs.length → csx[ox + i]? = some (.int .i64 (b * endK bs ws i)) := fun h => by
            obtain ⟨k8, o8, g8, c8, _, hx, hs8, _⟩ := hX h
            obtain ⟨ro8, cs8, hk8, _, hcs8⟩ := Ints.cell hs8
            refine ⟨k8, o8, g8, c8, ro8, cs8, by rw [hx, htl2], hk8, fun i hi => ?_⟩
            have := hcs8 i (by omega)
            rwa [tbE_get _ _ _ i hi, hEw] at this
          have hYc : p = 0 → ∃ kx ox gx cx rox csx, y = slv kx ox gx bs.length cx ∧ G3[kx]? = some (.cells gx 1 rox csx) ∧ ∀ i, i < bs.length → csx[ox + i]? = some (.int .i64 (b * endK bs ws i)) := fun h => by
            obtain ⟨k8, o8, g8, c8, _, hx, hs8, _⟩ := hy3 h
            obtain ⟨ro8, cs8, hk8, _, hcs8⟩ := Ints.cell hs8
            refine ⟨k8, o8, g8, c8, ro8, cs8, by rw [hx, htl3], hk8, fun i hi => ?_⟩
            have := hcs8 i (by omega)
            rwa [tbE_get _ _ _ i hi, hEb] at this
          clear hX hy3 hEw hEb hy hy2 hn hn2 hn3 he hf hp hmb hmw htl2 htl3
          rw [htl]
          have hne : ∀ n : Int, (n != n) = false := fun n => by simp
          repeat' first | simp (disch := first | with_reducible assumption | omega) only [go_sem, Bool.true_and, Bool.and_true, Bool.and_self, Bool.false_and, Bool.and_false, Bool.true_or, Bool.or_true, Bool.false_or, Bool.or_false, ↓reduceIte, Nat.reduceEqDiff, Nat.reduceAdd, Nat.reduceMul, Nat.reduceSub, Nat.reduceBEq, Nat.reduceLeDiff, Nat.reduceLT, Nat.reduceMod, Nat.reduceDiv, Int.reduceToNat, Int.reducePow, Int.reduceMul, Int.reduceAdd, Int.reduceSub, Int.reduceLE, Int.reduceLT, Int.reduceNeg, Int.reduceDiv, Int.reduceMod, Int.reduceEq, Int.reduceBEq, Int.reduceBNe, f7, f7b, f7r0, f7r1, f7r2, f7r3, f7r4, f7r5, f7r6, f7r7, f7r8, f7r9, f7r10, f7r12, f7r13, f7r14, f7r15, f7r16, f7r18, f7r19, f7r20, f7r21, f7r22, f7r23, f7r24, f7r25, f7r26, f7r27, f7r28, f7r30, hk7] | (refine BrW.of (fun hb => ?_) (fun hb => ?_) <;> (have hb' := hb; try simp only [decide_eq_true_eq, decide_eq_false_iff_not, beq_iff_eq, bne_iff_ne, beq_eq_false_iff_ne, bne_eq_false_iff_eq, Bool.not_eq_true', Bool.not_eq_false', Bool.not_eq_true, Bool.not_eq_false, Bool.and_eq_true, Bool.or_eq_true, Bool.and_eq_false_iff, Bool.or_eq_false_iff, Int.not_lt, Int.not_le, ne_eq, gt_iff_lt, ge_iff_le] at hb') <;> (try (exfalso; omega)))
          refine loopW.of (by decide) (fun m e J => ∃ i : Nat, e = [(2, .int .i64 b), (11, slv k7 o7 g7 bs.length c7), (13, x), (14, .int .i64 f), (15, y), (16, .int .i64 p), (80, .int .i64 bs.length), (81, .int .i64 i)] ∧ J = G3 ∧ i ≤ bs.length ∧ m = bs.length - i) bs.length ⟨0, rfl, rfl, by omega, rfl⟩ ?_
          rintro m e J ⟨i, rfl, rfl, hi, rfl⟩
          by_cases hlt : i < bs.length
          · have e7 := hcs7 i hlt
            rw [tbE_get _ _ _ i hlt] at e7
            have hE := endK_bound hok hlt
            have hEm := mul_bound (show 0 ≤ b by omega) hby2 hE.1 hE.2
            by_cases zf : f = 0
            · obtain ⟨kx, ox, gx, cx, rox, csx, rfl, hkx, hcx⟩ := hXc zf
              have ex := hcx i hlt
              subst zf
              by_cases zp : p = 0
              · obtain ⟨ky, oy, gy, cy, roy, csy, rfl, hky, hcy⟩ := hYc zp
                have ey := hcy i hlt
                subst zp
                clear hXc hYc hcx hcy hcs7
                generalize endK bs ws i = E at *
                repeat' first | simp (disch := first | with_reducible assumption | omega) only [go_sem, Bool.true_and, Bool.and_true, Bool.and_self, Bool.false_and, Bool.and_false, Bool.true_or, Bool.or_true, Bool.false_or, Bool.or_false, ↓reduceIte, Nat.reduceEqDiff, Nat.reduceAdd, Nat.reduceMul, Nat.reduceSub, Nat.reduceBEq, Nat.reduceLeDiff, Nat.reduceLT, Nat.reduceMod, Nat.reduceDiv, Int.reduceToNat, Int.reducePow, Int.reduceMul, Int.reduceAdd, Int.reduceSub, Int.reduceLE, Int.reduceLT, Int.reduceNeg, Int.reduceDiv, Int.reduceMod, Int.reduceEq, Int.reduceBEq, Int.reduceBNe, f7, f7b, f7r0, f7r1, f7r2, f7r3, f7r4, f7r5, f7r6, f7r7, f7r8, f7r9, f7r10, f7r12, f7r13, f7r14, f7r15, f7r16, f7r18, f7r19, f7r20, f7r21, f7r22, f7r23, f7r24, f7r25, f7r26, f7r27, f7r28, f7r30, f7l2, hk7, hkx, hky, e7, ex, ey, hne] | (refine BrW.of (fun hb => ?_) (fun hb => ?_) <;> (have hb' := hb; try simp only [decide_eq_true_eq, decide_eq_false_iff_not, beq_iff_eq, bne_iff_ne, beq_eq_false_iff_ne, bne_eq_false_iff_eq, Bool.not_eq_true', Bool.not_eq_false', Bool.not_eq_true, Bool.not_eq_false, Bool.and_eq_true, Bool.or_eq_true, Bool.and_eq_false_iff, Bool.or_eq_false_iff, Int.not_lt, Int.not_le, ne_eq, gt_iff_lt, ge_iff_le] at hb') <;> (try (exfalso; omega)))
                refine RdW.keep [2, 11, 13, 14, 15, 16, 80, 81] (bs.length - (i + 1)) (by omega) ?_
                simp (disch := first | with_reducible assumption | omega) only [go_sem, Bool.true_and, Bool.and_true, Bool.and_self, Bool.false_and, Bool.and_false, Bool.true_or, Bool.or_true, Bool.false_or, Bool.or_false, ↓reduceIte, Nat.reduceEqDiff, Nat.reduceAdd, Nat.reduceMul, Nat.reduceSub, Nat.reduceBEq, Nat.reduceLeDiff, Nat.reduceLT, Nat.reduceMod, Nat.reduceDiv, Int.reduceToNat, Int.reducePow, Int.reduceMul, Int.reduceAdd, Int.reduceSub, Int.reduceLE, Int.reduceLT, Int.reduceNeg, Int.reduceDiv, Int.reduceMod, Int.reduceEq, Int.reduceBEq, Int.reduceBNe]
                exact ⟨i + 1, rfl, by omega, rfl⟩
              · have zp' : (p == 0) = false := by simpa using zp
                clear hXc hYc hcx hcs7
                generalize endK bs ws i = E at *
                repeat' first | simp (disch := first | with_reducible assumption | omega) only [go_sem, Bool.true_and, Bool.and_true, Bool.and_self, Bool.false_and, Bool.and_false, Bool.true_or, Bool.or_true, Bool.false_or, Bool.or_false, ↓reduceIte, Nat.reduceEqDiff, Nat.reduceAdd, Nat.reduceMul, Nat.reduceSub, Nat.reduceBEq, Nat.reduceLeDiff, Nat.reduceLT, Nat.reduceMod, Nat.reduceDiv, Int.reduceToNat, Int.reducePow, Int.reduceMul, Int.reduceAdd, Int.reduceSub, Int.reduceLE, Int.reduceLT, Int.reduceNeg, Int.reduceDiv, Int.reduceMod, Int.reduceEq, Int.reduceBEq, Int.reduceBNe, f7, f7b, f7r0, f7r1, f7r2, f7r3, f7r4, f7r5, f7r6, f7r7, f7r8, f7r9, f7r10, f7r12, f7r13, f7r14, f7r15, f7r16, f7r18, f7r19, f7r20, f7r21, f7r22, f7r23, f7r24, f7r25, f7r26, f7r27, f7r28, f7r30, f7l2, hk7, hkx, e7, ex, hne, zp'] | (refine BrW.of (fun hb => ?_) (fun hb => ?_) <;> (have hb' := hb; try simp only [decide_eq_true_eq, decide_eq_false_iff_not, beq_iff_eq, bne_iff_ne, beq_eq_false_iff_ne, bne_eq_false_iff_eq, Bool.not_eq_true', Bool.not_eq_false', Bool.not_eq_true, Bool.not_eq_false, Bool.and_eq_true, Bool.or_eq_true, Bool.and_eq_false_iff, Bool.or_eq_false_iff, Int.not_lt, Int.not_le, ne_eq, gt_iff_lt, ge_iff_le] at hb') <;> (try (exfalso; omega)))
                refine RdW.keep [2, 11, 13, 14, 15, 16, 80, 81] (bs.length - (i + 1)) (by omega) ?_
                simp (disch := first | with_reducible assumption | omega) only [go_sem, Bool.true_and, Bool.and_true, Bool.and_self, Bool.false_and, Bool.and_false, Bool.true_or, Bool.or_true, Bool.false_or, Bool.or_false, ↓reduceIte, Nat.reduceEqDiff, Nat.reduceAdd, Nat.reduceMul, Nat.reduceSub, Nat.reduceBEq, Nat.reduceLeDiff, Nat.reduceLT, Nat.reduceMod, Nat.reduceDiv, Int.reduceToNat, Int.reducePow, Int.reduceMul, Int.reduceAdd, Int.reduceSub, Int.reduceLE, Int.reduceLT, Int.reduceNeg, Int.reduceDiv, Int.reduceMod, Int.reduceEq, Int.reduceBEq, Int.reduceBNe]
                exact ⟨i + 1, rfl, by omega, rfl⟩
            · have zf' : (f == 0) = false := by simpa using zf
              by_cases zp : p = 0
              · obtain ⟨ky, oy, gy, cy, roy, csy, rfl, hky, hcy⟩ := hYc zp
                have ey := hcy i hlt
                subst zp
                clear hXc hYc hcy hcs7
                generalize endK bs ws i = E at *
                repeat' first | simp (disch := first | with_reducible assumption | omega) only [go_sem, Bool.true_and, Bool.and_true, Bool.and_self, Bool.false_and, Bool.and_false, Bool.true_or, Bool.or_true, Bool.false_or, Bool.or_false, ↓reduceIte, Nat.reduceEqDiff, Nat.reduceAdd, Nat.reduceMul, Nat.reduceSub, Nat.reduceBEq, Nat.reduceLeDiff, Nat.reduceLT, Nat.reduceMod, Nat.reduceDiv, Int.reduceToNat, Int.reducePow, Int.reduceMul, Int.reduceAdd, Int.reduceSub, Int.reduceLE, Int.reduceLT, Int.reduceNeg, Int.reduceDiv, Int.reduceMod, Int.reduceEq, Int.reduceBEq, Int.reduceBNe, f7, f7b, f7r0, f7r1, f7r2, f7r3, f7r4, f7r5, f7r6, f7r7, f7r8, f7r9, f7r10, f7r12, f7r13, f7r14, f7r15, f7r16, f7r18, f7r19, f7r20, f7r21, f7r22, f7r23, f7r24, f7r25, f7r26, f7r27, f7r28, f7r30, f7l2, hk7, hky, e7, ey, hne, zf'] | (refine BrW.of (fun hb => ?_) (fun hb => ?_) <;> (have hb' := hb; try simp only [decide_eq_true_eq, decide_eq_false_iff_not, beq_iff_eq, bne_iff_ne, beq_eq_false_iff_ne, bne_eq_false_iff_eq, Bool.not_eq_true', Bool.not_eq_false', Bool.not_eq_true, Bool.not_eq_false, Bool.and_eq_true, Bool.or_eq_true, Bool.and_eq_false_iff, Bool.or_eq_false_iff, Int.not_lt, Int.not_le, ne_eq, gt_iff_lt, ge_iff_le] at hb') <;> (try (exfalso; omega)))
                refine RdW.keep [2, 11, 13, 14, 15, 16, 80, 81] (bs.length - (i + 1)) (by omega) ?_
                simp (disch := first | with_reducible assumption | omega) only [go_sem, Bool.true_and, Bool.and_true, Bool.and_self, Bool.false_and, Bool.and_false, Bool.true_or, Bool.or_true, Bool.false_or, Bool.or_false, ↓reduceIte, Nat.reduceEqDiff, Nat.reduceAdd, Nat.reduceMul, Nat.reduceSub, Nat.reduceBEq, Nat.reduceLeDiff, Nat.reduceLT, Nat.reduceMod, Nat.reduceDiv, Int.reduceToNat, Int.reducePow, Int.reduceMul, Int.reduceAdd, Int.reduceSub, Int.reduceLE, Int.reduceLT, Int.reduceNeg, Int.reduceDiv, Int.reduceMod, Int.reduceEq, Int.reduceBEq, Int.reduceBNe]
                exact ⟨i + 1, rfl, by omega, rfl⟩
              · have zp' : (p == 0) = false := by simpa using zp
                clear hXc hYc hcs7
                generalize endK bs ws i = E at *
                repeat' first | simp (disch := first | with_reducible assumption | omega) only [go_sem, Bool.true_and, Bool.and_true, Bool.and_self, Bool.false_and, Bool.and_false, Bool.true_or, Bool.or_true, Bool.false_or, Bool.or_false, ↓reduceIte, Nat.reduceEqDiff, Nat.reduceAdd, Nat.reduceMul, Nat.reduceSub, Nat.reduceBEq, Nat.reduceLeDiff, Nat.reduceLT, Nat.reduceMod, Nat.reduceDiv, Int.reduceToNat, Int.reducePow, Int.reduceMul, Int.reduceAdd, Int.reduceSub, Int.reduceLE, Int.reduceLT, Int.reduceNeg, Int.reduceDiv, Int.reduceMod, Int.reduceEq, Int.reduceBEq, Int.reduceBNe, f7, f7b, f7r0, f7r1, f7r2, f7r3, f7r4, f7r5, f7r6, f7r7, f7r8, f7r9, f7r10, f7r12, f7r13, f7r14, f7r15, f7r16, f7r18, f7r19, f7r20, f7r21, f7r22, f7r23, f7r24, f7r25, f7r26, f7r27, f7r28, f7r30, f7l2, hk7, e7, hne, zp', zf'] | (refine BrW.of (fun hb => ?_) (fun hb => ?_) <;> (have hb' := hb; try simp only [decide_eq_true_eq, decide_eq_false_iff_not, beq_iff_eq, bne_iff_ne, beq_eq_false_iff_ne, bne_eq_false_iff_eq, Bool.not_eq_true', Bool.not_eq_false', Bool.not_eq_true, Bool.not_eq_false, Bool.and_eq_true, Bool.or_eq_true, Bool.and_eq_false_iff, Bool.or_eq_false_iff, Int.not_lt, Int.not_le, ne_eq, gt_iff_lt, ge_iff_le] at hb') <;> (try (exfalso; omega)))
                refine RdW.keep [2, 11, 13, 14, 15, 16, 80, 81] (bs.length - (i + 1)) (by omega) ?_
                simp (disch := first | with_reducible assumption | omega) only [go_sem, Bool.true_and, Bool.and_true, Bool.and_self, Bool.false_and, Bool.and_false, Bool.true_or, Bool.or_true, Bool.false_or, Bool.or_false, ↓reduceIte, Nat.reduceEqDiff, Nat.reduceAdd, Nat.reduceMul, Nat.reduceSub, Nat.reduceBEq, Nat.reduceLeDiff, Nat.reduceLT, Nat.reduceMod, Nat.reduceDiv, Int.reduceToNat, Int.reducePow, Int.reduceMul, Int.reduceAdd, Int.reduceSub, Int.reduceLE, Int.reduceLT, Int.reduceNeg, Int.reduceDiv, Int.reduceMod, Int.reduceEq, Int.reduceBEq, Int.reduceBNe]
                exact ⟨i + 1, rfl, by omega, rfl⟩
          · obtain rfl : i = bs.length := by omega
            repeat' first | simp (disch := first | with_reducible assumption | omega) only [go_sem, Bool.true_and, Bool.and_true, Bool.and_self, Bool.false_and, Bool.and_false, Bool.true_or, Bool.or_true, Bool.false_or, Bool.or_false, ↓reduceIte, Nat.reduceEqDiff, Nat.reduceAdd, Nat.reduceMul, Nat.reduceSub, Nat.reduceBEq, Nat.reduceLeDiff, Nat.reduceLT, Nat.reduceMod, Nat.reduceDiv, Int.reduceToNat, Int.reducePow, Int.reduceMul, Int.reduceAdd, Int.reduceSub, Int.reduceLE, Int.reduceLT, Int.reduceNeg, Int.reduceDiv, Int.reduceMod, Int.reduceEq, Int.reduceBEq, Int.reduceBNe, f7, f7b, f7r0, f7r1, f7r2, f7r3, f7r4, f7r5, f7r6, f7r7, f7r8, f7r9, f7r10, f7r12, f7r13, f7r14, f7r15, f7r16, f7r18, f7r19, f7r20, f7r21, f7r22, f7r23, f7r24, f7r25, f7r26, f7r27, f7r28, f7r30, f7l2, f7, f7b, f7r0, f7r1, f7r2, f7r3, f7r4, f7r5, f7r6, f7r7, f7r8, f7r9, f7r10, f7r12, f7r13, f7r14, f7r15, f7r16, f7r18, f7r19, f7r20, f7r21, f7r22, f7r23, f7r24, f7r25, f7r26, f7r27, f7r28, f7r30] | (refine BrW.of (fun hb => ?_) (fun hb => ?_) <;> (have hb' := hb; try simp only [decide_eq_true_eq, decide_eq_false_iff_not, beq_iff_eq, bne_iff_ne, beq_eq_false_iff_ne, bne_eq_false_iff_eq, Bool.not_eq_true', Bool.not_eq_false', Bool.not_eq_true, Bool.not_eq_false, Bool.and_eq_true, Bool.or_eq_true, Bool.and_eq_false_iff, Bool.or_eq_false_iff, Int.not_lt, Int.not_le, ne_eq, gt_iff_lt, ge_iff_le] at hb') <;> (try (exfalso; omega)))
            exact .here rfl
        · have z' : (e != 0) = true := by simpa using z
          obtain rfl := hn z
          repeat' first | simp (disch := first | with_reducible assumption | omega) only [go_sem, Bool.true_and, Bool.and_true, Bool.and_self, Bool.false_and, Bool.and_false, Bool.true_or, Bool.or_true, Bool.false_or, Bool.or_false, ↓reduceIte, Nat.reduceEqDiff, Nat.reduceAdd, Nat.reduceMul, Nat.reduceSub, Nat.reduceBEq, Nat.reduceLeDiff, Nat.reduceLT, Nat.reduceMod, Nat.reduceDiv, Int.reduceToNat, Int.reducePow, Int.reduceMul, Int.reduceAdd, Int.reduceSub, Int.reduceLE, Int.reduceLT, Int.reduceNeg, Int.reduceDiv, Int.reduceMod, Int.reduceEq, Int.reduceBEq, Int.reduceBNe, f7, f7b, f7r0, f7r1, f7r2, f7r3, f7r4, f7r5, f7r6, f7r7, f7r8, f7r9, f7r10, f7r12, f7r13, f7r14, f7r15, f7r16, f7r18, f7r19, f7r20, f7r21, f7r22, f7r23, f7r24, f7r25, f7r26, f7r27, f7r28, f7r30, z'] | (refine BrW.of (fun hb => ?_) (fun hb => ?_) <;> (have hb' := hb; try simp only [decide_eq_true_eq, decide_eq_false_iff_not, beq_iff_eq, bne_iff_ne, beq_eq_false_iff_ne, bne_eq_false_iff_eq, Bool.not_eq_true', Bool.not_eq_false', Bool.not_eq_true, Bool.not_eq_false, Bool.and_eq_true, Bool.or_eq_true, Bool.and_eq_false_iff, Bool.or_eq_false_iff, Int.not_lt, Int.not_le, ne_eq, gt_iff_lt, ge_iff_le] at hb') <;> (try (exfalso; omega)))
          all_goals exact .here rfl
  · repeat' first | simp (disch := first | with_reducible assumption | omega) only [go_sem, Bool.true_and, Bool.and_true, Bool.and_self, Bool.false_and, Bool.and_false, Bool.true_or, Bool.or_true, Bool.false_or, Bool.or_false, ↓reduceIte, Nat.reduceEqDiff, Nat.reduceAdd, Nat.reduceMul, Nat.reduceSub, Nat.reduceBEq, Nat.reduceLeDiff, Nat.reduceLT, Nat.reduceMod, Nat.reduceDiv, Int.reduceToNat, Int.reducePow, Int.reduceMul, Int.reduceAdd, Int.reduceSub, Int.reduceLE, Int.reduceLT, Int.reduceNeg, Int.reduceDiv, Int.reduceMod, Int.reduceEq, Int.reduceBEq, Int.reduceBNe, f7, f7b, f7r0, f7r1, f7r2, f7r3, f7r4, f7r5, f7r6, f7r7, f7r8, f7r9, f7r10, f7r12, f7r13, f7r14, f7r15, f7r16, f7r18, f7r19, f7r20, f7r21, f7r22, f7r23, f7r24, f7r25, f7r26, f7r27, f7r28, f7r30] | (refine BrW.of (fun hb => ?_) (fun hb => ?_) <;> (have hb' := hb; try simp only [decide_eq_true_eq, decide_eq_false_iff_not, beq_iff_eq, bne_iff_ne, beq_eq_false_iff_ne, bne_eq_false_iff_eq, Bool.not_eq_true', Bool.not_eq_false', Bool.not_eq_true, Bool.not_eq_false, Bool.and_eq_true, Bool.or_eq_true, Bool.and_eq_false_iff, Bool.or_eq_false_iff, Int.not_lt, Int.not_le, ne_eq, gt_iff_lt, ge_iff_le] at hb') <;> (try (exfalso; omega))) | (refine .of ((alive _).mono ?_); rintro v H ⟨rfl, rfl⟩)
    all_goals first | exact .here rfl | (exfalso; omega)
end Go.Proofs.Ytamnmcljomgboaa
