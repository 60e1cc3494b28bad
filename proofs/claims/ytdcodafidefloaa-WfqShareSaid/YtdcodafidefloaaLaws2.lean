import Derived.Test.YtdcodafidefloaaPlain5
import Derived.Test.YtdcodafidefloaaLaws
set_option linter.unusedSimpArgs false
set_option linter.unusedVariables false
set_option maxHeartbeats 2000000
set_option maxRecDepth 20000
namespace Go.Proofs.Ytdcodafidefloaa
open Go Go.Am
attribute [local irreducible] opsW Ww loopW callW drawW outW outDW gW cW BrW bothW vW resW DropW RdW dcallW altW Later.run

/-- A flow that waits has its part. -/
theorem WfqShare_args (H : Heap) (vals : List Value) (h : ArgsOk maxLen H WfqShareSh vals) : ACallK Try.prog 4 vals H fun v _ => v = .bool true := by
  obtain ⟨ww, _, rfl, a1, h⟩ := h.cons
  obtain ⟨wo, _, rfl, a2, h⟩ := h.cons
  obtain ⟨wi, _, rfl, a3, h⟩ := h.cons
  obtain rfl := h.nil
  obtain ⟨ws, hT, hB, _⟩ := IsN.ofArg a1
  obtain ⟨ops, hO, hB2⟩ := IsO.ofArg a2
  obtain ⟨_, hc, a3⟩ := a3; cases hc; obtain ⟨who, rfl, hw1⟩ := a3.int_inv
  have hm : maxLen ≤ 9223372036854775807 := by decide
  clear a1 a2 h
  have hT0 := hT
  have hO0 := hO
  obtain ⟨kw, ow, gw, cw, _, rfl, hsw, _⟩ := hT
  obtain ⟨row, csw, hkw, w2, w3⟩ := Ints.cell hsw
  obtain ⟨ko, oo, go, co, _, rfl, hso, hco⟩ := hO
  obtain ⟨roo, cso, hko, o2, o3⟩ := hso.at'
  refine .walkW f4_ok (by simp; decide) (by decide) ?_
  repeat' first | simp (disch := first | with_reducible assumption | omega) only [go_sem, Bool.true_and, Bool.and_true, Bool.and_self, Bool.false_and, Bool.and_false, Bool.true_or, Bool.or_true, Bool.false_or, Bool.or_false, ↓reduceIte, Nat.reduceEqDiff, Nat.reduceAdd, Nat.reduceMul, Nat.reduceSub, Nat.reduceBEq, Nat.reduceLeDiff, Nat.reduceLT, Nat.reduceMod, Nat.reduceDiv, Int.reduceToNat, Int.reducePow, Int.reduceMul, Int.reduceAdd, Int.reduceSub, Int.reduceLE, Int.reduceLT, Int.reduceNeg, Int.reduceDiv, Int.reduceMod, Int.reduceEq, Int.reduceBEq, Int.reduceBNe, f4, f4b, f4r0, f4r1, f4r2, f4r3, f4r4, f4r5, f4r6, f4r7, f4r8, f4r9, f4r10, f4r11, f4r13, f4r14, f4r15, f4r16, f4r17, f4r18, f4r19, f4r20, f4r21, f4r22, f4r23, f4r24, f4r25, f4r26, f4r27, f4r28, f4r29, f4r30, f4r31, f4r32, f4r33, f4r34, f4r35, f4r36, f4r38] | (refine BrW.of (fun hb => ?_) (fun hb => ?_) <;> (have hb' := hb; try simp only [decide_eq_true_eq, decide_eq_false_iff_not, beq_iff_eq, bne_iff_ne, beq_eq_false_iff_ne, bne_eq_false_iff_eq, Bool.not_eq_true', Bool.not_eq_false', Bool.not_eq_true, Bool.not_eq_false, Bool.and_eq_true, Bool.or_eq_true, Bool.and_eq_false_iff, Bool.or_eq_false_iff, Int.not_lt, Int.not_le, ne_eq, gt_iff_lt, ge_iff_le] at hb') <;> (try (exfalso; omega))) | (refine altW.of ?_ ?_) | (refine .of ((alive _).mono ?_); rintro v H ⟨rfl, rfl⟩)
  refine .of ((Play_spec ws ops _ _ (fun _ => True) _ hT0 hO0 (by omega) (by omega)).mono ?_)
  rintro v G ⟨a, b, c, e, rfl, hLe, he, hn, hy⟩
  by_cases z : e = 0
  · obtain ⟨hok, h400⟩ := he.1 z
    obtain ⟨hS, hL, hM⟩ := hy z
    subst z
    have hokw : okW ws ws.sum := ⟨hok.1, hok.2, sum_bound hok.1 hok.2⟩
    have hln := run_lens ws ws.sum ops
    have hsb : ∀ i, i ≤ ws.length → 0 ≤ (ws.take i).sum ∧ (ws.take i).sum ≤ 12 * i := fun i => by
      induction i with
      | zero => intro _; simp
      | succ i ih =>
        intro hi
        have := ih (by omega)
        have h2 := hok.2 i (by omega)
        have h3 : (ws.take (i + 1)).sum = (ws.take i).sum + ws.getD i 0 := by rw [take_snoc 0 ws i (by omega)]; simp
        omega
    have hn16 := hok.1
    obtain ⟨xG, rfl⟩ := hLe
    have hkwG := get_old hkw xG
    have hkoG := get_old hko xG
    generalize H ++ xG = G at *
    obtain ⟨sc, ac, cc, rfl⟩ := hM.slice
    obtain ⟨ke, oe, ge, ce, _, rfl, hse, hce⟩ := hS
    obtain ⟨roe, cse, hke, e2, e3⟩ := Ints.cell hse
    obtain ⟨ks, os, gs, cs, _, rfl, hss, hcs⟩ := hL
    obtain ⟨ros, css, hks, s2, s3⟩ := hss.at'
    clear hn hy he
    by_cases hwho : 0 ≤ who ∧ who < ws.length
    · obtain ⟨q1, q2⟩ := hwho
      have hw0 := w3 who.toNat (by omega)
      have hwb := hok.2 who.toNat (by omega)
      have hlen := hln.1
      repeat' first | simp (disch := first | with_reducible assumption | omega) only [go_sem, Bool.true_and, Bool.and_true, Bool.and_self, Bool.false_and, Bool.and_false, Bool.true_or, Bool.or_true, Bool.false_or, Bool.or_false, ↓reduceIte, Nat.reduceEqDiff, Nat.reduceAdd, Nat.reduceMul, Nat.reduceSub, Nat.reduceBEq, Nat.reduceLeDiff, Nat.reduceLT, Nat.reduceMod, Nat.reduceDiv, Int.reduceToNat, Int.reducePow, Int.reduceMul, Int.reduceAdd, Int.reduceSub, Int.reduceLE, Int.reduceLT, Int.reduceNeg, Int.reduceDiv, Int.reduceMod, Int.reduceEq, Int.reduceBEq, Int.reduceBNe, f4, f4b, f4r0, f4r1, f4r2, f4r3, f4r4, f4r5, f4r6, f4r7, f4r8, f4r9, f4r10, f4r11, f4r13, f4r14, f4r15, f4r16, f4r17, f4r18, f4r19, f4r20, f4r21, f4r22, f4r23, f4r24, f4r25, f4r26, f4r27, f4r28, f4r29, f4r30, f4r31, f4r32, f4r33, f4r34, f4r35, f4r36, f4r38, hkwG, hke, hkoG] | (refine BrW.of (fun hb => ?_) (fun hb => ?_) <;> (have hb' := hb; try simp only [decide_eq_true_eq, decide_eq_false_iff_not, beq_iff_eq, bne_iff_ne, beq_eq_false_iff_ne, bne_eq_false_iff_eq, Bool.not_eq_true', Bool.not_eq_false', Bool.not_eq_true, Bool.not_eq_false, Bool.and_eq_true, Bool.or_eq_true, Bool.and_eq_false_iff, Bool.or_eq_false_iff, Int.not_lt, Int.not_le, ne_eq, gt_iff_lt, ge_iff_le] at hb') <;> (try (exfalso; omega))) | (refine altW.of ?_ ?_)
      refine loopW.of (by decide) (fun m e J => ∃ (i : Nat), e = [(0, slv kw ow gw ws.length cw), (1, slv ko oo go ops.length co), (2, .int .i64 who), (7, slv ke oe ge (runR ws ws.sum ops).errs.length ce), (8, slv ks os gs (runR ws ws.sum ops).sent.length cs), (11, .int .i64 (ws.take i).sum), (59, slv kw ow gw ws.length cw), (60, .int .i64 ws.length), (61, .int .i64 i)] ∧
        J = G ∧ i ≤ ws.length ∧ m = ws.length - i) ws.length ⟨0, rfl, rfl, by omega, rfl⟩ ?_
      rintro m e G ⟨i, rfl, rfl, hi, rfl⟩
      by_cases hlt : i < ws.length
      · have e0 := w3 i hlt
        have hb0 := hsb i (by omega)
        have hx := hok.2 i hlt
        have h3 : (ws.take (i + 1)).sum = (ws.take i).sum + ws.getD i 0 := by rw [take_snoc 0 ws i hlt]; simp
        clear hsb w3 o3 e3 s3 hok
        generalize (ws.take i).sum = Z at *
        generalize ws.getD i 0 = x at *
        repeat' first | simp (disch := first | with_reducible assumption | omega) only [go_sem, Bool.true_and, Bool.and_true, Bool.and_self, Bool.false_and, Bool.and_false, Bool.true_or, Bool.or_true, Bool.false_or, Bool.or_false, ↓reduceIte, Nat.reduceEqDiff, Nat.reduceAdd, Nat.reduceMul, Nat.reduceSub, Nat.reduceBEq, Nat.reduceLeDiff, Nat.reduceLT, Nat.reduceMod, Nat.reduceDiv, Int.reduceToNat, Int.reducePow, Int.reduceMul, Int.reduceAdd, Int.reduceSub, Int.reduceLE, Int.reduceLT, Int.reduceNeg, Int.reduceDiv, Int.reduceMod, Int.reduceEq, Int.reduceBEq, Int.reduceBNe, f4, f4b, f4r0, f4r1, f4r2, f4r3, f4r4, f4r5, f4r6, f4r7, f4r8, f4r9, f4r10, f4r11, f4r13, f4r14, f4r15, f4r16, f4r17, f4r18, f4r19, f4r20, f4r21, f4r22, f4r23, f4r24, f4r25, f4r26, f4r27, f4r28, f4r29, f4r30, f4r31, f4r32, f4r33, f4r34, f4r35, f4r36, f4r38, f4l0, hkwG, e0] | (refine BrW.of (fun hb => ?_) (fun hb => ?_) <;> (have hb' := hb; try simp only [decide_eq_true_eq, decide_eq_false_iff_not, beq_iff_eq, bne_iff_ne, beq_eq_false_iff_ne, bne_eq_false_iff_eq, Bool.not_eq_true', Bool.not_eq_false', Bool.not_eq_true, Bool.not_eq_false, Bool.and_eq_true, Bool.or_eq_true, Bool.and_eq_false_iff, Bool.or_eq_false_iff, Int.not_lt, Int.not_le, ne_eq, gt_iff_lt, ge_iff_le] at hb') <;> (try (exfalso; omega))) | (refine altW.of ?_ ?_)
        refine RdW.keep [0, 1, 2, 7, 8, 11, 59, 60, 61] (ws.length - (i + 1)) (by omega) ?_
        simp (disch := first | with_reducible assumption | omega) only [go_sem, Bool.true_and, Bool.and_true, Bool.and_self, Bool.false_and, Bool.and_false, Bool.true_or, Bool.or_true, Bool.false_or, Bool.or_false, ↓reduceIte, Nat.reduceEqDiff, Nat.reduceAdd, Nat.reduceMul, Nat.reduceSub, Nat.reduceBEq, Nat.reduceLeDiff, Nat.reduceLT, Nat.reduceMod, Nat.reduceDiv, Int.reduceToNat, Int.reducePow, Int.reduceMul, Int.reduceAdd, Int.reduceSub, Int.reduceLE, Int.reduceLT, Int.reduceNeg, Int.reduceDiv, Int.reduceMod, Int.reduceEq, Int.reduceBEq, Int.reduceBNe]
        exact ⟨i + 1, by rw [h3]; rfl, by omega, rfl⟩
      · obtain rfl : i = ws.length := by omega
        rw [List.take_length]
        obtain ⟨wn, rfl⟩ := Int.eq_ofNat_of_zero_le q1
        rw [Int.toNat_natCast] at hw0 hwb
        have hwn : wn < ws.length := by omega
        have hSS := hokw.2.2
        clear hsb w3
        repeat' first | simp (disch := first | with_reducible assumption | omega) only [go_sem, Bool.true_and, Bool.and_true, Bool.and_self, Bool.false_and, Bool.and_false, Bool.true_or, Bool.or_true, Bool.false_or, Bool.or_false, ↓reduceIte, Nat.reduceEqDiff, Nat.reduceAdd, Nat.reduceMul, Nat.reduceSub, Nat.reduceBEq, Nat.reduceLeDiff, Nat.reduceLT, Nat.reduceMod, Nat.reduceDiv, Int.reduceToNat, Int.reducePow, Int.reduceMul, Int.reduceAdd, Int.reduceSub, Int.reduceLE, Int.reduceLT, Int.reduceNeg, Int.reduceDiv, Int.reduceMod, Int.reduceEq, Int.reduceBEq, Int.reduceBNe, f4, f4b, f4r0, f4r1, f4r2, f4r3, f4r4, f4r5, f4r6, f4r7, f4r8, f4r9, f4r10, f4r11, f4r13, f4r14, f4r15, f4r16, f4r17, f4r18, f4r19, f4r20, f4r21, f4r22, f4r23, f4r24, f4r25, f4r26, f4r27, f4r28, f4r29, f4r30, f4r31, f4r32, f4r33, f4r34, f4r35, f4r36, f4r38, f4l0, f4, f4b, f4r0, f4r1, f4r2, f4r3, f4r4, f4r5, f4r6, f4r7, f4r8, f4r9, f4r10, f4r11, f4r13, f4r14, f4r15, f4r16, f4r17, f4r18, f4r19, f4r20, f4r21, f4r22, f4r23, f4r24, f4r25, f4r26, f4r27, f4r28, f4r29, f4r30, f4r31, f4r32, f4r33, f4r34, f4r35, f4r36, f4r38, hkoG] | (refine BrW.of (fun hb => ?_) (fun hb => ?_) <;> (have hb' := hb; try simp only [decide_eq_true_eq, decide_eq_false_iff_not, beq_iff_eq, bne_iff_ne, beq_eq_false_iff_ne, bne_eq_false_iff_eq, Bool.not_eq_true', Bool.not_eq_false', Bool.not_eq_true, Bool.not_eq_false, Bool.and_eq_true, Bool.or_eq_true, Bool.and_eq_false_iff, Bool.or_eq_false_iff, Int.not_lt, Int.not_le, ne_eq, gt_iff_lt, ge_iff_le] at hb') <;> (try (exfalso; omega))) | (refine altW.of ?_ ?_)
        have hA0 : Ah ws ws.sum wn (runR ws ws.sum (ops.take 0)).nd 0 0 := by
          have hB := (tag_bound hokw.2.2 (hokw.2.1 wn hwn) (x := 1500) (by omega)).2.2.1
          have hf : (runR ws ws.sum (ops.take 0)).nd.fl.getD wn f0 = f0 := by
            simp only [List.take_zero, runR, List.foldl_nil, startR, List.getD_eq_getElem?_getD, List.getElem?_replicate]
            split <;> rfl
          have ht : (runR ws ws.sum (ops.take 0)).nd.t = 0 := rfl
          exact ⟨fun h => (h (by rw [hf]; rfl)).elim, fun _ => by rw [hf, ht]; show (0 : Int) ≤ _; omega, fun h => (h (by rw [hf]; rfl)).elim⟩
        refine loopW.of (by decide) (fun m e J => ∃ (i : Nat) (ah be : Int) (x : Heap), e = [(0, slv kw ow gw ws.length cw), (2, .int .i64 wn), (7, slv ke oe ge (runR ws ws.sum ops).errs.length ce), (8, slv ks os gs (runR ws ws.sum ops).sent.length cs), (11, .int .i64 ws.sum), (14, .int .i64 ((runR ws ws.sum (ops.take i)).nd.fl.getD wn f0).q.length), (15, .int .i64 (runR ws ws.sum (ops.take i)).sent.length), (16, .int .i64 be), (17, .int .i64 ah), (69, slv ko oo go ops.length co), (70, .int .i64 ops.length), (71, .int .i64 i)] ∧
          J = G ++ x ∧ i ≤ ops.length ∧ m = ops.length - i ∧ Ah ws ws.sum wn (runR ws ws.sum (ops.take i)).nd ah be ∧ (-300000 * i ≤ ah ∧ ah ≤ 300000 * i) ∧ (-300000 * i ≤ be ∧ be ≤ 300000 * i)) ops.length ⟨0, 0, 0, [], by rw [show (runR ws ws.sum (ops.take 0)).nd.fl.getD wn f0 = f0 by simp only [List.take_zero, runR, List.foldl_nil, startR, List.getD_eq_getElem?_getD, List.getElem?_replicate]; split <;> rfl]; rfl, by simp, by omega, rfl, hA0, by omega, by omega⟩ ?_
        clear hA0
        rintro m e J ⟨i, ah, be, x, rfl, rfl, hi, rfl, hA, ⟨ha1, ha2⟩, hb1, hb2⟩
        by_cases hlt : i < ops.length
        · have x0 := o3 i hlt 0 (by omega)
          have x1 := o3 i hlt 1 (by omega)
          have x2 := o3 i hlt 2 (by omega)
          simp only [Op.cells, List.getElem?_cons_zero, List.getElem?_cons_succ, Nat.add_zero, show oo + i * 3 + 2 = oo + i * 3 + 1 + 1 by omega] at x0 x1 x2
          have xe := e3 i (by omega)
          have hro := run_okN hokw ops i
          have hrl := (run_lens ws ws.sum (ops.take i)).2.2
          have hsh := run_sh hokw rfl ops i (by omega)
          have hsh1 := run_sh hokw rfl ops (i + 1) (by omega)
          have hro1 := run_okN hokw ops (i + 1)
          have hql := run_qlen ws ws.sum ops i wn
          have hsl : (runR ws ws.sum (ops.take i)).sent.length ≤ i := by have := (run_lens ws ws.sum (ops.take i)).2.1; rw [List.length_take] at this; omega
          have hat := run_at hokw ops i hlt
          clear e3 o3
          generalize hr1 : runR ws ws.sum (ops.take (i + 1)) = r1 at *
          generalize hr0 : runR ws ws.sum (ops.take i) = r0 at *
          generalize hR : runR ws ws.sum ops = R at *
          generalize ops.getD i o0 = o at *
          rcases hat with ⟨e, he, hee, hnd, hsn⟩ | ⟨k, ho, hk, hf, hb1', hb2', hee, hnd, hsn⟩ | ⟨k, ho, hk, hp, hee, hnd, hsn, hsl2, hsg⟩
          · rw [hee] at xe
            repeat' first | simp (disch := first | with_reducible assumption | omega) only [go_sem, Bool.true_and, Bool.and_true, Bool.and_self, Bool.false_and, Bool.and_false, Bool.true_or, Bool.or_true, Bool.false_or, Bool.or_false, ↓reduceIte, Nat.reduceEqDiff, Nat.reduceAdd, Nat.reduceMul, Nat.reduceSub, Nat.reduceBEq, Nat.reduceLeDiff, Nat.reduceLT, Nat.reduceMod, Nat.reduceDiv, Int.reduceToNat, Int.reducePow, Int.reduceMul, Int.reduceAdd, Int.reduceSub, Int.reduceLE, Int.reduceLT, Int.reduceNeg, Int.reduceDiv, Int.reduceMod, Int.reduceEq, Int.reduceBEq, Int.reduceBNe, f4, f4b, f4r0, f4r1, f4r2, f4r3, f4r4, f4r5, f4r6, f4r7, f4r8, f4r9, f4r10, f4r11, f4r13, f4r14, f4r15, f4r16, f4r17, f4r18, f4r19, f4r20, f4r21, f4r22, f4r23, f4r24, f4r25, f4r26, f4r27, f4r28, f4r29, f4r30, f4r31, f4r32, f4r33, f4r34, f4r35, f4r36, f4r38, f4l1, get_old hkoG, get_old hke, x0, x1, x2, xe] | (refine BrW.of (fun hb => ?_) (fun hb => ?_) <;> (have hb' := hb; try simp only [decide_eq_true_eq, decide_eq_false_iff_not, beq_iff_eq, bne_iff_ne, beq_eq_false_iff_ne, bne_eq_false_iff_eq, Bool.not_eq_true', Bool.not_eq_false', Bool.not_eq_true, Bool.not_eq_false, Bool.and_eq_true, Bool.or_eq_true, Bool.and_eq_false_iff, Bool.or_eq_false_iff, Int.not_lt, Int.not_le, ne_eq, gt_iff_lt, ge_iff_le] at hb') <;> (try (exfalso; omega))) | (refine altW.of ?_ ?_)
            refine RdW.keep [0, 2, 7, 8, 11, 14, 15, 16, 17, 69, 70, 71] (ops.length - (i + 1)) (by omega) ?_
            simp (disch := first | with_reducible assumption | omega) only [go_sem, Bool.true_and, Bool.and_true, Bool.and_self, Bool.false_and, Bool.and_false, Bool.true_or, Bool.or_true, Bool.false_or, Bool.or_false, ↓reduceIte, Nat.reduceEqDiff, Nat.reduceAdd, Nat.reduceMul, Nat.reduceSub, Nat.reduceBEq, Nat.reduceLeDiff, Nat.reduceLT, Nat.reduceMod, Nat.reduceDiv, Int.reduceToNat, Int.reducePow, Int.reduceMul, Int.reduceAdd, Int.reduceSub, Int.reduceLE, Int.reduceLT, Int.reduceNeg, Int.reduceDiv, Int.reduceMod, Int.reduceEq, Int.reduceBEq, Int.reduceBNe]
            exact ⟨i + 1, ah, be, _, by rw [hr1, hnd, hsn]; rfl, rfl, by omega, rfl, by rw [hr1, hnd]; exact hA, by omega, by omega⟩
          · rw [hee] at xe
            rw [ho] at x0
            rw [hf] at x1
            have hA1 := hA.inn (x := o.b) (k := k) hokw hrl hro hwn hk
            have hgd := inN_getD (ws := ws) (S := ws.sum) (nd := r0.nd) (x := o.b) (k := k) (by omega) wn
            rw [← hnd] at hA1 hgd
            by_cases hkw' : k = wn
            · subst hkw'
              rw [if_pos rfl] at hgd
              by_cases hq : (r0.nd.fl.getD k f0).q = []
              · rw [if_pos ⟨rfl, hq⟩] at hA1
                have hlq : (r1.nd.fl.getD k f0).q.length = 1 := by rw [hgd, if_pos hq]; rfl
                rw [hq]
                repeat' first | simp (disch := first | with_reducible assumption | omega) only [go_sem, Bool.true_and, Bool.and_true, Bool.and_self, Bool.false_and, Bool.and_false, Bool.true_or, Bool.or_true, Bool.false_or, Bool.or_false, ↓reduceIte, Nat.reduceEqDiff, Nat.reduceAdd, Nat.reduceMul, Nat.reduceSub, Nat.reduceBEq, Nat.reduceLeDiff, Nat.reduceLT, Nat.reduceMod, Nat.reduceDiv, Int.reduceToNat, Int.reducePow, Int.reduceMul, Int.reduceAdd, Int.reduceSub, Int.reduceLE, Int.reduceLT, Int.reduceNeg, Int.reduceDiv, Int.reduceMod, Int.reduceEq, Int.reduceBEq, Int.reduceBNe, f4, f4b, f4r0, f4r1, f4r2, f4r3, f4r4, f4r5, f4r6, f4r7, f4r8, f4r9, f4r10, f4r11, f4r13, f4r14, f4r15, f4r16, f4r17, f4r18, f4r19, f4r20, f4r21, f4r22, f4r23, f4r24, f4r25, f4r26, f4r27, f4r28, f4r29, f4r30, f4r31, f4r32, f4r33, f4r34, f4r35, f4r36, f4r38, f4l1, get_old hkoG, get_old hke, x0, x1, x2, xe] | (refine BrW.of (fun hb => ?_) (fun hb => ?_) <;> (have hb' := hb; try simp only [decide_eq_true_eq, decide_eq_false_iff_not, beq_iff_eq, bne_iff_ne, beq_eq_false_iff_ne, bne_eq_false_iff_eq, Bool.not_eq_true', Bool.not_eq_false', Bool.not_eq_true, Bool.not_eq_false, Bool.and_eq_true, Bool.or_eq_true, Bool.and_eq_false_iff, Bool.or_eq_false_iff, Int.not_lt, Int.not_le, ne_eq, gt_iff_lt, ge_iff_le] at hb') <;> (try (exfalso; omega))) | (refine altW.of ?_ ?_)
                refine RdW.keep [0, 2, 7, 8, 11, 14, 15, 16, 17, 69, 70, 71] (ops.length - (i + 1)) (by omega) ?_
                simp (disch := first | with_reducible assumption | omega) only [go_sem, Bool.true_and, Bool.and_true, Bool.and_self, Bool.false_and, Bool.and_false, Bool.true_or, Bool.or_true, Bool.false_or, Bool.or_false, ↓reduceIte, Nat.reduceEqDiff, Nat.reduceAdd, Nat.reduceMul, Nat.reduceSub, Nat.reduceBEq, Nat.reduceLeDiff, Nat.reduceLT, Nat.reduceMod, Nat.reduceDiv, Int.reduceToNat, Int.reducePow, Int.reduceMul, Int.reduceAdd, Int.reduceSub, Int.reduceLE, Int.reduceLT, Int.reduceNeg, Int.reduceDiv, Int.reduceMod, Int.reduceEq, Int.reduceBEq, Int.reduceBNe]
                exact ⟨i + 1, _, _, _, by rw [hr1, hsn, hlq]; rfl, rfl, by omega, rfl, by rw [hr1]; exact hA1, by omega, by omega⟩
              · rw [if_neg (fun h => hq h.2)] at hA1
                have hlq : (r1.nd.fl.getD k f0).q.length = (r0.nd.fl.getD k f0).q.length + 1 := by rw [hgd, if_neg hq]; simp
                have hq0 : 0 < (r0.nd.fl.getD k f0).q.length := List.length_pos_iff.2 hq
                generalize (r0.nd.fl.getD k f0).q.length = ql at *
                repeat' first | simp (disch := first | with_reducible assumption | omega) only [go_sem, Bool.true_and, Bool.and_true, Bool.and_self, Bool.false_and, Bool.and_false, Bool.true_or, Bool.or_true, Bool.false_or, Bool.or_false, ↓reduceIte, Nat.reduceEqDiff, Nat.reduceAdd, Nat.reduceMul, Nat.reduceSub, Nat.reduceBEq, Nat.reduceLeDiff, Nat.reduceLT, Nat.reduceMod, Nat.reduceDiv, Int.reduceToNat, Int.reducePow, Int.reduceMul, Int.reduceAdd, Int.reduceSub, Int.reduceLE, Int.reduceLT, Int.reduceNeg, Int.reduceDiv, Int.reduceMod, Int.reduceEq, Int.reduceBEq, Int.reduceBNe, f4, f4b, f4r0, f4r1, f4r2, f4r3, f4r4, f4r5, f4r6, f4r7, f4r8, f4r9, f4r10, f4r11, f4r13, f4r14, f4r15, f4r16, f4r17, f4r18, f4r19, f4r20, f4r21, f4r22, f4r23, f4r24, f4r25, f4r26, f4r27, f4r28, f4r29, f4r30, f4r31, f4r32, f4r33, f4r34, f4r35, f4r36, f4r38, f4l1, get_old hkoG, get_old hke, x0, x1, x2, xe] | (refine BrW.of (fun hb => ?_) (fun hb => ?_) <;> (have hb' := hb; try simp only [decide_eq_true_eq, decide_eq_false_iff_not, beq_iff_eq, bne_iff_ne, beq_eq_false_iff_ne, bne_eq_false_iff_eq, Bool.not_eq_true', Bool.not_eq_false', Bool.not_eq_true, Bool.not_eq_false, Bool.and_eq_true, Bool.or_eq_true, Bool.and_eq_false_iff, Bool.or_eq_false_iff, Int.not_lt, Int.not_le, ne_eq, gt_iff_lt, ge_iff_le] at hb') <;> (try (exfalso; omega))) | (refine altW.of ?_ ?_)
                refine RdW.keep [0, 2, 7, 8, 11, 14, 15, 16, 17, 69, 70, 71] (ops.length - (i + 1)) (by omega) ?_
                simp (disch := first | with_reducible assumption | omega) only [go_sem, Bool.true_and, Bool.and_true, Bool.and_self, Bool.false_and, Bool.and_false, Bool.true_or, Bool.or_true, Bool.false_or, Bool.or_false, ↓reduceIte, Nat.reduceEqDiff, Nat.reduceAdd, Nat.reduceMul, Nat.reduceSub, Nat.reduceBEq, Nat.reduceLeDiff, Nat.reduceLT, Nat.reduceMod, Nat.reduceDiv, Int.reduceToNat, Int.reducePow, Int.reduceMul, Int.reduceAdd, Int.reduceSub, Int.reduceLE, Int.reduceLT, Int.reduceNeg, Int.reduceDiv, Int.reduceMod, Int.reduceEq, Int.reduceBEq, Int.reduceBNe]
                exact ⟨i + 1, _, _, _, by rw [hr1, hsn, hlq]; rfl, rfl, by omega, rfl, by rw [hr1]; exact hA1, by omega, by omega⟩
            · rw [if_neg hkw'] at hgd
              rw [if_neg (fun h => hkw' h.1)] at hA1
              rw [← hgd]
              repeat' first | simp (disch := first | with_reducible assumption | omega) only [go_sem, Bool.true_and, Bool.and_true, Bool.and_self, Bool.false_and, Bool.and_false, Bool.true_or, Bool.or_true, Bool.false_or, Bool.or_false, ↓reduceIte, Nat.reduceEqDiff, Nat.reduceAdd, Nat.reduceMul, Nat.reduceSub, Nat.reduceBEq, Nat.reduceLeDiff, Nat.reduceLT, Nat.reduceMod, Nat.reduceDiv, Int.reduceToNat, Int.reducePow, Int.reduceMul, Int.reduceAdd, Int.reduceSub, Int.reduceLE, Int.reduceLT, Int.reduceNeg, Int.reduceDiv, Int.reduceMod, Int.reduceEq, Int.reduceBEq, Int.reduceBNe, f4, f4b, f4r0, f4r1, f4r2, f4r3, f4r4, f4r5, f4r6, f4r7, f4r8, f4r9, f4r10, f4r11, f4r13, f4r14, f4r15, f4r16, f4r17, f4r18, f4r19, f4r20, f4r21, f4r22, f4r23, f4r24, f4r25, f4r26, f4r27, f4r28, f4r29, f4r30, f4r31, f4r32, f4r33, f4r34, f4r35, f4r36, f4r38, f4l1, get_old hkoG, get_old hke, x0, x1, x2, xe] | (refine BrW.of (fun hb => ?_) (fun hb => ?_) <;> (have hb' := hb; try simp only [decide_eq_true_eq, decide_eq_false_iff_not, beq_iff_eq, bne_iff_ne, beq_eq_false_iff_ne, bne_eq_false_iff_eq, Bool.not_eq_true', Bool.not_eq_false', Bool.not_eq_true, Bool.not_eq_false, Bool.and_eq_true, Bool.or_eq_true, Bool.and_eq_false_iff, Bool.or_eq_false_iff, Int.not_lt, Int.not_le, ne_eq, gt_iff_lt, ge_iff_le] at hb') <;> (try (exfalso; omega))) | (refine altW.of ?_ ?_)
              refine RdW.keep [0, 2, 7, 8, 11, 14, 15, 16, 17, 69, 70, 71] (ops.length - (i + 1)) (by omega) ?_
              simp (disch := first | with_reducible assumption | omega) only [go_sem, Bool.true_and, Bool.and_true, Bool.and_self, Bool.false_and, Bool.and_false, Bool.true_or, Bool.or_true, Bool.false_or, Bool.or_false, ↓reduceIte, Nat.reduceEqDiff, Nat.reduceAdd, Nat.reduceMul, Nat.reduceSub, Nat.reduceBEq, Nat.reduceLeDiff, Nat.reduceLT, Nat.reduceMod, Nat.reduceDiv, Int.reduceToNat, Int.reducePow, Int.reduceMul, Int.reduceAdd, Int.reduceSub, Int.reduceLE, Int.reduceLT, Int.reduceNeg, Int.reduceDiv, Int.reduceMod, Int.reduceEq, Int.reduceBEq, Int.reduceBNe]
              exact ⟨i + 1, _, _, _, by rw [hr1, hsn]; rfl, rfl, by omega, rfl, by rw [hr1]; exact hA1, by omega, by omega⟩
          · rw [hee] at xe
            rw [ho] at x0
            have y0 := s3 r0.sent.length hsl2 0 (by omega)
            have y1 := s3 r0.sent.length hsl2 1 (by omega)
            rw [hsg] at y0 y1
            simp only [S.cells, List.getElem?_cons_zero, List.getElem?_cons_succ, Nat.add_zero] at y0 y1
            have hA1 := hA.out hokw hrl hro hsh hwn hk hp
            have hgd := outN_getD (ws := ws) (S := ws.sum) (nd := r0.nd) (k := k) (by omega) wn
            rw [← hnd] at hA1 hgd
            have hfin := fun hq => hA1.fin hokw rfl hro1 hsh1 hwn hq
            have hhb := headQ_bound (hro.f k).2.2
            have hls : (r1.sent.length : Int) = r0.sent.length + 1 := by rw [hsn]; simp
            have hhw : 0 ≤ headQ (r0.nd.fl.getD k f0).q * ws.getD wn 0 ∧ headQ (r0.nd.fl.getD k f0).q * ws.getD wn 0 ≤ 18000 := ⟨Int.mul_nonneg hhb.1 (by omega), Int.mul_le_mul hhb.2 hwb.2 (by omega) (by omega)⟩
            have hhs : 0 ≤ headQ (r0.nd.fl.getD k f0).q * ws.sum ∧ headQ (r0.nd.fl.getD k f0).q * ws.sum ≤ 288000 := ⟨Int.mul_nonneg hhb.1 hSS.1, Int.mul_le_mul hhb.2 hSS.2 hSS.1 (by omega)⟩
            generalize hx' : headQ (r0.nd.fl.getD k f0).q = x' at *
            generalize hW : ws.getD wn 0 = W at *
            generalize hXW : x' * W = XW at *
            generalize hXS : x' * ws.sum = XS at *
            by_cases hkw' : k = wn
            · subst hkw'
              rw [if_pos rfl] at hgd hA1 hfin
              have hq0 := List.length_pos_iff.2 hp.q
              have hlq : ((r1.nd.fl.getD k f0).q.length : Int) = (r0.nd.fl.getD k f0).q.length - 1 := by
                have hft : (tailF ws ws.sum k (r0.nd.fl.getD k f0)).q = (r0.nd.fl.getD k f0).q.tail := by
                  unfold tailF; split
                  · rename_i e; rw [e]
                  · rfl
                rw [hgd, hft, List.length_tail]; omega
              have hfin : 0 < (r1.nd.fl.getD k f0).q.length → _ := fun h => hfin (List.length_pos_iff.1 h)
              have hfin : (0 : Int) < (r0.nd.fl.getD k f0).q.length - 1 → _ := fun h => hfin (by omega)
              repeat' first | simp (disch := first | with_reducible assumption | omega) only [go_sem, Bool.true_and, Bool.and_true, Bool.and_self, Bool.false_and, Bool.and_false, Bool.true_or, Bool.or_true, Bool.false_or, Bool.or_false, ↓reduceIte, Nat.reduceEqDiff, Nat.reduceAdd, Nat.reduceMul, Nat.reduceSub, Nat.reduceBEq, Nat.reduceLeDiff, Nat.reduceLT, Nat.reduceMod, Nat.reduceDiv, Int.reduceToNat, Int.reducePow, Int.reduceMul, Int.reduceAdd, Int.reduceSub, Int.reduceLE, Int.reduceLT, Int.reduceNeg, Int.reduceDiv, Int.reduceMod, Int.reduceEq, Int.reduceBEq, Int.reduceBNe, f4, f4b, f4r0, f4r1, f4r2, f4r3, f4r4, f4r5, f4r6, f4r7, f4r8, f4r9, f4r10, f4r11, f4r13, f4r14, f4r15, f4r16, f4r17, f4r18, f4r19, f4r20, f4r21, f4r22, f4r23, f4r24, f4r25, f4r26, f4r27, f4r28, f4r29, f4r30, f4r31, f4r32, f4r33, f4r34, f4r35, f4r36, f4r38, f4l1, get_old hkoG, get_old hke, get_old hks, get_old hkwG, x0, x1, x2, xe, y0, y1, hw0, hXW, hXS] | (refine BrW.of (fun hb => ?_) (fun hb => ?_) <;> (have hb' := hb; try simp only [decide_eq_true_eq, decide_eq_false_iff_not, beq_iff_eq, bne_iff_ne, beq_eq_false_iff_ne, bne_eq_false_iff_eq, Bool.not_eq_true', Bool.not_eq_false', Bool.not_eq_true, Bool.not_eq_false, Bool.and_eq_true, Bool.or_eq_true, Bool.and_eq_false_iff, Bool.or_eq_false_iff, Int.not_lt, Int.not_le, ne_eq, gt_iff_lt, ge_iff_le] at hb') <;> (try (exfalso; omega))) | (refine altW.of ?_ ?_)
              all_goals
                refine RdW.keep [0, 2, 7, 8, 11, 14, 15, 16, 17, 69, 70, 71] (ops.length - (i + 1)) (by omega) ?_
                simp (disch := first | with_reducible assumption | omega) only [go_sem, Bool.true_and, Bool.and_true, Bool.and_self, Bool.false_and, Bool.and_false, Bool.true_or, Bool.or_true, Bool.false_or, Bool.or_false, ↓reduceIte, Nat.reduceEqDiff, Nat.reduceAdd, Nat.reduceMul, Nat.reduceSub, Nat.reduceBEq, Nat.reduceLeDiff, Nat.reduceLT, Nat.reduceMod, Nat.reduceDiv, Int.reduceToNat, Int.reducePow, Int.reduceMul, Int.reduceAdd, Int.reduceSub, Int.reduceLE, Int.reduceLT, Int.reduceNeg, Int.reduceDiv, Int.reduceMod, Int.reduceEq, Int.reduceBEq, Int.reduceBNe]
                exact ⟨i + 1, _, _, _, by rw [hr1, hls, hlq]; rfl, rfl, by omega, rfl, by rw [hr1]; exact hA1, by omega, by omega⟩
            · rw [if_neg hkw'] at hgd hA1 hfin
              simp only [Int.add_zero] at hA1 hfin
              have hfin : 0 < (r1.nd.fl.getD wn f0).q.length → _ := fun h => hfin (List.length_pos_iff.1 h)
              rw [← hgd]
              repeat' first | simp (disch := first | with_reducible assumption | omega) only [go_sem, Bool.true_and, Bool.and_true, Bool.and_self, Bool.false_and, Bool.and_false, Bool.true_or, Bool.or_true, Bool.false_or, Bool.or_false, ↓reduceIte, Nat.reduceEqDiff, Nat.reduceAdd, Nat.reduceMul, Nat.reduceSub, Nat.reduceBEq, Nat.reduceLeDiff, Nat.reduceLT, Nat.reduceMod, Nat.reduceDiv, Int.reduceToNat, Int.reducePow, Int.reduceMul, Int.reduceAdd, Int.reduceSub, Int.reduceLE, Int.reduceLT, Int.reduceNeg, Int.reduceDiv, Int.reduceMod, Int.reduceEq, Int.reduceBEq, Int.reduceBNe, f4, f4b, f4r0, f4r1, f4r2, f4r3, f4r4, f4r5, f4r6, f4r7, f4r8, f4r9, f4r10, f4r11, f4r13, f4r14, f4r15, f4r16, f4r17, f4r18, f4r19, f4r20, f4r21, f4r22, f4r23, f4r24, f4r25, f4r26, f4r27, f4r28, f4r29, f4r30, f4r31, f4r32, f4r33, f4r34, f4r35, f4r36, f4r38, f4l1, get_old hkoG, get_old hke, get_old hks, get_old hkwG, x0, x1, x2, xe, y0, y1, hw0, hXW, hXS] | (refine BrW.of (fun hb => ?_) (fun hb => ?_) <;> (have hb' := hb; try simp only [decide_eq_true_eq, decide_eq_false_iff_not, beq_iff_eq, bne_iff_ne, beq_eq_false_iff_ne, bne_eq_false_iff_eq, Bool.not_eq_true', Bool.not_eq_false', Bool.not_eq_true, Bool.not_eq_false, Bool.and_eq_true, Bool.or_eq_true, Bool.and_eq_false_iff, Bool.or_eq_false_iff, Int.not_lt, Int.not_le, ne_eq, gt_iff_lt, ge_iff_le] at hb') <;> (try (exfalso; omega))) | (refine altW.of ?_ ?_)
              all_goals
                refine RdW.keep [0, 2, 7, 8, 11, 14, 15, 16, 17, 69, 70, 71] (ops.length - (i + 1)) (by omega) ?_
                simp (disch := first | with_reducible assumption | omega) only [go_sem, Bool.true_and, Bool.and_true, Bool.and_self, Bool.false_and, Bool.and_false, Bool.true_or, Bool.or_true, Bool.false_or, Bool.or_false, ↓reduceIte, Nat.reduceEqDiff, Nat.reduceAdd, Nat.reduceMul, Nat.reduceSub, Nat.reduceBEq, Nat.reduceLeDiff, Nat.reduceLT, Nat.reduceMod, Nat.reduceDiv, Int.reduceToNat, Int.reducePow, Int.reduceMul, Int.reduceAdd, Int.reduceSub, Int.reduceLE, Int.reduceLT, Int.reduceNeg, Int.reduceDiv, Int.reduceMod, Int.reduceEq, Int.reduceBEq, Int.reduceBNe]
                exact ⟨i + 1, _, _, _, by rw [hr1, hls]; rfl, rfl, by omega, rfl, by rw [hr1]; exact hA1, by omega, by omega⟩
        · repeat' first | simp (disch := first | with_reducible assumption | omega) only [go_sem, Bool.true_and, Bool.and_true, Bool.and_self, Bool.false_and, Bool.and_false, Bool.true_or, Bool.or_true, Bool.false_or, Bool.or_false, ↓reduceIte, Nat.reduceEqDiff, Nat.reduceAdd, Nat.reduceMul, Nat.reduceSub, Nat.reduceBEq, Nat.reduceLeDiff, Nat.reduceLT, Nat.reduceMod, Nat.reduceDiv, Int.reduceToNat, Int.reducePow, Int.reduceMul, Int.reduceAdd, Int.reduceSub, Int.reduceLE, Int.reduceLT, Int.reduceNeg, Int.reduceDiv, Int.reduceMod, Int.reduceEq, Int.reduceBEq, Int.reduceBNe, f4, f4b, f4r0, f4r1, f4r2, f4r3, f4r4, f4r5, f4r6, f4r7, f4r8, f4r9, f4r10, f4r11, f4r13, f4r14, f4r15, f4r16, f4r17, f4r18, f4r19, f4r20, f4r21, f4r22, f4r23, f4r24, f4r25, f4r26, f4r27, f4r28, f4r29, f4r30, f4r31, f4r32, f4r33, f4r34, f4r35, f4r36, f4r38, f4l1, f4, f4b, f4r0, f4r1, f4r2, f4r3, f4r4, f4r5, f4r6, f4r7, f4r8, f4r9, f4r10, f4r11, f4r13, f4r14, f4r15, f4r16, f4r17, f4r18, f4r19, f4r20, f4r21, f4r22, f4r23, f4r24, f4r25, f4r26, f4r27, f4r28, f4r29, f4r30, f4r31, f4r32, f4r33, f4r34, f4r35, f4r36, f4r38] | (refine BrW.of (fun hb => ?_) (fun hb => ?_) <;> (have hb' := hb; try simp only [decide_eq_true_eq, decide_eq_false_iff_not, beq_iff_eq, bne_iff_ne, beq_eq_false_iff_ne, bne_eq_false_iff_eq, Bool.not_eq_true', Bool.not_eq_false', Bool.not_eq_true, Bool.not_eq_false, Bool.and_eq_true, Bool.or_eq_true, Bool.and_eq_false_iff, Bool.or_eq_false_iff, Int.not_lt, Int.not_le, ne_eq, gt_iff_lt, ge_iff_le] at hb') <;> (try (exfalso; omega))) | (refine altW.of ?_ ?_)
          exact .here rfl
    · have hbad : who < 0 ∨ (0 ≤ who ∧ (ws.length : Int) ≤ who) := by omega
      have hlen := hln.1
      clear hwho
      rcases hbad with hbad | ⟨hbad, hbad2⟩
      · repeat' first | simp (disch := first | with_reducible assumption | omega) only [go_sem, Bool.true_and, Bool.and_true, Bool.and_self, Bool.false_and, Bool.and_false, Bool.true_or, Bool.or_true, Bool.false_or, Bool.or_false, ↓reduceIte, Nat.reduceEqDiff, Nat.reduceAdd, Nat.reduceMul, Nat.reduceSub, Nat.reduceBEq, Nat.reduceLeDiff, Nat.reduceLT, Nat.reduceMod, Nat.reduceDiv, Int.reduceToNat, Int.reducePow, Int.reduceMul, Int.reduceAdd, Int.reduceSub, Int.reduceLE, Int.reduceLT, Int.reduceNeg, Int.reduceDiv, Int.reduceMod, Int.reduceEq, Int.reduceBEq, Int.reduceBNe, f4, f4b, f4r0, f4r1, f4r2, f4r3, f4r4, f4r5, f4r6, f4r7, f4r8, f4r9, f4r10, f4r11, f4r13, f4r14, f4r15, f4r16, f4r17, f4r18, f4r19, f4r20, f4r21, f4r22, f4r23, f4r24, f4r25, f4r26, f4r27, f4r28, f4r29, f4r30, f4r31, f4r32, f4r33, f4r34, f4r35, f4r36, f4r38, hkwG, hke, hkoG] | (refine BrW.of (fun hb => ?_) (fun hb => ?_) <;> (have hb' := hb; try simp only [decide_eq_true_eq, decide_eq_false_iff_not, beq_iff_eq, bne_iff_ne, beq_eq_false_iff_ne, bne_eq_false_iff_eq, Bool.not_eq_true', Bool.not_eq_false', Bool.not_eq_true, Bool.not_eq_false, Bool.and_eq_true, Bool.or_eq_true, Bool.and_eq_false_iff, Bool.or_eq_false_iff, Int.not_lt, Int.not_le, ne_eq, gt_iff_lt, ge_iff_le] at hb') <;> (try (exfalso; omega))) | (refine altW.of ?_ ?_)
        exact .here (by simp [hlen])
      · repeat' first | simp (disch := first | with_reducible assumption | omega) only [go_sem, Bool.true_and, Bool.and_true, Bool.and_self, Bool.false_and, Bool.and_false, Bool.true_or, Bool.or_true, Bool.false_or, Bool.or_false, ↓reduceIte, Nat.reduceEqDiff, Nat.reduceAdd, Nat.reduceMul, Nat.reduceSub, Nat.reduceBEq, Nat.reduceLeDiff, Nat.reduceLT, Nat.reduceMod, Nat.reduceDiv, Int.reduceToNat, Int.reducePow, Int.reduceMul, Int.reduceAdd, Int.reduceSub, Int.reduceLE, Int.reduceLT, Int.reduceNeg, Int.reduceDiv, Int.reduceMod, Int.reduceEq, Int.reduceBEq, Int.reduceBNe, f4, f4b, f4r0, f4r1, f4r2, f4r3, f4r4, f4r5, f4r6, f4r7, f4r8, f4r9, f4r10, f4r11, f4r13, f4r14, f4r15, f4r16, f4r17, f4r18, f4r19, f4r20, f4r21, f4r22, f4r23, f4r24, f4r25, f4r26, f4r27, f4r28, f4r29, f4r30, f4r31, f4r32, f4r33, f4r34, f4r35, f4r36, f4r38, hkwG, hke, hkoG] | (refine BrW.of (fun hb => ?_) (fun hb => ?_) <;> (have hb' := hb; try simp only [decide_eq_true_eq, decide_eq_false_iff_not, beq_iff_eq, bne_iff_ne, beq_eq_false_iff_ne, bne_eq_false_iff_eq, Bool.not_eq_true', Bool.not_eq_false', Bool.not_eq_true, Bool.not_eq_false, Bool.and_eq_true, Bool.or_eq_true, Bool.and_eq_false_iff, Bool.or_eq_false_iff, Int.not_lt, Int.not_le, ne_eq, gt_iff_lt, ge_iff_le] at hb') <;> (try (exfalso; omega))) | (refine altW.of ?_ ?_)
        exact .here (by simp [hlen])
  · obtain ⟨rfl, _⟩ := hn z
    repeat' first | simp (disch := first | with_reducible assumption | omega) only [go_sem, Bool.true_and, Bool.and_true, Bool.and_self, Bool.false_and, Bool.and_false, Bool.true_or, Bool.or_true, Bool.false_or, Bool.or_false, ↓reduceIte, Nat.reduceEqDiff, Nat.reduceAdd, Nat.reduceMul, Nat.reduceSub, Nat.reduceBEq, Nat.reduceLeDiff, Nat.reduceLT, Nat.reduceMod, Nat.reduceDiv, Int.reduceToNat, Int.reducePow, Int.reduceMul, Int.reduceAdd, Int.reduceSub, Int.reduceLE, Int.reduceLT, Int.reduceNeg, Int.reduceDiv, Int.reduceMod, Int.reduceEq, Int.reduceBEq, Int.reduceBNe, f4, f4b, f4r0, f4r1, f4r2, f4r3, f4r4, f4r5, f4r6, f4r7, f4r8, f4r9, f4r10, f4r11, f4r13, f4r14, f4r15, f4r16, f4r17, f4r18, f4r19, f4r20, f4r21, f4r22, f4r23, f4r24, f4r25, f4r26, f4r27, f4r28, f4r29, f4r30, f4r31, f4r32, f4r33, f4r34, f4r35, f4r36, f4r38] | (refine BrW.of (fun hb => ?_) (fun hb => ?_) <;> (have hb' := hb; try simp only [decide_eq_true_eq, decide_eq_false_iff_not, beq_iff_eq, bne_iff_ne, beq_eq_false_iff_ne, bne_eq_false_iff_eq, Bool.not_eq_true', Bool.not_eq_false', Bool.not_eq_true, Bool.not_eq_false, Bool.and_eq_true, Bool.or_eq_true, Bool.and_eq_false_iff, Bool.or_eq_false_iff, Int.not_lt, Int.not_le, ne_eq, gt_iff_lt, ge_iff_le] at hb') <;> (try (exfalso; omega))) | (refine altW.of ?_ ?_)
    exact .here rfl
end Go.Proofs.Ytdcodafidefloaa
