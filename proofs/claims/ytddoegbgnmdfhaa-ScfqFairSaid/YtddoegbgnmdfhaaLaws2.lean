import Derived.Test.YtddoegbgnmdfhaaPlain2
import Derived.Test.YtddoegbgnmdfhaaLaws
set_option linter.unusedSimpArgs false
set_option linter.unusedVariables false
set_option maxHeartbeats 4000000
set_option maxRecDepth 20000
namespace Go.Proofs.Ytddoegbgnmdfhaa
open Go Go.Am
attribute [local irreducible] opsW Ww loopW callW drawW outW outDW gW cW BrW bothW vW resW DropW RdW dcallW altW Later.run

def wl (nd : Nd) : List Int := nd.fl.map fun f => (f.t.length : Int)
theorem wl_len (nd : Nd) : (wl nd).length = nd.fl.length := by simp [wl]
theorem wl_getD (nd : Nd) (k : Nat) (h : k < nd.fl.length) : (wl nd).getD k 0 = (nd.fl.getD k f0).t.length := by
  simp [wl, List.getD_eq_getElem?_getD, List.getElem?_eq_getElem h]
theorem wl_get (nd : Nd) (k : Nat) (h : k < nd.fl.length) : (ints (wl nd))[k]? = some (.int .i64 ((nd.fl.getD k f0).t.length : Int)) := by
  rw [ints_get _ _ (by rw [wl_len]; exact h), wl_getD _ _ h]
theorem wl_set (nd : Nd) (k : Nat) (f : Fq) (t : Int) : wl ⟨nd.fl.set k f, t⟩ = (wl nd).set k (f.t.length : Int) := by simp [wl, List.map_set]
theorem sent_stays {G x : Heap} {k g : Nat} {ro : Bool} {cs : List Value} {a b : List Value} {ga : Nat} (h : (G ++ [.cells ga 1 false a, .cells 0 0 false b] ++ x)[k]? = some (.cells g 2 ro cs)) (A' B' : AObj) (y : Heap) : (G ++ A' :: B' :: (x ++ y))[k]? = some (.cells g 2 ro cs) := by
  by_cases h1 : k < G.length
  · rw [List.append_assoc, List.getElem?_append_left h1] at h
    rw [List.getElem?_append_left h1]; exact h
  · obtain ⟨i, rfl⟩ : ∃ i, k = G.length + i := ⟨k - G.length, by omega⟩
    rw [List.append_assoc, get_new] at h
    rw [get_new]
    match i, h with
    | 0, h => cases h
    | 1, h => cases h
    | i + 2, h =>
      simp only [List.cons_append, List.nil_append, List.getElem?_cons_succ] at h ⊢
      exact get_old h y
theorem ScfqFair_args (H : Heap) (vals : List Value) (h : ArgsOk maxLen H ScfqFairSh vals) : ACallK Try.prog 4 vals H fun v _ => v = .bool true := by
  obtain ⟨ww, _, rfl, a1, h⟩ := h.cons
  obtain ⟨wo, _, rfl, a2, h⟩ := h.cons
  obtain ⟨_, _, rfl, a3, h⟩ := h.cons
  obtain ⟨_, _, rfl, a4, h⟩ := h.cons
  obtain rfl := h.nil
  obtain ⟨ws, hT, hB, _⟩ := IsN.ofArg a1
  obtain ⟨ops, hO, hB2⟩ := IsO.ofArg a2
  obtain ⟨ia, rfl, _⟩ := a3.cell.int_inv
  obtain ⟨ib, rfl, _⟩ := a4.cell.int_inv
  have hm : maxLen ≤ 9223372036854775807 := by decide
  clear a1 a2 a3 a4 h
  have hT0 := hT
  have hO0 := hO
  obtain ⟨kw, ow, gw, cw, _, rfl, hsw, _⟩ := hT
  obtain ⟨row, csw, hkw, w2, w3⟩ := Ints.cell hsw
  obtain ⟨ko, oo, go, co, _, rfl, hso, hco⟩ := hO
  obtain ⟨roo, cso, hko, o2, o3⟩ := hso.at'
  refine .walkW f4_ok (by simp; decide) (by decide) ?_
  repeat' first | simp (disch := first | with_reducible assumption | omega) only [go_sem, Bool.true_and, Bool.and_true, Bool.and_self, Bool.false_and, Bool.and_false, Bool.true_or, Bool.or_true, Bool.false_or, Bool.or_false, ↓reduceIte, Nat.reduceEqDiff, Nat.reduceAdd, Nat.reduceMul, Nat.reduceSub, Nat.reduceBEq, Nat.reduceLeDiff, Nat.reduceLT, Nat.reduceMod, Nat.reduceDiv, Int.reduceToNat, Int.reducePow, Int.reduceMul, Int.reduceAdd, Int.reduceSub, Int.reduceLE, Int.reduceLT, Int.reduceNeg, Int.reduceDiv, Int.reduceMod, Int.reduceEq, Int.reduceBEq, Int.reduceBNe, f4, f4b, f4r0, f4r1, f4r2, f4r3, f4r4, f4r5, f4r6, f4r7, f4r8, f4r9, f4r10, f4r11, f4r12, f4r13, f4r14, f4r15, f4r16, f4r17, f4r18, f4r19, f4r20, f4r21, f4r22, f4r23, f4r24, f4r25, f4r26, f4r27, f4r28, f4r29, f4r30, f4r31, f4r32, f4r33, f4r34, f4r35, f4r36, f4r37, f4r39] | (refine BrW.of (fun hb => ?_) (fun hb => ?_) <;> (have hb' := hb; try simp only [decide_eq_true_eq, decide_eq_false_iff_not, beq_iff_eq, bne_iff_ne, beq_eq_false_iff_ne, bne_eq_false_iff_eq, Bool.not_eq_true', Bool.not_eq_false', Bool.not_eq_true, Bool.not_eq_false, Bool.and_eq_true, Bool.or_eq_true, Bool.and_eq_false_iff, Bool.or_eq_false_iff, Int.not_lt, Int.not_le, ne_eq, gt_iff_lt, ge_iff_le] at hb') <;> (try (exfalso; omega))) | (refine altW.of ?_ ?_) | (refine .of ((alive _).mono ?_); rintro v H ⟨rfl, rfl⟩)
  refine .of ((Play_spec ws ops _ _ (fun _ => True) _ hT0 hO0 (by omega) (by omega)).mono ?_)
  rintro v G ⟨a', b', c', e, rfl, hLe, he, hn, hy⟩
  by_cases z : e = 0
  · obtain ⟨hok, h400⟩ := he.1 z
    obtain ⟨hS, hL, hM⟩ := hy z
    subst z
    have hokw : okW ws := hok
    have hln := run_lens ws ops
    have hn16 := hok.1
    have hT1 := hT0.le hLe
    have hO1 := hO0.le hLe
    obtain ⟨xG, rfl⟩ := hLe
    have hkwG := get_old hkw xG
    have hkoG := get_old hko xG
    generalize H ++ xG = G at *
    obtain ⟨sc, ac, cc, rfl⟩ := hM.slice
    obtain ⟨sb, ab, cb, rfl⟩ := hL.slice
    obtain ⟨ke, oe, ge, ce, _, rfl, hse, hce⟩ := hS
    obtain ⟨roe, cse, hke, e2, e3⟩ := Ints.cell hse
    have hlen := hln.1
    clear hn hy he hL hM
    rcases (by omega : (0 ≤ ia ∧ 0 ≤ ib ∧ ia < ws.length ∧ ib < ws.length ∧ ia ≠ ib) ∨ ia < 0 ∨ (0 ≤ ia ∧ ib < 0) ∨ (0 ≤ ia ∧ 0 ≤ ib ∧ (ws.length : Int) ≤ ia) ∨ (0 ≤ ia ∧ 0 ≤ ib ∧ ia < ws.length ∧ (ws.length : Int) ≤ ib) ∨ (0 ≤ ia ∧ 0 ≤ ib ∧ ia < ws.length ∧ ib < ws.length ∧ ia = ib)) with ⟨q1, q2, q3, q4, q5⟩ | q1 | ⟨q1, q2⟩ | ⟨q1, q2, q3⟩ | ⟨q1, q2, q3, q4⟩ | ⟨q1, q2, q3, q4, rfl⟩
    · obtain ⟨a, rfl⟩ := Int.eq_ofNat_of_zero_le q1
      obtain ⟨b, rfl⟩ := Int.eq_ofNat_of_zero_le q2
      have ha : a < ws.length := by omega
      have hb0 : b < ws.length := by omega
      have hab : a ≠ b := by omega
      have hwa := w3 a ha
      have hwb := w3 b hb0
      have hba := hok.2 a ha
      have hbb := hok.2 b hb0
      have hzz : (List.replicate ws.length [Value.int .i64 0]).flatten = ints (wl (runR ws (ops.take 0)).nd) := by
        have : ∀ n : Nat, (List.replicate n [Value.int .i64 0]).flatten = List.replicate n (Value.int .i64 0) := fun n => by
          induction n with
          | zero => rfl
          | succ n ih => simp only [List.replicate_succ, List.flatten_cons, ih]; rfl
        rw [this]
        simp [wl, runR, startR, ints, f0]
      repeat' first | simp (disch := first | with_reducible assumption | omega) only [go_sem, Bool.true_and, Bool.and_true, Bool.and_self, Bool.false_and, Bool.and_false, Bool.true_or, Bool.or_true, Bool.false_or, Bool.or_false, ↓reduceIte, Nat.reduceEqDiff, Nat.reduceAdd, Nat.reduceMul, Nat.reduceSub, Nat.reduceBEq, Nat.reduceLeDiff, Nat.reduceLT, Nat.reduceMod, Nat.reduceDiv, Int.reduceToNat, Int.reducePow, Int.reduceMul, Int.reduceAdd, Int.reduceSub, Int.reduceLE, Int.reduceLT, Int.reduceNeg, Int.reduceDiv, Int.reduceMod, Int.reduceEq, Int.reduceBEq, Int.reduceBNe, f4, f4b, f4r0, f4r1, f4r2, f4r3, f4r4, f4r5, f4r6, f4r7, f4r8, f4r9, f4r10, f4r11, f4r12, f4r13, f4r14, f4r15, f4r16, f4r17, f4r18, f4r19, f4r20, f4r21, f4r22, f4r23, f4r24, f4r25, f4r26, f4r27, f4r28, f4r29, f4r30, f4r31, f4r32, f4r33, f4r34, f4r35, f4r36, f4r37, f4r39, hkwG, hke, hkoG, hzz, get_old hkwG] | (refine BrW.of (fun hb => ?_) (fun hb => ?_) <;> (have hb' := hb; try simp only [decide_eq_true_eq, decide_eq_false_iff_not, beq_iff_eq, bne_iff_ne, beq_eq_false_iff_ne, bne_eq_false_iff_eq, Bool.not_eq_true', Bool.not_eq_false', Bool.not_eq_true, Bool.not_eq_false, Bool.and_eq_true, Bool.or_eq_true, Bool.and_eq_false_iff, Bool.or_eq_false_iff, Int.not_lt, Int.not_le, ne_eq, gt_iff_lt, ge_iff_le] at hb') <;> (try (exfalso; omega))) | (refine altW.of ?_ ?_)
      refine .of ((Play_spec ws ops _ _ (fun _ => True) _ (hT1.app _) (hO1.app _) (by omega) (by omega)).mono ?_)
      rintro v G2 ⟨a2, b2, c2, e, rfl, hLe2, he2, hn2, hy2⟩
      obtain rfl : e = 0 := he2.2 ⟨hok, h400⟩
      obtain ⟨_, hL2, _⟩ := hy2 rfl
      obtain ⟨ks, os, gs, cs, _, rfl, hss, hcs⟩ := hL2
      obtain ⟨ros, css, hks0, s2, s3⟩ := hss.at'
      obtain ⟨xh, rfl⟩ := hLe2
      have hksF := sent_stays hks0
      clear hks0
      repeat' first | simp (disch := first | with_reducible assumption | omega) only [go_sem, Bool.true_and, Bool.and_true, Bool.and_self, Bool.false_and, Bool.and_false, Bool.true_or, Bool.or_true, Bool.false_or, Bool.or_false, ↓reduceIte, Nat.reduceEqDiff, Nat.reduceAdd, Nat.reduceMul, Nat.reduceSub, Nat.reduceBEq, Nat.reduceLeDiff, Nat.reduceLT, Nat.reduceMod, Nat.reduceDiv, Int.reduceToNat, Int.reducePow, Int.reduceMul, Int.reduceAdd, Int.reduceSub, Int.reduceLE, Int.reduceLT, Int.reduceNeg, Int.reduceDiv, Int.reduceMod, Int.reduceEq, Int.reduceBEq, Int.reduceBNe, f4, f4b, f4r0, f4r1, f4r2, f4r3, f4r4, f4r5, f4r6, f4r7, f4r8, f4r9, f4r10, f4r11, f4r12, f4r13, f4r14, f4r15, f4r16, f4r17, f4r18, f4r19, f4r20, f4r21, f4r22, f4r23, f4r24, f4r25, f4r26, f4r27, f4r28, f4r29, f4r30, f4r31, f4r32, f4r33, f4r34, f4r35, f4r36, f4r37, f4r39, hkwG, get_old hkwG, hkoG, get_old hkoG, hwa, hwb] | (refine BrW.of (fun hb => ?_) (fun hb => ?_) <;> (have hb' := hb; try simp only [decide_eq_true_eq, decide_eq_false_iff_not, beq_iff_eq, bne_iff_ne, beq_eq_false_iff_ne, bne_eq_false_iff_eq, Bool.not_eq_true', Bool.not_eq_false', Bool.not_eq_true, Bool.not_eq_false, Bool.and_eq_true, Bool.or_eq_true, Bool.and_eq_false_iff, Bool.or_eq_false_iff, Int.not_lt, Int.not_le, ne_eq, gt_iff_lt, ge_iff_le] at hb') <;> (try (exfalso; omega))) | (refine altW.of ?_ ?_)
      have hl0 : ∀ k, ((runR ws (ops.take 0)).nd.fl.getD k f0).t = [] := fun k => by simp only [List.take_zero, runR, List.foldl_nil]; rw [start_f0]; rfl
      refine loopW.of (by decide) (fun m e J => ∃ (i : Nat) (bv : Bool) (g0 g1 low high : Int) (y : Heap), e = [(0, slv kw ow gw ws.length cw), (2, .int .i64 a), (3, .int .i64 b), (9, slv ke oe ge (runR ws ops).errs.length ce), (13, slv G.length 0 0 ws.length ws.length), (14, .pointer (some ⟨G.length + 1, 0, some 1⟩)), (15, .int .i64 low), (16, .int .i64 high), (17, .int .i64 (runR ws (ops.take i)).sent.length), (19, slv ks os gs (runR ws ops).sent.length cs), (22, .bool bv), (23, .int .i64 (1500 * (ws.getD a 0 + ws.getD b 0))), (102, slv ko oo go ops.length co), (103, .int .i64 ops.length), (104, .int .i64 i)] ∧
        J = G ++ (.cells 0 1 false (ints (wl (runR ws (ops.take i)).nd)) :: .cells 0 0 false [.int .i64 g0, .int .i64 g1] :: (xh ++ y)) ∧ i ≤ ops.length ∧ m = ops.length - i ∧ (0 ≤ g0 ∧ g0 ≤ 1500 * i) ∧ (0 ≤ g1 ∧ g1 ≤ 1500 * i) ∧ (-7200000 ≤ low ∧ low ≤ 7200000) ∧ (-7200000 ≤ high ∧ high ≤ 7200000) ∧
        (bv = true → ((runR ws (ops.take i)).nd.fl.getD a f0).t ≠ [] ∧ ((runR ws (ops.take i)).nd.fl.getD b f0).t ≠ [] ∧ Gf ws (runR ws (ops.take i)).nd a b (g0 * ws.getD b 0 - g1 * ws.getD a 0) low high)) ops.length
        ⟨0, false, 0, 0, 0, 0, [], rfl, by simp, by omega, rfl, by omega, by omega, by omega, by omega, fun h => by cases h⟩ ?_
      rintro m e J ⟨i, bv, g0, g1, low, high, y, rfl, rfl, hi, rfl, ⟨p1, p2⟩, ⟨p3, p4⟩, ⟨p5, p6⟩, ⟨p7, p8⟩, hgf⟩
      by_cases hlt : i < ops.length
      · have x0 := o3 i hlt 0 (by omega)
        have x1 := o3 i hlt 1 (by omega)
        have x2 := o3 i hlt 2 (by omega)
        simp only [Op.cells, List.getElem?_cons_zero, List.getElem?_cons_succ, Nat.add_zero, show oo + i * 3 + 2 = oo + i * 3 + 1 + 1 by omega] at x0 x1 x2
        have xe := e3 i (by omega)
        have hro := run_okN hokw ops i (by omega)
        have hrl := (run_lens ws (ops.take i)).2.2
        have hfs := run_fs hokw ops i (by omega)
        have hro1 := run_okN hokw ops (i + 1) (by omega)
        have hrl1 := (run_lens ws (ops.take (i + 1))).2.2
        have hfs1 := run_fs hokw ops (i + 1) (by omega)
        have hql := run_qlen ws ops i (by omega)
        have hql1 := run_qlen ws ops (i + 1) (by omega)
        have hsl : (runR ws (ops.take i)).sent.length ≤ i := by have := (run_lens ws (ops.take i)).2.1; rw [List.length_take] at this; omega
        have hat := run_at hokw ops i hlt
        clear e3 o3 w3 hl0
        generalize hr1 : runR ws (ops.take (i + 1)) = r1 at *
        generalize hr0 : runR ws (ops.take i) = r0 at *
        generalize hR : runR ws ops = R at *
        generalize ops.getD i o0 = o at *
        have hX1 : 0 ≤ g0 * ws.getD b 0 ∧ g0 * ws.getD b 0 ≤ 7200000 := ⟨Int.mul_nonneg p1 (by omega), Int.le_trans (Int.mul_le_mul (show g0 ≤ 600000 by omega) hbb.2 (by omega) (by omega)) (by decide)⟩
        have hY1 : 0 ≤ g1 * ws.getD a 0 ∧ g1 * ws.getD a 0 ≤ 7200000 := ⟨Int.mul_nonneg p3 (by omega), Int.le_trans (Int.mul_le_mul (show g1 ≤ 600000 by omega) hba.2 (by omega) (by omega)) (by decide)⟩
        generalize hWA : ws.getD a 0 = WA at *
        generalize hWB : ws.getD b 0 = WB at *
        generalize hX : g0 * WB = X at *
        generalize hY : g1 * WA = Y at *
        have wl0 := wl_len r0.nd
        have il := ints_length (wl r0.nd)
        rw [wl0, hrl] at il
        rcases hat with ⟨e, he, hee, hnd, hsn⟩ | ⟨k, ho, hk, hf, hb1', hb2', hee, hnd, hsn⟩ | ⟨k, ho, hk, hp, hee, hnd, hsn, hsl2, hsg⟩
        · rw [hee] at xe
          repeat' first | simp (disch := first | with_reducible assumption | omega) only [go_sem, Bool.true_and, Bool.and_true, Bool.and_self, Bool.false_and, Bool.and_false, Bool.true_or, Bool.or_true, Bool.false_or, Bool.or_false, ↓reduceIte, Nat.reduceEqDiff, Nat.reduceAdd, Nat.reduceMul, Nat.reduceSub, Nat.reduceBEq, Nat.reduceLeDiff, Nat.reduceLT, Nat.reduceMod, Nat.reduceDiv, Int.reduceToNat, Int.reducePow, Int.reduceMul, Int.reduceAdd, Int.reduceSub, Int.reduceLE, Int.reduceLT, Int.reduceNeg, Int.reduceDiv, Int.reduceMod, Int.reduceEq, Int.reduceBEq, Int.reduceBNe, f4, f4b, f4r0, f4r1, f4r2, f4r3, f4r4, f4r5, f4r6, f4r7, f4r8, f4r9, f4r10, f4r11, f4r12, f4r13, f4r14, f4r15, f4r16, f4r17, f4r18, f4r19, f4r20, f4r21, f4r22, f4r23, f4r24, f4r25, f4r26, f4r27, f4r28, f4r29, f4r30, f4r31, f4r32, f4r33, f4r34, f4r35, f4r36, f4r37, f4r39, f4l0, get_old hkoG, get_old hke, get_old hkwG, hksF, x0, x1, x2, xe, hwa, hwb] | (refine BrW.of (fun hb => ?_) (fun hb => ?_) <;> (have hb' := hb; try simp only [decide_eq_true_eq, decide_eq_false_iff_not, beq_iff_eq, bne_iff_ne, beq_eq_false_iff_ne, bne_eq_false_iff_eq, Bool.not_eq_true', Bool.not_eq_false', Bool.not_eq_true, Bool.not_eq_false, Bool.and_eq_true, Bool.or_eq_true, Bool.and_eq_false_iff, Bool.or_eq_false_iff, Int.not_lt, Int.not_le, ne_eq, gt_iff_lt, ge_iff_le] at hb') <;> (try (exfalso; omega))) | (refine altW.of ?_ ?_)
          refine RdW.keep [0, 2, 3, 9, 13, 14, 15, 16, 17, 19, 22, 23, 102, 103, 104] (ops.length - (i + 1)) (by omega) ?_
          simp (disch := first | with_reducible assumption | omega) only [go_sem, Bool.true_and, Bool.and_true, Bool.and_self, Bool.false_and, Bool.and_false, Bool.true_or, Bool.or_true, Bool.false_or, Bool.or_false, ↓reduceIte, Nat.reduceEqDiff, Nat.reduceAdd, Nat.reduceMul, Nat.reduceSub, Nat.reduceBEq, Nat.reduceLeDiff, Nat.reduceLT, Nat.reduceMod, Nat.reduceDiv, Int.reduceToNat, Int.reducePow, Int.reduceMul, Int.reduceAdd, Int.reduceSub, Int.reduceLE, Int.reduceLT, Int.reduceNeg, Int.reduceDiv, Int.reduceMod, Int.reduceEq, Int.reduceBEq, Int.reduceBNe]
          exact ⟨i + 1, bv, g0, g1, low, high, y ++ _, by rw [hr1, hsn]; rfl, by rw [hr1, hnd], by omega, rfl, by omega, by omega, by omega, by omega, fun h => by rw [hr1, hnd, hX, hY]; exact hgf h⟩
        · rw [hee] at xe
          rw [ho] at x0
          rw [hf] at x1
          have hwk := wl_get r0.nd k (by omega)
          have hst : (ints (wl r0.nd)).set k (.int .i64 (((r0.nd.fl.getD k f0).t.length : Int) + 1)) = ints (wl r1.nd) := by
            rw [hnd, inN, wl_set, ints_set]
            simp [inF]
          have hwa1 := wl_get r1.nd a (by omega)
          have hwb1 := wl_get r1.nd b (by omega)
          have il1 := ints_length (wl r1.nd)
          rw [wl_len, hrl1] at il1
          have hXn := hX
          have hYn := hY
          have hqlk := (hql k).2
          by_cases hqa : (r1.nd.fl.getD a f0).t = []
          · rw [hqa] at hwa1
            simp only [List.length_nil] at hwa1
            repeat' first | simp (disch := first | with_reducible assumption | omega) only [go_sem, Bool.true_and, Bool.and_true, Bool.and_self, Bool.false_and, Bool.and_false, Bool.true_or, Bool.or_true, Bool.false_or, Bool.or_false, ↓reduceIte, Nat.reduceEqDiff, Nat.reduceAdd, Nat.reduceMul, Nat.reduceSub, Nat.reduceBEq, Nat.reduceLeDiff, Nat.reduceLT, Nat.reduceMod, Nat.reduceDiv, Int.reduceToNat, Int.reducePow, Int.reduceMul, Int.reduceAdd, Int.reduceSub, Int.reduceLE, Int.reduceLT, Int.reduceNeg, Int.reduceDiv, Int.reduceMod, Int.reduceEq, Int.reduceBEq, Int.reduceBNe, f4, f4b, f4r0, f4r1, f4r2, f4r3, f4r4, f4r5, f4r6, f4r7, f4r8, f4r9, f4r10, f4r11, f4r12, f4r13, f4r14, f4r15, f4r16, f4r17, f4r18, f4r19, f4r20, f4r21, f4r22, f4r23, f4r24, f4r25, f4r26, f4r27, f4r28, f4r29, f4r30, f4r31, f4r32, f4r33, f4r34, f4r35, f4r36, f4r37, f4r39, f4l0, get_old hkoG, get_old hke, get_old hkwG, hksF, x0, x1, x2, xe, hwa, hwb, hwk, hst, il, il1, hwa1, hwb1] | (refine BrW.of (fun hb => ?_) (fun hb => ?_) <;> (have hb' := hb; try simp only [decide_eq_true_eq, decide_eq_false_iff_not, beq_iff_eq, bne_iff_ne, beq_eq_false_iff_ne, bne_eq_false_iff_eq, Bool.not_eq_true', Bool.not_eq_false', Bool.not_eq_true, Bool.not_eq_false, Bool.and_eq_true, Bool.or_eq_true, Bool.and_eq_false_iff, Bool.or_eq_false_iff, Int.not_lt, Int.not_le, ne_eq, gt_iff_lt, ge_iff_le] at hb') <;> (try (exfalso; omega))) | (refine altW.of ?_ ?_)
            refine RdW.keep [0, 2, 3, 9, 13, 14, 15, 16, 17, 19, 22, 23, 102, 103, 104] (ops.length - (i + 1)) (by omega) ?_
            simp (disch := first | with_reducible assumption | omega) only [go_sem, Bool.true_and, Bool.and_true, Bool.and_self, Bool.false_and, Bool.and_false, Bool.true_or, Bool.or_true, Bool.false_or, Bool.or_false, ↓reduceIte, Nat.reduceEqDiff, Nat.reduceAdd, Nat.reduceMul, Nat.reduceSub, Nat.reduceBEq, Nat.reduceLeDiff, Nat.reduceLT, Nat.reduceMod, Nat.reduceDiv, Int.reduceToNat, Int.reducePow, Int.reduceMul, Int.reduceAdd, Int.reduceSub, Int.reduceLE, Int.reduceLT, Int.reduceNeg, Int.reduceDiv, Int.reduceMod, Int.reduceEq, Int.reduceBEq, Int.reduceBNe]
            exact ⟨i + 1, false, g0, g1, low, high, y ++ _, by rw [hr1, hsn]; rfl, by rw [hr1], by omega, rfl, by omega, by omega, by omega, by omega, fun h => by cases h⟩
          · have hqa0 := List.length_pos_iff.2 hqa
            have hla := (hql1 a).2
            by_cases hqb : (r1.nd.fl.getD b f0).t = []
            · rw [hqb] at hwb1
              simp only [List.length_nil] at hwb1
              generalize hlaE : (r1.nd.fl.getD a f0).t.length = la at *
              repeat' first | simp (disch := first | with_reducible assumption | omega) only [go_sem, Bool.true_and, Bool.and_true, Bool.and_self, Bool.false_and, Bool.and_false, Bool.true_or, Bool.or_true, Bool.false_or, Bool.or_false, ↓reduceIte, Nat.reduceEqDiff, Nat.reduceAdd, Nat.reduceMul, Nat.reduceSub, Nat.reduceBEq, Nat.reduceLeDiff, Nat.reduceLT, Nat.reduceMod, Nat.reduceDiv, Int.reduceToNat, Int.reducePow, Int.reduceMul, Int.reduceAdd, Int.reduceSub, Int.reduceLE, Int.reduceLT, Int.reduceNeg, Int.reduceDiv, Int.reduceMod, Int.reduceEq, Int.reduceBEq, Int.reduceBNe, f4, f4b, f4r0, f4r1, f4r2, f4r3, f4r4, f4r5, f4r6, f4r7, f4r8, f4r9, f4r10, f4r11, f4r12, f4r13, f4r14, f4r15, f4r16, f4r17, f4r18, f4r19, f4r20, f4r21, f4r22, f4r23, f4r24, f4r25, f4r26, f4r27, f4r28, f4r29, f4r30, f4r31, f4r32, f4r33, f4r34, f4r35, f4r36, f4r37, f4r39, f4l0, get_old hkoG, get_old hke, get_old hkwG, hksF, x0, x1, x2, xe, hwa, hwb, hwk, hst, il, il1, hwa1, hwb1] | (refine BrW.of (fun hb => ?_) (fun hb => ?_) <;> (have hb' := hb; try simp only [decide_eq_true_eq, decide_eq_false_iff_not, beq_iff_eq, bne_iff_ne, beq_eq_false_iff_ne, bne_eq_false_iff_eq, Bool.not_eq_true', Bool.not_eq_false', Bool.not_eq_true, Bool.not_eq_false, Bool.and_eq_true, Bool.or_eq_true, Bool.and_eq_false_iff, Bool.or_eq_false_iff, Int.not_lt, Int.not_le, ne_eq, gt_iff_lt, ge_iff_le] at hb') <;> (try (exfalso; omega))) | (refine altW.of ?_ ?_)
              refine RdW.keep [0, 2, 3, 9, 13, 14, 15, 16, 17, 19, 22, 23, 102, 103, 104] (ops.length - (i + 1)) (by omega) ?_
              simp (disch := first | with_reducible assumption | omega) only [go_sem, Bool.true_and, Bool.and_true, Bool.and_self, Bool.false_and, Bool.and_false, Bool.true_or, Bool.or_true, Bool.false_or, Bool.or_false, ↓reduceIte, Nat.reduceEqDiff, Nat.reduceAdd, Nat.reduceMul, Nat.reduceSub, Nat.reduceBEq, Nat.reduceLeDiff, Nat.reduceLT, Nat.reduceMod, Nat.reduceDiv, Int.reduceToNat, Int.reducePow, Int.reduceMul, Int.reduceAdd, Int.reduceSub, Int.reduceLE, Int.reduceLT, Int.reduceNeg, Int.reduceDiv, Int.reduceMod, Int.reduceEq, Int.reduceBEq, Int.reduceBNe]
              exact ⟨i + 1, false, g0, g1, low, high, y ++ _, by rw [hr1, hsn]; rfl, by rw [hr1], by omega, rfl, by omega, by omega, by omega, by omega, fun h => by cases h⟩
            · have hqb0 := List.length_pos_iff.2 hqb
              have hlb := (hql1 b).2
              generalize hlaE : (r1.nd.fl.getD a f0).t.length = la at *
              generalize hlbE : (r1.nd.fl.getD b f0).t.length = lb at *
              cases bv with
              | false =>
                have hgf1 := (Gf.start hokw hro1 hfs1 ha hb0 hqa hqb (X - Y)).ext hokw hro1 hfs1 ha hb0 hqa hqb
                repeat' first | simp (disch := first | with_reducible assumption | omega) only [go_sem, Bool.true_and, Bool.and_true, Bool.and_self, Bool.false_and, Bool.and_false, Bool.true_or, Bool.or_true, Bool.false_or, Bool.or_false, ↓reduceIte, Nat.reduceEqDiff, Nat.reduceAdd, Nat.reduceMul, Nat.reduceSub, Nat.reduceBEq, Nat.reduceLeDiff, Nat.reduceLT, Nat.reduceMod, Nat.reduceDiv, Int.reduceToNat, Int.reducePow, Int.reduceMul, Int.reduceAdd, Int.reduceSub, Int.reduceLE, Int.reduceLT, Int.reduceNeg, Int.reduceDiv, Int.reduceMod, Int.reduceEq, Int.reduceBEq, Int.reduceBNe, f4, f4b, f4r0, f4r1, f4r2, f4r3, f4r4, f4r5, f4r6, f4r7, f4r8, f4r9, f4r10, f4r11, f4r12, f4r13, f4r14, f4r15, f4r16, f4r17, f4r18, f4r19, f4r20, f4r21, f4r22, f4r23, f4r24, f4r25, f4r26, f4r27, f4r28, f4r29, f4r30, f4r31, f4r32, f4r33, f4r34, f4r35, f4r36, f4r37, f4r39, f4l0, get_old hkoG, get_old hke, get_old hkwG, hksF, x0, x1, x2, xe, hwa, hwb, hwk, hst, il, il1, hwa1, hwb1, hXn, hYn] | (refine BrW.of (fun hb => ?_) (fun hb => ?_) <;> (have hb' := hb; try simp only [decide_eq_true_eq, decide_eq_false_iff_not, beq_iff_eq, bne_iff_ne, beq_eq_false_iff_ne, bne_eq_false_iff_eq, Bool.not_eq_true', Bool.not_eq_false', Bool.not_eq_true, Bool.not_eq_false, Bool.and_eq_true, Bool.or_eq_true, Bool.and_eq_false_iff, Bool.or_eq_false_iff, Int.not_lt, Int.not_le, ne_eq, gt_iff_lt, ge_iff_le] at hb') <;> (try (exfalso; omega))) | (refine altW.of ?_ ?_)
                refine RdW.keep [0, 2, 3, 9, 13, 14, 15, 16, 17, 19, 22, 23, 102, 103, 104] (ops.length - (i + 1)) (by omega) ?_
                simp (disch := first | with_reducible assumption | omega) only [go_sem, Bool.true_and, Bool.and_true, Bool.and_self, Bool.false_and, Bool.and_false, Bool.true_or, Bool.or_true, Bool.false_or, Bool.or_false, ↓reduceIte, Nat.reduceEqDiff, Nat.reduceAdd, Nat.reduceMul, Nat.reduceSub, Nat.reduceBEq, Nat.reduceLeDiff, Nat.reduceLT, Nat.reduceMod, Nat.reduceDiv, Int.reduceToNat, Int.reducePow, Int.reduceMul, Int.reduceAdd, Int.reduceSub, Int.reduceLE, Int.reduceLT, Int.reduceNeg, Int.reduceDiv, Int.reduceMod, Int.reduceEq, Int.reduceBEq, Int.reduceBNe]
                exact ⟨i + 1, true, g0, g1, _, _, y ++ _, by rw [hr1, hsn]; rfl, by rw [hr1], by omega, rfl, by omega, by omega, by omega, by omega, fun _ => by rw [hr1, hXn, hYn]; exact ⟨hqa, hqb, hgf1⟩⟩
              | true =>
                obtain ⟨z1, z2, hg⟩ := hgf rfl
                have hgf1 := ((hnd ▸ hg.inn (x := o.b) hokw hrl hro hfs hk ⟨hb1', hb2'⟩ z1 z2 : Gf ws r1.nd a b (X - Y) low high)).ext hokw hro1 hfs1 ha hb0 hqa hqb
                have hfin := hgf1.fin
                rw [hWA, hWB] at hfin
                repeat' first | simp (disch := first | with_reducible assumption | omega) only [go_sem, Bool.true_and, Bool.and_true, Bool.and_self, Bool.false_and, Bool.and_false, Bool.true_or, Bool.or_true, Bool.false_or, Bool.or_false, ↓reduceIte, Nat.reduceEqDiff, Nat.reduceAdd, Nat.reduceMul, Nat.reduceSub, Nat.reduceBEq, Nat.reduceLeDiff, Nat.reduceLT, Nat.reduceMod, Nat.reduceDiv, Int.reduceToNat, Int.reducePow, Int.reduceMul, Int.reduceAdd, Int.reduceSub, Int.reduceLE, Int.reduceLT, Int.reduceNeg, Int.reduceDiv, Int.reduceMod, Int.reduceEq, Int.reduceBEq, Int.reduceBNe, f4, f4b, f4r0, f4r1, f4r2, f4r3, f4r4, f4r5, f4r6, f4r7, f4r8, f4r9, f4r10, f4r11, f4r12, f4r13, f4r14, f4r15, f4r16, f4r17, f4r18, f4r19, f4r20, f4r21, f4r22, f4r23, f4r24, f4r25, f4r26, f4r27, f4r28, f4r29, f4r30, f4r31, f4r32, f4r33, f4r34, f4r35, f4r36, f4r37, f4r39, f4l0, get_old hkoG, get_old hke, get_old hkwG, hksF, x0, x1, x2, xe, hwa, hwb, hwk, hst, il, il1, hwa1, hwb1, hXn, hYn] | (refine BrW.of (fun hb => ?_) (fun hb => ?_) <;> (have hb' := hb; try simp only [decide_eq_true_eq, decide_eq_false_iff_not, beq_iff_eq, bne_iff_ne, beq_eq_false_iff_ne, bne_eq_false_iff_eq, Bool.not_eq_true', Bool.not_eq_false', Bool.not_eq_true, Bool.not_eq_false, Bool.and_eq_true, Bool.or_eq_true, Bool.and_eq_false_iff, Bool.or_eq_false_iff, Int.not_lt, Int.not_le, ne_eq, gt_iff_lt, ge_iff_le] at hb') <;> (try (exfalso; omega))) | (refine altW.of ?_ ?_)
                refine RdW.keep [0, 2, 3, 9, 13, 14, 15, 16, 17, 19, 22, 23, 102, 103, 104] (ops.length - (i + 1)) (by omega) ?_
                simp (disch := first | with_reducible assumption | omega) only [go_sem, Bool.true_and, Bool.and_true, Bool.and_self, Bool.false_and, Bool.and_false, Bool.true_or, Bool.or_true, Bool.false_or, Bool.or_false, ↓reduceIte, Nat.reduceEqDiff, Nat.reduceAdd, Nat.reduceMul, Nat.reduceSub, Nat.reduceBEq, Nat.reduceLeDiff, Nat.reduceLT, Nat.reduceMod, Nat.reduceDiv, Int.reduceToNat, Int.reducePow, Int.reduceMul, Int.reduceAdd, Int.reduceSub, Int.reduceLE, Int.reduceLT, Int.reduceNeg, Int.reduceDiv, Int.reduceMod, Int.reduceEq, Int.reduceBEq, Int.reduceBNe]
                exact ⟨i + 1, true, g0, g1, _, _, y ++ _, by rw [hr1, hsn]; rfl, by rw [hr1], by omega, rfl, by omega, by omega, by omega, by omega, fun _ => by rw [hr1, hXn, hYn]; exact ⟨hqa, hqb, hgf1⟩⟩
        · rw [hee] at xe
          rw [ho] at x0
          have y0 := s3 r0.sent.length hsl2 0 (by omega)
          have y1 := s3 r0.sent.length hsl2 1 (by omega)
          rw [hsg] at y0 y1
          simp only [S.cells, List.getElem?_cons_zero, List.getElem?_cons_succ, Nat.add_zero] at y0 y1
          have hwk := wl_get r0.nd k (by omega)
          have hlk := List.length_pos_iff.2 hp.q
          have hqlk := (hql k).2
          have hst : (ints (wl r0.nd)).set k (.int .i64 (((r0.nd.fl.getD k f0).t.length : Int) - 1)) = ints (wl r1.nd) := by
            rw [hnd, outN, wl_set, ints_set]
            simp only [outF, List.length_tail]
            congr 2
            omega
          have hwa1 := wl_get r1.nd a (by omega)
          have hwb1 := wl_get r1.nd b (by omega)
          have il1 := ints_length (wl r1.nd)
          rw [wl_len, hrl1] at il1
          have hls : (r1.sent.length : Int) = r0.sent.length + 1 := by rw [hsn]; simp
          have hhb := headQ_bound (hro.f k).2.2.1
          have hgo : bv = true → _ := fun h => Gf.out hokw hrl hfs hab ha hb0 hk hp (hgf h).2.2
          rw [← hnd] at hgo
          generalize headQ (r0.nd.fl.getD k f0).b = xx at *
          generalize (r0.nd.fl.getD k f0).t.length = lk at *
          rw [hWA, hWB] at hgo
          by_cases hka : k = a
          · subst hka
            have hkb : ¬ k = b := hab
            rw [if_pos rfl, if_neg hkb, Int.sub_zero] at hgo
            have hXn : (g0 + xx) * WB = X + xx * WB := by rw [Int.add_mul, hX]
            have hYn := hY
            have hxw : 0 ≤ xx * WB ∧ xx * WB ≤ 18000 := ⟨Int.mul_nonneg hhb.1 (by omega), Int.mul_le_mul hhb.2 hbb.2 (by omega) (by omega)⟩
            generalize hXW : xx * WB = XW at *
            have hX2 : X + XW ≤ 7200000 := by
              rw [← hXn]; exact Int.le_trans (Int.mul_le_mul (show g0 + xx ≤ 600000 by omega) hbb.2 (by omega) (by omega)) (by decide)
            have hgo : bv = true → Gf ws r1.nd k b (X + XW - Y) low high := fun h => by have := hgo h; rwa [show X - Y + XW = X + XW - Y by omega] at this
            by_cases hqa : (r1.nd.fl.getD k f0).t = []
            · rw [hqa] at hwa1
              simp only [List.length_nil] at hwa1
              repeat' first | simp (disch := first | with_reducible assumption | omega) only [go_sem, Bool.true_and, Bool.and_true, Bool.and_self, Bool.false_and, Bool.and_false, Bool.true_or, Bool.or_true, Bool.false_or, Bool.or_false, ↓reduceIte, Nat.reduceEqDiff, Nat.reduceAdd, Nat.reduceMul, Nat.reduceSub, Nat.reduceBEq, Nat.reduceLeDiff, Nat.reduceLT, Nat.reduceMod, Nat.reduceDiv, Int.reduceToNat, Int.reducePow, Int.reduceMul, Int.reduceAdd, Int.reduceSub, Int.reduceLE, Int.reduceLT, Int.reduceNeg, Int.reduceDiv, Int.reduceMod, Int.reduceEq, Int.reduceBEq, Int.reduceBNe, f4, f4b, f4r0, f4r1, f4r2, f4r3, f4r4, f4r5, f4r6, f4r7, f4r8, f4r9, f4r10, f4r11, f4r12, f4r13, f4r14, f4r15, f4r16, f4r17, f4r18, f4r19, f4r20, f4r21, f4r22, f4r23, f4r24, f4r25, f4r26, f4r27, f4r28, f4r29, f4r30, f4r31, f4r32, f4r33, f4r34, f4r35, f4r36, f4r37, f4r39, f4l0, get_old hkoG, get_old hke, get_old hkwG, hksF, x0, x1, x2, xe, hwa, hwb, hwk, hst, il, il1, y0, y1, hwa1, hwb1] | (refine BrW.of (fun hb => ?_) (fun hb => ?_) <;> (have hb' := hb; try simp only [decide_eq_true_eq, decide_eq_false_iff_not, beq_iff_eq, bne_iff_ne, beq_eq_false_iff_ne, bne_eq_false_iff_eq, Bool.not_eq_true', Bool.not_eq_false', Bool.not_eq_true, Bool.not_eq_false, Bool.and_eq_true, Bool.or_eq_true, Bool.and_eq_false_iff, Bool.or_eq_false_iff, Int.not_lt, Int.not_le, ne_eq, gt_iff_lt, ge_iff_le] at hb') <;> (try (exfalso; omega))) | (refine altW.of ?_ ?_)
              refine RdW.keep [0, 2, 3, 9, 13, 14, 15, 16, 17, 19, 22, 23, 102, 103, 104] (ops.length - (i + 1)) (by omega) ?_
              simp (disch := first | with_reducible assumption | omega) only [go_sem, Bool.true_and, Bool.and_true, Bool.and_self, Bool.false_and, Bool.and_false, Bool.true_or, Bool.or_true, Bool.false_or, Bool.or_false, ↓reduceIte, Nat.reduceEqDiff, Nat.reduceAdd, Nat.reduceMul, Nat.reduceSub, Nat.reduceBEq, Nat.reduceLeDiff, Nat.reduceLT, Nat.reduceMod, Nat.reduceDiv, Int.reduceToNat, Int.reducePow, Int.reduceMul, Int.reduceAdd, Int.reduceSub, Int.reduceLE, Int.reduceLT, Int.reduceNeg, Int.reduceDiv, Int.reduceMod, Int.reduceEq, Int.reduceBEq, Int.reduceBNe]
              exact ⟨i + 1, false, (g0 + xx), g1, low, high, y ++ _, by rw [hr1, hls]; rfl, by rw [hr1], by omega, rfl, by omega, by omega, by omega, by omega, fun h => by cases h⟩
            · have hqa0 := List.length_pos_iff.2 hqa
              have hla := (hql1 k).2
              by_cases hqb : (r1.nd.fl.getD b f0).t = []
              · rw [hqb] at hwb1
                simp only [List.length_nil] at hwb1
                generalize hlaE : (r1.nd.fl.getD k f0).t.length = la at *
                repeat' first | simp (disch := first | with_reducible assumption | omega) only [go_sem, Bool.true_and, Bool.and_true, Bool.and_self, Bool.false_and, Bool.and_false, Bool.true_or, Bool.or_true, Bool.false_or, Bool.or_false, ↓reduceIte, Nat.reduceEqDiff, Nat.reduceAdd, Nat.reduceMul, Nat.reduceSub, Nat.reduceBEq, Nat.reduceLeDiff, Nat.reduceLT, Nat.reduceMod, Nat.reduceDiv, Int.reduceToNat, Int.reducePow, Int.reduceMul, Int.reduceAdd, Int.reduceSub, Int.reduceLE, Int.reduceLT, Int.reduceNeg, Int.reduceDiv, Int.reduceMod, Int.reduceEq, Int.reduceBEq, Int.reduceBNe, f4, f4b, f4r0, f4r1, f4r2, f4r3, f4r4, f4r5, f4r6, f4r7, f4r8, f4r9, f4r10, f4r11, f4r12, f4r13, f4r14, f4r15, f4r16, f4r17, f4r18, f4r19, f4r20, f4r21, f4r22, f4r23, f4r24, f4r25, f4r26, f4r27, f4r28, f4r29, f4r30, f4r31, f4r32, f4r33, f4r34, f4r35, f4r36, f4r37, f4r39, f4l0, get_old hkoG, get_old hke, get_old hkwG, hksF, x0, x1, x2, xe, hwa, hwb, hwk, hst, il, il1, y0, y1, hwa1, hwb1] | (refine BrW.of (fun hb => ?_) (fun hb => ?_) <;> (have hb' := hb; try simp only [decide_eq_true_eq, decide_eq_false_iff_not, beq_iff_eq, bne_iff_ne, beq_eq_false_iff_ne, bne_eq_false_iff_eq, Bool.not_eq_true', Bool.not_eq_false', Bool.not_eq_true, Bool.not_eq_false, Bool.and_eq_true, Bool.or_eq_true, Bool.and_eq_false_iff, Bool.or_eq_false_iff, Int.not_lt, Int.not_le, ne_eq, gt_iff_lt, ge_iff_le] at hb') <;> (try (exfalso; omega))) | (refine altW.of ?_ ?_)
                refine RdW.keep [0, 2, 3, 9, 13, 14, 15, 16, 17, 19, 22, 23, 102, 103, 104] (ops.length - (i + 1)) (by omega) ?_
                simp (disch := first | with_reducible assumption | omega) only [go_sem, Bool.true_and, Bool.and_true, Bool.and_self, Bool.false_and, Bool.and_false, Bool.true_or, Bool.or_true, Bool.false_or, Bool.or_false, ↓reduceIte, Nat.reduceEqDiff, Nat.reduceAdd, Nat.reduceMul, Nat.reduceSub, Nat.reduceBEq, Nat.reduceLeDiff, Nat.reduceLT, Nat.reduceMod, Nat.reduceDiv, Int.reduceToNat, Int.reducePow, Int.reduceMul, Int.reduceAdd, Int.reduceSub, Int.reduceLE, Int.reduceLT, Int.reduceNeg, Int.reduceDiv, Int.reduceMod, Int.reduceEq, Int.reduceBEq, Int.reduceBNe]
                exact ⟨i + 1, false, (g0 + xx), g1, low, high, y ++ _, by rw [hr1, hls]; rfl, by rw [hr1], by omega, rfl, by omega, by omega, by omega, by omega, fun h => by cases h⟩
              · have hqb0 := List.length_pos_iff.2 hqb
                have hlb := (hql1 b).2
                generalize hlaE : (r1.nd.fl.getD k f0).t.length = la at *
                generalize hlbE : (r1.nd.fl.getD b f0).t.length = lb at *
                cases bv with
                | false =>
                  have hgf1 := (Gf.start hokw hro1 hfs1 ha hb0 hqa hqb ((X + XW) - Y)).ext hokw hro1 hfs1 ha hb0 hqa hqb
                  repeat' first | simp (disch := first | with_reducible assumption | omega) only [go_sem, Bool.true_and, Bool.and_true, Bool.and_self, Bool.false_and, Bool.and_false, Bool.true_or, Bool.or_true, Bool.false_or, Bool.or_false, ↓reduceIte, Nat.reduceEqDiff, Nat.reduceAdd, Nat.reduceMul, Nat.reduceSub, Nat.reduceBEq, Nat.reduceLeDiff, Nat.reduceLT, Nat.reduceMod, Nat.reduceDiv, Int.reduceToNat, Int.reducePow, Int.reduceMul, Int.reduceAdd, Int.reduceSub, Int.reduceLE, Int.reduceLT, Int.reduceNeg, Int.reduceDiv, Int.reduceMod, Int.reduceEq, Int.reduceBEq, Int.reduceBNe, f4, f4b, f4r0, f4r1, f4r2, f4r3, f4r4, f4r5, f4r6, f4r7, f4r8, f4r9, f4r10, f4r11, f4r12, f4r13, f4r14, f4r15, f4r16, f4r17, f4r18, f4r19, f4r20, f4r21, f4r22, f4r23, f4r24, f4r25, f4r26, f4r27, f4r28, f4r29, f4r30, f4r31, f4r32, f4r33, f4r34, f4r35, f4r36, f4r37, f4r39, f4l0, get_old hkoG, get_old hke, get_old hkwG, hksF, x0, x1, x2, xe, hwa, hwb, hwk, hst, il, il1, y0, y1, hwa1, hwb1, hXn, hYn] | (refine BrW.of (fun hb => ?_) (fun hb => ?_) <;> (have hb' := hb; try simp only [decide_eq_true_eq, decide_eq_false_iff_not, beq_iff_eq, bne_iff_ne, beq_eq_false_iff_ne, bne_eq_false_iff_eq, Bool.not_eq_true', Bool.not_eq_false', Bool.not_eq_true, Bool.not_eq_false, Bool.and_eq_true, Bool.or_eq_true, Bool.and_eq_false_iff, Bool.or_eq_false_iff, Int.not_lt, Int.not_le, ne_eq, gt_iff_lt, ge_iff_le] at hb') <;> (try (exfalso; omega))) | (refine altW.of ?_ ?_)
                  refine RdW.keep [0, 2, 3, 9, 13, 14, 15, 16, 17, 19, 22, 23, 102, 103, 104] (ops.length - (i + 1)) (by omega) ?_
                  simp (disch := first | with_reducible assumption | omega) only [go_sem, Bool.true_and, Bool.and_true, Bool.and_self, Bool.false_and, Bool.and_false, Bool.true_or, Bool.or_true, Bool.false_or, Bool.or_false, ↓reduceIte, Nat.reduceEqDiff, Nat.reduceAdd, Nat.reduceMul, Nat.reduceSub, Nat.reduceBEq, Nat.reduceLeDiff, Nat.reduceLT, Nat.reduceMod, Nat.reduceDiv, Int.reduceToNat, Int.reducePow, Int.reduceMul, Int.reduceAdd, Int.reduceSub, Int.reduceLE, Int.reduceLT, Int.reduceNeg, Int.reduceDiv, Int.reduceMod, Int.reduceEq, Int.reduceBEq, Int.reduceBNe]
                  exact ⟨i + 1, true, (g0 + xx), g1, _, _, y ++ _, by rw [hr1, hls]; rfl, by rw [hr1], by omega, rfl, by omega, by omega, by omega, by omega, fun _ => by rw [hr1, hXn, hYn]; exact ⟨hqa, hqb, hgf1⟩⟩
                | true =>
                  obtain ⟨z1, z2, hg⟩ := hgf rfl
                  have hgf1 := (hgo rfl).ext hokw hro1 hfs1 ha hb0 hqa hqb
                  have hfin := hgf1.fin
                  rw [hWA, hWB] at hfin
                  repeat' first | simp (disch := first | with_reducible assumption | omega) only [go_sem, Bool.true_and, Bool.and_true, Bool.and_self, Bool.false_and, Bool.and_false, Bool.true_or, Bool.or_true, Bool.false_or, Bool.or_false, ↓reduceIte, Nat.reduceEqDiff, Nat.reduceAdd, Nat.reduceMul, Nat.reduceSub, Nat.reduceBEq, Nat.reduceLeDiff, Nat.reduceLT, Nat.reduceMod, Nat.reduceDiv, Int.reduceToNat, Int.reducePow, Int.reduceMul, Int.reduceAdd, Int.reduceSub, Int.reduceLE, Int.reduceLT, Int.reduceNeg, Int.reduceDiv, Int.reduceMod, Int.reduceEq, Int.reduceBEq, Int.reduceBNe, f4, f4b, f4r0, f4r1, f4r2, f4r3, f4r4, f4r5, f4r6, f4r7, f4r8, f4r9, f4r10, f4r11, f4r12, f4r13, f4r14, f4r15, f4r16, f4r17, f4r18, f4r19, f4r20, f4r21, f4r22, f4r23, f4r24, f4r25, f4r26, f4r27, f4r28, f4r29, f4r30, f4r31, f4r32, f4r33, f4r34, f4r35, f4r36, f4r37, f4r39, f4l0, get_old hkoG, get_old hke, get_old hkwG, hksF, x0, x1, x2, xe, hwa, hwb, hwk, hst, il, il1, y0, y1, hwa1, hwb1, hXn, hYn] | (refine BrW.of (fun hb => ?_) (fun hb => ?_) <;> (have hb' := hb; try simp only [decide_eq_true_eq, decide_eq_false_iff_not, beq_iff_eq, bne_iff_ne, beq_eq_false_iff_ne, bne_eq_false_iff_eq, Bool.not_eq_true', Bool.not_eq_false', Bool.not_eq_true, Bool.not_eq_false, Bool.and_eq_true, Bool.or_eq_true, Bool.and_eq_false_iff, Bool.or_eq_false_iff, Int.not_lt, Int.not_le, ne_eq, gt_iff_lt, ge_iff_le] at hb') <;> (try (exfalso; omega))) | (refine altW.of ?_ ?_)
                  refine RdW.keep [0, 2, 3, 9, 13, 14, 15, 16, 17, 19, 22, 23, 102, 103, 104] (ops.length - (i + 1)) (by omega) ?_
                  simp (disch := first | with_reducible assumption | omega) only [go_sem, Bool.true_and, Bool.and_true, Bool.and_self, Bool.false_and, Bool.and_false, Bool.true_or, Bool.or_true, Bool.false_or, Bool.or_false, ↓reduceIte, Nat.reduceEqDiff, Nat.reduceAdd, Nat.reduceMul, Nat.reduceSub, Nat.reduceBEq, Nat.reduceLeDiff, Nat.reduceLT, Nat.reduceMod, Nat.reduceDiv, Int.reduceToNat, Int.reducePow, Int.reduceMul, Int.reduceAdd, Int.reduceSub, Int.reduceLE, Int.reduceLT, Int.reduceNeg, Int.reduceDiv, Int.reduceMod, Int.reduceEq, Int.reduceBEq, Int.reduceBNe]
                  exact ⟨i + 1, true, (g0 + xx), g1, _, _, y ++ _, by rw [hr1, hls]; rfl, by rw [hr1], by omega, rfl, by omega, by omega, by omega, by omega, fun _ => by rw [hr1, hXn, hYn]; exact ⟨hqa, hqb, hgf1⟩⟩
          · rw [if_neg hka, Int.add_zero] at hgo
            by_cases hkb : k = b
            · subst hkb
              rw [if_pos rfl] at hgo
              have hYn : (g1 + xx) * WA = Y + xx * WA := by rw [Int.add_mul, hY]
              have hXn := hX
              have hxw : 0 ≤ xx * WA ∧ xx * WA ≤ 18000 := ⟨Int.mul_nonneg hhb.1 (by omega), Int.mul_le_mul hhb.2 hba.2 (by omega) (by omega)⟩
              generalize hXW : xx * WA = XW at *
              have hX2 : Y + XW ≤ 7200000 := by
                rw [← hYn]; exact Int.le_trans (Int.mul_le_mul (show g1 + xx ≤ 600000 by omega) hba.2 (by omega) (by omega)) (by decide)
              have hgo : bv = true → Gf ws r1.nd a k (X - (Y + XW)) low high := fun h => by have := hgo h; rwa [show X - Y - XW = X - (Y + XW) by omega] at this
              by_cases hqa : (r1.nd.fl.getD a f0).t = []
              · rw [hqa] at hwa1
                simp only [List.length_nil] at hwa1
                repeat' first | simp (disch := first | with_reducible assumption | omega) only [go_sem, Bool.true_and, Bool.and_true, Bool.and_self, Bool.false_and, Bool.and_false, Bool.true_or, Bool.or_true, Bool.false_or, Bool.or_false, ↓reduceIte, Nat.reduceEqDiff, Nat.reduceAdd, Nat.reduceMul, Nat.reduceSub, Nat.reduceBEq, Nat.reduceLeDiff, Nat.reduceLT, Nat.reduceMod, Nat.reduceDiv, Int.reduceToNat, Int.reducePow, Int.reduceMul, Int.reduceAdd, Int.reduceSub, Int.reduceLE, Int.reduceLT, Int.reduceNeg, Int.reduceDiv, Int.reduceMod, Int.reduceEq, Int.reduceBEq, Int.reduceBNe, f4, f4b, f4r0, f4r1, f4r2, f4r3, f4r4, f4r5, f4r6, f4r7, f4r8, f4r9, f4r10, f4r11, f4r12, f4r13, f4r14, f4r15, f4r16, f4r17, f4r18, f4r19, f4r20, f4r21, f4r22, f4r23, f4r24, f4r25, f4r26, f4r27, f4r28, f4r29, f4r30, f4r31, f4r32, f4r33, f4r34, f4r35, f4r36, f4r37, f4r39, f4l0, get_old hkoG, get_old hke, get_old hkwG, hksF, x0, x1, x2, xe, hwa, hwb, hwk, hst, il, il1, y0, y1, hwa1, hwb1] | (refine BrW.of (fun hb => ?_) (fun hb => ?_) <;> (have hb' := hb; try simp only [decide_eq_true_eq, decide_eq_false_iff_not, beq_iff_eq, bne_iff_ne, beq_eq_false_iff_ne, bne_eq_false_iff_eq, Bool.not_eq_true', Bool.not_eq_false', Bool.not_eq_true, Bool.not_eq_false, Bool.and_eq_true, Bool.or_eq_true, Bool.and_eq_false_iff, Bool.or_eq_false_iff, Int.not_lt, Int.not_le, ne_eq, gt_iff_lt, ge_iff_le] at hb') <;> (try (exfalso; omega))) | (refine altW.of ?_ ?_)
                refine RdW.keep [0, 2, 3, 9, 13, 14, 15, 16, 17, 19, 22, 23, 102, 103, 104] (ops.length - (i + 1)) (by omega) ?_
                simp (disch := first | with_reducible assumption | omega) only [go_sem, Bool.true_and, Bool.and_true, Bool.and_self, Bool.false_and, Bool.and_false, Bool.true_or, Bool.or_true, Bool.false_or, Bool.or_false, ↓reduceIte, Nat.reduceEqDiff, Nat.reduceAdd, Nat.reduceMul, Nat.reduceSub, Nat.reduceBEq, Nat.reduceLeDiff, Nat.reduceLT, Nat.reduceMod, Nat.reduceDiv, Int.reduceToNat, Int.reducePow, Int.reduceMul, Int.reduceAdd, Int.reduceSub, Int.reduceLE, Int.reduceLT, Int.reduceNeg, Int.reduceDiv, Int.reduceMod, Int.reduceEq, Int.reduceBEq, Int.reduceBNe]
                exact ⟨i + 1, false, g0, (g1 + xx), low, high, y ++ _, by rw [hr1, hls]; rfl, by rw [hr1], by omega, rfl, by omega, by omega, by omega, by omega, fun h => by cases h⟩
              · have hqa0 := List.length_pos_iff.2 hqa
                have hla := (hql1 a).2
                by_cases hqb : (r1.nd.fl.getD k f0).t = []
                · rw [hqb] at hwb1
                  simp only [List.length_nil] at hwb1
                  generalize hlaE : (r1.nd.fl.getD a f0).t.length = la at *
                  repeat' first | simp (disch := first | with_reducible assumption | omega) only [go_sem, Bool.true_and, Bool.and_true, Bool.and_self, Bool.false_and, Bool.and_false, Bool.true_or, Bool.or_true, Bool.false_or, Bool.or_false, ↓reduceIte, Nat.reduceEqDiff, Nat.reduceAdd, Nat.reduceMul, Nat.reduceSub, Nat.reduceBEq, Nat.reduceLeDiff, Nat.reduceLT, Nat.reduceMod, Nat.reduceDiv, Int.reduceToNat, Int.reducePow, Int.reduceMul, Int.reduceAdd, Int.reduceSub, Int.reduceLE, Int.reduceLT, Int.reduceNeg, Int.reduceDiv, Int.reduceMod, Int.reduceEq, Int.reduceBEq, Int.reduceBNe, f4, f4b, f4r0, f4r1, f4r2, f4r3, f4r4, f4r5, f4r6, f4r7, f4r8, f4r9, f4r10, f4r11, f4r12, f4r13, f4r14, f4r15, f4r16, f4r17, f4r18, f4r19, f4r20, f4r21, f4r22, f4r23, f4r24, f4r25, f4r26, f4r27, f4r28, f4r29, f4r30, f4r31, f4r32, f4r33, f4r34, f4r35, f4r36, f4r37, f4r39, f4l0, get_old hkoG, get_old hke, get_old hkwG, hksF, x0, x1, x2, xe, hwa, hwb, hwk, hst, il, il1, y0, y1, hwa1, hwb1] | (refine BrW.of (fun hb => ?_) (fun hb => ?_) <;> (have hb' := hb; try simp only [decide_eq_true_eq, decide_eq_false_iff_not, beq_iff_eq, bne_iff_ne, beq_eq_false_iff_ne, bne_eq_false_iff_eq, Bool.not_eq_true', Bool.not_eq_false', Bool.not_eq_true, Bool.not_eq_false, Bool.and_eq_true, Bool.or_eq_true, Bool.and_eq_false_iff, Bool.or_eq_false_iff, Int.not_lt, Int.not_le, ne_eq, gt_iff_lt, ge_iff_le] at hb') <;> (try (exfalso; omega))) | (refine altW.of ?_ ?_)
                  refine RdW.keep [0, 2, 3, 9, 13, 14, 15, 16, 17, 19, 22, 23, 102, 103, 104] (ops.length - (i + 1)) (by omega) ?_
                  simp (disch := first | with_reducible assumption | omega) only [go_sem, Bool.true_and, Bool.and_true, Bool.and_self, Bool.false_and, Bool.and_false, Bool.true_or, Bool.or_true, Bool.false_or, Bool.or_false, ↓reduceIte, Nat.reduceEqDiff, Nat.reduceAdd, Nat.reduceMul, Nat.reduceSub, Nat.reduceBEq, Nat.reduceLeDiff, Nat.reduceLT, Nat.reduceMod, Nat.reduceDiv, Int.reduceToNat, Int.reducePow, Int.reduceMul, Int.reduceAdd, Int.reduceSub, Int.reduceLE, Int.reduceLT, Int.reduceNeg, Int.reduceDiv, Int.reduceMod, Int.reduceEq, Int.reduceBEq, Int.reduceBNe]
                  exact ⟨i + 1, false, g0, (g1 + xx), low, high, y ++ _, by rw [hr1, hls]; rfl, by rw [hr1], by omega, rfl, by omega, by omega, by omega, by omega, fun h => by cases h⟩
                · have hqb0 := List.length_pos_iff.2 hqb
                  have hlb := (hql1 k).2
                  generalize hlaE : (r1.nd.fl.getD a f0).t.length = la at *
                  generalize hlbE : (r1.nd.fl.getD k f0).t.length = lb at *
                  cases bv with
                  | false =>
                    have hgf1 := (Gf.start hokw hro1 hfs1 ha hb0 hqa hqb (X - (Y + XW))).ext hokw hro1 hfs1 ha hb0 hqa hqb
                    repeat' first | simp (disch := first | with_reducible assumption | omega) only [go_sem, Bool.true_and, Bool.and_true, Bool.and_self, Bool.false_and, Bool.and_false, Bool.true_or, Bool.or_true, Bool.false_or, Bool.or_false, ↓reduceIte, Nat.reduceEqDiff, Nat.reduceAdd, Nat.reduceMul, Nat.reduceSub, Nat.reduceBEq, Nat.reduceLeDiff, Nat.reduceLT, Nat.reduceMod, Nat.reduceDiv, Int.reduceToNat, Int.reducePow, Int.reduceMul, Int.reduceAdd, Int.reduceSub, Int.reduceLE, Int.reduceLT, Int.reduceNeg, Int.reduceDiv, Int.reduceMod, Int.reduceEq, Int.reduceBEq, Int.reduceBNe, f4, f4b, f4r0, f4r1, f4r2, f4r3, f4r4, f4r5, f4r6, f4r7, f4r8, f4r9, f4r10, f4r11, f4r12, f4r13, f4r14, f4r15, f4r16, f4r17, f4r18, f4r19, f4r20, f4r21, f4r22, f4r23, f4r24, f4r25, f4r26, f4r27, f4r28, f4r29, f4r30, f4r31, f4r32, f4r33, f4r34, f4r35, f4r36, f4r37, f4r39, f4l0, get_old hkoG, get_old hke, get_old hkwG, hksF, x0, x1, x2, xe, hwa, hwb, hwk, hst, il, il1, y0, y1, hwa1, hwb1, hXn, hYn] | (refine BrW.of (fun hb => ?_) (fun hb => ?_) <;> (have hb' := hb; try simp only [decide_eq_true_eq, decide_eq_false_iff_not, beq_iff_eq, bne_iff_ne, beq_eq_false_iff_ne, bne_eq_false_iff_eq, Bool.not_eq_true', Bool.not_eq_false', Bool.not_eq_true, Bool.not_eq_false, Bool.and_eq_true, Bool.or_eq_true, Bool.and_eq_false_iff, Bool.or_eq_false_iff, Int.not_lt, Int.not_le, ne_eq, gt_iff_lt, ge_iff_le] at hb') <;> (try (exfalso; omega))) | (refine altW.of ?_ ?_)
                    refine RdW.keep [0, 2, 3, 9, 13, 14, 15, 16, 17, 19, 22, 23, 102, 103, 104] (ops.length - (i + 1)) (by omega) ?_
                    simp (disch := first | with_reducible assumption | omega) only [go_sem, Bool.true_and, Bool.and_true, Bool.and_self, Bool.false_and, Bool.and_false, Bool.true_or, Bool.or_true, Bool.false_or, Bool.or_false, ↓reduceIte, Nat.reduceEqDiff, Nat.reduceAdd, Nat.reduceMul, Nat.reduceSub, Nat.reduceBEq, Nat.reduceLeDiff, Nat.reduceLT, Nat.reduceMod, Nat.reduceDiv, Int.reduceToNat, Int.reducePow, Int.reduceMul, Int.reduceAdd, Int.reduceSub, Int.reduceLE, Int.reduceLT, Int.reduceNeg, Int.reduceDiv, Int.reduceMod, Int.reduceEq, Int.reduceBEq, Int.reduceBNe]
                    exact ⟨i + 1, true, g0, (g1 + xx), _, _, y ++ _, by rw [hr1, hls]; rfl, by rw [hr1], by omega, rfl, by omega, by omega, by omega, by omega, fun _ => by rw [hr1, hXn, hYn]; exact ⟨hqa, hqb, hgf1⟩⟩
                  | true =>
                    obtain ⟨z1, z2, hg⟩ := hgf rfl
                    have hgf1 := (hgo rfl).ext hokw hro1 hfs1 ha hb0 hqa hqb
                    have hfin := hgf1.fin
                    rw [hWA, hWB] at hfin
                    repeat' first | simp (disch := first | with_reducible assumption | omega) only [go_sem, Bool.true_and, Bool.and_true, Bool.and_self, Bool.false_and, Bool.and_false, Bool.true_or, Bool.or_true, Bool.false_or, Bool.or_false, ↓reduceIte, Nat.reduceEqDiff, Nat.reduceAdd, Nat.reduceMul, Nat.reduceSub, Nat.reduceBEq, Nat.reduceLeDiff, Nat.reduceLT, Nat.reduceMod, Nat.reduceDiv, Int.reduceToNat, Int.reducePow, Int.reduceMul, Int.reduceAdd, Int.reduceSub, Int.reduceLE, Int.reduceLT, Int.reduceNeg, Int.reduceDiv, Int.reduceMod, Int.reduceEq, Int.reduceBEq, Int.reduceBNe, f4, f4b, f4r0, f4r1, f4r2, f4r3, f4r4, f4r5, f4r6, f4r7, f4r8, f4r9, f4r10, f4r11, f4r12, f4r13, f4r14, f4r15, f4r16, f4r17, f4r18, f4r19, f4r20, f4r21, f4r22, f4r23, f4r24, f4r25, f4r26, f4r27, f4r28, f4r29, f4r30, f4r31, f4r32, f4r33, f4r34, f4r35, f4r36, f4r37, f4r39, f4l0, get_old hkoG, get_old hke, get_old hkwG, hksF, x0, x1, x2, xe, hwa, hwb, hwk, hst, il, il1, y0, y1, hwa1, hwb1, hXn, hYn] | (refine BrW.of (fun hb => ?_) (fun hb => ?_) <;> (have hb' := hb; try simp only [decide_eq_true_eq, decide_eq_false_iff_not, beq_iff_eq, bne_iff_ne, beq_eq_false_iff_ne, bne_eq_false_iff_eq, Bool.not_eq_true', Bool.not_eq_false', Bool.not_eq_true, Bool.not_eq_false, Bool.and_eq_true, Bool.or_eq_true, Bool.and_eq_false_iff, Bool.or_eq_false_iff, Int.not_lt, Int.not_le, ne_eq, gt_iff_lt, ge_iff_le] at hb') <;> (try (exfalso; omega))) | (refine altW.of ?_ ?_)
                    refine RdW.keep [0, 2, 3, 9, 13, 14, 15, 16, 17, 19, 22, 23, 102, 103, 104] (ops.length - (i + 1)) (by omega) ?_
                    simp (disch := first | with_reducible assumption | omega) only [go_sem, Bool.true_and, Bool.and_true, Bool.and_self, Bool.false_and, Bool.and_false, Bool.true_or, Bool.or_true, Bool.false_or, Bool.or_false, ↓reduceIte, Nat.reduceEqDiff, Nat.reduceAdd, Nat.reduceMul, Nat.reduceSub, Nat.reduceBEq, Nat.reduceLeDiff, Nat.reduceLT, Nat.reduceMod, Nat.reduceDiv, Int.reduceToNat, Int.reducePow, Int.reduceMul, Int.reduceAdd, Int.reduceSub, Int.reduceLE, Int.reduceLT, Int.reduceNeg, Int.reduceDiv, Int.reduceMod, Int.reduceEq, Int.reduceBEq, Int.reduceBNe]
                    exact ⟨i + 1, true, g0, (g1 + xx), _, _, y ++ _, by rw [hr1, hls]; rfl, by rw [hr1], by omega, rfl, by omega, by omega, by omega, by omega, fun _ => by rw [hr1, hXn, hYn]; exact ⟨hqa, hqb, hgf1⟩⟩
            · rw [if_neg hkb, Int.sub_zero] at hgo
              have hXn := hX
              have hYn := hY
              by_cases hqa : (r1.nd.fl.getD a f0).t = []
              · rw [hqa] at hwa1
                simp only [List.length_nil] at hwa1
                repeat' first | simp (disch := first | with_reducible assumption | omega) only [go_sem, Bool.true_and, Bool.and_true, Bool.and_self, Bool.false_and, Bool.and_false, Bool.true_or, Bool.or_true, Bool.false_or, Bool.or_false, ↓reduceIte, Nat.reduceEqDiff, Nat.reduceAdd, Nat.reduceMul, Nat.reduceSub, Nat.reduceBEq, Nat.reduceLeDiff, Nat.reduceLT, Nat.reduceMod, Nat.reduceDiv, Int.reduceToNat, Int.reducePow, Int.reduceMul, Int.reduceAdd, Int.reduceSub, Int.reduceLE, Int.reduceLT, Int.reduceNeg, Int.reduceDiv, Int.reduceMod, Int.reduceEq, Int.reduceBEq, Int.reduceBNe, f4, f4b, f4r0, f4r1, f4r2, f4r3, f4r4, f4r5, f4r6, f4r7, f4r8, f4r9, f4r10, f4r11, f4r12, f4r13, f4r14, f4r15, f4r16, f4r17, f4r18, f4r19, f4r20, f4r21, f4r22, f4r23, f4r24, f4r25, f4r26, f4r27, f4r28, f4r29, f4r30, f4r31, f4r32, f4r33, f4r34, f4r35, f4r36, f4r37, f4r39, f4l0, get_old hkoG, get_old hke, get_old hkwG, hksF, x0, x1, x2, xe, hwa, hwb, hwk, hst, il, il1, y0, y1, hwa1, hwb1] | (refine BrW.of (fun hb => ?_) (fun hb => ?_) <;> (have hb' := hb; try simp only [decide_eq_true_eq, decide_eq_false_iff_not, beq_iff_eq, bne_iff_ne, beq_eq_false_iff_ne, bne_eq_false_iff_eq, Bool.not_eq_true', Bool.not_eq_false', Bool.not_eq_true, Bool.not_eq_false, Bool.and_eq_true, Bool.or_eq_true, Bool.and_eq_false_iff, Bool.or_eq_false_iff, Int.not_lt, Int.not_le, ne_eq, gt_iff_lt, ge_iff_le] at hb') <;> (try (exfalso; omega))) | (refine altW.of ?_ ?_)
                refine RdW.keep [0, 2, 3, 9, 13, 14, 15, 16, 17, 19, 22, 23, 102, 103, 104] (ops.length - (i + 1)) (by omega) ?_
                simp (disch := first | with_reducible assumption | omega) only [go_sem, Bool.true_and, Bool.and_true, Bool.and_self, Bool.false_and, Bool.and_false, Bool.true_or, Bool.or_true, Bool.false_or, Bool.or_false, ↓reduceIte, Nat.reduceEqDiff, Nat.reduceAdd, Nat.reduceMul, Nat.reduceSub, Nat.reduceBEq, Nat.reduceLeDiff, Nat.reduceLT, Nat.reduceMod, Nat.reduceDiv, Int.reduceToNat, Int.reducePow, Int.reduceMul, Int.reduceAdd, Int.reduceSub, Int.reduceLE, Int.reduceLT, Int.reduceNeg, Int.reduceDiv, Int.reduceMod, Int.reduceEq, Int.reduceBEq, Int.reduceBNe]
                exact ⟨i + 1, false, g0, g1, low, high, y ++ _, by rw [hr1, hls]; rfl, by rw [hr1], by omega, rfl, by omega, by omega, by omega, by omega, fun h => by cases h⟩
              · have hqa0 := List.length_pos_iff.2 hqa
                have hla := (hql1 a).2
                by_cases hqb : (r1.nd.fl.getD b f0).t = []
                · rw [hqb] at hwb1
                  simp only [List.length_nil] at hwb1
                  generalize hlaE : (r1.nd.fl.getD a f0).t.length = la at *
                  repeat' first | simp (disch := first | with_reducible assumption | omega) only [go_sem, Bool.true_and, Bool.and_true, Bool.and_self, Bool.false_and, Bool.and_false, Bool.true_or, Bool.or_true, Bool.false_or, Bool.or_false, ↓reduceIte, Nat.reduceEqDiff, Nat.reduceAdd, Nat.reduceMul, Nat.reduceSub, Nat.reduceBEq, Nat.reduceLeDiff, Nat.reduceLT, Nat.reduceMod, Nat.reduceDiv, Int.reduceToNat, Int.reducePow, Int.reduceMul, Int.reduceAdd, Int.reduceSub, Int.reduceLE, Int.reduceLT, Int.reduceNeg, Int.reduceDiv, Int.reduceMod, Int.reduceEq, Int.reduceBEq, Int.reduceBNe, f4, f4b, f4r0, f4r1, f4r2, f4r3, f4r4, f4r5, f4r6, f4r7, f4r8, f4r9, f4r10, f4r11, f4r12, f4r13, f4r14, f4r15, f4r16, f4r17, f4r18, f4r19, f4r20, f4r21, f4r22, f4r23, f4r24, f4r25, f4r26, f4r27, f4r28, f4r29, f4r30, f4r31, f4r32, f4r33, f4r34, f4r35, f4r36, f4r37, f4r39, f4l0, get_old hkoG, get_old hke, get_old hkwG, hksF, x0, x1, x2, xe, hwa, hwb, hwk, hst, il, il1, y0, y1, hwa1, hwb1] | (refine BrW.of (fun hb => ?_) (fun hb => ?_) <;> (have hb' := hb; try simp only [decide_eq_true_eq, decide_eq_false_iff_not, beq_iff_eq, bne_iff_ne, beq_eq_false_iff_ne, bne_eq_false_iff_eq, Bool.not_eq_true', Bool.not_eq_false', Bool.not_eq_true, Bool.not_eq_false, Bool.and_eq_true, Bool.or_eq_true, Bool.and_eq_false_iff, Bool.or_eq_false_iff, Int.not_lt, Int.not_le, ne_eq, gt_iff_lt, ge_iff_le] at hb') <;> (try (exfalso; omega))) | (refine altW.of ?_ ?_)
                  refine RdW.keep [0, 2, 3, 9, 13, 14, 15, 16, 17, 19, 22, 23, 102, 103, 104] (ops.length - (i + 1)) (by omega) ?_
                  simp (disch := first | with_reducible assumption | omega) only [go_sem, Bool.true_and, Bool.and_true, Bool.and_self, Bool.false_and, Bool.and_false, Bool.true_or, Bool.or_true, Bool.false_or, Bool.or_false, ↓reduceIte, Nat.reduceEqDiff, Nat.reduceAdd, Nat.reduceMul, Nat.reduceSub, Nat.reduceBEq, Nat.reduceLeDiff, Nat.reduceLT, Nat.reduceMod, Nat.reduceDiv, Int.reduceToNat, Int.reducePow, Int.reduceMul, Int.reduceAdd, Int.reduceSub, Int.reduceLE, Int.reduceLT, Int.reduceNeg, Int.reduceDiv, Int.reduceMod, Int.reduceEq, Int.reduceBEq, Int.reduceBNe]
                  exact ⟨i + 1, false, g0, g1, low, high, y ++ _, by rw [hr1, hls]; rfl, by rw [hr1], by omega, rfl, by omega, by omega, by omega, by omega, fun h => by cases h⟩
                · have hqb0 := List.length_pos_iff.2 hqb
                  have hlb := (hql1 b).2
                  generalize hlaE : (r1.nd.fl.getD a f0).t.length = la at *
                  generalize hlbE : (r1.nd.fl.getD b f0).t.length = lb at *
                  cases bv with
                  | false =>
                    have hgf1 := (Gf.start hokw hro1 hfs1 ha hb0 hqa hqb (X - Y)).ext hokw hro1 hfs1 ha hb0 hqa hqb
                    repeat' first | simp (disch := first | with_reducible assumption | omega) only [go_sem, Bool.true_and, Bool.and_true, Bool.and_self, Bool.false_and, Bool.and_false, Bool.true_or, Bool.or_true, Bool.false_or, Bool.or_false, ↓reduceIte, Nat.reduceEqDiff, Nat.reduceAdd, Nat.reduceMul, Nat.reduceSub, Nat.reduceBEq, Nat.reduceLeDiff, Nat.reduceLT, Nat.reduceMod, Nat.reduceDiv, Int.reduceToNat, Int.reducePow, Int.reduceMul, Int.reduceAdd, Int.reduceSub, Int.reduceLE, Int.reduceLT, Int.reduceNeg, Int.reduceDiv, Int.reduceMod, Int.reduceEq, Int.reduceBEq, Int.reduceBNe, f4, f4b, f4r0, f4r1, f4r2, f4r3, f4r4, f4r5, f4r6, f4r7, f4r8, f4r9, f4r10, f4r11, f4r12, f4r13, f4r14, f4r15, f4r16, f4r17, f4r18, f4r19, f4r20, f4r21, f4r22, f4r23, f4r24, f4r25, f4r26, f4r27, f4r28, f4r29, f4r30, f4r31, f4r32, f4r33, f4r34, f4r35, f4r36, f4r37, f4r39, f4l0, get_old hkoG, get_old hke, get_old hkwG, hksF, x0, x1, x2, xe, hwa, hwb, hwk, hst, il, il1, y0, y1, hwa1, hwb1, hXn, hYn] | (refine BrW.of (fun hb => ?_) (fun hb => ?_) <;> (have hb' := hb; try simp only [decide_eq_true_eq, decide_eq_false_iff_not, beq_iff_eq, bne_iff_ne, beq_eq_false_iff_ne, bne_eq_false_iff_eq, Bool.not_eq_true', Bool.not_eq_false', Bool.not_eq_true, Bool.not_eq_false, Bool.and_eq_true, Bool.or_eq_true, Bool.and_eq_false_iff, Bool.or_eq_false_iff, Int.not_lt, Int.not_le, ne_eq, gt_iff_lt, ge_iff_le] at hb') <;> (try (exfalso; omega))) | (refine altW.of ?_ ?_)
                    refine RdW.keep [0, 2, 3, 9, 13, 14, 15, 16, 17, 19, 22, 23, 102, 103, 104] (ops.length - (i + 1)) (by omega) ?_
                    simp (disch := first | with_reducible assumption | omega) only [go_sem, Bool.true_and, Bool.and_true, Bool.and_self, Bool.false_and, Bool.and_false, Bool.true_or, Bool.or_true, Bool.false_or, Bool.or_false, ↓reduceIte, Nat.reduceEqDiff, Nat.reduceAdd, Nat.reduceMul, Nat.reduceSub, Nat.reduceBEq, Nat.reduceLeDiff, Nat.reduceLT, Nat.reduceMod, Nat.reduceDiv, Int.reduceToNat, Int.reducePow, Int.reduceMul, Int.reduceAdd, Int.reduceSub, Int.reduceLE, Int.reduceLT, Int.reduceNeg, Int.reduceDiv, Int.reduceMod, Int.reduceEq, Int.reduceBEq, Int.reduceBNe]
                    exact ⟨i + 1, true, g0, g1, _, _, y ++ _, by rw [hr1, hls]; rfl, by rw [hr1], by omega, rfl, by omega, by omega, by omega, by omega, fun _ => by rw [hr1, hXn, hYn]; exact ⟨hqa, hqb, hgf1⟩⟩
                  | true =>
                    obtain ⟨z1, z2, hg⟩ := hgf rfl
                    have hgf1 := (hgo rfl).ext hokw hro1 hfs1 ha hb0 hqa hqb
                    have hfin := hgf1.fin
                    rw [hWA, hWB] at hfin
                    repeat' first | simp (disch := first | with_reducible assumption | omega) only [go_sem, Bool.true_and, Bool.and_true, Bool.and_self, Bool.false_and, Bool.and_false, Bool.true_or, Bool.or_true, Bool.false_or, Bool.or_false, ↓reduceIte, Nat.reduceEqDiff, Nat.reduceAdd, Nat.reduceMul, Nat.reduceSub, Nat.reduceBEq, Nat.reduceLeDiff, Nat.reduceLT, Nat.reduceMod, Nat.reduceDiv, Int.reduceToNat, Int.reducePow, Int.reduceMul, Int.reduceAdd, Int.reduceSub, Int.reduceLE, Int.reduceLT, Int.reduceNeg, Int.reduceDiv, Int.reduceMod, Int.reduceEq, Int.reduceBEq, Int.reduceBNe, f4, f4b, f4r0, f4r1, f4r2, f4r3, f4r4, f4r5, f4r6, f4r7, f4r8, f4r9, f4r10, f4r11, f4r12, f4r13, f4r14, f4r15, f4r16, f4r17, f4r18, f4r19, f4r20, f4r21, f4r22, f4r23, f4r24, f4r25, f4r26, f4r27, f4r28, f4r29, f4r30, f4r31, f4r32, f4r33, f4r34, f4r35, f4r36, f4r37, f4r39, f4l0, get_old hkoG, get_old hke, get_old hkwG, hksF, x0, x1, x2, xe, hwa, hwb, hwk, hst, il, il1, y0, y1, hwa1, hwb1, hXn, hYn] | (refine BrW.of (fun hb => ?_) (fun hb => ?_) <;> (have hb' := hb; try simp only [decide_eq_true_eq, decide_eq_false_iff_not, beq_iff_eq, bne_iff_ne, beq_eq_false_iff_ne, bne_eq_false_iff_eq, Bool.not_eq_true', Bool.not_eq_false', Bool.not_eq_true, Bool.not_eq_false, Bool.and_eq_true, Bool.or_eq_true, Bool.and_eq_false_iff, Bool.or_eq_false_iff, Int.not_lt, Int.not_le, ne_eq, gt_iff_lt, ge_iff_le] at hb') <;> (try (exfalso; omega))) | (refine altW.of ?_ ?_)
                    refine RdW.keep [0, 2, 3, 9, 13, 14, 15, 16, 17, 19, 22, 23, 102, 103, 104] (ops.length - (i + 1)) (by omega) ?_
                    simp (disch := first | with_reducible assumption | omega) only [go_sem, Bool.true_and, Bool.and_true, Bool.and_self, Bool.false_and, Bool.and_false, Bool.true_or, Bool.or_true, Bool.false_or, Bool.or_false, ↓reduceIte, Nat.reduceEqDiff, Nat.reduceAdd, Nat.reduceMul, Nat.reduceSub, Nat.reduceBEq, Nat.reduceLeDiff, Nat.reduceLT, Nat.reduceMod, Nat.reduceDiv, Int.reduceToNat, Int.reducePow, Int.reduceMul, Int.reduceAdd, Int.reduceSub, Int.reduceLE, Int.reduceLT, Int.reduceNeg, Int.reduceDiv, Int.reduceMod, Int.reduceEq, Int.reduceBEq, Int.reduceBNe]
                    exact ⟨i + 1, true, g0, g1, _, _, y ++ _, by rw [hr1, hls]; rfl, by rw [hr1], by omega, rfl, by omega, by omega, by omega, by omega, fun _ => by rw [hr1, hXn, hYn]; exact ⟨hqa, hqb, hgf1⟩⟩
      · repeat' first | simp (disch := first | with_reducible assumption | omega) only [go_sem, Bool.true_and, Bool.and_true, Bool.and_self, Bool.false_and, Bool.and_false, Bool.true_or, Bool.or_true, Bool.false_or, Bool.or_false, ↓reduceIte, Nat.reduceEqDiff, Nat.reduceAdd, Nat.reduceMul, Nat.reduceSub, Nat.reduceBEq, Nat.reduceLeDiff, Nat.reduceLT, Nat.reduceMod, Nat.reduceDiv, Int.reduceToNat, Int.reducePow, Int.reduceMul, Int.reduceAdd, Int.reduceSub, Int.reduceLE, Int.reduceLT, Int.reduceNeg, Int.reduceDiv, Int.reduceMod, Int.reduceEq, Int.reduceBEq, Int.reduceBNe, f4, f4b, f4r0, f4r1, f4r2, f4r3, f4r4, f4r5, f4r6, f4r7, f4r8, f4r9, f4r10, f4r11, f4r12, f4r13, f4r14, f4r15, f4r16, f4r17, f4r18, f4r19, f4r20, f4r21, f4r22, f4r23, f4r24, f4r25, f4r26, f4r27, f4r28, f4r29, f4r30, f4r31, f4r32, f4r33, f4r34, f4r35, f4r36, f4r37, f4r39, f4l0, f4, f4b, f4r0, f4r1, f4r2, f4r3, f4r4, f4r5, f4r6, f4r7, f4r8, f4r9, f4r10, f4r11, f4r12, f4r13, f4r14, f4r15, f4r16, f4r17, f4r18, f4r19, f4r20, f4r21, f4r22, f4r23, f4r24, f4r25, f4r26, f4r27, f4r28, f4r29, f4r30, f4r31, f4r32, f4r33, f4r34, f4r35, f4r36, f4r37, f4r39] | (refine BrW.of (fun hb => ?_) (fun hb => ?_) <;> (have hb' := hb; try simp only [decide_eq_true_eq, decide_eq_false_iff_not, beq_iff_eq, bne_iff_ne, beq_eq_false_iff_ne, bne_eq_false_iff_eq, Bool.not_eq_true', Bool.not_eq_false', Bool.not_eq_true, Bool.not_eq_false, Bool.and_eq_true, Bool.or_eq_true, Bool.and_eq_false_iff, Bool.or_eq_false_iff, Int.not_lt, Int.not_le, ne_eq, gt_iff_lt, ge_iff_le] at hb') <;> (try (exfalso; omega))) | (refine altW.of ?_ ?_)
        exact .here rfl
    · repeat' first | simp (disch := first | with_reducible assumption | omega) only [go_sem, Bool.true_and, Bool.and_true, Bool.and_self, Bool.false_and, Bool.and_false, Bool.true_or, Bool.or_true, Bool.false_or, Bool.or_false, ↓reduceIte, Nat.reduceEqDiff, Nat.reduceAdd, Nat.reduceMul, Nat.reduceSub, Nat.reduceBEq, Nat.reduceLeDiff, Nat.reduceLT, Nat.reduceMod, Nat.reduceDiv, Int.reduceToNat, Int.reducePow, Int.reduceMul, Int.reduceAdd, Int.reduceSub, Int.reduceLE, Int.reduceLT, Int.reduceNeg, Int.reduceDiv, Int.reduceMod, Int.reduceEq, Int.reduceBEq, Int.reduceBNe, f4, f4b, f4r0, f4r1, f4r2, f4r3, f4r4, f4r5, f4r6, f4r7, f4r8, f4r9, f4r10, f4r11, f4r12, f4r13, f4r14, f4r15, f4r16, f4r17, f4r18, f4r19, f4r20, f4r21, f4r22, f4r23, f4r24, f4r25, f4r26, f4r27, f4r28, f4r29, f4r30, f4r31, f4r32, f4r33, f4r34, f4r35, f4r36, f4r37, f4r39, hkwG, hke, hkoG] | (refine BrW.of (fun hb => ?_) (fun hb => ?_) <;> (have hb' := hb; try simp only [decide_eq_true_eq, decide_eq_false_iff_not, beq_iff_eq, bne_iff_ne, beq_eq_false_iff_ne, bne_eq_false_iff_eq, Bool.not_eq_true', Bool.not_eq_false', Bool.not_eq_true, Bool.not_eq_false, Bool.and_eq_true, Bool.or_eq_true, Bool.and_eq_false_iff, Bool.or_eq_false_iff, Int.not_lt, Int.not_le, ne_eq, gt_iff_lt, ge_iff_le] at hb') <;> (try (exfalso; omega))) | (refine altW.of ?_ ?_)
      exact .here (by simp [hlen])
    · repeat' first | simp (disch := first | with_reducible assumption | omega) only [go_sem, Bool.true_and, Bool.and_true, Bool.and_self, Bool.false_and, Bool.and_false, Bool.true_or, Bool.or_true, Bool.false_or, Bool.or_false, ↓reduceIte, Nat.reduceEqDiff, Nat.reduceAdd, Nat.reduceMul, Nat.reduceSub, Nat.reduceBEq, Nat.reduceLeDiff, Nat.reduceLT, Nat.reduceMod, Nat.reduceDiv, Int.reduceToNat, Int.reducePow, Int.reduceMul, Int.reduceAdd, Int.reduceSub, Int.reduceLE, Int.reduceLT, Int.reduceNeg, Int.reduceDiv, Int.reduceMod, Int.reduceEq, Int.reduceBEq, Int.reduceBNe, f4, f4b, f4r0, f4r1, f4r2, f4r3, f4r4, f4r5, f4r6, f4r7, f4r8, f4r9, f4r10, f4r11, f4r12, f4r13, f4r14, f4r15, f4r16, f4r17, f4r18, f4r19, f4r20, f4r21, f4r22, f4r23, f4r24, f4r25, f4r26, f4r27, f4r28, f4r29, f4r30, f4r31, f4r32, f4r33, f4r34, f4r35, f4r36, f4r37, f4r39, hkwG, hke, hkoG] | (refine BrW.of (fun hb => ?_) (fun hb => ?_) <;> (have hb' := hb; try simp only [decide_eq_true_eq, decide_eq_false_iff_not, beq_iff_eq, bne_iff_ne, beq_eq_false_iff_ne, bne_eq_false_iff_eq, Bool.not_eq_true', Bool.not_eq_false', Bool.not_eq_true, Bool.not_eq_false, Bool.and_eq_true, Bool.or_eq_true, Bool.and_eq_false_iff, Bool.or_eq_false_iff, Int.not_lt, Int.not_le, ne_eq, gt_iff_lt, ge_iff_le] at hb') <;> (try (exfalso; omega))) | (refine altW.of ?_ ?_)
      exact .here (by simp [hlen])
    · repeat' first | simp (disch := first | with_reducible assumption | omega) only [go_sem, Bool.true_and, Bool.and_true, Bool.and_self, Bool.false_and, Bool.and_false, Bool.true_or, Bool.or_true, Bool.false_or, Bool.or_false, ↓reduceIte, Nat.reduceEqDiff, Nat.reduceAdd, Nat.reduceMul, Nat.reduceSub, Nat.reduceBEq, Nat.reduceLeDiff, Nat.reduceLT, Nat.reduceMod, Nat.reduceDiv, Int.reduceToNat, Int.reducePow, Int.reduceMul, Int.reduceAdd, Int.reduceSub, Int.reduceLE, Int.reduceLT, Int.reduceNeg, Int.reduceDiv, Int.reduceMod, Int.reduceEq, Int.reduceBEq, Int.reduceBNe, f4, f4b, f4r0, f4r1, f4r2, f4r3, f4r4, f4r5, f4r6, f4r7, f4r8, f4r9, f4r10, f4r11, f4r12, f4r13, f4r14, f4r15, f4r16, f4r17, f4r18, f4r19, f4r20, f4r21, f4r22, f4r23, f4r24, f4r25, f4r26, f4r27, f4r28, f4r29, f4r30, f4r31, f4r32, f4r33, f4r34, f4r35, f4r36, f4r37, f4r39, hkwG, hke, hkoG] | (refine BrW.of (fun hb => ?_) (fun hb => ?_) <;> (have hb' := hb; try simp only [decide_eq_true_eq, decide_eq_false_iff_not, beq_iff_eq, bne_iff_ne, beq_eq_false_iff_ne, bne_eq_false_iff_eq, Bool.not_eq_true', Bool.not_eq_false', Bool.not_eq_true, Bool.not_eq_false, Bool.and_eq_true, Bool.or_eq_true, Bool.and_eq_false_iff, Bool.or_eq_false_iff, Int.not_lt, Int.not_le, ne_eq, gt_iff_lt, ge_iff_le] at hb') <;> (try (exfalso; omega))) | (refine altW.of ?_ ?_)
      exact .here (by simp [hlen])
    · repeat' first | simp (disch := first | with_reducible assumption | omega) only [go_sem, Bool.true_and, Bool.and_true, Bool.and_self, Bool.false_and, Bool.and_false, Bool.true_or, Bool.or_true, Bool.false_or, Bool.or_false, ↓reduceIte, Nat.reduceEqDiff, Nat.reduceAdd, Nat.reduceMul, Nat.reduceSub, Nat.reduceBEq, Nat.reduceLeDiff, Nat.reduceLT, Nat.reduceMod, Nat.reduceDiv, Int.reduceToNat, Int.reducePow, Int.reduceMul, Int.reduceAdd, Int.reduceSub, Int.reduceLE, Int.reduceLT, Int.reduceNeg, Int.reduceDiv, Int.reduceMod, Int.reduceEq, Int.reduceBEq, Int.reduceBNe, f4, f4b, f4r0, f4r1, f4r2, f4r3, f4r4, f4r5, f4r6, f4r7, f4r8, f4r9, f4r10, f4r11, f4r12, f4r13, f4r14, f4r15, f4r16, f4r17, f4r18, f4r19, f4r20, f4r21, f4r22, f4r23, f4r24, f4r25, f4r26, f4r27, f4r28, f4r29, f4r30, f4r31, f4r32, f4r33, f4r34, f4r35, f4r36, f4r37, f4r39, hkwG, hke, hkoG] | (refine BrW.of (fun hb => ?_) (fun hb => ?_) <;> (have hb' := hb; try simp only [decide_eq_true_eq, decide_eq_false_iff_not, beq_iff_eq, bne_iff_ne, beq_eq_false_iff_ne, bne_eq_false_iff_eq, Bool.not_eq_true', Bool.not_eq_false', Bool.not_eq_true, Bool.not_eq_false, Bool.and_eq_true, Bool.or_eq_true, Bool.and_eq_false_iff, Bool.or_eq_false_iff, Int.not_lt, Int.not_le, ne_eq, gt_iff_lt, ge_iff_le] at hb') <;> (try (exfalso; omega))) | (refine altW.of ?_ ?_)
      exact .here (by simp [hlen])
    · repeat' first | simp (disch := first | with_reducible assumption | omega) only [go_sem, Bool.true_and, Bool.and_true, Bool.and_self, Bool.false_and, Bool.and_false, Bool.true_or, Bool.or_true, Bool.false_or, Bool.or_false, ↓reduceIte, Nat.reduceEqDiff, Nat.reduceAdd, Nat.reduceMul, Nat.reduceSub, Nat.reduceBEq, Nat.reduceLeDiff, Nat.reduceLT, Nat.reduceMod, Nat.reduceDiv, Int.reduceToNat, Int.reducePow, Int.reduceMul, Int.reduceAdd, Int.reduceSub, Int.reduceLE, Int.reduceLT, Int.reduceNeg, Int.reduceDiv, Int.reduceMod, Int.reduceEq, Int.reduceBEq, Int.reduceBNe, f4, f4b, f4r0, f4r1, f4r2, f4r3, f4r4, f4r5, f4r6, f4r7, f4r8, f4r9, f4r10, f4r11, f4r12, f4r13, f4r14, f4r15, f4r16, f4r17, f4r18, f4r19, f4r20, f4r21, f4r22, f4r23, f4r24, f4r25, f4r26, f4r27, f4r28, f4r29, f4r30, f4r31, f4r32, f4r33, f4r34, f4r35, f4r36, f4r37, f4r39, hkwG, hke, hkoG] | (refine BrW.of (fun hb => ?_) (fun hb => ?_) <;> (have hb' := hb; try simp only [decide_eq_true_eq, decide_eq_false_iff_not, beq_iff_eq, bne_iff_ne, beq_eq_false_iff_ne, bne_eq_false_iff_eq, Bool.not_eq_true', Bool.not_eq_false', Bool.not_eq_true, Bool.not_eq_false, Bool.and_eq_true, Bool.or_eq_true, Bool.and_eq_false_iff, Bool.or_eq_false_iff, Int.not_lt, Int.not_le, ne_eq, gt_iff_lt, ge_iff_le] at hb') <;> (try (exfalso; omega))) | (refine altW.of ?_ ?_)
      exact .here (by simp [hlen])
  · obtain ⟨rfl, _⟩ := hn z
    repeat' first | simp (disch := first | with_reducible assumption | omega) only [go_sem, Bool.true_and, Bool.and_true, Bool.and_self, Bool.false_and, Bool.and_false, Bool.true_or, Bool.or_true, Bool.false_or, Bool.or_false, ↓reduceIte, Nat.reduceEqDiff, Nat.reduceAdd, Nat.reduceMul, Nat.reduceSub, Nat.reduceBEq, Nat.reduceLeDiff, Nat.reduceLT, Nat.reduceMod, Nat.reduceDiv, Int.reduceToNat, Int.reducePow, Int.reduceMul, Int.reduceAdd, Int.reduceSub, Int.reduceLE, Int.reduceLT, Int.reduceNeg, Int.reduceDiv, Int.reduceMod, Int.reduceEq, Int.reduceBEq, Int.reduceBNe, f4, f4b, f4r0, f4r1, f4r2, f4r3, f4r4, f4r5, f4r6, f4r7, f4r8, f4r9, f4r10, f4r11, f4r12, f4r13, f4r14, f4r15, f4r16, f4r17, f4r18, f4r19, f4r20, f4r21, f4r22, f4r23, f4r24, f4r25, f4r26, f4r27, f4r28, f4r29, f4r30, f4r31, f4r32, f4r33, f4r34, f4r35, f4r36, f4r37, f4r39] | (refine BrW.of (fun hb => ?_) (fun hb => ?_) <;> (have hb' := hb; try simp only [decide_eq_true_eq, decide_eq_false_iff_not, beq_iff_eq, bne_iff_ne, beq_eq_false_iff_ne, bne_eq_false_iff_eq, Bool.not_eq_true', Bool.not_eq_false', Bool.not_eq_true, Bool.not_eq_false, Bool.and_eq_true, Bool.or_eq_true, Bool.and_eq_false_iff, Bool.or_eq_false_iff, Int.not_lt, Int.not_le, ne_eq, gt_iff_lt, ge_iff_le] at hb') <;> (try (exfalso; omega))) | (refine altW.of ?_ ?_)
    exact .here rfl
end Go.Proofs.Ytddoegbgnmdfhaa
