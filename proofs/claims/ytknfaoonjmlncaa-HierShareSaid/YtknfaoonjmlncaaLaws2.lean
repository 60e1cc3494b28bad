import Derived.Test.YtknfaoonjmlncaaPlainW
import Derived.Test.YtknfaoonjmlncaaStepsL
import Derived.Test.YtknfaoonjmlncaaArgs
set_option linter.unusedSimpArgs false
set_option linter.unusedVariables false
set_option maxHeartbeats 2000000
set_option maxRecDepth 20000
namespace Go.Proofs.Ytknfaoonjmlncaa
open Go Go.Am
attribute [local irreducible] opsW Ww loopW callW drawW outW outDW gW cW BrW bothW vW resW DropW RdW dcallW altW Later.run

theorem below_yes {l : List Nd} (hl : okT l) {kw cw kb : Nat} {H : Heap} (hw : Nodes H kw 0 0 l) (hb' : H[kb]? = some (.cells 0 0 false [slv kw 0 0 l.length cw])) {k top : Nat} (hk : k < l.length) (ht : top < l.length) (h : (top : Int) ∈ way l k) :
    ACallK Try.prog 11 [.int .i64 k, .int .i64 top, .pointer (some ⟨kb, 0, some 1⟩)] H (fun v H' => v = .bool true ∧ ∃ X, H' = H ++ X) := by
  have h16 := hl.2.1
  have := below_spec l hl kw cw kb H hw hb' k top (by omega) (by omega)
  have e : decide (0 ≤ (k : Int) ∧ (k : Int) < l.length ∧ (top : Int) ∈ way l (k : Int).toNat) = true := by
    rw [Int.toNat_natCast, decide_eq_true_eq]; exact ⟨by omega, by omega, h⟩
  rwa [e] at this
theorem below_no {l : List Nd} (hl : okT l) {kw cw kb : Nat} {H : Heap} (hw : Nodes H kw 0 0 l) (hb' : H[kb]? = some (.cells 0 0 false [slv kw 0 0 l.length cw])) {k top : Nat} (hk : k < l.length) (ht : top < l.length) (h : ¬ (top : Int) ∈ way l k) :
    ACallK Try.prog 11 [.int .i64 k, .int .i64 top, .pointer (some ⟨kb, 0, some 1⟩)] H (fun v H' => v = .bool false ∧ ∃ X, H' = H ++ X) := by
  have h16 := hl.2.1
  have := below_spec l hl kw cw kb H hw hb' k top (by omega) (by omega)
  have e : decide (0 ≤ (k : Int) ∧ (k : Int) < l.length ∧ (top : Int) ∈ way l (k : Int).toNat) = false := by
    rw [Int.toNat_natCast, decide_eq_false_iff_not]; exact fun hh => h hh.2.2
  rwa [e] at this
/-- Each class has its part of the one above. -/
theorem HierShare_args (H : Heap) (vals : List Value) (h : ArgsOk maxLen H HierShareSh vals) : ACallK Try.prog 5 vals H fun v _ => v = .bool true := by
  obtain ⟨_, _, rfl, a1, h⟩ := h.cons
  obtain ⟨wo, _, rfl, a2, h⟩ := h.cons
  obtain ⟨_, _, rfl, a3, h⟩ := h.cons
  obtain rfl := h.nil
  obtain ⟨kw, cw, l, rfl, hlw, hcw, hw⟩ := nodes_of a1
  obtain ⟨ops, hO, hB2⟩ := IsO.ofArg a2
  obtain ⟨who, rfl, hw1⟩ := int_of a3
  have hm : maxLen ≤ 9223372036854775807 := by decide
  clear a1 a2 a3 h
  have hO0 := hO
  obtain ⟨row, csw, hkw, _, w3⟩ := hw.at'
  obtain ⟨ko, oo, go, co, _, rfl, hso, hco⟩ := hO
  obtain ⟨roo, cso, hko, o2, o3⟩ := hso.at'
  have hbx : (H ++ [AObj.cells 0 0 false [slv kw 0 0 l.length cw]])[H.length]? = some (AObj.cells 0 0 false [slv kw 0 0 l.length cw]) := by simp
  have hwG := hw.app [AObj.cells 0 0 false [slv kw 0 0 l.length cw]]
  have hO1 := hO0.le (Le.app H [AObj.cells 0 0 false [slv kw 0 0 l.length cw]])
  refine .walkW f5_ok (by simp; decide) (by decide) ?_
  repeat' first | simp (disch := first | with_reducible assumption | omega) only [go_sem, Bool.true_and, Bool.and_true, Bool.and_self, Bool.false_and, Bool.and_false, Bool.true_or, Bool.or_true, Bool.false_or, Bool.or_false, ↓reduceIte, Nat.reduceEqDiff, Nat.reduceAdd, Nat.reduceMul, Nat.reduceSub, Nat.reduceBEq, Nat.reduceLeDiff, Nat.reduceLT, Nat.reduceMod, Nat.reduceDiv, Int.reduceToNat, Int.reducePow, Int.reduceMul, Int.reduceAdd, Int.reduceSub, Int.reduceLE, Int.reduceLT, Int.reduceNeg, Int.reduceDiv, Int.reduceMod, Int.reduceEq, Int.reduceBEq, Int.reduceBNe, f5, f5b, f5r0, f5r1, f5r2, f5r3, f5r4, f5r5, f5r6, f5r7, f5r8, f5r9, f5r10, f5r11, f5r12, f5r14, f5r15, f5r16, f5r17, f5r18, f5r19, f5r20, f5r21, f5r22, f5r23, f5r24, f5r25, f5r26, f5r27, f5r28, f5r29, f5r30, f5r31, f5r32, f5r33, f5r34, f5r35, f5r36, f5r37, f5r39] | (refine BrW.of (fun hb => ?_) (fun hb => ?_) <;> (have hb' := hb; try simp only [decide_eq_true_eq, decide_eq_false_iff_not, beq_iff_eq, bne_iff_ne, beq_eq_false_iff_ne, bne_eq_false_iff_eq, Bool.not_eq_true', Bool.not_eq_false', Bool.not_eq_true, Bool.not_eq_false, Bool.and_eq_true, Bool.or_eq_true, Bool.and_eq_false_iff, Bool.or_eq_false_iff, Int.not_lt, Int.not_le, ne_eq, gt_iff_lt, ge_iff_le] at hb') <;> (try (exfalso; omega))) | (refine altW.of ?_ ?_) | (refine .of ((alive _).mono ?_); rintro v H ⟨rfl, rfl⟩) | (rw [hbx])
  refine .of ((Play_spec l ops kw 0 0 cw _ (fun _ => True) _ hwG hlw hO1 (by omega)).mono ?_)
  rintro v G ⟨a, b, c, e, rfl, hLe, he, hn, hy⟩
  have hboxG := hLe.get hbx
  have hkwG := hLe.get (get_old hkw [AObj.cells 0 0 false [slv kw 0 0 l.length cw]])
  have hkoG := hLe.get (get_old hko [AObj.cells 0 0 false [slv kw 0 0 l.length cw]])
  have hNG := hwG.le hLe
  generalize H.length = kb at *
  by_cases z : e = 0
  · obtain ⟨hok, h400⟩ := he.1 z
    obtain ⟨hS, hL, hM⟩ := hy z
    subst z
    have h16 := hok.2.1
    have hri := run_ri hok ops
    have hri0 := hri ops.length (Nat.le_refl _)
    rw [List.take_length] at hri0
    have hel := hri0.el
    obtain ⟨sc, ac, cc, rfl⟩ := hM.slice
    obtain ⟨ke, oe, ge, ce, _, rfl, hse, hce⟩ := hS
    obtain ⟨roe, cse, hke, e2, e3⟩ := Ints.cell hse
    obtain ⟨ks, os, gs, cs, _, rfl, hss, hcs⟩ := hL
    obtain ⟨ros, css, hks, s2, s3⟩ := hss.at'
    clear hn hy he hLe hri0
    by_cases hwho : 1 ≤ who ∧ who < l.length
    · obtain ⟨wn, rfl⟩ : ∃ n : Nat, who = n := ⟨who.toNat, by omega⟩
      have hwn : wn < l.length := by omega
      obtain ⟨p, hup⟩ : ∃ p : Nat, up l wn = p := ⟨(up l wn).toNat, by have := ((hok.2.2 wn hwn).2.2 (by omega)).1; omega⟩
      have hp : p < l.length := by have := ((hok.2.2 wn hwn).2.2 (by omega)).2; omega
      have u0 := w3 wn hwn 0 (by omega)
      have u1 := w3 wn hwn 1 (by omega)
      have hwt := (hok.2.2 wn hwn).1
      simp only [Nd.cells, List.getElem?_cons_zero, List.getElem?_cons_succ, Nat.add_zero, Nat.zero_add] at u0 u1
      have u0 : csw[wn * 2]? = some (.int .i64 (p : Int)) := by rw [u0, ← hup]; rfl
      have u1 : csw[wn * 2 + 1]? = some (.int .i64 (wt l wn)) := u1
      have hsb := sumW_bound hok (p : Int)
      repeat' first | simp (disch := first | with_reducible assumption | omega) only [go_sem, Bool.true_and, Bool.and_true, Bool.and_self, Bool.false_and, Bool.and_false, Bool.true_or, Bool.or_true, Bool.false_or, Bool.or_false, ↓reduceIte, Nat.reduceEqDiff, Nat.reduceAdd, Nat.reduceMul, Nat.reduceSub, Nat.reduceBEq, Nat.reduceLeDiff, Nat.reduceLT, Nat.reduceMod, Nat.reduceDiv, Int.reduceToNat, Int.reducePow, Int.reduceMul, Int.reduceAdd, Int.reduceSub, Int.reduceLE, Int.reduceLT, Int.reduceNeg, Int.reduceDiv, Int.reduceMod, Int.reduceEq, Int.reduceBEq, Int.reduceBNe, f5, f5b, f5r0, f5r1, f5r2, f5r3, f5r4, f5r5, f5r6, f5r7, f5r8, f5r9, f5r10, f5r11, f5r12, f5r14, f5r15, f5r16, f5r17, f5r18, f5r19, f5r20, f5r21, f5r22, f5r23, f5r24, f5r25, f5r26, f5r27, f5r28, f5r29, f5r30, f5r31, f5r32, f5r33, f5r34, f5r35, f5r36, f5r37, f5r39, hboxG, hkwG, hke, hkoG] | (refine BrW.of (fun hb => ?_) (fun hb => ?_) <;> (have hb' := hb; try simp only [decide_eq_true_eq, decide_eq_false_iff_not, beq_iff_eq, bne_iff_ne, beq_eq_false_iff_ne, bne_eq_false_iff_eq, Bool.not_eq_true', Bool.not_eq_false', Bool.not_eq_true, Bool.not_eq_false, Bool.and_eq_true, Bool.or_eq_true, Bool.and_eq_false_iff, Bool.or_eq_false_iff, Int.not_lt, Int.not_le, ne_eq, gt_iff_lt, ge_iff_le] at hb') <;> (try (exfalso; omega))) | (refine altW.of ?_ ?_)
      refine loopW.of (by decide) (fun m e J => ∃ (i : Nat) (x : Heap), e = [(1, slv ko oo go ops.length co), (2, .int .i64 wn), (3, .pointer (some ⟨kb, 0, some 1⟩)), (7, slv ke oe ge (runH l ops).errs.length ce), (8, slv ks os gs (runH l ops).sent.length cs), (11, .int .i64 (sumW l p i)), (60, slv kw 0 0 l.length cw), (61, .int .i64 l.length), (62, .int .i64 i)] ∧
        J = G ++ x ∧ i ≤ l.length ∧ m = l.length - i) l.length ⟨0, [], rfl, by simp, by omega, rfl⟩ ?_
      rintro m e J ⟨i, x, rfl, rfl, hi, rfl⟩
      by_cases hlt : i < l.length
      · have y0 := w3 i hlt 0 (by omega)
        have y1 := w3 i hlt 1 (by omega)
        simp only [Nd.cells, List.getElem?_cons_zero, List.getElem?_cons_succ, Nat.add_zero, Nat.zero_add] at y0 y1
        have y0 : csw[i * 2]? = some (.int .i64 (up l i)) := y0
        have y1 : csw[i * 2 + 1]? = some (.int .i64 (wt l i)) := y1
        have hb0 := hsb i (by omega)
        have hx := (hok.2.2 i hlt).1
        have h3 : sumW l p (i + 1) = sumW l p i + (if up l i = p then wt l i else 0) := rfl
        clear hsb w3 o3 e3 s3 hri
        generalize sumW l p i = Z at *
        generalize wt l i = wi at *
        generalize up l i = ui at *
        by_cases hu : ui = p
        · subst hu
          rw [if_pos rfl] at h3
          repeat' first | simp (disch := first | with_reducible assumption | omega) only [go_sem, Bool.true_and, Bool.and_true, Bool.and_self, Bool.false_and, Bool.and_false, Bool.true_or, Bool.or_true, Bool.false_or, Bool.or_false, ↓reduceIte, Nat.reduceEqDiff, Nat.reduceAdd, Nat.reduceMul, Nat.reduceSub, Nat.reduceBEq, Nat.reduceLeDiff, Nat.reduceLT, Nat.reduceMod, Nat.reduceDiv, Int.reduceToNat, Int.reducePow, Int.reduceMul, Int.reduceAdd, Int.reduceSub, Int.reduceLE, Int.reduceLT, Int.reduceNeg, Int.reduceDiv, Int.reduceMod, Int.reduceEq, Int.reduceBEq, Int.reduceBNe, f5, f5b, f5r0, f5r1, f5r2, f5r3, f5r4, f5r5, f5r6, f5r7, f5r8, f5r9, f5r10, f5r11, f5r12, f5r14, f5r15, f5r16, f5r17, f5r18, f5r19, f5r20, f5r21, f5r22, f5r23, f5r24, f5r25, f5r26, f5r27, f5r28, f5r29, f5r30, f5r31, f5r32, f5r33, f5r34, f5r35, f5r36, f5r37, f5r39, f5l0, hboxG, get_old hboxG, hkwG, get_old hkwG, y0, y1, u0, u1] | (refine BrW.of (fun hb => ?_) (fun hb => ?_) <;> (have hb' := hb; try simp only [decide_eq_true_eq, decide_eq_false_iff_not, beq_iff_eq, bne_iff_ne, beq_eq_false_iff_ne, bne_eq_false_iff_eq, Bool.not_eq_true', Bool.not_eq_false', Bool.not_eq_true, Bool.not_eq_false, Bool.and_eq_true, Bool.or_eq_true, Bool.and_eq_false_iff, Bool.or_eq_false_iff, Int.not_lt, Int.not_le, ne_eq, gt_iff_lt, ge_iff_le] at hb') <;> (try (exfalso; omega))) | (refine altW.of ?_ ?_)
          all_goals first | (exfalso; omega) | skip
          refine RdW.keep [1, 2, 3, 7, 8, 11, 60, 61, 62] (l.length - (i + 1)) (by omega) ?_
          simp (disch := first | with_reducible assumption | omega) only [go_sem, Bool.true_and, Bool.and_true, Bool.and_self, Bool.false_and, Bool.and_false, Bool.true_or, Bool.or_true, Bool.false_or, Bool.or_false, ↓reduceIte, Nat.reduceEqDiff, Nat.reduceAdd, Nat.reduceMul, Nat.reduceSub, Nat.reduceBEq, Nat.reduceLeDiff, Nat.reduceLT, Nat.reduceMod, Nat.reduceDiv, Int.reduceToNat, Int.reducePow, Int.reduceMul, Int.reduceAdd, Int.reduceSub, Int.reduceLE, Int.reduceLT, Int.reduceNeg, Int.reduceDiv, Int.reduceMod, Int.reduceEq, Int.reduceBEq, Int.reduceBNe]
          exact ⟨i + 1, _, by rw [h3]; rfl, rfl, by omega, rfl⟩
        · rw [if_neg hu] at h3
          repeat' first | simp (disch := first | with_reducible assumption | omega) only [go_sem, Bool.true_and, Bool.and_true, Bool.and_self, Bool.false_and, Bool.and_false, Bool.true_or, Bool.or_true, Bool.false_or, Bool.or_false, ↓reduceIte, Nat.reduceEqDiff, Nat.reduceAdd, Nat.reduceMul, Nat.reduceSub, Nat.reduceBEq, Nat.reduceLeDiff, Nat.reduceLT, Nat.reduceMod, Nat.reduceDiv, Int.reduceToNat, Int.reducePow, Int.reduceMul, Int.reduceAdd, Int.reduceSub, Int.reduceLE, Int.reduceLT, Int.reduceNeg, Int.reduceDiv, Int.reduceMod, Int.reduceEq, Int.reduceBEq, Int.reduceBNe, f5, f5b, f5r0, f5r1, f5r2, f5r3, f5r4, f5r5, f5r6, f5r7, f5r8, f5r9, f5r10, f5r11, f5r12, f5r14, f5r15, f5r16, f5r17, f5r18, f5r19, f5r20, f5r21, f5r22, f5r23, f5r24, f5r25, f5r26, f5r27, f5r28, f5r29, f5r30, f5r31, f5r32, f5r33, f5r34, f5r35, f5r36, f5r37, f5r39, f5l0, hboxG, get_old hboxG, hkwG, get_old hkwG, y0, y1, u0, u1] | (refine BrW.of (fun hb => ?_) (fun hb => ?_) <;> (have hb' := hb; try simp only [decide_eq_true_eq, decide_eq_false_iff_not, beq_iff_eq, bne_iff_ne, beq_eq_false_iff_ne, bne_eq_false_iff_eq, Bool.not_eq_true', Bool.not_eq_false', Bool.not_eq_true, Bool.not_eq_false, Bool.and_eq_true, Bool.or_eq_true, Bool.and_eq_false_iff, Bool.or_eq_false_iff, Int.not_lt, Int.not_le, ne_eq, gt_iff_lt, ge_iff_le] at hb') <;> (try (exfalso; omega))) | (refine altW.of ?_ ?_)
          all_goals first | (exfalso; omega) | skip
          refine RdW.keep [1, 2, 3, 7, 8, 11, 60, 61, 62] (l.length - (i + 1)) (by omega) ?_
          simp (disch := first | with_reducible assumption | omega) only [go_sem, Bool.true_and, Bool.and_true, Bool.and_self, Bool.false_and, Bool.and_false, Bool.true_or, Bool.or_true, Bool.false_or, Bool.or_false, ↓reduceIte, Nat.reduceEqDiff, Nat.reduceAdd, Nat.reduceMul, Nat.reduceSub, Nat.reduceBEq, Nat.reduceLeDiff, Nat.reduceLT, Nat.reduceMod, Nat.reduceDiv, Int.reduceToNat, Int.reducePow, Int.reduceMul, Int.reduceAdd, Int.reduceSub, Int.reduceLE, Int.reduceLT, Int.reduceNeg, Int.reduceDiv, Int.reduceMod, Int.reduceEq, Int.reduceBEq, Int.reduceBNe]
          exact ⟨i + 1, _, by rw [h3, Int.add_zero]; rfl, rfl, by omega, rfl⟩
      · obtain rfl : i = l.length := by omega
        have hsumb := hsb l.length (Nat.le_refl _)
        have hsame := run_same l ops
        have hup' : ∀ i, i ≤ ops.length → ∀ j, j < l.length → ((runH l (ops.take i)).S j).up = up l j := fun i hi j hj => (hsame i hi j).1
        have hsm : ∀ i, i ≤ ops.length → ((runH l (ops.take i)).S p).sum = sumW l p l.length := fun i hi => (hsame i hi p).2.2
        have hws : ∀ i, i ≤ ops.length → ((runH l (ops.take i)).S wn).w = wt l wn := fun i hi => (hsame i hi wn).2.1
        have hat := run_at hok ops
        have hA0 : LW l p wn (runH l (ops.take 0)) 0 0 := ⟨-1, start_pi hok hp hwn⟩
        have hc0 : cntW l wn (runH l (ops.take 0)).q = 0 := by
          have := cntW_pos hok (hri 0 (by omega)).inv (hri 0 (by omega)).ok (hri 0 (by omega)).tk (hup' 0 (by omega)) hwn
          have hb : ((runH l (ops.take 0)).S wn).bytes = 0 := rfl
          have h7 := this.2
          rw [hb] at h7
          have : ¬ 0 < cntW l wn (runH l (ops.take 0)).q := fun h => (h7.1 h) rfl
          omega
        clear hsb w3 hsame
        generalize hsum : sumW l p l.length = sm at *
        generalize hwtw : wt l wn = wtw at *
        repeat' first | simp (disch := first | with_reducible assumption | omega) only [go_sem, Bool.true_and, Bool.and_true, Bool.and_self, Bool.false_and, Bool.and_false, Bool.true_or, Bool.or_true, Bool.false_or, Bool.or_false, ↓reduceIte, Nat.reduceEqDiff, Nat.reduceAdd, Nat.reduceMul, Nat.reduceSub, Nat.reduceBEq, Nat.reduceLeDiff, Nat.reduceLT, Nat.reduceMod, Nat.reduceDiv, Int.reduceToNat, Int.reducePow, Int.reduceMul, Int.reduceAdd, Int.reduceSub, Int.reduceLE, Int.reduceLT, Int.reduceNeg, Int.reduceDiv, Int.reduceMod, Int.reduceEq, Int.reduceBEq, Int.reduceBNe, f5, f5b, f5r0, f5r1, f5r2, f5r3, f5r4, f5r5, f5r6, f5r7, f5r8, f5r9, f5r10, f5r11, f5r12, f5r14, f5r15, f5r16, f5r17, f5r18, f5r19, f5r20, f5r21, f5r22, f5r23, f5r24, f5r25, f5r26, f5r27, f5r28, f5r29, f5r30, f5r31, f5r32, f5r33, f5r34, f5r35, f5r36, f5r37, f5r39, f5l0, f5, f5b, f5r0, f5r1, f5r2, f5r3, f5r4, f5r5, f5r6, f5r7, f5r8, f5r9, f5r10, f5r11, f5r12, f5r14, f5r15, f5r16, f5r17, f5r18, f5r19, f5r20, f5r21, f5r22, f5r23, f5r24, f5r25, f5r26, f5r27, f5r28, f5r29, f5r30, f5r31, f5r32, f5r33, f5r34, f5r35, f5r36, f5r37, f5r39, hboxG, get_old hboxG, hkwG, get_old hkwG, hkoG, get_old hkoG] | (refine BrW.of (fun hb => ?_) (fun hb => ?_) <;> (have hb' := hb; try simp only [decide_eq_true_eq, decide_eq_false_iff_not, beq_iff_eq, bne_iff_ne, beq_eq_false_iff_ne, bne_eq_false_iff_eq, Bool.not_eq_true', Bool.not_eq_false', Bool.not_eq_true, Bool.not_eq_false, Bool.and_eq_true, Bool.or_eq_true, Bool.and_eq_false_iff, Bool.or_eq_false_iff, Int.not_lt, Int.not_le, ne_eq, gt_iff_lt, ge_iff_le] at hb') <;> (try (exfalso; omega))) | (refine altW.of ?_ ?_)
        all_goals first | (exfalso; omega) | skip
        refine loopW.of (by decide) (fun m e J => ∃ (i : Nat) (ah be : Int) (y : Heap), e = [(2, .int .i64 wn), (3, .pointer (some ⟨kb, 0, some 1⟩)), (7, slv ke oe ge (runH l ops).errs.length ce), (8, slv ks os gs (runH l ops).sent.length cs), (11, .int .i64 sm), (14, .func (.func 11) #[] #[.pointer (some ⟨kb, 0, some 1⟩)]), (15, .int .i64 (cntW l wn (runH l (ops.take i)).q)), (16, .int .i64 (runH l (ops.take i)).sent.length), (17, .int .i64 be), (18, .int .i64 ah), (80, slv ko oo go ops.length co), (81, .int .i64 ops.length), (82, .int .i64 i)] ∧
          J = G ++ y ∧ i ≤ ops.length ∧ m = ops.length - i ∧ LW l p wn (runH l (ops.take i)) ah be ∧ (0 ≤ cntW l wn (runH l (ops.take i)).q ∧ cntW l wn (runH l (ops.take i)).q ≤ i) ∧ (-310000 * i ≤ ah ∧ ah ≤ 310000 * i) ∧ (-310000 * i ≤ be ∧ be ≤ 310000 * i)) ops.length ⟨0, 0, 0, x, by rw [hc0]; rfl, rfl, by omega, rfl, hA0, by omega, by omega, by omega⟩ ?_
        clear hA0 hc0
        rintro m e J ⟨i, ah, be, y, rfl, rfl, hi, rfl, hA, ⟨hq1, hq2⟩, ⟨ha1, ha2⟩, hb1, hb2⟩
        by_cases hlt : i < ops.length
        · have x0 := o3 i hlt 0 (by omega)
          have x1 := o3 i hlt 1 (by omega)
          have x2 := o3 i hlt 2 (by omega)
          simp only [Op.cells, List.getElem?_cons_zero, List.getElem?_cons_succ, Nat.add_zero, show oo + i * 3 + 2 = oo + i * 3 + 1 + 1 by omega] at x0 x1 x2
          have xe := e3 i (by omega)
          have hri1 := hri i (by omega)
          have hri2 := hri (i + 1) (by omega)
          have hup1 := hup' i (by omega)
          have hup2 := hup' (i + 1) (by omega)
          have hsm1 := hsm i (by omega)
          have hws1 := hws i (by omega)
          have hsl := hri1.sl
          have hat := hat i hlt
          have hq3 := cntW_pos hok hri2.inv hri2.ok hri2.tk hup2 hwn
          clear e3 o3 hri hup' hsm hws
          generalize hr1 : runH l (ops.take (i + 1)) = r1 at *
          generalize hr0 : runH l (ops.take i) = r0 at *
          generalize hR : runH l ops = R at *
          generalize ops.getD i o0 = o at *
          rcases hat with ⟨e, he, hee, hS, hq, hsn⟩ | ⟨k, ho, hk, hkd, hf, hob, hee, hS, hq, hsn⟩ | ⟨k, ho, hk, hkd, hqn, h0l, h0b, hee, hS, hq, hsn, hsl2, hsg⟩
          · rw [hee] at xe
            have hA1 : LW l p wn r1 ah be := by unfold LW at hA ⊢; rw [hS]; exact hA
            repeat' first | simp (disch := first | with_reducible assumption | omega) only [go_sem, Bool.true_and, Bool.and_true, Bool.and_self, Bool.false_and, Bool.and_false, Bool.true_or, Bool.or_true, Bool.false_or, Bool.or_false, ↓reduceIte, Nat.reduceEqDiff, Nat.reduceAdd, Nat.reduceMul, Nat.reduceSub, Nat.reduceBEq, Nat.reduceLeDiff, Nat.reduceLT, Nat.reduceMod, Nat.reduceDiv, Int.reduceToNat, Int.reducePow, Int.reduceMul, Int.reduceAdd, Int.reduceSub, Int.reduceLE, Int.reduceLT, Int.reduceNeg, Int.reduceDiv, Int.reduceMod, Int.reduceEq, Int.reduceBEq, Int.reduceBNe, f5, f5b, f5r0, f5r1, f5r2, f5r3, f5r4, f5r5, f5r6, f5r7, f5r8, f5r9, f5r10, f5r11, f5r12, f5r14, f5r15, f5r16, f5r17, f5r18, f5r19, f5r20, f5r21, f5r22, f5r23, f5r24, f5r25, f5r26, f5r27, f5r28, f5r29, f5r30, f5r31, f5r32, f5r33, f5r34, f5r35, f5r36, f5r37, f5r39, f5l1, get_old hkoG, get_old hke, x0, x1, x2, xe] | (refine BrW.of (fun hb => ?_) (fun hb => ?_) <;> (have hb' := hb; try simp only [decide_eq_true_eq, decide_eq_false_iff_not, beq_iff_eq, bne_iff_ne, beq_eq_false_iff_ne, bne_eq_false_iff_eq, Bool.not_eq_true', Bool.not_eq_false', Bool.not_eq_true, Bool.not_eq_false, Bool.and_eq_true, Bool.or_eq_true, Bool.and_eq_false_iff, Bool.or_eq_false_iff, Int.not_lt, Int.not_le, ne_eq, gt_iff_lt, ge_iff_le] at hb') <;> (try (exfalso; omega))) | (refine altW.of ?_ ?_)
            refine RdW.keep [2, 3, 7, 8, 11, 14, 15, 16, 17, 18, 80, 81, 82] (ops.length - (i + 1)) (by omega) ?_
            simp (disch := first | with_reducible assumption | omega) only [go_sem, Bool.true_and, Bool.and_true, Bool.and_self, Bool.false_and, Bool.and_false, Bool.true_or, Bool.or_true, Bool.false_or, Bool.or_false, ↓reduceIte, Nat.reduceEqDiff, Nat.reduceAdd, Nat.reduceMul, Nat.reduceSub, Nat.reduceBEq, Nat.reduceLeDiff, Nat.reduceLT, Nat.reduceMod, Nat.reduceDiv, Int.reduceToNat, Int.reducePow, Int.reduceMul, Int.reduceAdd, Int.reduceSub, Int.reduceLE, Int.reduceLT, Int.reduceNeg, Int.reduceDiv, Int.reduceMod, Int.reduceEq, Int.reduceBEq, Int.reduceBNe]
            exact ⟨i + 1, ah, be, _, by rw [hr1, hq, hsn]; rfl, rfl, by omega, rfl, by rw [hr1]; exact hA1, by rw [hr1, hq]; omega, by omega, by omega⟩
          · rw [hee] at xe
            rw [ho] at x0
            rw [hf] at x1
            obtain ⟨hc1, hA1⟩ := hA.inn hok hp hwn hup hri1 hri2 hup1 hk hkd hob hS hq
            by_cases hwk : (wn : Int) ∈ way l k
            · have hB := fun (J : Heap) (hJ : Le G J) => below_yes hok (hNG.le hJ) (hJ.get hboxG) hk hwn hwk
              rw [if_pos hwk] at hc1
              generalize hcc1 : cntW l wn r1.q = c1 at *
              by_cases hz : cntW l wn r0.q = 0
              · rw [if_pos ⟨hwk, hz⟩] at hA1
                rw [hz] at hc1 ⊢
                repeat' first | simp (disch := first | with_reducible assumption | omega) only [go_sem, Bool.true_and, Bool.and_true, Bool.and_self, Bool.false_and, Bool.and_false, Bool.true_or, Bool.or_true, Bool.false_or, Bool.or_false, ↓reduceIte, Nat.reduceEqDiff, Nat.reduceAdd, Nat.reduceMul, Nat.reduceSub, Nat.reduceBEq, Nat.reduceLeDiff, Nat.reduceLT, Nat.reduceMod, Nat.reduceDiv, Int.reduceToNat, Int.reducePow, Int.reduceMul, Int.reduceAdd, Int.reduceSub, Int.reduceLE, Int.reduceLT, Int.reduceNeg, Int.reduceDiv, Int.reduceMod, Int.reduceEq, Int.reduceBEq, Int.reduceBNe, f5, f5b, f5r0, f5r1, f5r2, f5r3, f5r4, f5r5, f5r6, f5r7, f5r8, f5r9, f5r10, f5r11, f5r12, f5r14, f5r15, f5r16, f5r17, f5r18, f5r19, f5r20, f5r21, f5r22, f5r23, f5r24, f5r25, f5r26, f5r27, f5r28, f5r29, f5r30, f5r31, f5r32, f5r33, f5r34, f5r35, f5r36, f5r37, f5r39, f5l1, get_old hkoG, get_old hke, x0, x1, x2, xe] | (refine BrW.of (fun hb => ?_) (fun hb => ?_) <;> (have hb' := hb; try simp only [decide_eq_true_eq, decide_eq_false_iff_not, beq_iff_eq, bne_iff_ne, beq_eq_false_iff_ne, bne_eq_false_iff_eq, Bool.not_eq_true', Bool.not_eq_false', Bool.not_eq_true, Bool.not_eq_false, Bool.and_eq_true, Bool.or_eq_true, Bool.and_eq_false_iff, Bool.or_eq_false_iff, Int.not_lt, Int.not_le, ne_eq, gt_iff_lt, ge_iff_le] at hb') <;> (try (exfalso; omega))) | (refine altW.of ?_ ?_)
                refine .of ((hB _ ⟨_, rfl⟩).mono ?_)
                rintro v J2 ⟨rfl, X, rfl⟩
                repeat' first | simp (disch := first | with_reducible assumption | omega) only [go_sem, Bool.true_and, Bool.and_true, Bool.and_self, Bool.false_and, Bool.and_false, Bool.true_or, Bool.or_true, Bool.false_or, Bool.or_false, ↓reduceIte, Nat.reduceEqDiff, Nat.reduceAdd, Nat.reduceMul, Nat.reduceSub, Nat.reduceBEq, Nat.reduceLeDiff, Nat.reduceLT, Nat.reduceMod, Nat.reduceDiv, Int.reduceToNat, Int.reducePow, Int.reduceMul, Int.reduceAdd, Int.reduceSub, Int.reduceLE, Int.reduceLT, Int.reduceNeg, Int.reduceDiv, Int.reduceMod, Int.reduceEq, Int.reduceBEq, Int.reduceBNe, f5, f5b, f5r0, f5r1, f5r2, f5r3, f5r4, f5r5, f5r6, f5r7, f5r8, f5r9, f5r10, f5r11, f5r12, f5r14, f5r15, f5r16, f5r17, f5r18, f5r19, f5r20, f5r21, f5r22, f5r23, f5r24, f5r25, f5r26, f5r27, f5r28, f5r29, f5r30, f5r31, f5r32, f5r33, f5r34, f5r35, f5r36, f5r37, f5r39, f5l1, get_old hkoG, get_old hke, x0, x1, x2, xe] | (refine BrW.of (fun hb => ?_) (fun hb => ?_) <;> (have hb' := hb; try simp only [decide_eq_true_eq, decide_eq_false_iff_not, beq_iff_eq, bne_iff_ne, beq_eq_false_iff_ne, bne_eq_false_iff_eq, Bool.not_eq_true', Bool.not_eq_false', Bool.not_eq_true, Bool.not_eq_false, Bool.and_eq_true, Bool.or_eq_true, Bool.and_eq_false_iff, Bool.or_eq_false_iff, Int.not_lt, Int.not_le, ne_eq, gt_iff_lt, ge_iff_le] at hb') <;> (try (exfalso; omega))) | (refine altW.of ?_ ?_)
                all_goals first | (exfalso; omega) | skip
                refine RdW.keep [2, 3, 7, 8, 11, 14, 15, 16, 17, 18, 80, 81, 82] (ops.length - (i + 1)) (by omega) ?_
                simp (disch := first | with_reducible assumption | omega) only [go_sem, Bool.true_and, Bool.and_true, Bool.and_self, Bool.false_and, Bool.and_false, Bool.true_or, Bool.or_true, Bool.false_or, Bool.or_false, ↓reduceIte, Nat.reduceEqDiff, Nat.reduceAdd, Nat.reduceMul, Nat.reduceSub, Nat.reduceBEq, Nat.reduceLeDiff, Nat.reduceLT, Nat.reduceMod, Nat.reduceDiv, Int.reduceToNat, Int.reducePow, Int.reduceMul, Int.reduceAdd, Int.reduceSub, Int.reduceLE, Int.reduceLT, Int.reduceNeg, Int.reduceDiv, Int.reduceMod, Int.reduceEq, Int.reduceBEq, Int.reduceBNe]
                exact ⟨i + 1, _, _, _, by rw [hr1, hsn, hcc1, hc1]; rfl, by first | rfl | (simp only [List.append_assoc]; rfl), by omega, rfl, by rw [hr1]; exact hA1, by rw [hr1, hcc1]; omega, by omega, by omega⟩
              · rw [if_neg (fun h => hz h.2)] at hA1
                generalize cntW l wn r0.q = c0 at *
                repeat' first | simp (disch := first | with_reducible assumption | omega) only [go_sem, Bool.true_and, Bool.and_true, Bool.and_self, Bool.false_and, Bool.and_false, Bool.true_or, Bool.or_true, Bool.false_or, Bool.or_false, ↓reduceIte, Nat.reduceEqDiff, Nat.reduceAdd, Nat.reduceMul, Nat.reduceSub, Nat.reduceBEq, Nat.reduceLeDiff, Nat.reduceLT, Nat.reduceMod, Nat.reduceDiv, Int.reduceToNat, Int.reducePow, Int.reduceMul, Int.reduceAdd, Int.reduceSub, Int.reduceLE, Int.reduceLT, Int.reduceNeg, Int.reduceDiv, Int.reduceMod, Int.reduceEq, Int.reduceBEq, Int.reduceBNe, f5, f5b, f5r0, f5r1, f5r2, f5r3, f5r4, f5r5, f5r6, f5r7, f5r8, f5r9, f5r10, f5r11, f5r12, f5r14, f5r15, f5r16, f5r17, f5r18, f5r19, f5r20, f5r21, f5r22, f5r23, f5r24, f5r25, f5r26, f5r27, f5r28, f5r29, f5r30, f5r31, f5r32, f5r33, f5r34, f5r35, f5r36, f5r37, f5r39, f5l1, get_old hkoG, get_old hke, x0, x1, x2, xe] | (refine BrW.of (fun hb => ?_) (fun hb => ?_) <;> (have hb' := hb; try simp only [decide_eq_true_eq, decide_eq_false_iff_not, beq_iff_eq, bne_iff_ne, beq_eq_false_iff_ne, bne_eq_false_iff_eq, Bool.not_eq_true', Bool.not_eq_false', Bool.not_eq_true, Bool.not_eq_false, Bool.and_eq_true, Bool.or_eq_true, Bool.and_eq_false_iff, Bool.or_eq_false_iff, Int.not_lt, Int.not_le, ne_eq, gt_iff_lt, ge_iff_le] at hb') <;> (try (exfalso; omega))) | (refine altW.of ?_ ?_)
                refine .of ((hB _ ⟨_, rfl⟩).mono ?_)
                rintro v J2 ⟨rfl, X, rfl⟩
                repeat' first | simp (disch := first | with_reducible assumption | omega) only [go_sem, Bool.true_and, Bool.and_true, Bool.and_self, Bool.false_and, Bool.and_false, Bool.true_or, Bool.or_true, Bool.false_or, Bool.or_false, ↓reduceIte, Nat.reduceEqDiff, Nat.reduceAdd, Nat.reduceMul, Nat.reduceSub, Nat.reduceBEq, Nat.reduceLeDiff, Nat.reduceLT, Nat.reduceMod, Nat.reduceDiv, Int.reduceToNat, Int.reducePow, Int.reduceMul, Int.reduceAdd, Int.reduceSub, Int.reduceLE, Int.reduceLT, Int.reduceNeg, Int.reduceDiv, Int.reduceMod, Int.reduceEq, Int.reduceBEq, Int.reduceBNe, f5, f5b, f5r0, f5r1, f5r2, f5r3, f5r4, f5r5, f5r6, f5r7, f5r8, f5r9, f5r10, f5r11, f5r12, f5r14, f5r15, f5r16, f5r17, f5r18, f5r19, f5r20, f5r21, f5r22, f5r23, f5r24, f5r25, f5r26, f5r27, f5r28, f5r29, f5r30, f5r31, f5r32, f5r33, f5r34, f5r35, f5r36, f5r37, f5r39, f5l1, get_old hkoG, get_old hke, x0, x1, x2, xe] | (refine BrW.of (fun hb => ?_) (fun hb => ?_) <;> (have hb' := hb; try simp only [decide_eq_true_eq, decide_eq_false_iff_not, beq_iff_eq, bne_iff_ne, beq_eq_false_iff_ne, bne_eq_false_iff_eq, Bool.not_eq_true', Bool.not_eq_false', Bool.not_eq_true, Bool.not_eq_false, Bool.and_eq_true, Bool.or_eq_true, Bool.and_eq_false_iff, Bool.or_eq_false_iff, Int.not_lt, Int.not_le, ne_eq, gt_iff_lt, ge_iff_le] at hb') <;> (try (exfalso; omega))) | (refine altW.of ?_ ?_)
                all_goals first | (exfalso; omega) | skip
                refine RdW.keep [2, 3, 7, 8, 11, 14, 15, 16, 17, 18, 80, 81, 82] (ops.length - (i + 1)) (by omega) ?_
                simp (disch := first | with_reducible assumption | omega) only [go_sem, Bool.true_and, Bool.and_true, Bool.and_self, Bool.false_and, Bool.and_false, Bool.true_or, Bool.or_true, Bool.false_or, Bool.or_false, ↓reduceIte, Nat.reduceEqDiff, Nat.reduceAdd, Nat.reduceMul, Nat.reduceSub, Nat.reduceBEq, Nat.reduceLeDiff, Nat.reduceLT, Nat.reduceMod, Nat.reduceDiv, Int.reduceToNat, Int.reducePow, Int.reduceMul, Int.reduceAdd, Int.reduceSub, Int.reduceLE, Int.reduceLT, Int.reduceNeg, Int.reduceDiv, Int.reduceMod, Int.reduceEq, Int.reduceBEq, Int.reduceBNe]
                exact ⟨i + 1, _, _, _, by rw [hr1, hsn, hcc1, hc1]; rfl, by first | rfl | (simp only [List.append_assoc]; rfl), by omega, rfl, by rw [hr1]; exact hA1, by rw [hr1, hcc1]; omega, by omega, by omega⟩
            · have hB := fun (J : Heap) (hJ : Le G J) => below_no hok (hNG.le hJ) (hJ.get hboxG) hk hwn hwk
              rw [if_neg hwk, Int.add_zero] at hc1
              rw [if_neg (fun h => hwk h.1)] at hA1
              repeat' first | simp (disch := first | with_reducible assumption | omega) only [go_sem, Bool.true_and, Bool.and_true, Bool.and_self, Bool.false_and, Bool.and_false, Bool.true_or, Bool.or_true, Bool.false_or, Bool.or_false, ↓reduceIte, Nat.reduceEqDiff, Nat.reduceAdd, Nat.reduceMul, Nat.reduceSub, Nat.reduceBEq, Nat.reduceLeDiff, Nat.reduceLT, Nat.reduceMod, Nat.reduceDiv, Int.reduceToNat, Int.reducePow, Int.reduceMul, Int.reduceAdd, Int.reduceSub, Int.reduceLE, Int.reduceLT, Int.reduceNeg, Int.reduceDiv, Int.reduceMod, Int.reduceEq, Int.reduceBEq, Int.reduceBNe, f5, f5b, f5r0, f5r1, f5r2, f5r3, f5r4, f5r5, f5r6, f5r7, f5r8, f5r9, f5r10, f5r11, f5r12, f5r14, f5r15, f5r16, f5r17, f5r18, f5r19, f5r20, f5r21, f5r22, f5r23, f5r24, f5r25, f5r26, f5r27, f5r28, f5r29, f5r30, f5r31, f5r32, f5r33, f5r34, f5r35, f5r36, f5r37, f5r39, f5l1, get_old hkoG, get_old hke, x0, x1, x2, xe] | (refine BrW.of (fun hb => ?_) (fun hb => ?_) <;> (have hb' := hb; try simp only [decide_eq_true_eq, decide_eq_false_iff_not, beq_iff_eq, bne_iff_ne, beq_eq_false_iff_ne, bne_eq_false_iff_eq, Bool.not_eq_true', Bool.not_eq_false', Bool.not_eq_true, Bool.not_eq_false, Bool.and_eq_true, Bool.or_eq_true, Bool.and_eq_false_iff, Bool.or_eq_false_iff, Int.not_lt, Int.not_le, ne_eq, gt_iff_lt, ge_iff_le] at hb') <;> (try (exfalso; omega))) | (refine altW.of ?_ ?_)
              refine .of ((hB _ ⟨_, rfl⟩).mono ?_)
              rintro v J2 ⟨rfl, X, rfl⟩
              repeat' first | simp (disch := first | with_reducible assumption | omega) only [go_sem, Bool.true_and, Bool.and_true, Bool.and_self, Bool.false_and, Bool.and_false, Bool.true_or, Bool.or_true, Bool.false_or, Bool.or_false, ↓reduceIte, Nat.reduceEqDiff, Nat.reduceAdd, Nat.reduceMul, Nat.reduceSub, Nat.reduceBEq, Nat.reduceLeDiff, Nat.reduceLT, Nat.reduceMod, Nat.reduceDiv, Int.reduceToNat, Int.reducePow, Int.reduceMul, Int.reduceAdd, Int.reduceSub, Int.reduceLE, Int.reduceLT, Int.reduceNeg, Int.reduceDiv, Int.reduceMod, Int.reduceEq, Int.reduceBEq, Int.reduceBNe, f5, f5b, f5r0, f5r1, f5r2, f5r3, f5r4, f5r5, f5r6, f5r7, f5r8, f5r9, f5r10, f5r11, f5r12, f5r14, f5r15, f5r16, f5r17, f5r18, f5r19, f5r20, f5r21, f5r22, f5r23, f5r24, f5r25, f5r26, f5r27, f5r28, f5r29, f5r30, f5r31, f5r32, f5r33, f5r34, f5r35, f5r36, f5r37, f5r39, f5l1, get_old hkoG, get_old hke, x0, x1, x2, xe] | (refine BrW.of (fun hb => ?_) (fun hb => ?_) <;> (have hb' := hb; try simp only [decide_eq_true_eq, decide_eq_false_iff_not, beq_iff_eq, bne_iff_ne, beq_eq_false_iff_ne, bne_eq_false_iff_eq, Bool.not_eq_true', Bool.not_eq_false', Bool.not_eq_true, Bool.not_eq_false, Bool.and_eq_true, Bool.or_eq_true, Bool.and_eq_false_iff, Bool.or_eq_false_iff, Int.not_lt, Int.not_le, ne_eq, gt_iff_lt, ge_iff_le] at hb') <;> (try (exfalso; omega))) | (refine altW.of ?_ ?_)
              all_goals first | (exfalso; omega) | skip
              refine RdW.keep [2, 3, 7, 8, 11, 14, 15, 16, 17, 18, 80, 81, 82] (ops.length - (i + 1)) (by omega) ?_
              simp (disch := first | with_reducible assumption | omega) only [go_sem, Bool.true_and, Bool.and_true, Bool.and_self, Bool.false_and, Bool.and_false, Bool.true_or, Bool.or_true, Bool.false_or, Bool.or_false, ↓reduceIte, Nat.reduceEqDiff, Nat.reduceAdd, Nat.reduceMul, Nat.reduceSub, Nat.reduceBEq, Nat.reduceLeDiff, Nat.reduceLT, Nat.reduceMod, Nat.reduceDiv, Int.reduceToNat, Int.reducePow, Int.reduceMul, Int.reduceAdd, Int.reduceSub, Int.reduceLE, Int.reduceLT, Int.reduceNeg, Int.reduceDiv, Int.reduceMod, Int.reduceEq, Int.reduceBEq, Int.reduceBNe]
              exact ⟨i + 1, _, _, _, by rw [hr1, hsn, hc1]; rfl, by first | rfl | (simp only [List.append_assoc]; rfl), by omega, rfl, by rw [hr1]; exact hA1, by rw [hr1, hc1]; omega, by omega, by omega⟩
          · rw [hee] at xe
            rw [ho] at x0
            have y0 := s3 r0.sent.length hsl2 0 (by omega)
            have y1 := s3 r0.sent.length hsl2 1 (by omega)
            rw [hsg] at y0 y1
            simp only [S.cells, List.getElem?_cons_zero, List.getElem?_cons_succ, Nat.add_zero] at y0 y1
            obtain ⟨hc1, hA1, hfin⟩ := hA.out hok hp hwn hup hri1 hri2 hup1 hk hkd hqn h0l h0b hS hq
            have hhb := hri1.ok.b 0 hok.1
            have hls : (r1.sent.length : Int) = r0.sent.length + 1 := by rw [hsn]; simp
            rw [hsm1] at hfin
            unfold aheadW at hA1 hfin
            rw [hws1, hsm1] at hA1 hfin
            generalize (r0.S 0).bytes = x' at *
            have hhw : 0 ≤ x' * wtw ∧ x' * wtw ≤ 18000 := ⟨Int.mul_nonneg hhb.1 (by omega), Int.mul_le_mul hhb.2 hwt.2 (by omega) (by omega)⟩
            have hhs : 0 ≤ x' * sm ∧ x' * sm ≤ 288000 := ⟨Int.mul_nonneg hhb.1 hsumb.1, Int.mul_le_mul hhb.2 (show sm ≤ 192 by omega) hsumb.1 (by omega)⟩
            generalize hXW : x' * wtw = XW at *
            generalize hXS : x' * sm = XS at *
            generalize hcc1 : cntW l wn r1.q = c1 at *
            generalize cntW l wn r0.q = c0 at *
            generalize r0.sent.length = sl at *
            by_cases hpk : (p : Int) ∈ way l k
            · have hBp := fun (J : Heap) (hJ : Le G J) => below_yes hok (hNG.le hJ) (hJ.get hboxG) hk hp hpk
              rw [if_pos hpk] at hA1 hfin
              by_cases hwk : (wn : Int) ∈ way l k
              · have hBw := fun (J : Heap) (hJ : Le G J) => below_yes hok (hNG.le hJ) (hJ.get hboxG) hk hwn hwk
                rw [if_pos hwk] at hA1 hfin hc1
                rw [hc1] at hfin
                repeat' first | simp (disch := first | with_reducible assumption | omega) only [go_sem, Bool.true_and, Bool.and_true, Bool.and_self, Bool.false_and, Bool.and_false, Bool.true_or, Bool.or_true, Bool.false_or, Bool.or_false, ↓reduceIte, Nat.reduceEqDiff, Nat.reduceAdd, Nat.reduceMul, Nat.reduceSub, Nat.reduceBEq, Nat.reduceLeDiff, Nat.reduceLT, Nat.reduceMod, Nat.reduceDiv, Int.reduceToNat, Int.reducePow, Int.reduceMul, Int.reduceAdd, Int.reduceSub, Int.reduceLE, Int.reduceLT, Int.reduceNeg, Int.reduceDiv, Int.reduceMod, Int.reduceEq, Int.reduceBEq, Int.reduceBNe, f5, f5b, f5r0, f5r1, f5r2, f5r3, f5r4, f5r5, f5r6, f5r7, f5r8, f5r9, f5r10, f5r11, f5r12, f5r14, f5r15, f5r16, f5r17, f5r18, f5r19, f5r20, f5r21, f5r22, f5r23, f5r24, f5r25, f5r26, f5r27, f5r28, f5r29, f5r30, f5r31, f5r32, f5r33, f5r34, f5r35, f5r36, f5r37, f5r39, f5l1, get_old hkoG, get_old hke, get_old hks, get_old hboxG, get_old hkwG, x0, x1, x2, xe, y0, y1, u0, u1] | (refine BrW.of (fun hb => ?_) (fun hb => ?_) <;> (have hb' := hb; try simp only [decide_eq_true_eq, decide_eq_false_iff_not, beq_iff_eq, bne_iff_ne, beq_eq_false_iff_ne, bne_eq_false_iff_eq, Bool.not_eq_true', Bool.not_eq_false', Bool.not_eq_true, Bool.not_eq_false, Bool.and_eq_true, Bool.or_eq_true, Bool.and_eq_false_iff, Bool.or_eq_false_iff, Int.not_lt, Int.not_le, ne_eq, gt_iff_lt, ge_iff_le] at hb') <;> (try (exfalso; omega))) | (refine altW.of ?_ ?_)
                refine .of ((hBp _ ⟨_, rfl⟩).mono ?_)
                rintro v J2 ⟨rfl, X, rfl⟩
                repeat' first | simp (disch := first | with_reducible assumption | omega) only [go_sem, Bool.true_and, Bool.and_true, Bool.and_self, Bool.false_and, Bool.and_false, Bool.true_or, Bool.or_true, Bool.false_or, Bool.or_false, ↓reduceIte, Nat.reduceEqDiff, Nat.reduceAdd, Nat.reduceMul, Nat.reduceSub, Nat.reduceBEq, Nat.reduceLeDiff, Nat.reduceLT, Nat.reduceMod, Nat.reduceDiv, Int.reduceToNat, Int.reducePow, Int.reduceMul, Int.reduceAdd, Int.reduceSub, Int.reduceLE, Int.reduceLT, Int.reduceNeg, Int.reduceDiv, Int.reduceMod, Int.reduceEq, Int.reduceBEq, Int.reduceBNe, f5, f5b, f5r0, f5r1, f5r2, f5r3, f5r4, f5r5, f5r6, f5r7, f5r8, f5r9, f5r10, f5r11, f5r12, f5r14, f5r15, f5r16, f5r17, f5r18, f5r19, f5r20, f5r21, f5r22, f5r23, f5r24, f5r25, f5r26, f5r27, f5r28, f5r29, f5r30, f5r31, f5r32, f5r33, f5r34, f5r35, f5r36, f5r37, f5r39, f5l1, get_old hkoG, get_old hke, get_old hks, get_old hboxG, get_old hkwG, x0, x1, x2, xe, y0, y1, u0, u1, hXW, hXS] | (refine BrW.of (fun hb => ?_) (fun hb => ?_) <;> (have hb' := hb; try simp only [decide_eq_true_eq, decide_eq_false_iff_not, beq_iff_eq, bne_iff_ne, beq_eq_false_iff_ne, bne_eq_false_iff_eq, Bool.not_eq_true', Bool.not_eq_false', Bool.not_eq_true, Bool.not_eq_false, Bool.and_eq_true, Bool.or_eq_true, Bool.and_eq_false_iff, Bool.or_eq_false_iff, Int.not_lt, Int.not_le, ne_eq, gt_iff_lt, ge_iff_le] at hb') <;> (try (exfalso; omega))) | (refine altW.of ?_ ?_)
                refine .of ((hBw _ ⟨_, rfl⟩).mono ?_)
                rintro v J3 ⟨rfl, X2, rfl⟩
                repeat' first | simp (disch := first | with_reducible assumption | omega) only [go_sem, Bool.true_and, Bool.and_true, Bool.and_self, Bool.false_and, Bool.and_false, Bool.true_or, Bool.or_true, Bool.false_or, Bool.or_false, ↓reduceIte, Nat.reduceEqDiff, Nat.reduceAdd, Nat.reduceMul, Nat.reduceSub, Nat.reduceBEq, Nat.reduceLeDiff, Nat.reduceLT, Nat.reduceMod, Nat.reduceDiv, Int.reduceToNat, Int.reducePow, Int.reduceMul, Int.reduceAdd, Int.reduceSub, Int.reduceLE, Int.reduceLT, Int.reduceNeg, Int.reduceDiv, Int.reduceMod, Int.reduceEq, Int.reduceBEq, Int.reduceBNe, f5, f5b, f5r0, f5r1, f5r2, f5r3, f5r4, f5r5, f5r6, f5r7, f5r8, f5r9, f5r10, f5r11, f5r12, f5r14, f5r15, f5r16, f5r17, f5r18, f5r19, f5r20, f5r21, f5r22, f5r23, f5r24, f5r25, f5r26, f5r27, f5r28, f5r29, f5r30, f5r31, f5r32, f5r33, f5r34, f5r35, f5r36, f5r37, f5r39, f5l1, get_old hkoG, get_old hke, get_old hks, get_old hboxG, get_old hkwG, x0, x1, x2, xe, y0, y1, u0, u1, hXW, hXS] | (refine BrW.of (fun hb => ?_) (fun hb => ?_) <;> (have hb' := hb; try simp only [decide_eq_true_eq, decide_eq_false_iff_not, beq_iff_eq, bne_iff_ne, beq_eq_false_iff_ne, bne_eq_false_iff_eq, Bool.not_eq_true', Bool.not_eq_false', Bool.not_eq_true, Bool.not_eq_false, Bool.and_eq_true, Bool.or_eq_true, Bool.and_eq_false_iff, Bool.or_eq_false_iff, Int.not_lt, Int.not_le, ne_eq, gt_iff_lt, ge_iff_le] at hb') <;> (try (exfalso; omega))) | (refine altW.of ?_ ?_)
                all_goals first | (exfalso; omega) | skip
                all_goals
                  refine RdW.keep [2, 3, 7, 8, 11, 14, 15, 16, 17, 18, 80, 81, 82] (ops.length - (i + 1)) (by omega) ?_
                  simp (disch := first | with_reducible assumption | omega) only [go_sem, Bool.true_and, Bool.and_true, Bool.and_self, Bool.false_and, Bool.and_false, Bool.true_or, Bool.or_true, Bool.false_or, Bool.or_false, ↓reduceIte, Nat.reduceEqDiff, Nat.reduceAdd, Nat.reduceMul, Nat.reduceSub, Nat.reduceBEq, Nat.reduceLeDiff, Nat.reduceLT, Nat.reduceMod, Nat.reduceDiv, Int.reduceToNat, Int.reducePow, Int.reduceMul, Int.reduceAdd, Int.reduceSub, Int.reduceLE, Int.reduceLT, Int.reduceNeg, Int.reduceDiv, Int.reduceMod, Int.reduceEq, Int.reduceBEq, Int.reduceBNe]
                  exact ⟨i + 1, _, _, _, by rw [hr1, hls, hcc1, hc1]; rfl, by first | rfl | (simp only [List.append_assoc]; rfl), by omega, rfl, by rw [hr1]; exact hA1, by rw [hr1, hcc1]; omega, by omega, by omega⟩
              · have hBw := fun (J : Heap) (hJ : Le G J) => below_no hok (hNG.le hJ) (hJ.get hboxG) hk hwn hwk
                rw [if_neg hwk] at hA1 hfin hc1
                rw [hc1] at hfin
                simp only [Int.add_zero, Int.sub_zero] at hA1 hfin hc1
                repeat' first | simp (disch := first | with_reducible assumption | omega) only [go_sem, Bool.true_and, Bool.and_true, Bool.and_self, Bool.false_and, Bool.and_false, Bool.true_or, Bool.or_true, Bool.false_or, Bool.or_false, ↓reduceIte, Nat.reduceEqDiff, Nat.reduceAdd, Nat.reduceMul, Nat.reduceSub, Nat.reduceBEq, Nat.reduceLeDiff, Nat.reduceLT, Nat.reduceMod, Nat.reduceDiv, Int.reduceToNat, Int.reducePow, Int.reduceMul, Int.reduceAdd, Int.reduceSub, Int.reduceLE, Int.reduceLT, Int.reduceNeg, Int.reduceDiv, Int.reduceMod, Int.reduceEq, Int.reduceBEq, Int.reduceBNe, f5, f5b, f5r0, f5r1, f5r2, f5r3, f5r4, f5r5, f5r6, f5r7, f5r8, f5r9, f5r10, f5r11, f5r12, f5r14, f5r15, f5r16, f5r17, f5r18, f5r19, f5r20, f5r21, f5r22, f5r23, f5r24, f5r25, f5r26, f5r27, f5r28, f5r29, f5r30, f5r31, f5r32, f5r33, f5r34, f5r35, f5r36, f5r37, f5r39, f5l1, get_old hkoG, get_old hke, get_old hks, get_old hboxG, get_old hkwG, x0, x1, x2, xe, y0, y1, u0, u1] | (refine BrW.of (fun hb => ?_) (fun hb => ?_) <;> (have hb' := hb; try simp only [decide_eq_true_eq, decide_eq_false_iff_not, beq_iff_eq, bne_iff_ne, beq_eq_false_iff_ne, bne_eq_false_iff_eq, Bool.not_eq_true', Bool.not_eq_false', Bool.not_eq_true, Bool.not_eq_false, Bool.and_eq_true, Bool.or_eq_true, Bool.and_eq_false_iff, Bool.or_eq_false_iff, Int.not_lt, Int.not_le, ne_eq, gt_iff_lt, ge_iff_le] at hb') <;> (try (exfalso; omega))) | (refine altW.of ?_ ?_)
                refine .of ((hBp _ ⟨_, rfl⟩).mono ?_)
                rintro v J2 ⟨rfl, X, rfl⟩
                repeat' first | simp (disch := first | with_reducible assumption | omega) only [go_sem, Bool.true_and, Bool.and_true, Bool.and_self, Bool.false_and, Bool.and_false, Bool.true_or, Bool.or_true, Bool.false_or, Bool.or_false, ↓reduceIte, Nat.reduceEqDiff, Nat.reduceAdd, Nat.reduceMul, Nat.reduceSub, Nat.reduceBEq, Nat.reduceLeDiff, Nat.reduceLT, Nat.reduceMod, Nat.reduceDiv, Int.reduceToNat, Int.reducePow, Int.reduceMul, Int.reduceAdd, Int.reduceSub, Int.reduceLE, Int.reduceLT, Int.reduceNeg, Int.reduceDiv, Int.reduceMod, Int.reduceEq, Int.reduceBEq, Int.reduceBNe, f5, f5b, f5r0, f5r1, f5r2, f5r3, f5r4, f5r5, f5r6, f5r7, f5r8, f5r9, f5r10, f5r11, f5r12, f5r14, f5r15, f5r16, f5r17, f5r18, f5r19, f5r20, f5r21, f5r22, f5r23, f5r24, f5r25, f5r26, f5r27, f5r28, f5r29, f5r30, f5r31, f5r32, f5r33, f5r34, f5r35, f5r36, f5r37, f5r39, f5l1, get_old hkoG, get_old hke, get_old hks, get_old hboxG, get_old hkwG, x0, x1, x2, xe, y0, y1, u0, u1, hXW, hXS] | (refine BrW.of (fun hb => ?_) (fun hb => ?_) <;> (have hb' := hb; try simp only [decide_eq_true_eq, decide_eq_false_iff_not, beq_iff_eq, bne_iff_ne, beq_eq_false_iff_ne, bne_eq_false_iff_eq, Bool.not_eq_true', Bool.not_eq_false', Bool.not_eq_true, Bool.not_eq_false, Bool.and_eq_true, Bool.or_eq_true, Bool.and_eq_false_iff, Bool.or_eq_false_iff, Int.not_lt, Int.not_le, ne_eq, gt_iff_lt, ge_iff_le] at hb') <;> (try (exfalso; omega))) | (refine altW.of ?_ ?_)
                refine .of ((hBw _ ⟨_, rfl⟩).mono ?_)
                rintro v J3 ⟨rfl, X2, rfl⟩
                repeat' first | simp (disch := first | with_reducible assumption | omega) only [go_sem, Bool.true_and, Bool.and_true, Bool.and_self, Bool.false_and, Bool.and_false, Bool.true_or, Bool.or_true, Bool.false_or, Bool.or_false, ↓reduceIte, Nat.reduceEqDiff, Nat.reduceAdd, Nat.reduceMul, Nat.reduceSub, Nat.reduceBEq, Nat.reduceLeDiff, Nat.reduceLT, Nat.reduceMod, Nat.reduceDiv, Int.reduceToNat, Int.reducePow, Int.reduceMul, Int.reduceAdd, Int.reduceSub, Int.reduceLE, Int.reduceLT, Int.reduceNeg, Int.reduceDiv, Int.reduceMod, Int.reduceEq, Int.reduceBEq, Int.reduceBNe, f5, f5b, f5r0, f5r1, f5r2, f5r3, f5r4, f5r5, f5r6, f5r7, f5r8, f5r9, f5r10, f5r11, f5r12, f5r14, f5r15, f5r16, f5r17, f5r18, f5r19, f5r20, f5r21, f5r22, f5r23, f5r24, f5r25, f5r26, f5r27, f5r28, f5r29, f5r30, f5r31, f5r32, f5r33, f5r34, f5r35, f5r36, f5r37, f5r39, f5l1, get_old hkoG, get_old hke, get_old hks, get_old hboxG, get_old hkwG, x0, x1, x2, xe, y0, y1, u0, u1, hXW, hXS] | (refine BrW.of (fun hb => ?_) (fun hb => ?_) <;> (have hb' := hb; try simp only [decide_eq_true_eq, decide_eq_false_iff_not, beq_iff_eq, bne_iff_ne, beq_eq_false_iff_ne, bne_eq_false_iff_eq, Bool.not_eq_true', Bool.not_eq_false', Bool.not_eq_true, Bool.not_eq_false, Bool.and_eq_true, Bool.or_eq_true, Bool.and_eq_false_iff, Bool.or_eq_false_iff, Int.not_lt, Int.not_le, ne_eq, gt_iff_lt, ge_iff_le] at hb') <;> (try (exfalso; omega))) | (refine altW.of ?_ ?_)
                all_goals first | (exfalso; omega) | skip
                all_goals
                  refine RdW.keep [2, 3, 7, 8, 11, 14, 15, 16, 17, 18, 80, 81, 82] (ops.length - (i + 1)) (by omega) ?_
                  simp (disch := first | with_reducible assumption | omega) only [go_sem, Bool.true_and, Bool.and_true, Bool.and_self, Bool.false_and, Bool.and_false, Bool.true_or, Bool.or_true, Bool.false_or, Bool.or_false, ↓reduceIte, Nat.reduceEqDiff, Nat.reduceAdd, Nat.reduceMul, Nat.reduceSub, Nat.reduceBEq, Nat.reduceLeDiff, Nat.reduceLT, Nat.reduceMod, Nat.reduceDiv, Int.reduceToNat, Int.reducePow, Int.reduceMul, Int.reduceAdd, Int.reduceSub, Int.reduceLE, Int.reduceLT, Int.reduceNeg, Int.reduceDiv, Int.reduceMod, Int.reduceEq, Int.reduceBEq, Int.reduceBNe]
                  exact ⟨i + 1, _, _, _, by rw [hr1, hls, hcc1, hc1]; rfl, by first | rfl | (simp only [List.append_assoc]; rfl), by omega, rfl, by rw [hr1]; exact hA1, by rw [hr1, hcc1]; omega, by omega, by omega⟩
            · have hwk : ¬ (wn : Int) ∈ way l k := fun hw' => hpk (way_up hok k k (Nat.le_refl _) hk wn p hw' hup)
              have hBp := fun (J : Heap) (hJ : Le G J) => below_no hok (hNG.le hJ) (hJ.get hboxG) hk hp hpk
              have hBw := fun (J : Heap) (hJ : Le G J) => below_no hok (hNG.le hJ) (hJ.get hboxG) hk hwn hwk
              rw [if_neg hpk, if_neg hwk] at hA1 hfin
              rw [if_neg hwk] at hc1
              rw [hc1] at hfin
              simp only [Int.add_zero, Int.sub_zero] at hA1 hfin hc1
              repeat' first | simp (disch := first | with_reducible assumption | omega) only [go_sem, Bool.true_and, Bool.and_true, Bool.and_self, Bool.false_and, Bool.and_false, Bool.true_or, Bool.or_true, Bool.false_or, Bool.or_false, ↓reduceIte, Nat.reduceEqDiff, Nat.reduceAdd, Nat.reduceMul, Nat.reduceSub, Nat.reduceBEq, Nat.reduceLeDiff, Nat.reduceLT, Nat.reduceMod, Nat.reduceDiv, Int.reduceToNat, Int.reducePow, Int.reduceMul, Int.reduceAdd, Int.reduceSub, Int.reduceLE, Int.reduceLT, Int.reduceNeg, Int.reduceDiv, Int.reduceMod, Int.reduceEq, Int.reduceBEq, Int.reduceBNe, f5, f5b, f5r0, f5r1, f5r2, f5r3, f5r4, f5r5, f5r6, f5r7, f5r8, f5r9, f5r10, f5r11, f5r12, f5r14, f5r15, f5r16, f5r17, f5r18, f5r19, f5r20, f5r21, f5r22, f5r23, f5r24, f5r25, f5r26, f5r27, f5r28, f5r29, f5r30, f5r31, f5r32, f5r33, f5r34, f5r35, f5r36, f5r37, f5r39, f5l1, get_old hkoG, get_old hke, get_old hks, get_old hboxG, get_old hkwG, x0, x1, x2, xe, y0, y1, u0, u1] | (refine BrW.of (fun hb => ?_) (fun hb => ?_) <;> (have hb' := hb; try simp only [decide_eq_true_eq, decide_eq_false_iff_not, beq_iff_eq, bne_iff_ne, beq_eq_false_iff_ne, bne_eq_false_iff_eq, Bool.not_eq_true', Bool.not_eq_false', Bool.not_eq_true, Bool.not_eq_false, Bool.and_eq_true, Bool.or_eq_true, Bool.and_eq_false_iff, Bool.or_eq_false_iff, Int.not_lt, Int.not_le, ne_eq, gt_iff_lt, ge_iff_le] at hb') <;> (try (exfalso; omega))) | (refine altW.of ?_ ?_)
              refine .of ((hBp _ ⟨_, rfl⟩).mono ?_)
              rintro v J2 ⟨rfl, X, rfl⟩
              repeat' first | simp (disch := first | with_reducible assumption | omega) only [go_sem, Bool.true_and, Bool.and_true, Bool.and_self, Bool.false_and, Bool.and_false, Bool.true_or, Bool.or_true, Bool.false_or, Bool.or_false, ↓reduceIte, Nat.reduceEqDiff, Nat.reduceAdd, Nat.reduceMul, Nat.reduceSub, Nat.reduceBEq, Nat.reduceLeDiff, Nat.reduceLT, Nat.reduceMod, Nat.reduceDiv, Int.reduceToNat, Int.reducePow, Int.reduceMul, Int.reduceAdd, Int.reduceSub, Int.reduceLE, Int.reduceLT, Int.reduceNeg, Int.reduceDiv, Int.reduceMod, Int.reduceEq, Int.reduceBEq, Int.reduceBNe, f5, f5b, f5r0, f5r1, f5r2, f5r3, f5r4, f5r5, f5r6, f5r7, f5r8, f5r9, f5r10, f5r11, f5r12, f5r14, f5r15, f5r16, f5r17, f5r18, f5r19, f5r20, f5r21, f5r22, f5r23, f5r24, f5r25, f5r26, f5r27, f5r28, f5r29, f5r30, f5r31, f5r32, f5r33, f5r34, f5r35, f5r36, f5r37, f5r39, f5l1, get_old hkoG, get_old hke, get_old hks, get_old hboxG, get_old hkwG, x0, x1, x2, xe, y0, y1, u0, u1, hXW, hXS] | (refine BrW.of (fun hb => ?_) (fun hb => ?_) <;> (have hb' := hb; try simp only [decide_eq_true_eq, decide_eq_false_iff_not, beq_iff_eq, bne_iff_ne, beq_eq_false_iff_ne, bne_eq_false_iff_eq, Bool.not_eq_true', Bool.not_eq_false', Bool.not_eq_true, Bool.not_eq_false, Bool.and_eq_true, Bool.or_eq_true, Bool.and_eq_false_iff, Bool.or_eq_false_iff, Int.not_lt, Int.not_le, ne_eq, gt_iff_lt, ge_iff_le] at hb') <;> (try (exfalso; omega))) | (refine altW.of ?_ ?_)
              refine .of ((hBw _ ⟨_, rfl⟩).mono ?_)
              rintro v J3 ⟨rfl, X2, rfl⟩
              repeat' first | simp (disch := first | with_reducible assumption | omega) only [go_sem, Bool.true_and, Bool.and_true, Bool.and_self, Bool.false_and, Bool.and_false, Bool.true_or, Bool.or_true, Bool.false_or, Bool.or_false, ↓reduceIte, Nat.reduceEqDiff, Nat.reduceAdd, Nat.reduceMul, Nat.reduceSub, Nat.reduceBEq, Nat.reduceLeDiff, Nat.reduceLT, Nat.reduceMod, Nat.reduceDiv, Int.reduceToNat, Int.reducePow, Int.reduceMul, Int.reduceAdd, Int.reduceSub, Int.reduceLE, Int.reduceLT, Int.reduceNeg, Int.reduceDiv, Int.reduceMod, Int.reduceEq, Int.reduceBEq, Int.reduceBNe, f5, f5b, f5r0, f5r1, f5r2, f5r3, f5r4, f5r5, f5r6, f5r7, f5r8, f5r9, f5r10, f5r11, f5r12, f5r14, f5r15, f5r16, f5r17, f5r18, f5r19, f5r20, f5r21, f5r22, f5r23, f5r24, f5r25, f5r26, f5r27, f5r28, f5r29, f5r30, f5r31, f5r32, f5r33, f5r34, f5r35, f5r36, f5r37, f5r39, f5l1, get_old hkoG, get_old hke, get_old hks, get_old hboxG, get_old hkwG, x0, x1, x2, xe, y0, y1, u0, u1, hXW, hXS] | (refine BrW.of (fun hb => ?_) (fun hb => ?_) <;> (have hb' := hb; try simp only [decide_eq_true_eq, decide_eq_false_iff_not, beq_iff_eq, bne_iff_ne, beq_eq_false_iff_ne, bne_eq_false_iff_eq, Bool.not_eq_true', Bool.not_eq_false', Bool.not_eq_true, Bool.not_eq_false, Bool.and_eq_true, Bool.or_eq_true, Bool.and_eq_false_iff, Bool.or_eq_false_iff, Int.not_lt, Int.not_le, ne_eq, gt_iff_lt, ge_iff_le] at hb') <;> (try (exfalso; omega))) | (refine altW.of ?_ ?_)
              all_goals first | (exfalso; omega) | skip
              all_goals
                refine RdW.keep [2, 3, 7, 8, 11, 14, 15, 16, 17, 18, 80, 81, 82] (ops.length - (i + 1)) (by omega) ?_
                simp (disch := first | with_reducible assumption | omega) only [go_sem, Bool.true_and, Bool.and_true, Bool.and_self, Bool.false_and, Bool.and_false, Bool.true_or, Bool.or_true, Bool.false_or, Bool.or_false, ↓reduceIte, Nat.reduceEqDiff, Nat.reduceAdd, Nat.reduceMul, Nat.reduceSub, Nat.reduceBEq, Nat.reduceLeDiff, Nat.reduceLT, Nat.reduceMod, Nat.reduceDiv, Int.reduceToNat, Int.reducePow, Int.reduceMul, Int.reduceAdd, Int.reduceSub, Int.reduceLE, Int.reduceLT, Int.reduceNeg, Int.reduceDiv, Int.reduceMod, Int.reduceEq, Int.reduceBEq, Int.reduceBNe]
                exact ⟨i + 1, _, _, _, by rw [hr1, hls, hcc1, hc1]; rfl, by first | rfl | (simp only [List.append_assoc]; rfl), by omega, rfl, by rw [hr1]; exact hA1, by rw [hr1, hcc1]; omega, by omega, by omega⟩
        · repeat' first | simp (disch := first | with_reducible assumption | omega) only [go_sem, Bool.true_and, Bool.and_true, Bool.and_self, Bool.false_and, Bool.and_false, Bool.true_or, Bool.or_true, Bool.false_or, Bool.or_false, ↓reduceIte, Nat.reduceEqDiff, Nat.reduceAdd, Nat.reduceMul, Nat.reduceSub, Nat.reduceBEq, Nat.reduceLeDiff, Nat.reduceLT, Nat.reduceMod, Nat.reduceDiv, Int.reduceToNat, Int.reducePow, Int.reduceMul, Int.reduceAdd, Int.reduceSub, Int.reduceLE, Int.reduceLT, Int.reduceNeg, Int.reduceDiv, Int.reduceMod, Int.reduceEq, Int.reduceBEq, Int.reduceBNe, f5, f5b, f5r0, f5r1, f5r2, f5r3, f5r4, f5r5, f5r6, f5r7, f5r8, f5r9, f5r10, f5r11, f5r12, f5r14, f5r15, f5r16, f5r17, f5r18, f5r19, f5r20, f5r21, f5r22, f5r23, f5r24, f5r25, f5r26, f5r27, f5r28, f5r29, f5r30, f5r31, f5r32, f5r33, f5r34, f5r35, f5r36, f5r37, f5r39, f5l1, f5, f5b, f5r0, f5r1, f5r2, f5r3, f5r4, f5r5, f5r6, f5r7, f5r8, f5r9, f5r10, f5r11, f5r12, f5r14, f5r15, f5r16, f5r17, f5r18, f5r19, f5r20, f5r21, f5r22, f5r23, f5r24, f5r25, f5r26, f5r27, f5r28, f5r29, f5r30, f5r31, f5r32, f5r33, f5r34, f5r35, f5r36, f5r37, f5r39] | (refine BrW.of (fun hb => ?_) (fun hb => ?_) <;> (have hb' := hb; try simp only [decide_eq_true_eq, decide_eq_false_iff_not, beq_iff_eq, bne_iff_ne, beq_eq_false_iff_ne, bne_eq_false_iff_eq, Bool.not_eq_true', Bool.not_eq_false', Bool.not_eq_true, Bool.not_eq_false, Bool.and_eq_true, Bool.or_eq_true, Bool.and_eq_false_iff, Bool.or_eq_false_iff, Int.not_lt, Int.not_le, ne_eq, gt_iff_lt, ge_iff_le] at hb') <;> (try (exfalso; omega))) | (refine altW.of ?_ ?_)
          exact .here rfl
    · have hbad : who < 1 ∨ (1 ≤ who ∧ (l.length : Int) ≤ who) := by omega
      clear hwho
      rcases hbad with hbad | ⟨hbad, hbad2⟩
      · repeat' first | simp (disch := first | with_reducible assumption | omega) only [go_sem, Bool.true_and, Bool.and_true, Bool.and_self, Bool.false_and, Bool.and_false, Bool.true_or, Bool.or_true, Bool.false_or, Bool.or_false, ↓reduceIte, Nat.reduceEqDiff, Nat.reduceAdd, Nat.reduceMul, Nat.reduceSub, Nat.reduceBEq, Nat.reduceLeDiff, Nat.reduceLT, Nat.reduceMod, Nat.reduceDiv, Int.reduceToNat, Int.reducePow, Int.reduceMul, Int.reduceAdd, Int.reduceSub, Int.reduceLE, Int.reduceLT, Int.reduceNeg, Int.reduceDiv, Int.reduceMod, Int.reduceEq, Int.reduceBEq, Int.reduceBNe, f5, f5b, f5r0, f5r1, f5r2, f5r3, f5r4, f5r5, f5r6, f5r7, f5r8, f5r9, f5r10, f5r11, f5r12, f5r14, f5r15, f5r16, f5r17, f5r18, f5r19, f5r20, f5r21, f5r22, f5r23, f5r24, f5r25, f5r26, f5r27, f5r28, f5r29, f5r30, f5r31, f5r32, f5r33, f5r34, f5r35, f5r36, f5r37, f5r39, hboxG, hkwG, hke, hkoG] | (refine BrW.of (fun hb => ?_) (fun hb => ?_) <;> (have hb' := hb; try simp only [decide_eq_true_eq, decide_eq_false_iff_not, beq_iff_eq, bne_iff_ne, beq_eq_false_iff_ne, bne_eq_false_iff_eq, Bool.not_eq_true', Bool.not_eq_false', Bool.not_eq_true, Bool.not_eq_false, Bool.and_eq_true, Bool.or_eq_true, Bool.and_eq_false_iff, Bool.or_eq_false_iff, Int.not_lt, Int.not_le, ne_eq, gt_iff_lt, ge_iff_le] at hb') <;> (try (exfalso; omega))) | (refine altW.of ?_ ?_)
        exact .here (by simp [hel])
      · repeat' first | simp (disch := first | with_reducible assumption | omega) only [go_sem, Bool.true_and, Bool.and_true, Bool.and_self, Bool.false_and, Bool.and_false, Bool.true_or, Bool.or_true, Bool.false_or, Bool.or_false, ↓reduceIte, Nat.reduceEqDiff, Nat.reduceAdd, Nat.reduceMul, Nat.reduceSub, Nat.reduceBEq, Nat.reduceLeDiff, Nat.reduceLT, Nat.reduceMod, Nat.reduceDiv, Int.reduceToNat, Int.reducePow, Int.reduceMul, Int.reduceAdd, Int.reduceSub, Int.reduceLE, Int.reduceLT, Int.reduceNeg, Int.reduceDiv, Int.reduceMod, Int.reduceEq, Int.reduceBEq, Int.reduceBNe, f5, f5b, f5r0, f5r1, f5r2, f5r3, f5r4, f5r5, f5r6, f5r7, f5r8, f5r9, f5r10, f5r11, f5r12, f5r14, f5r15, f5r16, f5r17, f5r18, f5r19, f5r20, f5r21, f5r22, f5r23, f5r24, f5r25, f5r26, f5r27, f5r28, f5r29, f5r30, f5r31, f5r32, f5r33, f5r34, f5r35, f5r36, f5r37, f5r39, hboxG, hkwG, hke, hkoG] | (refine BrW.of (fun hb => ?_) (fun hb => ?_) <;> (have hb' := hb; try simp only [decide_eq_true_eq, decide_eq_false_iff_not, beq_iff_eq, bne_iff_ne, beq_eq_false_iff_ne, bne_eq_false_iff_eq, Bool.not_eq_true', Bool.not_eq_false', Bool.not_eq_true, Bool.not_eq_false, Bool.and_eq_true, Bool.or_eq_true, Bool.and_eq_false_iff, Bool.or_eq_false_iff, Int.not_lt, Int.not_le, ne_eq, gt_iff_lt, ge_iff_le] at hb') <;> (try (exfalso; omega))) | (refine altW.of ?_ ?_)
        exact .here (by simp [hel])
  · obtain rfl := hn z
    repeat' first | simp (disch := first | with_reducible assumption | omega) only [go_sem, Bool.true_and, Bool.and_true, Bool.and_self, Bool.false_and, Bool.and_false, Bool.true_or, Bool.or_true, Bool.false_or, Bool.or_false, ↓reduceIte, Nat.reduceEqDiff, Nat.reduceAdd, Nat.reduceMul, Nat.reduceSub, Nat.reduceBEq, Nat.reduceLeDiff, Nat.reduceLT, Nat.reduceMod, Nat.reduceDiv, Int.reduceToNat, Int.reducePow, Int.reduceMul, Int.reduceAdd, Int.reduceSub, Int.reduceLE, Int.reduceLT, Int.reduceNeg, Int.reduceDiv, Int.reduceMod, Int.reduceEq, Int.reduceBEq, Int.reduceBNe, f5, f5b, f5r0, f5r1, f5r2, f5r3, f5r4, f5r5, f5r6, f5r7, f5r8, f5r9, f5r10, f5r11, f5r12, f5r14, f5r15, f5r16, f5r17, f5r18, f5r19, f5r20, f5r21, f5r22, f5r23, f5r24, f5r25, f5r26, f5r27, f5r28, f5r29, f5r30, f5r31, f5r32, f5r33, f5r34, f5r35, f5r36, f5r37, f5r39] | (refine BrW.of (fun hb => ?_) (fun hb => ?_) <;> (have hb' := hb; try simp only [decide_eq_true_eq, decide_eq_false_iff_not, beq_iff_eq, bne_iff_ne, beq_eq_false_iff_ne, bne_eq_false_iff_eq, Bool.not_eq_true', Bool.not_eq_false', Bool.not_eq_true, Bool.not_eq_false, Bool.and_eq_true, Bool.or_eq_true, Bool.and_eq_false_iff, Bool.or_eq_false_iff, Int.not_lt, Int.not_le, ne_eq, gt_iff_lt, ge_iff_le] at hb') <;> (try (exfalso; omega))) | (refine altW.of ?_ ?_)
    exact .here rfl
end Go.Proofs.Ytknfaoonjmlncaa
