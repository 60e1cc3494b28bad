import Derived.Test.YtfkhljgifndbpaaDoorSteps2
-- STRINGS
set_option linter.unusedSimpArgs false
set_option linter.unusedVariables false
set_option maxHeartbeats 2000000
set_option maxRecDepth 20000
namespace Go.Proofs.YtfkhljgifndbpaaDoor
open Go Go.Am
attribute [local irreducible] opsW Ww loopW callW drawW outW outDW gW cW BrW bothW vW resW DropW RdW dcallW altW forkW splitW Later.run

def z4 : List Value := [.int .i64 0, .int .i64 0, .int .i64 0, .slice none 0 0]
/-- Some lines are read; r is what stands behind them. -/
structure Rd0 (n : Nat) (H : Heap) (t : Bs) (r : Bs) (k : Nat) (J : Heap) : Prop where
  res : J[n]? = some (.cells 0 0 false z4)
  fr : FrB n H J
  st : ∃ hd x y z ls os sl, segs t = (hd :: (ls ++ (segs r).1), (segs r).2) ∧ headP hd = some (x, y, z) ∧ linesP ls = some os ∧ k = ls.length + 1 ∧ J[n + 1]? = some (.cells 0 0 false [.int .i64 x, .int .i64 y, .int .i64 z, sl]) ∧ OpsAt (n + 2) J sl os
def ParseR (H : Heap) (t : Bs) (v : Value) (H' : Heap) : Prop :=
  FrB H.length H H' ∧ ((∃ s sl, parseP t = some s ∧ v = .tuple #[.agg #[.int .i64 s.num, .int .i64 s.den, .int .i64 s.burst, sl], .int .i64 0, .int .i64 0] ∧ OpsAt H.length H' sl s.ops) ∨
    (parseP t = none ∧ ∃ k : Nat, k ≤ (segs t).1.length ∧ v = .tuple #[.agg #[.int .i64 0, .int .i64 0, .int .i64 0, .slice none 0 0], .int .i64 k, .int .i64 1]))
theorem linesP_bad {l : Bs} (h : lineP l = none) : ∀ (ls m : List Bs), linesP (ls ++ l :: m) = none
  | [], m => by show (match lineP l, linesP m with | some o, some os => some (o :: os) | _, _ => none) = none; rw [h]
  | x :: ls, m => by
    show (match lineP x, linesP (ls ++ l :: m) with | some o, some os => some (o :: os) | _, _ => none) = none
    rw [linesP_bad h ls m]; cases lineP x <;> rfl
theorem parse_head {t l : Bs} {m : List Bs} {r : Bs} (h : segs t = (l :: m, r)) (hn : headP l = none) : parseP t = none := by
  unfold parseP
  rw [h]
  split
  · show (match headP l, linesP m with | some (a, b, c), some os => some (Scr.mk a b c os) | _, _ => none) = none
    rw [hn]
  · rfl
theorem parse_empty {t r : Bs} (h : segs t = ([], r)) : parseP t = none := by
  unfold parseP
  rw [h]
  split <;> rfl
theorem parse_line {t l : Bs} {m : List Bs} {r : Bs} (h : segs t = (l :: m, r)) (hn : linesP m = none) : parseP t = none := by
  unfold parseP
  rw [h]
  split
  · show (match headP l, linesP m with | some (a, b, c), some os => some (Scr.mk a b c os) | _, _ => none) = none
    rw [hn]; cases headP l <;> rfl
  · rfl
theorem parse_rest {t : Bs} (h : (segs t).2 ≠ []) : parseP t = none := by unfold parseP; rw [if_neg h]
theorem parse_ok {t hd : Bs} {ls : List Bs} {x y z : Int} {os : List (Int × Int)} (h : segs t = (hd :: ls, [])) (h1 : headP hd = some (x, y, z)) (h2 : linesP ls = some os) : parseP t = some ⟨x, y, z, os⟩ := by
  unfold parseP
  rw [h, if_pos rfl]
  show (match headP hd, linesP ls with | some (a, b, c), some os => some (Scr.mk a b c os) | _, _ => none) = _
  rw [h1, h2]
theorem FrB.mono {b b' : Nat} {H J : Heap} (h : FrB b H J) (hb : b' ≤ b) : FrB b' H J := ⟨h.1, fun j hj => h.2 j (by omega)⟩
theorem Parse_spec (t : Bs) (hl : t.length ≤ 33554432) (H : Heap) : ACallK Tryd.prog 10 [str t] H (ParseR H t) := by
  have hC := fun (s : Bs) (h : s.length ≤ 33554432) H => Cut_spec 10 s (by omega) H
  refine .walkW f10_ok (by simp; decide) (by decide) ?_
  repeat' first | simp (disch := first | with_reducible assumption | omega | (simp only [List.length_append, List.length_cons, List.length_nil]; omega)) only [go_sem, Bool.true_and, Bool.and_true, Bool.and_self, Bool.false_and, Bool.and_false, Bool.true_or, Bool.or_true, Bool.false_or, Bool.or_false, ↓reduceIte, Nat.reduceEqDiff, Nat.reduceAdd, Nat.reduceMul, Nat.reduceSub, Nat.reduceBEq, Nat.reduceLeDiff, Nat.reduceLT, Nat.reduceMod, Nat.reduceDiv, Int.reduceToNat, Int.reducePow, Int.reduceMul, Int.reduceAdd, Int.reduceSub, Int.reduceLE, Int.reduceLT, Int.reduceNeg, Int.reduceDiv, Int.reduceMod, Int.reduceEq, Int.reduceBEq, Int.reduceBNe, f10, f10b, f10r0, f10r1, f10r2, f10r3, f10r4, f10r5, f10r6, f10r7, f10r8, f10r9, f10r10, f10r12] | (refine BrW.of (fun hb => ?_) (fun hb => ?_) <;> (have hb' := hb; try simp only [decide_eq_true_eq, decide_eq_false_iff_not, beq_iff_eq, bne_iff_ne, beq_eq_false_iff_ne, bne_eq_false_iff_eq, Bool.not_eq_true', Bool.not_eq_false', Bool.not_eq_true, Bool.not_eq_false, Bool.and_eq_true, Bool.or_eq_true, Bool.and_eq_false_iff, Bool.or_eq_false_iff, Int.not_lt, Int.not_le, ne_eq, gt_iff_lt, ge_iff_le] at hb') <;> (try (exfalso; omega))) | (refine altW.of ?_ ?_)
  refine loopW.of (by decide) (fun m e J => ∃ (r : Bs) (k : Nat) (f : Nat), e = [(0, str r), (2, .pointer (some ⟨H.length, 0, some 1⟩)), (5, .pointer (some ⟨H.length + 1, 0, some 1⟩)), (6, .int .i64 k), (7, .func (.func f) #[] #[])] ∧ m = r.length ∧ r.length ≤ 33554432 ∧
      ((k = 0 ∧ f = 21 ∧ r = t ∧ J = H ++ [.cells 0 0 false z4, .cells 0 0 false z4]) ∨ (f = 22 ∧ Rd0 H.length H t r k J))) t.length
    ⟨t, 0, 21, rfl, rfl, hl, .inl ⟨rfl, rfl, rfl, rfl⟩⟩ ?_
  rintro m e J ⟨r, k, f, rfl, rfl, hr, ⟨rfl, rfl, rfl, rfl⟩ | ⟨rfl, hR⟩⟩
  · have hCr := hC r hr
    have hsg := segs_cut r
    have hcl := cutAt_len 10 r
    generalize hct : cutAt 10 r = ct at *
    obtain ⟨l, q, ff⟩ := ct
    simp only at *
    cases ff with
    | false =>
      repeat' first | simp (disch := first | with_reducible assumption | omega | (simp only [List.length_append, List.length_cons, List.length_nil]; omega)) only [go_sem, Bool.true_and, Bool.and_true, Bool.and_self, Bool.false_and, Bool.and_false, Bool.true_or, Bool.or_true, Bool.false_or, Bool.or_false, ↓reduceIte, Nat.reduceEqDiff, Nat.reduceAdd, Nat.reduceMul, Nat.reduceSub, Nat.reduceBEq, Nat.reduceLeDiff, Nat.reduceLT, Nat.reduceMod, Nat.reduceDiv, Int.reduceToNat, Int.reducePow, Int.reduceMul, Int.reduceAdd, Int.reduceSub, Int.reduceLE, Int.reduceLT, Int.reduceNeg, Int.reduceDiv, Int.reduceMod, Int.reduceEq, Int.reduceBEq, Int.reduceBNe, f10, f10b, f10r0, f10r1, f10r2, f10r3, f10r4, f10r5, f10r6, f10r7, f10r8, f10r9, f10r10, f10r12, f10l0, f10, f10b, f10r0, f10r1, f10r2, f10r3, f10r4, f10r5, f10r6, f10r7, f10r8, f10r9, f10r10, f10r12, z4] | (refine BrW.of (fun hb => ?_) (fun hb => ?_) <;> (have hb' := hb; try simp only [decide_eq_true_eq, decide_eq_false_iff_not, beq_iff_eq, bne_iff_ne, beq_eq_false_iff_ne, bne_eq_false_iff_eq, Bool.not_eq_true', Bool.not_eq_false', Bool.not_eq_true, Bool.not_eq_false, Bool.and_eq_true, Bool.or_eq_true, Bool.and_eq_false_iff, Bool.or_eq_false_iff, Int.not_lt, Int.not_le, ne_eq, gt_iff_lt, ge_iff_le] at hb') <;> (try (exfalso; omega))) | (refine altW.of ?_ ?_) | (refine .of ((hCr _).mono ?_); rintro v J ⟨rfl, hq⟩; obtain rfl := hq.symm)
      have hz : segs r = ([], r) := hsg.2 rfl
      refine .here ⟨(FrB.refl _ _).app (Nat.le_refl _) _, .inr ⟨parse_empty hz, 0, Nat.zero_le _, rfl⟩⟩
    | true =>
      have hH := head_spec l (by omega) (H.length + 1) 0 0 0 0 0 (.slice none 0 0) (H ++ [.cells 0 0 false z4, .cells 0 0 false z4]) (by rw [get_new]; rfl)
      have hz : segs r = (l :: (segs q).1, (segs q).2) := hsg.1 rfl
      repeat' first | simp (disch := first | with_reducible assumption | omega | (simp only [List.length_append, List.length_cons, List.length_nil]; omega)) only [go_sem, Bool.true_and, Bool.and_true, Bool.and_self, Bool.false_and, Bool.and_false, Bool.true_or, Bool.or_true, Bool.false_or, Bool.or_false, ↓reduceIte, Nat.reduceEqDiff, Nat.reduceAdd, Nat.reduceMul, Nat.reduceSub, Nat.reduceBEq, Nat.reduceLeDiff, Nat.reduceLT, Nat.reduceMod, Nat.reduceDiv, Int.reduceToNat, Int.reducePow, Int.reduceMul, Int.reduceAdd, Int.reduceSub, Int.reduceLE, Int.reduceLT, Int.reduceNeg, Int.reduceDiv, Int.reduceMod, Int.reduceEq, Int.reduceBEq, Int.reduceBNe, f10, f10b, f10r0, f10r1, f10r2, f10r3, f10r4, f10r5, f10r6, f10r7, f10r8, f10r9, f10r10, f10r12, f10l0, z4] | (refine BrW.of (fun hb => ?_) (fun hb => ?_) <;> (have hb' := hb; try simp only [decide_eq_true_eq, decide_eq_false_iff_not, beq_iff_eq, bne_iff_ne, beq_eq_false_iff_ne, bne_eq_false_iff_eq, Bool.not_eq_true', Bool.not_eq_false', Bool.not_eq_true, Bool.not_eq_false, Bool.and_eq_true, Bool.or_eq_true, Bool.and_eq_false_iff, Bool.or_eq_false_iff, Int.not_lt, Int.not_le, ne_eq, gt_iff_lt, ge_iff_le] at hb') <;> (try (exfalso; omega))) | (refine altW.of ?_ ?_) | (refine .of ((hCr _).mono ?_); rintro v J ⟨rfl, hq⟩; obtain rfl := hq.symm) | (refine .of (hH.mono ?_); rintro v J ⟨hF, ⟨x, y, z, h1, rfl, h2⟩ | ⟨h1, rfl⟩⟩)
      · have hJr : J[H.length]? = some (.cells 0 0 false z4) := by rw [hF.2 _ (by simp) (by omega)]; exact get_new0 _ _ _
        have hFB : FrB H.length H J := ⟨by have := hF.1; simp at this; omega, fun j hj => by rw [hF.2 j (by simp; omega) (by omega)]; exact List.getElem?_append_left hj⟩
        refine RdW.keep [0, 2, 5, 6, 7] q.length (by have := cutAt_found (c := 10) (t := r) hct; rw [this]; simp; omega) ?_
        simp (disch := first | with_reducible assumption | omega | (simp only [List.length_append, List.length_cons, List.length_nil]; omega)) only [go_sem, Bool.true_and, Bool.and_true, Bool.and_self, Bool.false_and, Bool.and_false, Bool.true_or, Bool.or_true, Bool.false_or, Bool.or_false, ↓reduceIte, Nat.reduceEqDiff, Nat.reduceAdd, Nat.reduceMul, Nat.reduceSub, Nat.reduceBEq, Nat.reduceLeDiff, Nat.reduceLT, Nat.reduceMod, Nat.reduceDiv, Int.reduceToNat, Int.reducePow, Int.reduceMul, Int.reduceAdd, Int.reduceSub, Int.reduceLE, Int.reduceLT, Int.reduceNeg, Int.reduceDiv, Int.reduceMod, Int.reduceEq, Int.reduceBEq, Int.reduceBNe]
        refine ⟨q, 1, 22, rfl, rfl, by omega, .inr ⟨rfl, hJr, hFB, l, x, y, z, [], [], .slice none 0 0, hz, h1, rfl, rfl, h2, .inl ⟨rfl, rfl⟩⟩⟩
      · have hJr : J[H.length]? = some (.cells 0 0 false [.int .i64 0, .int .i64 0, .int .i64 0, .slice none 0 0]) := by rw [hF.2 _ (by simp) (by omega)]; exact get_new0 _ _ _
        have hFB : FrB H.length H J := ⟨by have := hF.1; simp at this; omega, fun j hj => by rw [hF.2 j (by simp; omega) (by omega)]; exact List.getElem?_append_left hj⟩
        repeat' first | simp (disch := first | with_reducible assumption | omega | (simp only [List.length_append, List.length_cons, List.length_nil]; omega)) only [go_sem, Bool.true_and, Bool.and_true, Bool.and_self, Bool.false_and, Bool.and_false, Bool.true_or, Bool.or_true, Bool.false_or, Bool.or_false, ↓reduceIte, Nat.reduceEqDiff, Nat.reduceAdd, Nat.reduceMul, Nat.reduceSub, Nat.reduceBEq, Nat.reduceLeDiff, Nat.reduceLT, Nat.reduceMod, Nat.reduceDiv, Int.reduceToNat, Int.reducePow, Int.reduceMul, Int.reduceAdd, Int.reduceSub, Int.reduceLE, Int.reduceLT, Int.reduceNeg, Int.reduceDiv, Int.reduceMod, Int.reduceEq, Int.reduceBEq, Int.reduceBNe, f10, f10b, f10r0, f10r1, f10r2, f10r3, f10r4, f10r5, f10r6, f10r7, f10r8, f10r9, f10r10, f10r12, f10l0, f10, f10b, f10r0, f10r1, f10r2, f10r3, f10r4, f10r5, f10r6, f10r7, f10r8, f10r9, f10r10, f10r12, z4, hJr, get_set_hit hJr] | (refine BrW.of (fun hb => ?_) (fun hb => ?_) <;> (have hb' := hb; try simp only [decide_eq_true_eq, decide_eq_false_iff_not, beq_iff_eq, bne_iff_ne, beq_eq_false_iff_ne, bne_eq_false_iff_eq, Bool.not_eq_true', Bool.not_eq_false', Bool.not_eq_true, Bool.not_eq_false, Bool.and_eq_true, Bool.or_eq_true, Bool.and_eq_false_iff, Bool.or_eq_false_iff, Int.not_lt, Int.not_le, ne_eq, gt_iff_lt, ge_iff_le] at hb') <;> (try (exfalso; omega))) | (refine altW.of ?_ ?_)
        refine .here ⟨hFB.set (Nat.le_refl _) _, .inr ⟨parse_head hz h1, 0, Nat.zero_le _, rfl⟩⟩
  · obtain ⟨hJr, hFB, hd, x, y, z, ls, os, sl, hseg, hh, hlp, rfl, hJs, hO⟩ := hR
    have hJr' : J[H.length]? = some (.cells 0 0 false [.int .i64 0, .int .i64 0, .int .i64 0, .slice none 0 0]) := hJr
    have hJl := (List.getElem?_eq_some_iff.1 hJs).1
    have hk1 : (((ls.length + 1 : Nat) : Int) == 0) = false := by rw [beq_eq_false_iff_ne]; omega
    have hsl := segs_len t
    rw [hseg] at hsl
    simp only [List.length_cons, List.length_append] at hsl
    have hol : os.length = ls.length := (linesP_some hlp).2.2
    by_cases hr0 : r = []
    · subst hr0
      repeat' first | simp (disch := first | with_reducible assumption | omega | (simp only [List.length_append, List.length_cons, List.length_nil]; omega)) only [go_sem, Bool.true_and, Bool.and_true, Bool.and_self, Bool.false_and, Bool.and_false, Bool.true_or, Bool.or_true, Bool.false_or, Bool.or_false, ↓reduceIte, Nat.reduceEqDiff, Nat.reduceAdd, Nat.reduceMul, Nat.reduceSub, Nat.reduceBEq, Nat.reduceLeDiff, Nat.reduceLT, Nat.reduceMod, Nat.reduceDiv, Int.reduceToNat, Int.reducePow, Int.reduceMul, Int.reduceAdd, Int.reduceSub, Int.reduceLE, Int.reduceLT, Int.reduceNeg, Int.reduceDiv, Int.reduceMod, Int.reduceEq, Int.reduceBEq, Int.reduceBNe, f10, f10b, f10r0, f10r1, f10r2, f10r3, f10r4, f10r5, f10r6, f10r7, f10r8, f10r9, f10r10, f10r12, f10l0, f10, f10b, f10r0, f10r1, f10r2, f10r3, f10r4, f10r5, f10r6, f10r7, f10r8, f10r9, f10r10, f10r12, hk1, hJr', hJs, get_set_hit hJr'] | (refine BrW.of (fun hb => ?_) (fun hb => ?_) <;> (have hb' := hb; try simp only [decide_eq_true_eq, decide_eq_false_iff_not, beq_iff_eq, bne_iff_ne, beq_eq_false_iff_ne, bne_eq_false_iff_eq, Bool.not_eq_true', Bool.not_eq_false', Bool.not_eq_true, Bool.not_eq_false, Bool.and_eq_true, Bool.or_eq_true, Bool.and_eq_false_iff, Bool.or_eq_false_iff, Int.not_lt, Int.not_le, ne_eq, gt_iff_lt, ge_iff_le] at hb') <;> (try (exfalso; omega))) | (refine altW.of ?_ ?_)
      have hp : parseP t = some ⟨x, y, z, os⟩ := parse_ok (by rw [hseg]; simp [segs]) hh hlp
      refine .here ⟨hFB.set (Nat.le_refl _) _, .inl ⟨_, sl, hp, rfl, ?_⟩⟩
      rcases hO with h | ⟨ko, g, h1, h2, h3⟩
      · exact .inl h
      · exact .inr ⟨ko, g, by omega, h2, (get_set_miss (by omega)).trans h3⟩
    · have hCr := hC r hr
      have hsg := segs_cut r
      have hcl := cutAt_len 10 r
      generalize hct : cutAt 10 r = ct at *
      obtain ⟨l, q, ff⟩ := ct
      simp only at *
      cases ff with
      | false =>
        have hz : segs r = ([], r) := hsg.2 rfl
        have hp : parseP t = none := parse_rest (by rw [hseg, hz]; exact hr0)
        repeat' first | simp (disch := first | with_reducible assumption | omega | (simp only [List.length_append, List.length_cons, List.length_nil]; omega)) only [go_sem, Bool.true_and, Bool.and_true, Bool.and_self, Bool.false_and, Bool.and_false, Bool.true_or, Bool.or_true, Bool.false_or, Bool.or_false, ↓reduceIte, Nat.reduceEqDiff, Nat.reduceAdd, Nat.reduceMul, Nat.reduceSub, Nat.reduceBEq, Nat.reduceLeDiff, Nat.reduceLT, Nat.reduceMod, Nat.reduceDiv, Int.reduceToNat, Int.reducePow, Int.reduceMul, Int.reduceAdd, Int.reduceSub, Int.reduceLE, Int.reduceLT, Int.reduceNeg, Int.reduceDiv, Int.reduceMod, Int.reduceEq, Int.reduceBEq, Int.reduceBNe, f10, f10b, f10r0, f10r1, f10r2, f10r3, f10r4, f10r5, f10r6, f10r7, f10r8, f10r9, f10r10, f10r12, f10l0, f10, f10b, f10r0, f10r1, f10r2, f10r3, f10r4, f10r5, f10r6, f10r7, f10r8, f10r9, f10r10, f10r12, hk1, hr0, hJr', get_set_hit hJr'] | (refine BrW.of (fun hb => ?_) (fun hb => ?_) <;> (have hb' := hb; try simp only [decide_eq_true_eq, decide_eq_false_iff_not, beq_iff_eq, bne_iff_ne, beq_eq_false_iff_ne, bne_eq_false_iff_eq, Bool.not_eq_true', Bool.not_eq_false', Bool.not_eq_true, Bool.not_eq_false, Bool.and_eq_true, Bool.or_eq_true, Bool.and_eq_false_iff, Bool.or_eq_false_iff, Int.not_lt, Int.not_le, ne_eq, gt_iff_lt, ge_iff_le] at hb') <;> (try (exfalso; omega))) | (refine altW.of ?_ ?_) | (refine .of ((hCr _).mono ?_); rintro v J2 ⟨rfl, hq⟩; obtain rfl := hq.symm)
        refine .here ⟨hFB.set (Nat.le_refl _) _, .inr ⟨hp, ls.length + 1, by rw [hseg]; simp, rfl⟩⟩
      | true =>
        have hz : segs r = (l :: (segs q).1, (segs q).2) := hsg.1 rfl
        have hL := line_spec l (by omega) (H.length + 1) 0 0 x y z sl os (by omega) J hJs hO
        repeat' first | simp (disch := first | with_reducible assumption | omega | (simp only [List.length_append, List.length_cons, List.length_nil]; omega)) only [go_sem, Bool.true_and, Bool.and_true, Bool.and_self, Bool.false_and, Bool.and_false, Bool.true_or, Bool.or_true, Bool.false_or, Bool.or_false, ↓reduceIte, Nat.reduceEqDiff, Nat.reduceAdd, Nat.reduceMul, Nat.reduceSub, Nat.reduceBEq, Nat.reduceLeDiff, Nat.reduceLT, Nat.reduceMod, Nat.reduceDiv, Int.reduceToNat, Int.reducePow, Int.reduceMul, Int.reduceAdd, Int.reduceSub, Int.reduceLE, Int.reduceLT, Int.reduceNeg, Int.reduceDiv, Int.reduceMod, Int.reduceEq, Int.reduceBEq, Int.reduceBNe, f10, f10b, f10r0, f10r1, f10r2, f10r3, f10r4, f10r5, f10r6, f10r7, f10r8, f10r9, f10r10, f10r12, f10l0, hk1, hr0] | (refine BrW.of (fun hb => ?_) (fun hb => ?_) <;> (have hb' := hb; try simp only [decide_eq_true_eq, decide_eq_false_iff_not, beq_iff_eq, bne_iff_ne, beq_eq_false_iff_ne, bne_eq_false_iff_eq, Bool.not_eq_true', Bool.not_eq_false', Bool.not_eq_true, Bool.not_eq_false, Bool.and_eq_true, Bool.or_eq_true, Bool.and_eq_false_iff, Bool.or_eq_false_iff, Int.not_lt, Int.not_le, ne_eq, gt_iff_lt, ge_iff_le] at hb') <;> (try (exfalso; omega))) | (refine altW.of ?_ ?_) | (refine .of ((hCr _).mono ?_); rintro v J2 ⟨rfl, hq⟩; obtain rfl := hq.symm) | (refine .of (hL.mono ?_); rintro v J2 ⟨hF, ⟨o, sl', h1, rfl, h2, h3⟩ | ⟨h1, rfl⟩⟩)
        · refine RdW.keep [0, 2, 5, 6, 7] q.length (by have := cutAt_found (c := 10) (t := r) hct; rw [this]; simp; omega) ?_
          simp (disch := first | with_reducible assumption | omega | (simp only [List.length_append, List.length_cons, List.length_nil]; omega)) only [go_sem, Bool.true_and, Bool.and_true, Bool.and_self, Bool.false_and, Bool.and_false, Bool.true_or, Bool.or_true, Bool.false_or, Bool.or_false, ↓reduceIte, Nat.reduceEqDiff, Nat.reduceAdd, Nat.reduceMul, Nat.reduceSub, Nat.reduceBEq, Nat.reduceLeDiff, Nat.reduceLT, Nat.reduceMod, Nat.reduceDiv, Int.reduceToNat, Int.reducePow, Int.reduceMul, Int.reduceAdd, Int.reduceSub, Int.reduceLE, Int.reduceLT, Int.reduceNeg, Int.reduceDiv, Int.reduceMod, Int.reduceEq, Int.reduceBEq, Int.reduceBNe]
          refine ⟨q, ls.length + 2, 22, rfl, rfl, by omega, .inr ⟨rfl, (hF.2 _ (by omega)).trans hJr, hFB.trans (hF.mono (by omega)), hd, x, y, z, ls ++ [l], os ++ [o], sl', ?_, hh, ?_, by simp, h2, h3⟩⟩
          · rw [hseg, hz]; simp
          · exact linesP_app hlp (by show (match lineP l, linesP [] with | some o, some os => some (o :: os) | _, _ => none) = _; rw [h1]; rfl)
        · have hJr2 := (hF.2 _ (by omega)).trans hJr'
          have hp : parseP t = none := parse_line (by rw [hseg, hz]) (linesP_bad h1 _ _)
          repeat' first | simp (disch := first | with_reducible assumption | omega | (simp only [List.length_append, List.length_cons, List.length_nil]; omega)) only [go_sem, Bool.true_and, Bool.and_true, Bool.and_self, Bool.false_and, Bool.and_false, Bool.true_or, Bool.or_true, Bool.false_or, Bool.or_false, ↓reduceIte, Nat.reduceEqDiff, Nat.reduceAdd, Nat.reduceMul, Nat.reduceSub, Nat.reduceBEq, Nat.reduceLeDiff, Nat.reduceLT, Nat.reduceMod, Nat.reduceDiv, Int.reduceToNat, Int.reducePow, Int.reduceMul, Int.reduceAdd, Int.reduceSub, Int.reduceLE, Int.reduceLT, Int.reduceNeg, Int.reduceDiv, Int.reduceMod, Int.reduceEq, Int.reduceBEq, Int.reduceBNe, f10, f10b, f10r0, f10r1, f10r2, f10r3, f10r4, f10r5, f10r6, f10r7, f10r8, f10r9, f10r10, f10r12, f10l0, f10, f10b, f10r0, f10r1, f10r2, f10r3, f10r4, f10r5, f10r6, f10r7, f10r8, f10r9, f10r10, f10r12, hJr2, get_set_hit hJr2] | (refine BrW.of (fun hb => ?_) (fun hb => ?_) <;> (have hb' := hb; try simp only [decide_eq_true_eq, decide_eq_false_iff_not, beq_iff_eq, bne_iff_ne, beq_eq_false_iff_ne, bne_eq_false_iff_eq, Bool.not_eq_true', Bool.not_eq_false', Bool.not_eq_true, Bool.not_eq_false, Bool.and_eq_true, Bool.or_eq_true, Bool.and_eq_false_iff, Bool.or_eq_false_iff, Int.not_lt, Int.not_le, ne_eq, gt_iff_lt, ge_iff_le] at hb') <;> (try (exfalso; omega))) | (refine altW.of ?_ ?_)
          refine .here ⟨(hFB.trans (hF.mono (by omega))).set (Nat.le_refl _) _, .inr ⟨hp, ls.length + 1, by rw [hseg]; simp, rfl⟩⟩
end Go.Proofs.YtfkhljgifndbpaaDoor
