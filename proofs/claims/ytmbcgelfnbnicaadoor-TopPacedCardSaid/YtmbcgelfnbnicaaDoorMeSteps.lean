import Derived.Test.YtmbcgelfnbnicaaDoorFns
import Derived.Test.YtmbcgelfnbnicaaDoorLib
import Derived.Test.YtmbcgelfnbnicaaDoorMePlain
set_option linter.unusedSimpArgs false
set_option linter.unusedVariables false
set_option maxRecDepth 20000
set_option maxHeartbeats 1000000
namespace Go.Proofs.YtmbcgelfnbnicaaDoor.Me
open Go Go.Am
attribute [local irreducible] opsW Ww loopW callW drawW outW outDW gW cW BrW bothW vW resW DropW RdW dcallW altW forkW splitW Later.run

def M.cells (m : M) : List Value := [.int .i64 m.co, .int .i64 m.bu, .int .i64 m.ex, .int .i64 m.fi, .int .i64 m.se, .int .i64 m.at']
def M.val (m : M) : Value := .agg #[.int .i64 m.co, .int .i64 m.bu, .int .i64 m.ex, .int .i64 m.fi, .int .i64 m.se, .int .i64 m.at']
def S.cells (s : S) : List Value := [.int .i64 s.at', .int .i64 s.by']
def S.val (s : S) : Value := .agg #[.int .i64 s.at', .int .i64 s.by']

theorem fits_spec (n most : Int) (H : Heap) : ACallK Tryd.prog 37 [.int .i64 n, .int .i64 most] H (fun v H' => v = .bool (decide (0 ≤ n ∧ n ≤ most)) ∧ H' = H) := by
  refine .walkW f37_ok (by simp; decide) (by decide) ?_
  repeat' first | simp (disch := first | with_reducible assumption | omega) only [go_sem, Bool.true_and, Bool.and_true, Bool.and_self, Bool.false_and, Bool.and_false, Bool.true_or, Bool.or_true, Bool.false_or, Bool.or_false, ↓reduceIte, Nat.reduceEqDiff, Nat.reduceAdd, Nat.reduceMul, Nat.reduceSub, Nat.reduceBEq, Nat.reduceLeDiff, Nat.reduceLT, Nat.reduceMod, Nat.reduceDiv, Int.reduceToNat, Int.reducePow, Int.reduceMul, Int.reduceAdd, Int.reduceSub, Int.reduceLE, Int.reduceLT, Int.reduceNeg, Int.reduceDiv, Int.reduceMod, Int.reduceEq, Int.reduceBEq, Int.reduceBNe, f37, f37b, f37r0, f37r1] | (refine BrW.of (fun hb => ?_) (fun hb => ?_) <;> (have hb' := hb; try simp only [decide_eq_true_eq, decide_eq_false_iff_not, beq_iff_eq, bne_iff_ne, beq_eq_false_iff_ne, bne_eq_false_iff_eq, Bool.not_eq_true', Bool.not_eq_false', Bool.not_eq_true, Bool.not_eq_false, Bool.and_eq_true, Bool.or_eq_true, Bool.and_eq_false_iff, Bool.or_eq_false_iff, Int.not_lt, Int.not_le, ne_eq, gt_iff_lt, ge_iff_le] at hb') <;> (try (exfalso; omega))) | (refine altW.of ?_ ?_)
  all_goals exact .here ⟨by (first | with_reducible rfl | (congr 1; first | with_reducible rfl | omega | (rw [Bool.eq_iff_iff]; simp only [decide_eq_true_eq, decide_eq_false_iff_not, beq_iff_eq, bne_iff_ne, beq_eq_false_iff_ne, bne_eq_false_iff_eq, Bool.not_eq_true', Bool.not_eq_false', Bool.not_eq_true, Bool.not_eq_false, Bool.and_eq_true, Bool.or_eq_true, Bool.and_eq_false_iff, Bool.or_eq_false_iff, Int.not_lt, Int.not_le, ne_eq, gt_iff_lt, ge_iff_le, Bool.and_false, Bool.false_and, Bool.or_true, Bool.true_or, Bool.false_eq_true, true_iff, iff_true, false_iff, iff_false, eq_self, not_true_eq_false, not_false_eq_true]; try omega))), rfl⟩

theorem Right_spec (m : M) (H : Heap) : ACallK Tryd.prog 20 [m.val] H (fun v H' => v = .bool (decide m.right) ∧ H' = H) := by
  refine .walkW f20_ok (by simp; decide) (by decide) ?_
  repeat' first | simp (disch := first | with_reducible assumption | omega) only [go_sem, Bool.true_and, Bool.and_true, Bool.and_self, Bool.false_and, Bool.and_false, Bool.true_or, Bool.or_true, Bool.false_or, Bool.or_false, ↓reduceIte, Nat.reduceEqDiff, Nat.reduceAdd, Nat.reduceMul, Nat.reduceSub, Nat.reduceBEq, Nat.reduceLeDiff, Nat.reduceLT, Nat.reduceMod, Nat.reduceDiv, Int.reduceToNat, Int.reducePow, Int.reduceMul, Int.reduceAdd, Int.reduceSub, Int.reduceLE, Int.reduceLT, Int.reduceNeg, Int.reduceDiv, Int.reduceMod, Int.reduceEq, Int.reduceBEq, Int.reduceBNe, f20, f20b, f20r0, f20r1, f20r2, M.val] | (refine BrW.of (fun hb => ?_) (fun hb => ?_) <;> (have hb' := hb; try simp only [decide_eq_true_eq, decide_eq_false_iff_not, beq_iff_eq, bne_iff_ne, beq_eq_false_iff_ne, bne_eq_false_iff_eq, Bool.not_eq_true', Bool.not_eq_false', Bool.not_eq_true, Bool.not_eq_false, Bool.and_eq_true, Bool.or_eq_true, Bool.and_eq_false_iff, Bool.or_eq_false_iff, Int.not_lt, Int.not_le, ne_eq, gt_iff_lt, ge_iff_le] at hb') <;> (try (exfalso; omega))) | (refine altW.of ?_ ?_) | (refine .of ((fits_spec _ _ _).mono ?_); rintro v _ ⟨rfl, rfl⟩)
  all_goals exact .back rfl ⟨by (first | with_reducible rfl | (congr 1; first | with_reducible rfl | omega | (rw [Bool.eq_iff_iff]; simp only [decide_eq_true_eq, decide_eq_false_iff_not, beq_iff_eq, bne_iff_ne, beq_eq_false_iff_ne, bne_eq_false_iff_eq, Bool.not_eq_true', Bool.not_eq_false', Bool.not_eq_true, Bool.not_eq_false, Bool.and_eq_true, Bool.or_eq_true, Bool.and_eq_false_iff, Bool.or_eq_false_iff, Int.not_lt, Int.not_le, ne_eq, gt_iff_lt, ge_iff_le, Bool.and_false, Bool.false_and, Bool.or_true, Bool.true_or, Bool.false_eq_true, true_iff, iff_true, false_iff, iff_false, eq_self, not_true_eq_false, not_false_eq_true]; try simp only [M.right]; try omega))), rfl⟩

theorem no_spec (e : Int) (H : Heap) : ACallK Tryd.prog 38 [.int .i64 e] H (fun v H' => v = .tuple #[M.zero.val, .int .i64 0, .int .i64 e] ∧ H' = H) := by
  refine .walkW f38_ok (by simp; decide) (by decide) ?_
  repeat' first | simp (disch := first | with_reducible assumption | omega) only [go_sem, Bool.true_and, Bool.and_true, Bool.and_self, Bool.false_and, Bool.and_false, Bool.true_or, Bool.or_true, Bool.false_or, Bool.or_false, ↓reduceIte, Nat.reduceEqDiff, Nat.reduceAdd, Nat.reduceMul, Nat.reduceSub, Nat.reduceBEq, Nat.reduceLeDiff, Nat.reduceLT, Nat.reduceMod, Nat.reduceDiv, Int.reduceToNat, Int.reducePow, Int.reduceMul, Int.reduceAdd, Int.reduceSub, Int.reduceLE, Int.reduceLT, Int.reduceNeg, Int.reduceDiv, Int.reduceMod, Int.reduceEq, Int.reduceBEq, Int.reduceBNe, f38, f38b, f38r0, f38r1] | (refine BrW.of (fun hb => ?_) (fun hb => ?_) <;> (have hb' := hb; try simp only [decide_eq_true_eq, decide_eq_false_iff_not, beq_iff_eq, bne_iff_ne, beq_eq_false_iff_ne, bne_eq_false_iff_eq, Bool.not_eq_true', Bool.not_eq_false', Bool.not_eq_true, Bool.not_eq_false, Bool.and_eq_true, Bool.or_eq_true, Bool.and_eq_false_iff, Bool.or_eq_false_iff, Int.not_lt, Int.not_le, ne_eq, gt_iff_lt, ge_iff_le] at hb') <;> (try (exfalso; omega))) | (refine altW.of ?_ ?_)
  exact .back rfl ⟨rfl, rfl⟩

/-- What Colour hands back. -/
def colour (m : M) (s : S) (had : Int) : M × Int × Int :=
  if good m s had then ((taken (filled m s) s had).1, (taken (filled m s) s had).2, 0) else (M.zero, 0, err m had)
def ans (r : M × Int × Int) : Value := .tuple #[r.1.val, .int .i64 r.2.1, .int .i64 r.2.2]

theorem Colour_spec (m : M) (s : S) (had : Int) (H : Heap) : ACallK Tryd.prog 21 [m.val, s.val, .int .i64 had] H (fun v H' => v = ans (colour m s had) ∧ H' = H) := by
  refine .walkW f21_ok (by simp; decide) (by decide) ?_
  by_cases hg : good m s had
  · have hr := come_range hg
    have hp : 0 ≤ (s.at' - m.at') * m.co ∧ (s.at' - m.at') * m.co ≤ 1152921504606846976 := by
      obtain ⟨⟨h1, h2, _, _, _, _, _, _, _, _, h11, h12⟩, _, _, h15, h16, _⟩ := hg
      refine ⟨Int.mul_nonneg (by omega) h1, ?_⟩
      have := Int.mul_le_mul (show s.at' - m.at' ≤ 1099511627776 by omega) h2 h1 (by omega)
      omega
    have hg' := hg
    have hR : (!decide m.right) = false := by simp [hg.1]
    simp only [good, M.right] at hg'
    have hc := hr
    unfold come at hc
    repeat' first | simp (disch := first | with_reducible assumption | omega) only [go_sem, Bool.true_and, Bool.and_true, Bool.and_self, Bool.false_and, Bool.and_false, Bool.true_or, Bool.or_true, Bool.false_or, Bool.or_false, ↓reduceIte, Nat.reduceEqDiff, Nat.reduceAdd, Nat.reduceMul, Nat.reduceSub, Nat.reduceBEq, Nat.reduceLeDiff, Nat.reduceLT, Nat.reduceMod, Nat.reduceDiv, Int.reduceToNat, Int.reducePow, Int.reduceMul, Int.reduceAdd, Int.reduceSub, Int.reduceLE, Int.reduceLT, Int.reduceNeg, Int.reduceDiv, Int.reduceMod, Int.reduceEq, Int.reduceBEq, Int.reduceBNe, f21, f21b, f21r0, f21r1, f21r2, f21r3, f21r4, f21r5, f21r6, f21r7, f21r8, f21r9, f21r10, f21r11, f21r12, f21r13, f21r14, f21r15, f21r16, f21r17, f21r18, f21r19, f21r20, f21r21, f21r22, f21r23, M.val, S.val] | (refine BrW.of (fun hb => ?_) (fun hb => ?_) <;> (have hb' := hb; try simp only [decide_eq_true_eq, decide_eq_false_iff_not, beq_iff_eq, bne_iff_ne, beq_eq_false_iff_ne, bne_eq_false_iff_eq, Bool.not_eq_true', Bool.not_eq_false', Bool.not_eq_true, Bool.not_eq_false, Bool.and_eq_true, Bool.or_eq_true, Bool.and_eq_false_iff, Bool.or_eq_false_iff, Int.not_lt, Int.not_le, ne_eq, gt_iff_lt, ge_iff_le] at hb') <;> (try (exfalso; omega))) | (refine altW.of ?_ ?_) | (refine .of ((Right_spec m _).mono ?_); rintro v _ ⟨rfl, rfl⟩)
    all_goals exact .back rfl ⟨by (first | with_reducible rfl | ((try simp (disch := first | with_reducible assumption | omega) only [if_pos, if_neg, ans, colour, hg, taken, filled, come, M.val]) <;> repeat' first | with_reducible rfl | omega | congr 1)), rfl⟩
  · by_cases h1 : m.right
    · have hR : (!decide m.right) = false := by simp [h1]
      have hc : (had < 1 ∨ 3 < had) ∨ (1 ≤ had ∧ had ≤ 3 ∧ (s.at' < m.at' ∨ 1099511627776 < s.at' ∨ s.by' < 0 ∨ 1048576 < s.by')) := by
        unfold good at hg
        by_cases h2 : 1 ≤ had ∧ had ≤ 3
        · refine .inr ⟨h2.1, h2.2, ?_⟩
          by_cases h3 : s.at' < m.at' ∨ 1099511627776 < s.at' ∨ s.by' < 0 ∨ 1048576 < s.by'
          · exact h3
          · exact (hg ⟨h1, by omega⟩).elim
        · exact .inl (by omega)
      repeat' first | simp (disch := first | with_reducible assumption | omega) only [go_sem, Bool.true_and, Bool.and_true, Bool.and_self, Bool.false_and, Bool.and_false, Bool.true_or, Bool.or_true, Bool.false_or, Bool.or_false, ↓reduceIte, Nat.reduceEqDiff, Nat.reduceAdd, Nat.reduceMul, Nat.reduceSub, Nat.reduceBEq, Nat.reduceLeDiff, Nat.reduceLT, Nat.reduceMod, Nat.reduceDiv, Int.reduceToNat, Int.reducePow, Int.reduceMul, Int.reduceAdd, Int.reduceSub, Int.reduceLE, Int.reduceLT, Int.reduceNeg, Int.reduceDiv, Int.reduceMod, Int.reduceEq, Int.reduceBEq, Int.reduceBNe, f21, f21b, f21r0, f21r1, f21r2, f21r3, f21r4, f21r5, f21r6, f21r7, f21r8, f21r9, f21r10, f21r11, f21r12, f21r13, f21r14, f21r15, f21r16, f21r17, f21r18, f21r19, f21r20, f21r21, f21r22, f21r23, M.val, S.val] | (refine BrW.of (fun hb => ?_) (fun hb => ?_) <;> (have hb' := hb; try simp only [decide_eq_true_eq, decide_eq_false_iff_not, beq_iff_eq, bne_iff_ne, beq_eq_false_iff_ne, bne_eq_false_iff_eq, Bool.not_eq_true', Bool.not_eq_false', Bool.not_eq_true, Bool.not_eq_false, Bool.and_eq_true, Bool.or_eq_true, Bool.and_eq_false_iff, Bool.or_eq_false_iff, Int.not_lt, Int.not_le, ne_eq, gt_iff_lt, ge_iff_le] at hb') <;> (try (exfalso; omega))) | (refine altW.of ?_ ?_) | (refine .of ((Right_spec m _).mono ?_); rintro v _ ⟨rfl, rfl⟩) | (refine .of ((no_spec _ _).mono ?_); rintro v _ ⟨rfl, rfl⟩)
      all_goals exact .back rfl ⟨by (first | with_reducible rfl | ((try simp (disch := first | with_reducible assumption | omega) only [if_pos, if_neg, ans, colour, hg, err, if_false, h1, not_true_eq_false, M.zero, M.val]) <;> repeat' first | with_reducible rfl | omega | congr 1)), rfl⟩
    · have hR : (!decide m.right) = true := by simp [h1]
      repeat' first | simp (disch := first | with_reducible assumption | omega) only [go_sem, Bool.true_and, Bool.and_true, Bool.and_self, Bool.false_and, Bool.and_false, Bool.true_or, Bool.or_true, Bool.false_or, Bool.or_false, ↓reduceIte, Nat.reduceEqDiff, Nat.reduceAdd, Nat.reduceMul, Nat.reduceSub, Nat.reduceBEq, Nat.reduceLeDiff, Nat.reduceLT, Nat.reduceMod, Nat.reduceDiv, Int.reduceToNat, Int.reducePow, Int.reduceMul, Int.reduceAdd, Int.reduceSub, Int.reduceLE, Int.reduceLT, Int.reduceNeg, Int.reduceDiv, Int.reduceMod, Int.reduceEq, Int.reduceBEq, Int.reduceBNe, f21, f21b, f21r0, f21r1, f21r2, f21r3, f21r4, f21r5, f21r6, f21r7, f21r8, f21r9, f21r10, f21r11, f21r12, f21r13, f21r14, f21r15, f21r16, f21r17, f21r18, f21r19, f21r20, f21r21, f21r22, f21r23, M.val, S.val] | (refine BrW.of (fun hb => ?_) (fun hb => ?_) <;> (have hb' := hb; try simp only [decide_eq_true_eq, decide_eq_false_iff_not, beq_iff_eq, bne_iff_ne, beq_eq_false_iff_ne, bne_eq_false_iff_eq, Bool.not_eq_true', Bool.not_eq_false', Bool.not_eq_true, Bool.not_eq_false, Bool.and_eq_true, Bool.or_eq_true, Bool.and_eq_false_iff, Bool.or_eq_false_iff, Int.not_lt, Int.not_le, ne_eq, gt_iff_lt, ge_iff_le] at hb') <;> (try (exfalso; omega))) | (refine altW.of ?_ ?_) | (refine .of ((Right_spec m _).mono ?_); rintro v _ ⟨rfl, rfl⟩) | (refine .of ((no_spec _ _).mono ?_); rintro v _ ⟨rfl, rfl⟩)
      all_goals exact .back rfl ⟨by (first | with_reducible rfl | ((try simp (disch := first | with_reducible assumption | omega) only [if_pos, if_neg, ans, colour, hg, err, if_false, h1, not_false_eq_true, if_true, M.zero, M.val]) <;> repeat' first | with_reducible rfl | omega | congr 1)), rfl⟩


def s0 : S := ⟨0, 0⟩
abbrev Shots (H : Heap) (k o g : Nat) (l : List S) : Prop := Tbl S S.cells 2 s0 H k o g l
theorem Shots.cell {H : Heap} {k o g : Nat} {l : List S} (h : Shots H k o g l) : ∃ ro cs, H[k]? = some (.cells g 2 ro cs) ∧ o + l.length * 2 ≤ cs.length ∧ ∀ i, i < l.length → cs[o + i * 2]? = some (.int .i64 (l.getD i s0).at') ∧ cs[o + i * 2 + 1]? = some (.int .i64 (l.getD i s0).by') := by
  obtain ⟨ro, cs, h1, h2, h3⟩ := h.at'
  exact ⟨ro, cs, h1, h2, fun i hi => ⟨h3 i hi 0 (by omega), h3 i hi 1 (by omega)⟩⟩

theorem colour_bad {m : M} {s : S} {had : Int} (h : ¬ good m s had) : colour m s had = (M.zero, 0, err m had) := if_neg h
theorem colour_good {m : M} {s : S} {had : Int} (h : good m s had) : colour m s had = ((taken (filled m s) s had).1, (taken (filled m s) s had).2, 0) := if_pos h
theorem err_ne (m : M) (had : Int) : (err m had != 0) = true ∧ (err m had == 0) = false := by
  have : err m had ≠ 0 := by unfold err; (repeat' split) <;> omega
  simp [this]

def full (co bu ex : Int) : M := ⟨co, bu, ex, bu, ex, 0⟩

theorem Play_spec (co bu ex : Int) (l : List S) (k o g c : Nat) (H : Heap) (hs : Shots H k o g l) (hl : l.length ≤ 1048576) (out : List Int) (m' : M) (hr : (full co bu ex).right) (hrun : run (full co bu ex) l = some (out, m')) :
    ACallK Tryd.prog 7 [.int .i64 co, .int .i64 bu, .int .i64 ex, slv k o g l.length c] H (fun v H' => ∃ (g' : Nat) (z x : M), v = .tuple #[slv (H.length + 2) 0 g' l.length l.length, m'.val, .int .i64 0] ∧ H' = H ++ [.cells 0 0 false z.cells, .cells 0 0 false x.cells, .cells g' 1 false (ints out)]) := by
  obtain ⟨ro, cs, hk, hcl, hcs⟩ := hs.cell
  have hkl := hs.lt
  have hR : (!decide (full co bu ex).right) = false := by simp [hr]
  refine .walkW f7_ok (by simp; decide) (by decide) ?_
  repeat' first | simp (disch := first | with_reducible assumption | omega) only [go_sem, Bool.true_and, Bool.and_true, Bool.and_self, Bool.false_and, Bool.and_false, Bool.true_or, Bool.or_true, Bool.false_or, Bool.or_false, ↓reduceIte, Nat.reduceEqDiff, Nat.reduceAdd, Nat.reduceMul, Nat.reduceSub, Nat.reduceBEq, Nat.reduceLeDiff, Nat.reduceLT, Nat.reduceMod, Nat.reduceDiv, Int.reduceToNat, Int.reducePow, Int.reduceMul, Int.reduceAdd, Int.reduceSub, Int.reduceLE, Int.reduceLT, Int.reduceNeg, Int.reduceDiv, Int.reduceMod, Int.reduceEq, Int.reduceBEq, Int.reduceBNe, f7, f7b, f7r0, f7r1, f7r2, f7r3, f7r4, f7r5, f7r6, f7r7, f7r8, f7r9, f7r10, f7r11, f7r12, f7r14, hk, get_old hk, M.cells, M.val] | (refine BrW.of (fun hb => ?_) (fun hb => ?_) <;> (have hb' := hb; try simp only [decide_eq_true_eq, decide_eq_false_iff_not, beq_iff_eq, bne_iff_ne, beq_eq_false_iff_ne, bne_eq_false_iff_eq, Bool.not_eq_true', Bool.not_eq_false', Bool.not_eq_true, Bool.not_eq_false, Bool.and_eq_true, Bool.or_eq_true, Bool.and_eq_false_iff, Bool.or_eq_false_iff, Int.not_lt, Int.not_le, ne_eq, gt_iff_lt, ge_iff_le] at hb') <;> (try (exfalso; omega))) | (refine altW.of ?_ ?_) | (refine .of ((Right_spec (full co bu ex) _).mono ?_); rintro v _ ⟨rfl, rfl⟩)
  refine loopW.ghost 12 1 rfl ?_
  simp (disch := first | with_reducible assumption | omega) only [go_sem, Bool.true_and, Bool.and_true, Bool.and_self, Bool.false_and, Bool.and_false, Bool.true_or, Bool.or_true, Bool.false_or, Bool.or_false, ↓reduceIte, Nat.reduceEqDiff, Nat.reduceAdd, Nat.reduceMul, Nat.reduceSub, Nat.reduceBEq, Nat.reduceLeDiff, Nat.reduceLT, Nat.reduceMod, Nat.reduceDiv, Int.reduceToNat, Int.reducePow, Int.reduceMul, Int.reduceAdd, Int.reduceSub, Int.reduceLE, Int.reduceLT, Int.reduceNeg, Int.reduceDiv, Int.reduceMod, Int.reduceEq, Int.reduceBEq, Int.reduceBNe]
  refine loopW.keep [9, 11, 12, 28, 29, 30] ?_
  simp (disch := first | with_reducible assumption | omega) only [go_sem, Bool.true_and, Bool.and_true, Bool.and_self, Bool.false_and, Bool.and_false, Bool.true_or, Bool.or_true, Bool.false_or, Bool.or_false, ↓reduceIte, Nat.reduceEqDiff, Nat.reduceAdd, Nat.reduceMul, Nat.reduceSub, Nat.reduceBEq, Nat.reduceLeDiff, Nat.reduceLT, Nat.reduceMod, Nat.reduceDiv, Int.reduceToNat, Int.reducePow, Int.reduceMul, Int.reduceAdd, Int.reduceSub, Int.reduceLE, Int.reduceLT, Int.reduceNeg, Int.reduceDiv, Int.reduceMod, Int.reduceEq, Int.reduceBEq, Int.reduceBNe]
  refine loopW.of (by decide) (fun m e H'' => ∃ (i g' : Nat) (x : M), e = [(9, .pointer (some ⟨H.length, 0, some 1⟩)), (11, .pointer (some ⟨H.length + 1, 0, some 1⟩)), (12, slv (H.length + 2) 0 g' i i), (28, slv k o g l.length c), (29, .int .i64 l.length), (30, .int .i64 i)] ∧
    H'' = H ++ [.cells 0 0 false M.zero.cells, .cells 0 0 false x.cells, .cells g' 1 false (ints (out.take i))] ∧ i ≤ l.length ∧ m = l.length - i ∧ x.right ∧ run x (l.drop i) = some (out.drop i, m')) l.length ⟨0, 0, full co bu ex, rfl, rfl, by omega, rfl, hr, hrun⟩ ?_
  rintro m e H'' ⟨i, g', x, rfl, rfl, hi, rfl, hx, hinv⟩
  have hol := run_length hrun
  by_cases hlt : i < l.length
  · obtain ⟨e0, e1⟩ := hcs i hlt
    rw [drop_cons s0 l i hlt, drop_cons 0 out i (by omega), run_cons] at hinv
    generalize hsi : l.getD i s0 = s at *
    by_cases hg : good x s 1
    · rw [if_pos hg] at hinv
      obtain ⟨⟨o2, m2⟩, h1, h2⟩ := Option.map_eq_some_iff.1 hinv
      simp only [Prod.mk.injEq, List.cons.injEq] at h2
      obtain ⟨⟨h2, h4⟩, h3⟩ := h2
      rw [h4, h3] at h1
      have hng := next_good hg
      have hsp := Colour_spec x s 1
      rw [colour_good hg, show (taken (filled x s) s 1).1 = (next x s).1 from rfl, show (taken (filled x s) s 1).2 = out.getD i 0 from h2] at hsp
      generalize (next x s).1 = y at *
      have il : (ints (out.take i)).length = i := by rw [ints_length, List.length_take]; omega
      have hni : ¬ i + 1 ≤ i := by omega
      have htk : (ints (out.take i)).take i = ints (out.take i) := ints_take _ _ (by simp; omega)
      repeat' first | simp (disch := first | with_reducible assumption | omega) only [go_sem, Bool.true_and, Bool.and_true, Bool.and_self, Bool.false_and, Bool.and_false, Bool.true_or, Bool.or_true, Bool.false_or, Bool.or_false, ↓reduceIte, Nat.reduceEqDiff, Nat.reduceAdd, Nat.reduceMul, Nat.reduceSub, Nat.reduceBEq, Nat.reduceLeDiff, Nat.reduceLT, Nat.reduceMod, Nat.reduceDiv, Int.reduceToNat, Int.reducePow, Int.reduceMul, Int.reduceAdd, Int.reduceSub, Int.reduceLE, Int.reduceLT, Int.reduceNeg, Int.reduceDiv, Int.reduceMod, Int.reduceEq, Int.reduceBEq, Int.reduceBNe, f7, f7b, f7r0, f7r1, f7r2, f7r3, f7r4, f7r5, f7r6, f7r7, f7r8, f7r9, f7r10, f7r11, f7r12, f7r14, f7l0, hk, get_old hk, e0, e1, il, hni, htk, M.cells, M.val, S.cells, S.val, ans] | (refine BrW.of (fun hb => ?_) (fun hb => ?_) <;> (have hb' := hb; try simp only [decide_eq_true_eq, decide_eq_false_iff_not, beq_iff_eq, bne_iff_ne, beq_eq_false_iff_ne, bne_eq_false_iff_eq, Bool.not_eq_true', Bool.not_eq_false', Bool.not_eq_true, Bool.not_eq_false, Bool.and_eq_true, Bool.or_eq_true, Bool.and_eq_false_iff, Bool.or_eq_false_iff, Int.not_lt, Int.not_le, ne_eq, gt_iff_lt, ge_iff_le] at hb') <;> (try (exfalso; omega))) | (refine altW.of ?_ ?_) | (refine .of ((hsp _).mono ?_); rintro v _ ⟨rfl, rfl⟩)
      refine RdW.cut3 [9, 11, 12, 28, 29, 30] (l.length - (i + 1)) ?_ ?_ ?_ ?_ ?_ ?_
      · omega
      · rfl
      · rfl
      · rw [ints_snoc]; exact abnd_ints' _ _ _ _ _
      · simp (disch := first | with_reducible assumption | omega) only [go_sem, Bool.true_and, Bool.and_true, Bool.and_self, Bool.false_and, Bool.and_false, Bool.true_or, Bool.or_true, Bool.false_or, Bool.or_false, ↓reduceIte, Nat.reduceEqDiff, Nat.reduceAdd, Nat.reduceMul, Nat.reduceSub, Nat.reduceBEq, Nat.reduceLeDiff, Nat.reduceLT, Nat.reduceMod, Nat.reduceDiv, Int.reduceToNat, Int.reducePow, Int.reduceMul, Int.reduceAdd, Int.reduceSub, Int.reduceLE, Int.reduceLT, Int.reduceNeg, Int.reduceDiv, Int.reduceMod, Int.reduceEq, Int.reduceBEq, Int.reduceBNe]
        simp; omega
      · simp (disch := first | with_reducible assumption | omega) only [go_sem, Bool.true_and, Bool.and_true, Bool.and_self, Bool.false_and, Bool.and_false, Bool.true_or, Bool.or_true, Bool.false_or, Bool.or_false, ↓reduceIte, Nat.reduceEqDiff, Nat.reduceAdd, Nat.reduceMul, Nat.reduceSub, Nat.reduceBEq, Nat.reduceLeDiff, Nat.reduceLT, Nat.reduceMod, Nat.reduceDiv, Int.reduceToNat, Int.reducePow, Int.reduceMul, Int.reduceAdd, Int.reduceSub, Int.reduceLE, Int.reduceLT, Int.reduceNeg, Int.reduceDiv, Int.reduceMod, Int.reduceEq, Int.reduceBEq, Int.reduceBNe]
        exact ⟨i + 1, g' + 1, y, rfl, by rw [take_snoc 0 out i (by omega), ← ints_app]; rfl, by omega, rfl, hng, h1⟩
    · rw [if_neg hg] at hinv; cases hinv
  · obtain rfl : i = l.length := by omega
    have hto : out.take l.length = out := by rw [← hol, List.take_length]
    rw [List.drop_eq_nil_of_le (by omega), List.drop_eq_nil_of_le (by omega)] at hinv
    have hxm : x = m' := by have := hinv; simp [run] at this; exact this
    subst hxm
    rw [hto]
    repeat' first | simp (disch := first | with_reducible assumption | omega) only [go_sem, Bool.true_and, Bool.and_true, Bool.and_self, Bool.false_and, Bool.and_false, Bool.true_or, Bool.or_true, Bool.false_or, Bool.or_false, ↓reduceIte, Nat.reduceEqDiff, Nat.reduceAdd, Nat.reduceMul, Nat.reduceSub, Nat.reduceBEq, Nat.reduceLeDiff, Nat.reduceLT, Nat.reduceMod, Nat.reduceDiv, Int.reduceToNat, Int.reducePow, Int.reduceMul, Int.reduceAdd, Int.reduceSub, Int.reduceLE, Int.reduceLT, Int.reduceNeg, Int.reduceDiv, Int.reduceMod, Int.reduceEq, Int.reduceBEq, Int.reduceBNe, f7, f7b, f7r0, f7r1, f7r2, f7r3, f7r4, f7r5, f7r6, f7r7, f7r8, f7r9, f7r10, f7r11, f7r12, f7r14, f7l0, f7, f7b, f7r0, f7r1, f7r2, f7r3, f7r4, f7r5, f7r6, f7r7, f7r8, f7r9, f7r10, f7r11, f7r12, f7r14, hk, get_old hk, M.cells, M.val] | (refine BrW.of (fun hb => ?_) (fun hb => ?_) <;> (have hb' := hb; try simp only [decide_eq_true_eq, decide_eq_false_iff_not, beq_iff_eq, bne_iff_ne, beq_eq_false_iff_ne, bne_eq_false_iff_eq, Bool.not_eq_true', Bool.not_eq_false', Bool.not_eq_true, Bool.not_eq_false, Bool.and_eq_true, Bool.or_eq_true, Bool.and_eq_false_iff, Bool.or_eq_false_iff, Int.not_lt, Int.not_le, ne_eq, gt_iff_lt, ge_iff_le] at hb') <;> (try (exfalso; omega))) | (refine altW.of ?_ ?_)
    exact .here ⟨g', x, x, rfl, rfl⟩

theorem Play_bad (co bu ex : Int) (l : List S) (k o g c : Nat) (H : Heap) (hs : Shots H k o g l) (hl : l.length ≤ 1048576) (hr : (full co bu ex).right) (hrun : run (full co bu ex) l = none) :
    ACallK Tryd.prog 7 [.int .i64 co, .int .i64 bu, .int .i64 ex, slv k o g l.length c] H (fun v H' => ∃ e, e ≠ 0 ∧ v = .tuple #[.slice none 0 0, M.zero.val, .int .i64 e] ∧ ∃ x, H' = H ++ x) := by
  obtain ⟨ro, cs, hk, hcl, hcs⟩ := hs.cell
  have hkl := hs.lt
  have hR : (!decide (full co bu ex).right) = false := by simp [hr]
  refine .walkW f7_ok (by simp; decide) (by decide) ?_
  repeat' first | simp (disch := first | with_reducible assumption | omega) only [go_sem, Bool.true_and, Bool.and_true, Bool.and_self, Bool.false_and, Bool.and_false, Bool.true_or, Bool.or_true, Bool.false_or, Bool.or_false, ↓reduceIte, Nat.reduceEqDiff, Nat.reduceAdd, Nat.reduceMul, Nat.reduceSub, Nat.reduceBEq, Nat.reduceLeDiff, Nat.reduceLT, Nat.reduceMod, Nat.reduceDiv, Int.reduceToNat, Int.reducePow, Int.reduceMul, Int.reduceAdd, Int.reduceSub, Int.reduceLE, Int.reduceLT, Int.reduceNeg, Int.reduceDiv, Int.reduceMod, Int.reduceEq, Int.reduceBEq, Int.reduceBNe, f7, f7b, f7r0, f7r1, f7r2, f7r3, f7r4, f7r5, f7r6, f7r7, f7r8, f7r9, f7r10, f7r11, f7r12, f7r14, hk, get_old hk, M.cells, M.val] | (refine BrW.of (fun hb => ?_) (fun hb => ?_) <;> (have hb' := hb; try simp only [decide_eq_true_eq, decide_eq_false_iff_not, beq_iff_eq, bne_iff_ne, beq_eq_false_iff_ne, bne_eq_false_iff_eq, Bool.not_eq_true', Bool.not_eq_false', Bool.not_eq_true, Bool.not_eq_false, Bool.and_eq_true, Bool.or_eq_true, Bool.and_eq_false_iff, Bool.or_eq_false_iff, Int.not_lt, Int.not_le, ne_eq, gt_iff_lt, ge_iff_le] at hb') <;> (try (exfalso; omega))) | (refine altW.of ?_ ?_) | (refine .of ((Right_spec (full co bu ex) _).mono ?_); rintro v _ ⟨rfl, rfl⟩)
  refine loopW.ghost 12 1 rfl ?_
  simp (disch := first | with_reducible assumption | omega) only [go_sem, Bool.true_and, Bool.and_true, Bool.and_self, Bool.false_and, Bool.and_false, Bool.true_or, Bool.or_true, Bool.false_or, Bool.or_false, ↓reduceIte, Nat.reduceEqDiff, Nat.reduceAdd, Nat.reduceMul, Nat.reduceSub, Nat.reduceBEq, Nat.reduceLeDiff, Nat.reduceLT, Nat.reduceMod, Nat.reduceDiv, Int.reduceToNat, Int.reducePow, Int.reduceMul, Int.reduceAdd, Int.reduceSub, Int.reduceLE, Int.reduceLT, Int.reduceNeg, Int.reduceDiv, Int.reduceMod, Int.reduceEq, Int.reduceBEq, Int.reduceBNe]
  refine loopW.keep [9, 11, 12, 28, 29, 30] ?_
  simp (disch := first | with_reducible assumption | omega) only [go_sem, Bool.true_and, Bool.and_true, Bool.and_self, Bool.false_and, Bool.and_false, Bool.true_or, Bool.or_true, Bool.false_or, Bool.or_false, ↓reduceIte, Nat.reduceEqDiff, Nat.reduceAdd, Nat.reduceMul, Nat.reduceSub, Nat.reduceBEq, Nat.reduceLeDiff, Nat.reduceLT, Nat.reduceMod, Nat.reduceDiv, Int.reduceToNat, Int.reducePow, Int.reduceMul, Int.reduceAdd, Int.reduceSub, Int.reduceLE, Int.reduceLT, Int.reduceNeg, Int.reduceDiv, Int.reduceMod, Int.reduceEq, Int.reduceBEq, Int.reduceBNe]
  refine loopW.of (by decide) (fun m e H'' => ∃ (i g' : Nat) (x : M) (out : List Int), e = [(9, .pointer (some ⟨H.length, 0, some 1⟩)), (11, .pointer (some ⟨H.length + 1, 0, some 1⟩)), (12, slv (H.length + 2) 0 g' i i), (28, slv k o g l.length c), (29, .int .i64 l.length), (30, .int .i64 i)] ∧
    H'' = H ++ [.cells 0 0 false M.zero.cells, .cells 0 0 false x.cells, .cells g' 1 false (ints out)] ∧ i ≤ l.length ∧ m = l.length - i ∧ x.right ∧ run x (l.drop i) = none ∧ out.length = i) l.length ⟨0, 0, full co bu ex, [], rfl, rfl, by omega, rfl, hr, hrun, rfl⟩ ?_
  rintro m e H'' ⟨i, g', x, out, rfl, rfl, hi, rfl, hx, hinv, hol⟩
  by_cases hlt : i < l.length
  · obtain ⟨e0, e1⟩ := hcs i hlt
    rw [drop_cons s0 l i hlt, run_cons] at hinv
    generalize hsi : l.getD i s0 = s at *
    have hsp := Colour_spec x s 1
    by_cases hg : good x s 1
    · rw [if_pos hg] at hinv
      have h1 := Option.map_eq_none_iff.1 hinv
      have hng := next_good hg
      rw [colour_good hg, show (taken (filled x s) s 1).1 = (next x s).1 from rfl, show (taken (filled x s) s 1).2 = (next x s).2 from rfl] at hsp
      generalize (next x s).1 = y at *
      generalize (next x s).2 = z at *
      have il : (ints out).length = i := by rw [ints_length]; omega
      have hni : ¬ i + 1 ≤ i := by omega
      have htk : (ints out).take i = ints out := ints_take _ _ (by omega)
      clear hinv
      repeat' first | simp (disch := first | with_reducible assumption | omega) only [go_sem, Bool.true_and, Bool.and_true, Bool.and_self, Bool.false_and, Bool.and_false, Bool.true_or, Bool.or_true, Bool.false_or, Bool.or_false, ↓reduceIte, Nat.reduceEqDiff, Nat.reduceAdd, Nat.reduceMul, Nat.reduceSub, Nat.reduceBEq, Nat.reduceLeDiff, Nat.reduceLT, Nat.reduceMod, Nat.reduceDiv, Int.reduceToNat, Int.reducePow, Int.reduceMul, Int.reduceAdd, Int.reduceSub, Int.reduceLE, Int.reduceLT, Int.reduceNeg, Int.reduceDiv, Int.reduceMod, Int.reduceEq, Int.reduceBEq, Int.reduceBNe, f7, f7b, f7r0, f7r1, f7r2, f7r3, f7r4, f7r5, f7r6, f7r7, f7r8, f7r9, f7r10, f7r11, f7r12, f7r14, f7l0, hk, get_old hk, e0, e1, il, hni, htk, M.cells, M.val, S.cells, S.val, ans] | (refine BrW.of (fun hb => ?_) (fun hb => ?_) <;> (have hb' := hb; try simp only [decide_eq_true_eq, decide_eq_false_iff_not, beq_iff_eq, bne_iff_ne, beq_eq_false_iff_ne, bne_eq_false_iff_eq, Bool.not_eq_true', Bool.not_eq_false', Bool.not_eq_true, Bool.not_eq_false, Bool.and_eq_true, Bool.or_eq_true, Bool.and_eq_false_iff, Bool.or_eq_false_iff, Int.not_lt, Int.not_le, ne_eq, gt_iff_lt, ge_iff_le] at hb') <;> (try (exfalso; omega))) | (refine altW.of ?_ ?_) | (refine .of ((hsp _).mono ?_); rintro v _ ⟨rfl, rfl⟩)
      refine RdW.cut3 [9, 11, 12, 28, 29, 30] (l.length - (i + 1)) ?_ ?_ ?_ ?_ ?_ ?_
      · omega
      · rfl
      · rfl
      · rw [ints_snoc]; exact abnd_ints' _ _ _ _ _
      · simp (disch := first | with_reducible assumption | omega) only [go_sem, Bool.true_and, Bool.and_true, Bool.and_self, Bool.false_and, Bool.and_false, Bool.true_or, Bool.or_true, Bool.false_or, Bool.or_false, ↓reduceIte, Nat.reduceEqDiff, Nat.reduceAdd, Nat.reduceMul, Nat.reduceSub, Nat.reduceBEq, Nat.reduceLeDiff, Nat.reduceLT, Nat.reduceMod, Nat.reduceDiv, Int.reduceToNat, Int.reducePow, Int.reduceMul, Int.reduceAdd, Int.reduceSub, Int.reduceLE, Int.reduceLT, Int.reduceNeg, Int.reduceDiv, Int.reduceMod, Int.reduceEq, Int.reduceBEq, Int.reduceBNe]
        simp; omega
      · simp (disch := first | with_reducible assumption | omega) only [go_sem, Bool.true_and, Bool.and_true, Bool.and_self, Bool.false_and, Bool.and_false, Bool.true_or, Bool.or_true, Bool.false_or, Bool.or_false, ↓reduceIte, Nat.reduceEqDiff, Nat.reduceAdd, Nat.reduceMul, Nat.reduceSub, Nat.reduceBEq, Nat.reduceLeDiff, Nat.reduceLT, Nat.reduceMod, Nat.reduceDiv, Int.reduceToNat, Int.reducePow, Int.reduceMul, Int.reduceAdd, Int.reduceSub, Int.reduceLE, Int.reduceLT, Int.reduceNeg, Int.reduceDiv, Int.reduceMod, Int.reduceEq, Int.reduceBEq, Int.reduceBNe]
        exact ⟨i + 1, g' + 1, y, out ++ [z], rfl, by rw [← ints_app]; rfl, by omega, rfl, hng, h1, by simp; omega⟩
    · rw [colour_bad hg] at hsp
      have hne := (err_ne x 1).1
      have hne' : err x 1 ≠ 0 := by simpa using hne
      generalize err x 1 = z at *
      clear hinv
      repeat' first | simp (disch := first | with_reducible assumption | omega) only [go_sem, Bool.true_and, Bool.and_true, Bool.and_self, Bool.false_and, Bool.and_false, Bool.true_or, Bool.or_true, Bool.false_or, Bool.or_false, ↓reduceIte, Nat.reduceEqDiff, Nat.reduceAdd, Nat.reduceMul, Nat.reduceSub, Nat.reduceBEq, Nat.reduceLeDiff, Nat.reduceLT, Nat.reduceMod, Nat.reduceDiv, Int.reduceToNat, Int.reducePow, Int.reduceMul, Int.reduceAdd, Int.reduceSub, Int.reduceLE, Int.reduceLT, Int.reduceNeg, Int.reduceDiv, Int.reduceMod, Int.reduceEq, Int.reduceBEq, Int.reduceBNe, f7, f7b, f7r0, f7r1, f7r2, f7r3, f7r4, f7r5, f7r6, f7r7, f7r8, f7r9, f7r10, f7r11, f7r12, f7r14, f7l0, f7, f7b, f7r0, f7r1, f7r2, f7r3, f7r4, f7r5, f7r6, f7r7, f7r8, f7r9, f7r10, f7r11, f7r12, f7r14, hk, get_old hk, e0, e1, M.cells, M.val, S.cells, S.val, ans] | (refine BrW.of (fun hb => ?_) (fun hb => ?_) <;> (have hb' := hb; try simp only [decide_eq_true_eq, decide_eq_false_iff_not, beq_iff_eq, bne_iff_ne, beq_eq_false_iff_ne, bne_eq_false_iff_eq, Bool.not_eq_true', Bool.not_eq_false', Bool.not_eq_true, Bool.not_eq_false, Bool.and_eq_true, Bool.or_eq_true, Bool.and_eq_false_iff, Bool.or_eq_false_iff, Int.not_lt, Int.not_le, ne_eq, gt_iff_lt, ge_iff_le] at hb') <;> (try (exfalso; omega))) | (refine altW.of ?_ ?_) | (refine .of ((hsp _).mono ?_); rintro v _ ⟨rfl, rfl⟩)
      exact .here ⟨z, hne', rfl, _, rfl⟩
  · rw [List.drop_eq_nil_of_le (by omega)] at hinv
    simp [run] at hinv

theorem Play_wrong (co bu ex : Int) (k o g n c : Nat) (H : Heap) (hr : ¬ (full co bu ex).right) :
    ACallK Tryd.prog 7 [.int .i64 co, .int .i64 bu, .int .i64 ex, slv k o g n c] H (fun v H' => ∃ e, e ≠ 0 ∧ v = .tuple #[.slice none 0 0, M.zero.val, .int .i64 e] ∧ ∃ x, H' = H ++ x) := by
  have hR : (!decide (full co bu ex).right) = true := by simp [hr]
  refine .walkW f7_ok (by simp; decide) (by decide) ?_
  repeat' first | simp (disch := first | with_reducible assumption | omega) only [go_sem, Bool.true_and, Bool.and_true, Bool.and_self, Bool.false_and, Bool.and_false, Bool.true_or, Bool.or_true, Bool.false_or, Bool.or_false, ↓reduceIte, Nat.reduceEqDiff, Nat.reduceAdd, Nat.reduceMul, Nat.reduceSub, Nat.reduceBEq, Nat.reduceLeDiff, Nat.reduceLT, Nat.reduceMod, Nat.reduceDiv, Int.reduceToNat, Int.reducePow, Int.reduceMul, Int.reduceAdd, Int.reduceSub, Int.reduceLE, Int.reduceLT, Int.reduceNeg, Int.reduceDiv, Int.reduceMod, Int.reduceEq, Int.reduceBEq, Int.reduceBNe, f7, f7b, f7r0, f7r1, f7r2, f7r3, f7r4, f7r5, f7r6, f7r7, f7r8, f7r9, f7r10, f7r11, f7r12, f7r14, M.cells, M.val] | (refine BrW.of (fun hb => ?_) (fun hb => ?_) <;> (have hb' := hb; try simp only [decide_eq_true_eq, decide_eq_false_iff_not, beq_iff_eq, bne_iff_ne, beq_eq_false_iff_ne, bne_eq_false_iff_eq, Bool.not_eq_true', Bool.not_eq_false', Bool.not_eq_true, Bool.not_eq_false, Bool.and_eq_true, Bool.or_eq_true, Bool.and_eq_false_iff, Bool.or_eq_false_iff, Int.not_lt, Int.not_le, ne_eq, gt_iff_lt, ge_iff_le] at hb') <;> (try (exfalso; omega))) | (refine altW.of ?_ ?_) | (refine .of ((Right_spec (full co bu ex) _).mono ?_); rintro v _ ⟨rfl, rfl⟩)
  exact .here ⟨2, by decide, rfl, _, rfl⟩

end Go.Proofs.YtmbcgelfnbnicaaDoor.Me
