import Derived.Test.YteopnmfdncjbhaaSteps
import Derived.Test.YteopnmfdncjbhaaPlain3
import Derived.Test.YteopnmfdncjbhaaLib
set_option linter.unusedSimpArgs false
set_option linter.unusedVariables false
set_option maxHeartbeats 1000000
namespace Go.Proofs.Yteopnmfdncjbhaa
open Go Go.Am
attribute [local irreducible] opsW Ww loopW callW drawW outW outDW gW cW BrW bothW vW resW DropW RdW dcallW Later.run

def s0 : S := ⟨0, 0⟩
abbrev Shots (H : Heap) (k o g : Nat) (l : List S) : Prop := Tbl S S.cells 2 s0 H k o g l
theorem Shots.cell {H : Heap} {k o g : Nat} {l : List S} (h : Shots H k o g l) : ∃ ro cs, H[k]? = some (.cells g 2 ro cs) ∧ o + l.length * 2 ≤ cs.length ∧ ∀ i, i < l.length → cs[o + i * 2]? = some (.int .i64 (l.getD i s0).at') ∧ cs[o + i * 2 + 1]? = some (.int .i64 (l.getD i s0).by') := by
  obtain ⟨ro, cs, h1, h2, h3⟩ := h.at'
  exact ⟨ro, cs, h1, h2, fun i hi => ⟨h3 i hi 0 (by omega), h3 i hi 1 (by omega)⟩⟩

theorem colour_bad {m : M} {s : S} {had : Int} (h : ¬ good m s had) : colour m s had = (M.zero, 0, err m had) := if_neg h
theorem colour_good {m : M} {s : S} {had : Int} (h : good m s had) : colour m s had = ((taken (filled m s) s had).1, (taken (filled m s) s had).2, 0) := if_pos h
theorem err_ne (m : M) (had : Int) : (err m had != 0) = true ∧ (err m had == 0) = false := by
  have : err m had ≠ 0 := by unfold err; (repeat' split) <;> omega
  simp [this]

def full (co bu ex : Int) : M := ⟨co, bu, ex, bu, ex, 0⟩

theorem Play_spec (co bu ex : Int) (l : List S) (k o g c : Nat) (H : Heap) (hs : Shots H k o g l) (hl : l.length ≤ 1048576) (out : List Int) (m' : M) (hr : (full co bu ex).right) (hrun : run (full co bu ex) l = some (out, m')) :
    ACallK Try.prog 8 [.int .i64 co, .int .i64 bu, .int .i64 ex, slv k o g l.length c] H (fun v H' => ∃ g' o1 o2, v = .tuple #[slv (H.length + 2) 0 g' l.length l.length, m'.val, .int .i64 0] ∧ H' = H ++ [o1, o2, .cells g' 1 false (ints out)]) := by
  obtain ⟨ro, cs, hk, hcl, hcs⟩ := hs.cell
  have hkl := hs.lt
  have hR : (!decide (full co bu ex).right) = false := by simp [hr]
  refine .walkW f8_ok (by simp; decide) (by decide) ?_
  repeat' first | simp (disch := first | with_reducible assumption | omega) only [go_sem, Bool.true_and, Bool.and_true, Bool.and_self, Bool.false_and, Bool.and_false, Bool.true_or, Bool.or_true, Bool.false_or, Bool.or_false, ↓reduceIte, Nat.reduceEqDiff, Nat.reduceAdd, Nat.reduceMul, Nat.reduceSub, Nat.reduceBEq, Nat.reduceLeDiff, Nat.reduceLT, Nat.reduceMod, Nat.reduceDiv, Int.reduceToNat, Int.reducePow, Int.reduceMul, Int.reduceAdd, Int.reduceSub, Int.reduceLE, Int.reduceLT, Int.reduceNeg, Int.reduceDiv, Int.reduceMod, Int.reduceEq, Int.reduceBEq, Int.reduceBNe, f8, f8b, f8r0, f8r1, f8r2, f8r3, f8r4, f8r5, f8r6, f8r7, f8r8, f8r9, f8r10, f8r11, f8r12, f8r14, hk, get_old hk, M.cells, M.val] | (refine BrW.of (fun hb => ?_) (fun hb => ?_) <;> (have hb' := hb; try simp only [decide_eq_true_eq, decide_eq_false_iff_not, beq_iff_eq, bne_iff_ne, beq_eq_false_iff_ne, bne_eq_false_iff_eq, Bool.not_eq_true', Bool.not_eq_false', Bool.not_eq_true, Bool.not_eq_false, Bool.and_eq_true, Bool.or_eq_true, Bool.and_eq_false_iff, Bool.or_eq_false_iff, Int.not_lt, Int.not_le, ne_eq, gt_iff_lt, ge_iff_le] at hb') <;> (try (exfalso; omega))) | (refine .of ((Right_spec (full co bu ex) _).mono ?_); rintro v _ ⟨rfl, rfl⟩)
  refine loopW.ghost 12 1 rfl ?_
  simp (disch := first | with_reducible assumption | omega) only [go_sem, Bool.true_and, Bool.and_true, Bool.and_self, Bool.false_and, Bool.and_false, Bool.true_or, Bool.or_true, Bool.false_or, Bool.or_false, ↓reduceIte, Nat.reduceEqDiff, Nat.reduceAdd, Nat.reduceMul, Nat.reduceSub, Nat.reduceBEq, Nat.reduceLeDiff, Nat.reduceLT, Nat.reduceMod, Nat.reduceDiv, Int.reduceToNat, Int.reducePow, Int.reduceMul, Int.reduceAdd, Int.reduceSub, Int.reduceLE, Int.reduceLT, Int.reduceNeg, Int.reduceDiv, Int.reduceMod, Int.reduceEq, Int.reduceBEq, Int.reduceBNe]
  refine loopW.keep [9, 11, 12, 28, 29, 30] ?_
  simp (disch := first | with_reducible assumption | omega) only [go_sem, Bool.true_and, Bool.and_true, Bool.and_self, Bool.false_and, Bool.and_false, Bool.true_or, Bool.or_true, Bool.false_or, Bool.or_false, ↓reduceIte, Nat.reduceEqDiff, Nat.reduceAdd, Nat.reduceMul, Nat.reduceSub, Nat.reduceBEq, Nat.reduceLeDiff, Nat.reduceLT, Nat.reduceMod, Nat.reduceDiv, Int.reduceToNat, Int.reducePow, Int.reduceMul, Int.reduceAdd, Int.reduceSub, Int.reduceLE, Int.reduceLT, Int.reduceNeg, Int.reduceDiv, Int.reduceMod, Int.reduceEq, Int.reduceBEq, Int.reduceBNe]
  refine loopW.of (by decide) (fun m e H'' => ∃ (i g' : Nat) (x : M), e = [(9, .pointer (some ⟨H.length, 0, some 1⟩)), (11, .pointer (some ⟨H.length + 1, 0, some 1⟩)), (12, slv (H.length + 2) 0 g' i i), (28, slv k o g l.length c), (29, .int .i64 l.length), (30, .int .i64 i)] ∧
    H'' = H ++ [.cells 0 0 false M.zero.cells, .cells 0 0 false x.cells, .cells g' 1 false (ints (out.take i))] ∧ i ≤ l.length ∧ m = l.length - i ∧ x.right ∧ run x (l.drop i) = some (out.drop i, m')) l.length ⟨0, 0, full co bu ex, rfl, rfl, by omega, rfl, hr, hrun⟩ ?_
  rintro m e H'' ⟨i, g', x, rfl, rfl, hi, rfl, hx, hinv⟩
  have hol := run_length hrun
  by_cases hlt : i < l.length
  · obtain ⟨e0, e1⟩ := hcs i hlt
    rw [drop_cons s0 l i hlt, drop_cons 0 out i (by omega), run_cons] at hinv
    generalize hsi : l.getD i s0 = s at *
    by_cases hg : good x s 1
    · rw [if_pos hg] at hinv
      obtain ⟨⟨o2, m2⟩, h1, h2⟩ := Option.map_eq_some_iff.1 hinv
      simp only [Prod.mk.injEq, List.cons.injEq] at h2
      obtain ⟨⟨h2, h4⟩, h3⟩ := h2
      rw [h4, h3] at h1
      have hng := next_good hg
      have hsp := Colour_spec x s 1
      rw [colour_good hg, show (taken (filled x s) s 1).1 = (next x s).1 from rfl, show (taken (filled x s) s 1).2 = out.getD i 0 from h2] at hsp
      generalize (next x s).1 = y at *
      have il : (ints (out.take i)).length = i := by rw [ints_length, List.length_take]; omega
      have hni : ¬ i + 1 ≤ i := by omega
      have htk : (ints (out.take i)).take i = ints (out.take i) := ints_take _ _ (by simp; omega)
      repeat' first | simp (disch := first | with_reducible assumption | omega) only [go_sem, Bool.true_and, Bool.and_true, Bool.and_self, Bool.false_and, Bool.and_false, Bool.true_or, Bool.or_true, Bool.false_or, Bool.or_false, ↓reduceIte, Nat.reduceEqDiff, Nat.reduceAdd, Nat.reduceMul, Nat.reduceSub, Nat.reduceBEq, Nat.reduceLeDiff, Nat.reduceLT, Nat.reduceMod, Nat.reduceDiv, Int.reduceToNat, Int.reducePow, Int.reduceMul, Int.reduceAdd, Int.reduceSub, Int.reduceLE, Int.reduceLT, Int.reduceNeg, Int.reduceDiv, Int.reduceMod, Int.reduceEq, Int.reduceBEq, Int.reduceBNe, f8, f8b, f8r0, f8r1, f8r2, f8r3, f8r4, f8r5, f8r6, f8r7, f8r8, f8r9, f8r10, f8r11, f8r12, f8r14, f8l0, hk, get_old hk, e0, e1, il, hni, htk, M.cells, M.val, S.cells, S.val, ans] | (refine BrW.of (fun hb => ?_) (fun hb => ?_) <;> (have hb' := hb; try simp only [decide_eq_true_eq, decide_eq_false_iff_not, beq_iff_eq, bne_iff_ne, beq_eq_false_iff_ne, bne_eq_false_iff_eq, Bool.not_eq_true', Bool.not_eq_false', Bool.not_eq_true, Bool.not_eq_false, Bool.and_eq_true, Bool.or_eq_true, Bool.and_eq_false_iff, Bool.or_eq_false_iff, Int.not_lt, Int.not_le, ne_eq, gt_iff_lt, ge_iff_le] at hb') <;> (try (exfalso; omega))) | (refine .of ((hsp _).mono ?_); rintro v _ ⟨rfl, rfl⟩)
      refine RdW.cut3 [9, 11, 12, 28, 29, 30] (l.length - (i + 1)) ?_ ?_ ?_ ?_ ?_ ?_
      · omega
      · rfl
      · rfl
      · rw [ints_snoc]; exact abnd_ints' _ _ _ _ _
      · simp (disch := first | with_reducible assumption | omega) only [go_sem, Bool.true_and, Bool.and_true, Bool.and_self, Bool.false_and, Bool.and_false, Bool.true_or, Bool.or_true, Bool.false_or, Bool.or_false, ↓reduceIte, Nat.reduceEqDiff, Nat.reduceAdd, Nat.reduceMul, Nat.reduceSub, Nat.reduceBEq, Nat.reduceLeDiff, Nat.reduceLT, Nat.reduceMod, Nat.reduceDiv, Int.reduceToNat, Int.reducePow, Int.reduceMul, Int.reduceAdd, Int.reduceSub, Int.reduceLE, Int.reduceLT, Int.reduceNeg, Int.reduceDiv, Int.reduceMod, Int.reduceEq, Int.reduceBEq, Int.reduceBNe]
        simp; omega
      · simp (disch := first | with_reducible assumption | omega) only [go_sem, Bool.true_and, Bool.and_true, Bool.and_self, Bool.false_and, Bool.and_false, Bool.true_or, Bool.or_true, Bool.false_or, Bool.or_false, ↓reduceIte, Nat.reduceEqDiff, Nat.reduceAdd, Nat.reduceMul, Nat.reduceSub, Nat.reduceBEq, Nat.reduceLeDiff, Nat.reduceLT, Nat.reduceMod, Nat.reduceDiv, Int.reduceToNat, Int.reducePow, Int.reduceMul, Int.reduceAdd, Int.reduceSub, Int.reduceLE, Int.reduceLT, Int.reduceNeg, Int.reduceDiv, Int.reduceMod, Int.reduceEq, Int.reduceBEq, Int.reduceBNe]
        exact ⟨i + 1, g' + 1, y, rfl, by rw [take_snoc 0 out i (by omega), ← ints_app]; rfl, by omega, rfl, hng, h1⟩
    · rw [if_neg hg] at hinv; cases hinv
  · obtain rfl : i = l.length := by omega
    have hto : out.take l.length = out := by rw [← hol, List.take_length]
    rw [List.drop_eq_nil_of_le (by omega), List.drop_eq_nil_of_le (by omega)] at hinv
    have hxm : x = m' := by have := hinv; simp [run] at this; exact this
    subst hxm
    rw [hto]
    repeat' first | simp (disch := first | with_reducible assumption | omega) only [go_sem, Bool.true_and, Bool.and_true, Bool.and_self, Bool.false_and, Bool.and_false, Bool.true_or, Bool.or_true, Bool.false_or, Bool.or_false, ↓reduceIte, Nat.reduceEqDiff, Nat.reduceAdd, Nat.reduceMul, Nat.reduceSub, Nat.reduceBEq, Nat.reduceLeDiff, Nat.reduceLT, Nat.reduceMod, Nat.reduceDiv, Int.reduceToNat, Int.reducePow, Int.reduceMul, Int.reduceAdd, Int.reduceSub, Int.reduceLE, Int.reduceLT, Int.reduceNeg, Int.reduceDiv, Int.reduceMod, Int.reduceEq, Int.reduceBEq, Int.reduceBNe, f8, f8b, f8r0, f8r1, f8r2, f8r3, f8r4, f8r5, f8r6, f8r7, f8r8, f8r9, f8r10, f8r11, f8r12, f8r14, f8l0, f8, f8b, f8r0, f8r1, f8r2, f8r3, f8r4, f8r5, f8r6, f8r7, f8r8, f8r9, f8r10, f8r11, f8r12, f8r14, hk, get_old hk, M.cells, M.val] | (refine BrW.of (fun hb => ?_) (fun hb => ?_) <;> (have hb' := hb; try simp only [decide_eq_true_eq, decide_eq_false_iff_not, beq_iff_eq, bne_iff_ne, beq_eq_false_iff_ne, bne_eq_false_iff_eq, Bool.not_eq_true', Bool.not_eq_false', Bool.not_eq_true, Bool.not_eq_false, Bool.and_eq_true, Bool.or_eq_true, Bool.and_eq_false_iff, Bool.or_eq_false_iff, Int.not_lt, Int.not_le, ne_eq, gt_iff_lt, ge_iff_le] at hb') <;> (try (exfalso; omega)))
    exact .here ⟨g', _, _, rfl, rfl⟩

theorem Play_bad (co bu ex : Int) (l : List S) (k o g c : Nat) (H : Heap) (hs : Shots H k o g l) (hl : l.length ≤ 1048576) (hr : (full co bu ex).right) (hrun : run (full co bu ex) l = none) :
    ACallK Try.prog 8 [.int .i64 co, .int .i64 bu, .int .i64 ex, slv k o g l.length c] H (fun v H' => ∃ e, e ≠ 0 ∧ v = .tuple #[.slice none 0 0, M.zero.val, .int .i64 e] ∧ ∃ x, H' = H ++ x) := by
  obtain ⟨ro, cs, hk, hcl, hcs⟩ := hs.cell
  have hkl := hs.lt
  have hR : (!decide (full co bu ex).right) = false := by simp [hr]
  refine .walkW f8_ok (by simp; decide) (by decide) ?_
  repeat' first | simp (disch := first | with_reducible assumption | omega) only [go_sem, Bool.true_and, Bool.and_true, Bool.and_self, Bool.false_and, Bool.and_false, Bool.true_or, Bool.or_true, Bool.false_or, Bool.or_false, ↓reduceIte, Nat.reduceEqDiff, Nat.reduceAdd, Nat.reduceMul, Nat.reduceSub, Nat.reduceBEq, Nat.reduceLeDiff, Nat.reduceLT, Nat.reduceMod, Nat.reduceDiv, Int.reduceToNat, Int.reducePow, Int.reduceMul, Int.reduceAdd, Int.reduceSub, Int.reduceLE, Int.reduceLT, Int.reduceNeg, Int.reduceDiv, Int.reduceMod, Int.reduceEq, Int.reduceBEq, Int.reduceBNe, f8, f8b, f8r0, f8r1, f8r2, f8r3, f8r4, f8r5, f8r6, f8r7, f8r8, f8r9, f8r10, f8r11, f8r12, f8r14, hk, get_old hk, M.cells, M.val] | (refine BrW.of (fun hb => ?_) (fun hb => ?_) <;> (have hb' := hb; try simp only [decide_eq_true_eq, decide_eq_false_iff_not, beq_iff_eq, bne_iff_ne, beq_eq_false_iff_ne, bne_eq_false_iff_eq, Bool.not_eq_true', Bool.not_eq_false', Bool.not_eq_true, Bool.not_eq_false, Bool.and_eq_true, Bool.or_eq_true, Bool.and_eq_false_iff, Bool.or_eq_false_iff, Int.not_lt, Int.not_le, ne_eq, gt_iff_lt, ge_iff_le] at hb') <;> (try (exfalso; omega))) | (refine .of ((Right_spec (full co bu ex) _).mono ?_); rintro v _ ⟨rfl, rfl⟩)
  refine loopW.ghost 12 1 rfl ?_
  simp (disch := first | with_reducible assumption | omega) only [go_sem, Bool.true_and, Bool.and_true, Bool.and_self, Bool.false_and, Bool.and_false, Bool.true_or, Bool.or_true, Bool.false_or, Bool.or_false, ↓reduceIte, Nat.reduceEqDiff, Nat.reduceAdd, Nat.reduceMul, Nat.reduceSub, Nat.reduceBEq, Nat.reduceLeDiff, Nat.reduceLT, Nat.reduceMod, Nat.reduceDiv, Int.reduceToNat, Int.reducePow, Int.reduceMul, Int.reduceAdd, Int.reduceSub, Int.reduceLE, Int.reduceLT, Int.reduceNeg, Int.reduceDiv, Int.reduceMod, Int.reduceEq, Int.reduceBEq, Int.reduceBNe]
  refine loopW.keep [9, 11, 12, 28, 29, 30] ?_
  simp (disch := first | with_reducible assumption | omega) only [go_sem, Bool.true_and, Bool.and_true, Bool.and_self, Bool.false_and, Bool.and_false, Bool.true_or, Bool.or_true, Bool.false_or, Bool.or_false, ↓reduceIte, Nat.reduceEqDiff, Nat.reduceAdd, Nat.reduceMul, Nat.reduceSub, Nat.reduceBEq, Nat.reduceLeDiff, Nat.reduceLT, Nat.reduceMod, Nat.reduceDiv, Int.reduceToNat, Int.reducePow, Int.reduceMul, Int.reduceAdd, Int.reduceSub, Int.reduceLE, Int.reduceLT, Int.reduceNeg, Int.reduceDiv, Int.reduceMod, Int.reduceEq, Int.reduceBEq, Int.reduceBNe]
  refine loopW.of (by decide) (fun m e H'' => ∃ (i g' : Nat) (x : M) (out : List Int), e = [(9, .pointer (some ⟨H.length, 0, some 1⟩)), (11, .pointer (some ⟨H.length + 1, 0, some 1⟩)), (12, slv (H.length + 2) 0 g' i i), (28, slv k o g l.length c), (29, .int .i64 l.length), (30, .int .i64 i)] ∧
    H'' = H ++ [.cells 0 0 false M.zero.cells, .cells 0 0 false x.cells, .cells g' 1 false (ints out)] ∧ i ≤ l.length ∧ m = l.length - i ∧ x.right ∧ run x (l.drop i) = none ∧ out.length = i) l.length ⟨0, 0, full co bu ex, [], rfl, rfl, by omega, rfl, hr, hrun, rfl⟩ ?_
  rintro m e H'' ⟨i, g', x, out, rfl, rfl, hi, rfl, hx, hinv, hol⟩
  by_cases hlt : i < l.length
  · obtain ⟨e0, e1⟩ := hcs i hlt
    rw [drop_cons s0 l i hlt, run_cons] at hinv
    generalize hsi : l.getD i s0 = s at *
    have hsp := Colour_spec x s 1
    by_cases hg : good x s 1
    · rw [if_pos hg] at hinv
      have h1 := Option.map_eq_none_iff.1 hinv
      have hng := next_good hg
      rw [colour_good hg, show (taken (filled x s) s 1).1 = (next x s).1 from rfl, show (taken (filled x s) s 1).2 = (next x s).2 from rfl] at hsp
      generalize (next x s).1 = y at *
      generalize (next x s).2 = z at *
      have il : (ints out).length = i := by rw [ints_length]; omega
      have hni : ¬ i + 1 ≤ i := by omega
      have htk : (ints out).take i = ints out := ints_take _ _ (by omega)
      clear hinv
      repeat' first | simp (disch := first | with_reducible assumption | omega) only [go_sem, Bool.true_and, Bool.and_true, Bool.and_self, Bool.false_and, Bool.and_false, Bool.true_or, Bool.or_true, Bool.false_or, Bool.or_false, ↓reduceIte, Nat.reduceEqDiff, Nat.reduceAdd, Nat.reduceMul, Nat.reduceSub, Nat.reduceBEq, Nat.reduceLeDiff, Nat.reduceLT, Nat.reduceMod, Nat.reduceDiv, Int.reduceToNat, Int.reducePow, Int.reduceMul, Int.reduceAdd, Int.reduceSub, Int.reduceLE, Int.reduceLT, Int.reduceNeg, Int.reduceDiv, Int.reduceMod, Int.reduceEq, Int.reduceBEq, Int.reduceBNe, f8, f8b, f8r0, f8r1, f8r2, f8r3, f8r4, f8r5, f8r6, f8r7, f8r8, f8r9, f8r10, f8r11, f8r12, f8r14, f8l0, hk, get_old hk, e0, e1, il, hni, htk, M.cells, M.val, S.cells, S.val, ans] | (refine BrW.of (fun hb => ?_) (fun hb => ?_) <;> (have hb' := hb; try simp only [decide_eq_true_eq, decide_eq_false_iff_not, beq_iff_eq, bne_iff_ne, beq_eq_false_iff_ne, bne_eq_false_iff_eq, Bool.not_eq_true', Bool.not_eq_false', Bool.not_eq_true, Bool.not_eq_false, Bool.and_eq_true, Bool.or_eq_true, Bool.and_eq_false_iff, Bool.or_eq_false_iff, Int.not_lt, Int.not_le, ne_eq, gt_iff_lt, ge_iff_le] at hb') <;> (try (exfalso; omega))) | (refine .of ((hsp _).mono ?_); rintro v _ ⟨rfl, rfl⟩)
      refine RdW.cut3 [9, 11, 12, 28, 29, 30] (l.length - (i + 1)) ?_ ?_ ?_ ?_ ?_ ?_
      · omega
      · rfl
      · rfl
      · rw [ints_snoc]; exact abnd_ints' _ _ _ _ _
      · simp (disch := first | with_reducible assumption | omega) only [go_sem, Bool.true_and, Bool.and_true, Bool.and_self, Bool.false_and, Bool.and_false, Bool.true_or, Bool.or_true, Bool.false_or, Bool.or_false, ↓reduceIte, Nat.reduceEqDiff, Nat.reduceAdd, Nat.reduceMul, Nat.reduceSub, Nat.reduceBEq, Nat.reduceLeDiff, Nat.reduceLT, Nat.reduceMod, Nat.reduceDiv, Int.reduceToNat, Int.reducePow, Int.reduceMul, Int.reduceAdd, Int.reduceSub, Int.reduceLE, Int.reduceLT, Int.reduceNeg, Int.reduceDiv, Int.reduceMod, Int.reduceEq, Int.reduceBEq, Int.reduceBNe]
        simp; omega
      · simp (disch := first | with_reducible assumption | omega) only [go_sem, Bool.true_and, Bool.and_true, Bool.and_self, Bool.false_and, Bool.and_false, Bool.true_or, Bool.or_true, Bool.false_or, Bool.or_false, ↓reduceIte, Nat.reduceEqDiff, Nat.reduceAdd, Nat.reduceMul, Nat.reduceSub, Nat.reduceBEq, Nat.reduceLeDiff, Nat.reduceLT, Nat.reduceMod, Nat.reduceDiv, Int.reduceToNat, Int.reducePow, Int.reduceMul, Int.reduceAdd, Int.reduceSub, Int.reduceLE, Int.reduceLT, Int.reduceNeg, Int.reduceDiv, Int.reduceMod, Int.reduceEq, Int.reduceBEq, Int.reduceBNe]
        exact ⟨i + 1, g' + 1, y, out ++ [z], rfl, by rw [← ints_app]; rfl, by omega, rfl, hng, h1, by simp; omega⟩
    · rw [colour_bad hg] at hsp
      have hne := (err_ne x 1).1
      have hne' : err x 1 ≠ 0 := by simpa using hne
      generalize err x 1 = z at *
      clear hinv
      repeat' first | simp (disch := first | with_reducible assumption | omega) only [go_sem, Bool.true_and, Bool.and_true, Bool.and_self, Bool.false_and, Bool.and_false, Bool.true_or, Bool.or_true, Bool.false_or, Bool.or_false, ↓reduceIte, Nat.reduceEqDiff, Nat.reduceAdd, Nat.reduceMul, Nat.reduceSub, Nat.reduceBEq, Nat.reduceLeDiff, Nat.reduceLT, Nat.reduceMod, Nat.reduceDiv, Int.reduceToNat, Int.reducePow, Int.reduceMul, Int.reduceAdd, Int.reduceSub, Int.reduceLE, Int.reduceLT, Int.reduceNeg, Int.reduceDiv, Int.reduceMod, Int.reduceEq, Int.reduceBEq, Int.reduceBNe, f8, f8b, f8r0, f8r1, f8r2, f8r3, f8r4, f8r5, f8r6, f8r7, f8r8, f8r9, f8r10, f8r11, f8r12, f8r14, f8l0, f8, f8b, f8r0, f8r1, f8r2, f8r3, f8r4, f8r5, f8r6, f8r7, f8r8, f8r9, f8r10, f8r11, f8r12, f8r14, hk, get_old hk, e0, e1, M.cells, M.val, S.cells, S.val, ans] | (refine BrW.of (fun hb => ?_) (fun hb => ?_) <;> (have hb' := hb; try simp only [decide_eq_true_eq, decide_eq_false_iff_not, beq_iff_eq, bne_iff_ne, beq_eq_false_iff_ne, bne_eq_false_iff_eq, Bool.not_eq_true', Bool.not_eq_false', Bool.not_eq_true, Bool.not_eq_false, Bool.and_eq_true, Bool.or_eq_true, Bool.and_eq_false_iff, Bool.or_eq_false_iff, Int.not_lt, Int.not_le, ne_eq, gt_iff_lt, ge_iff_le] at hb') <;> (try (exfalso; omega))) | (refine .of ((hsp _).mono ?_); rintro v _ ⟨rfl, rfl⟩)
      exact .here ⟨z, hne', rfl, _, rfl⟩
  · rw [List.drop_eq_nil_of_le (by omega)] at hinv
    simp [run] at hinv

theorem Play_wrong (co bu ex : Int) (k o g n c : Nat) (H : Heap) (hr : ¬ (full co bu ex).right) :
    ACallK Try.prog 8 [.int .i64 co, .int .i64 bu, .int .i64 ex, slv k o g n c] H (fun v H' => ∃ e, e ≠ 0 ∧ v = .tuple #[.slice none 0 0, M.zero.val, .int .i64 e] ∧ ∃ x, H' = H ++ x) := by
  have hR : (!decide (full co bu ex).right) = true := by simp [hr]
  refine .walkW f8_ok (by simp; decide) (by decide) ?_
  repeat' first | simp (disch := first | with_reducible assumption | omega) only [go_sem, Bool.true_and, Bool.and_true, Bool.and_self, Bool.false_and, Bool.and_false, Bool.true_or, Bool.or_true, Bool.false_or, Bool.or_false, ↓reduceIte, Nat.reduceEqDiff, Nat.reduceAdd, Nat.reduceMul, Nat.reduceSub, Nat.reduceBEq, Nat.reduceLeDiff, Nat.reduceLT, Nat.reduceMod, Nat.reduceDiv, Int.reduceToNat, Int.reducePow, Int.reduceMul, Int.reduceAdd, Int.reduceSub, Int.reduceLE, Int.reduceLT, Int.reduceNeg, Int.reduceDiv, Int.reduceMod, Int.reduceEq, Int.reduceBEq, Int.reduceBNe, f8, f8b, f8r0, f8r1, f8r2, f8r3, f8r4, f8r5, f8r6, f8r7, f8r8, f8r9, f8r10, f8r11, f8r12, f8r14, M.cells, M.val] | (refine BrW.of (fun hb => ?_) (fun hb => ?_) <;> (have hb' := hb; try simp only [decide_eq_true_eq, decide_eq_false_iff_not, beq_iff_eq, bne_iff_ne, beq_eq_false_iff_ne, bne_eq_false_iff_eq, Bool.not_eq_true', Bool.not_eq_false', Bool.not_eq_true, Bool.not_eq_false, Bool.and_eq_true, Bool.or_eq_true, Bool.and_eq_false_iff, Bool.or_eq_false_iff, Int.not_lt, Int.not_le, ne_eq, gt_iff_lt, ge_iff_le] at hb') <;> (try (exfalso; omega))) | (refine .of ((Right_spec (full co bu ex) _).mono ?_); rintro v _ ⟨rfl, rfl⟩)
  exact .here ⟨2, by decide, rfl, _, rfl⟩
end Go.Proofs.Yteopnmfdncjbhaa
