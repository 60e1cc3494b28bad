import Derived.Test.YtdddoioecccfpaaSteps2
import Derived.Test.YtdddoioecccfpaaPlain3
import Derived.Test.YtdddoioecccfpaaBase
set_option linter.unusedSimpArgs false
set_option linter.unusedVariables false
set_option maxHeartbeats 1000000
namespace Go.Proofs.Ytdddoioecccfpaa
open Go Go.Am
attribute [local irreducible] opsW Ww loopW callW drawW outW outDW gW cW BrW bothW vW resW DropW RdW dcallW Later.run

theorem S.of {B : Nat} {H : Heap} (cs : List Value) (h : RowOk B H [.int .i64, .int .i64] cs) : ∃ s : S, cs = s.cells ∧ (-9223372036854775808 ≤ s.by' ∧ s.by' ≤ 9223372036854775807) := by
  obtain ⟨_, _, rfl, c0, h⟩ := h.cons_inv
  obtain ⟨_, _, rfl, c1, h⟩ := h.cons_inv
  obtain rfl := h.nil_inv
  obtain ⟨n0, rfl, _⟩ := c0.int_inv
  obtain ⟨n1, rfl, h1⟩ := c1.int_inv
  exact ⟨⟨n0, n1⟩, rfl, h1⟩

/-- A slice of shots that came in. -/
theorem shots_of {B : Nat} {H : Heap} {v : Value} (h : ArgOk B H (false, [.slice [.int .i64, .int .i64]]) v) : ∃ k c, ∃ l : List S, v = slv k 0 0 l.length c ∧ l.length ≤ B ∧ l.length ≤ c ∧ Shots H k 0 0 l := by
  obtain ⟨j, n, l, rfl, h1, h2, h3, _⟩ := CellOk.rows (enc := S.cells) (ok := fun s => -9223372036854775808 ≤ s.by' ∧ s.by' ≤ 9223372036854775807) (fun cs h => S.of cs h) h.cell
  have hl : (l.take n).length = n := by simp; omega
  refine ⟨j, l.length, l.take n, by rw [hl], by omega, by omega, ⟨⟨true, _, h3, fun i hi => ?_⟩⟩⟩
  rw [hl] at hi
  have e := fun x hx => flat'_get (enc := S.cells) (s := 2) (fun _ => rfl) s0 l i x (by omega) hx
  rw [getD_take s0 l n i hi]
  exact ⟨by rw [Nat.zero_add]; exact e 0 (by omega), by rw [Nat.zero_add]; exact e 1 (by omega)⟩

theorem Shots.take {H : Heap} {k o g : Nat} {l : List S} (h : Shots H k o g l) (n : Nat) : Shots H k o g (l.take n) := by
  obtain ⟨ro, cs, h1, h2⟩ := h.at'
  refine ⟨ro, cs, h1, fun i hi => ?_⟩
  simp at hi
  rw [getD_take s0 l n i (by omega)]
  exact h2 i (by omega)

theorem LindleyReich_args (H : Heap) (vals : List Value) (h : ArgsOk maxLen H LindleyReichSh vals) : ACallK Try.prog 3 vals H fun v _ => v = .bool true := by
  obtain ⟨_, _, rfl, a1, h⟩ := h.cons
  obtain rfl := h.nil
  obtain ⟨k, c, l, rfl, hB, hlc, hs⟩ := shots_of a1
  have hB' : l.length ≤ 9223372036854775807 := hB
  obtain ⟨ro, cs, hk, hcs⟩ := hs.at'
  simp only [Nat.zero_add] at hcs
  have hkl := hs.lt
  refine .walkW f3_ok (by simp; decide) (by decide) ?_
  by_cases hw : wrongL l = 0
  · have hf := fine hw
    have hlen := hf.len
    repeat' first | simp (disch := first | with_reducible assumption | omega) only [go_sem, Bool.true_and, Bool.and_true, Bool.and_self, Bool.false_and, Bool.and_false, Bool.true_or, Bool.or_true, Bool.false_or, Bool.or_false, ↓reduceIte, Nat.reduceEqDiff, Nat.reduceAdd, Nat.reduceMul, Nat.reduceSub, Nat.reduceBEq, Nat.reduceLeDiff, Nat.reduceLT, Nat.reduceMod, Nat.reduceDiv, Int.reduceToNat, Int.reducePow, Int.reduceMul, Int.reduceAdd, Int.reduceSub, Int.reduceLE, Int.reduceLT, Int.reduceNeg, Int.reduceDiv, Int.reduceMod, Int.reduceEq, Int.reduceBEq, Int.reduceBNe, f3, f3b, f3r0, f3r1, f3r2, f3r3, f3r4, f3r5, f3r6, f3r7, f3r8, f3r9, f3r10, f3r11, f3r12, f3r14, hk, get_old hk] | (refine BrW.of (fun hb => ?_) (fun hb => ?_) <;> (have hb' := hb; try simp only [decide_eq_true_eq, decide_eq_false_iff_not, beq_iff_eq, bne_iff_ne, beq_eq_false_iff_ne, bne_eq_false_iff_eq, Bool.not_eq_true', Bool.not_eq_false', Bool.not_eq_true, Bool.not_eq_false, Bool.and_eq_true, Bool.or_eq_true, Bool.and_eq_false_iff, Bool.or_eq_false_iff, Int.not_lt, Int.not_le, ne_eq, gt_iff_lt, ge_iff_le] at hb') <;> (try (exfalso; omega))) | (refine .of ((alive _).mono ?_); rintro v _ ⟨rfl, rfl⟩) | (refine .of ((Waits_spec l k 0 0 c _ hs hw).mono ?_); rintro v _ ⟨g', rfl, rfl⟩)
    rename_i H g'
    refine loopW.of (by decide) (fun m e H'' => ∃ (i : Nat), e = [(0, slv k 0 0 l.length c), (3, slv H.length 0 g' l.length l.length), (33, .int .i64 (min (l.length : Int) 40)), (34, .int .i64 i)] ∧ H'' = H ++ [.cells g' 1 false (ints (waits l))] ∧ i ≤ l.length ∧ m = l.length - i) l.length ⟨0, rfl, rfl, by omega, rfl⟩ ?_
    rintro m e H'' ⟨i, rfl, rfl, hi, rfl⟩
    by_cases hlt : (i : Int) < min (l.length : Int) 40
    · have hil : i < l.length := by omega
      obtain ⟨e0, e1⟩ := hcs i hil
      have hwi : i < (waits l).length := by rw [waits_length]; exact hil
      have ew : (ints (waits l))[i]? = some (.int .i64 ((waits l).getD i 0)) := map_get _ 0 _ i hwi
      have hre := reich hf hil
      have htl : (l.take i).length = i := by simp; omega
      have hg := hf.get hil
      have hspec := Work_spec (l.take i) k 0 0 c (l.getD i s0).at' (H ++ [.cells g' 1 false (ints (waits l))]) ((hs.take i).app _) (by omega) (hf.take i).wrong
      rw [htl, hre] at hspec
      repeat' first | simp (disch := first | with_reducible assumption | omega) only [go_sem, Bool.true_and, Bool.and_true, Bool.and_self, Bool.false_and, Bool.and_false, Bool.true_or, Bool.or_true, Bool.false_or, Bool.or_false, ↓reduceIte, Nat.reduceEqDiff, Nat.reduceAdd, Nat.reduceMul, Nat.reduceSub, Nat.reduceBEq, Nat.reduceLeDiff, Nat.reduceLT, Nat.reduceMod, Nat.reduceDiv, Int.reduceToNat, Int.reducePow, Int.reduceMul, Int.reduceAdd, Int.reduceSub, Int.reduceLE, Int.reduceLT, Int.reduceNeg, Int.reduceDiv, Int.reduceMod, Int.reduceEq, Int.reduceBEq, Int.reduceBNe, f3, f3b, f3r0, f3r1, f3r2, f3r3, f3r4, f3r5, f3r6, f3r7, f3r8, f3r9, f3r10, f3r11, f3r12, f3r14, f3l0, hk, get_old hk, e0, e1, ew] | (refine BrW.of (fun hb => ?_) (fun hb => ?_) <;> (have hb' := hb; try simp only [decide_eq_true_eq, decide_eq_false_iff_not, beq_iff_eq, bne_iff_ne, beq_eq_false_iff_ne, bne_eq_false_iff_eq, Bool.not_eq_true', Bool.not_eq_false', Bool.not_eq_true, Bool.not_eq_false, Bool.and_eq_true, Bool.or_eq_true, Bool.and_eq_false_iff, Bool.or_eq_false_iff, Int.not_lt, Int.not_le, ne_eq, gt_iff_lt, ge_iff_le] at hb') <;> (try (exfalso; omega))) | (refine dcallW.of _ _ hspec ?_)
      refine RdW.cut1 [0, 3, 33, 34] (l.length - (i + 1)) ?_ ?_ ?_ ?_
      · omega
      · exact abnd_ints' _ _ _ _ _
      · simp (disch := first | with_reducible assumption | omega) only [go_sem, Bool.true_and, Bool.and_true, Bool.and_self, Bool.false_and, Bool.and_false, Bool.true_or, Bool.or_true, Bool.false_or, Bool.or_false, ↓reduceIte, Nat.reduceEqDiff, Nat.reduceAdd, Nat.reduceMul, Nat.reduceSub, Nat.reduceBEq, Nat.reduceLeDiff, Nat.reduceLT, Nat.reduceMod, Nat.reduceDiv, Int.reduceToNat, Int.reducePow, Int.reduceMul, Int.reduceAdd, Int.reduceSub, Int.reduceLE, Int.reduceLT, Int.reduceNeg, Int.reduceDiv, Int.reduceMod, Int.reduceEq, Int.reduceBEq, Int.reduceBNe]
        simp; omega
      · simp (disch := first | with_reducible assumption | omega) only [go_sem, Bool.true_and, Bool.and_true, Bool.and_self, Bool.false_and, Bool.and_false, Bool.true_or, Bool.or_true, Bool.false_or, Bool.or_false, ↓reduceIte, Nat.reduceEqDiff, Nat.reduceAdd, Nat.reduceMul, Nat.reduceSub, Nat.reduceBEq, Nat.reduceLeDiff, Nat.reduceLT, Nat.reduceMod, Nat.reduceDiv, Int.reduceToNat, Int.reducePow, Int.reduceMul, Int.reduceAdd, Int.reduceSub, Int.reduceLE, Int.reduceLT, Int.reduceNeg, Int.reduceDiv, Int.reduceMod, Int.reduceEq, Int.reduceBEq, Int.reduceBNe]
        exact ⟨i + 1, rfl, by omega, rfl⟩
    · repeat' first | simp (disch := first | with_reducible assumption | omega) only [go_sem, Bool.true_and, Bool.and_true, Bool.and_self, Bool.false_and, Bool.and_false, Bool.true_or, Bool.or_true, Bool.false_or, Bool.or_false, ↓reduceIte, Nat.reduceEqDiff, Nat.reduceAdd, Nat.reduceMul, Nat.reduceSub, Nat.reduceBEq, Nat.reduceLeDiff, Nat.reduceLT, Nat.reduceMod, Nat.reduceDiv, Int.reduceToNat, Int.reducePow, Int.reduceMul, Int.reduceAdd, Int.reduceSub, Int.reduceLE, Int.reduceLT, Int.reduceNeg, Int.reduceDiv, Int.reduceMod, Int.reduceEq, Int.reduceBEq, Int.reduceBNe, f3, f3b, f3r0, f3r1, f3r2, f3r3, f3r4, f3r5, f3r6, f3r7, f3r8, f3r9, f3r10, f3r11, f3r12, f3r14, f3l0, f3, f3b, f3r0, f3r1, f3r2, f3r3, f3r4, f3r5, f3r6, f3r7, f3r8, f3r9, f3r10, f3r11, f3r12, f3r14, hk, get_old hk] | (refine BrW.of (fun hb => ?_) (fun hb => ?_) <;> (have hb' := hb; try simp only [decide_eq_true_eq, decide_eq_false_iff_not, beq_iff_eq, bne_iff_ne, beq_eq_false_iff_ne, bne_eq_false_iff_eq, Bool.not_eq_true', Bool.not_eq_false', Bool.not_eq_true, Bool.not_eq_false, Bool.and_eq_true, Bool.or_eq_true, Bool.and_eq_false_iff, Bool.or_eq_false_iff, Int.not_lt, Int.not_le, ne_eq, gt_iff_lt, ge_iff_le] at hb') <;> (try (exfalso; omega)))
      exact .here rfl
  · repeat' first | simp (disch := first | with_reducible assumption | omega) only [go_sem, Bool.true_and, Bool.and_true, Bool.and_self, Bool.false_and, Bool.and_false, Bool.true_or, Bool.or_true, Bool.false_or, Bool.or_false, ↓reduceIte, Nat.reduceEqDiff, Nat.reduceAdd, Nat.reduceMul, Nat.reduceSub, Nat.reduceBEq, Nat.reduceLeDiff, Nat.reduceLT, Nat.reduceMod, Nat.reduceDiv, Int.reduceToNat, Int.reducePow, Int.reduceMul, Int.reduceAdd, Int.reduceSub, Int.reduceLE, Int.reduceLT, Int.reduceNeg, Int.reduceDiv, Int.reduceMod, Int.reduceEq, Int.reduceBEq, Int.reduceBNe, f3, f3b, f3r0, f3r1, f3r2, f3r3, f3r4, f3r5, f3r6, f3r7, f3r8, f3r9, f3r10, f3r11, f3r12, f3r14, hk] | (refine BrW.of (fun hb => ?_) (fun hb => ?_) <;> (have hb' := hb; try simp only [decide_eq_true_eq, decide_eq_false_iff_not, beq_iff_eq, bne_iff_ne, beq_eq_false_iff_ne, bne_eq_false_iff_eq, Bool.not_eq_true', Bool.not_eq_false', Bool.not_eq_true, Bool.not_eq_false, Bool.and_eq_true, Bool.or_eq_true, Bool.and_eq_false_iff, Bool.or_eq_false_iff, Int.not_lt, Int.not_le, ne_eq, gt_iff_lt, ge_iff_le] at hb') <;> (try (exfalso; omega))) | (refine .of ((alive _).mono ?_); rintro v _ ⟨rfl, rfl⟩) | (refine .of ((Waits_bad l k 0 0 c _ hs hB' hw).mono ?_); rintro v _ ⟨rfl, rfl⟩)
    all_goals exact .here (by (first | with_reducible rfl | (congr 1; first | with_reducible rfl | omega | (rw [Bool.eq_iff_iff]; simp only [decide_eq_true_eq, decide_eq_false_iff_not, beq_iff_eq, bne_iff_ne, beq_eq_false_iff_ne, bne_eq_false_iff_eq, Bool.not_eq_true', Bool.not_eq_false', Bool.not_eq_true, Bool.not_eq_false, Bool.and_eq_true, Bool.or_eq_true, Bool.and_eq_false_iff, Bool.or_eq_false_iff, Int.not_lt, Int.not_le, ne_eq, gt_iff_lt, ge_iff_le, Bool.and_false, Bool.false_and, Bool.or_true, Bool.true_or, Bool.false_eq_true, true_iff, iff_true, false_iff, iff_false, eq_self, not_true_eq_false, not_false_eq_true]; try omega))))


theorem LindleyWork_args (H : Heap) (vals : List Value) (h : ArgsOk maxLen H LindleyWorkSh vals) : ACallK Try.prog 5 vals H fun v _ => v = .bool true := by
  obtain ⟨_, _, rfl, a1, h⟩ := h.cons
  obtain ⟨_, _, rfl, a2, h⟩ := h.cons
  obtain rfl := h.nil
  obtain ⟨k, c, l, rfl, hB, hlc, hs⟩ := shots_of a1
  obtain ⟨t, rfl, ht⟩ := a2.cell.int_inv
  have ht' : -9223372036854775808 ≤ t ∧ t ≤ 9223372036854775807 := ht
  have hB' : l.length ≤ 9223372036854775807 := hB
  obtain ⟨ro, cs, hk, hcs⟩ := hs.at'
  simp only [Nat.zero_add] at hcs
  have hkl := hs.lt
  refine .walkW f5_ok (by simp; decide) (by decide) ?_
  rcases Classical.em (wrongL l = 0) with hw | hw
  · have hf := fine hw
    have hlen := hf.len
    by_cases hr : 1099511627776 < t ∨ t < -1099511627776
    · have hsum : -9223372036854775808 ≤ iadd .i64 t 1 ∧ iadd .i64 t 1 ≤ 9223372036854775807 := by
        by_cases h1 : t = 9223372036854775807
        · rw [h1]; decide
        · rw [iadd_i64 t 1 (by omega)]; omega
      have hsum2 : t < 9223372036854775807 → iadd .i64 t 1 = t + 1 := fun h => iadd_i64 t 1 (by omega)
      generalize hz : iadd .i64 t 1 = z at *
      by_cases h1 : t < 9223372036854775807
      · have := hsum2 h1
        subst this
        clear hz hsum2
        repeat' first | simp (disch := first | with_reducible assumption | omega) only [go_sem, Bool.true_and, Bool.and_true, Bool.and_self, Bool.false_and, Bool.and_false, Bool.true_or, Bool.or_true, Bool.false_or, Bool.or_false, ↓reduceIte, Nat.reduceEqDiff, Nat.reduceAdd, Nat.reduceMul, Nat.reduceSub, Nat.reduceBEq, Nat.reduceLeDiff, Nat.reduceLT, Nat.reduceMod, Nat.reduceDiv, Int.reduceToNat, Int.reducePow, Int.reduceMul, Int.reduceAdd, Int.reduceSub, Int.reduceLE, Int.reduceLT, Int.reduceNeg, Int.reduceDiv, Int.reduceMod, Int.reduceEq, Int.reduceBEq, Int.reduceBNe, f5, f5b, f5r0, f5r1, f5r2, f5r3, f5r4, f5r5, f5r6, f5r7, f5r8, f5r9, f5r10, f5r11, f5r12, f5r13, f5r15, f5r16, hk] | (refine BrW.of (fun hb => ?_) (fun hb => ?_) <;> (have hb' := hb; try simp only [decide_eq_true_eq, decide_eq_false_iff_not, beq_iff_eq, bne_iff_ne, beq_eq_false_iff_ne, bne_eq_false_iff_eq, Bool.not_eq_true', Bool.not_eq_false', Bool.not_eq_true, Bool.not_eq_false, Bool.and_eq_true, Bool.or_eq_true, Bool.and_eq_false_iff, Bool.or_eq_false_iff, Int.not_lt, Int.not_le, ne_eq, gt_iff_lt, ge_iff_le] at hb') <;> (try (exfalso; omega))) | (refine .of ((alive _).mono ?_); rintro v H ⟨rfl, rfl⟩) | (refine .of ((Work_spec l k 0 0 c t _ hs ht' hw).mono ?_); rintro v H ⟨rfl, rfl⟩) | (refine .of ((Work_spec l k 0 0 c (t + 1) _ hs hsum hw).mono ?_); rintro v H ⟨rfl, rfl⟩)
        all_goals exact .here rfl
      · clear hsum2
        repeat' first | simp (disch := first | with_reducible assumption | omega) only [go_sem, Bool.true_and, Bool.and_true, Bool.and_self, Bool.false_and, Bool.and_false, Bool.true_or, Bool.or_true, Bool.false_or, Bool.or_false, ↓reduceIte, Nat.reduceEqDiff, Nat.reduceAdd, Nat.reduceMul, Nat.reduceSub, Nat.reduceBEq, Nat.reduceLeDiff, Nat.reduceLT, Nat.reduceMod, Nat.reduceDiv, Int.reduceToNat, Int.reducePow, Int.reduceMul, Int.reduceAdd, Int.reduceSub, Int.reduceLE, Int.reduceLT, Int.reduceNeg, Int.reduceDiv, Int.reduceMod, Int.reduceEq, Int.reduceBEq, Int.reduceBNe, f5, f5b, f5r0, f5r1, f5r2, f5r3, f5r4, f5r5, f5r6, f5r7, f5r8, f5r9, f5r10, f5r11, f5r12, f5r13, f5r15, f5r16, hk, hz] | (refine BrW.of (fun hb => ?_) (fun hb => ?_) <;> (have hb' := hb; try simp only [decide_eq_true_eq, decide_eq_false_iff_not, beq_iff_eq, bne_iff_ne, beq_eq_false_iff_ne, bne_eq_false_iff_eq, Bool.not_eq_true', Bool.not_eq_false', Bool.not_eq_true, Bool.not_eq_false, Bool.and_eq_true, Bool.or_eq_true, Bool.and_eq_false_iff, Bool.or_eq_false_iff, Int.not_lt, Int.not_le, ne_eq, gt_iff_lt, ge_iff_le] at hb') <;> (try (exfalso; omega))) | (refine .of ((alive _).mono ?_); rintro v H ⟨rfl, rfl⟩) | (refine .of ((Work_spec l k 0 0 c t _ hs ht' hw).mono ?_); rintro v H ⟨rfl, rfl⟩) | (refine .of ((Work_spec l k 0 0 c z _ hs hsum hw).mono ?_); rintro v H ⟨rfl, rfl⟩)
        all_goals exact .here rfl
    · obtain ⟨w1, w2⟩ := work_law hf t
      have wr := work_range hf t
      have tr : -1099511627776 ≤ t ∧ t ≤ 1099511627776 := by omega
      clear hr
      repeat' first | simp (disch := first | with_reducible assumption | omega) only [go_sem, Bool.true_and, Bool.and_true, Bool.and_self, Bool.false_and, Bool.and_false, Bool.true_or, Bool.or_true, Bool.false_or, Bool.or_false, ↓reduceIte, Nat.reduceEqDiff, Nat.reduceAdd, Nat.reduceMul, Nat.reduceSub, Nat.reduceBEq, Nat.reduceLeDiff, Nat.reduceLT, Nat.reduceMod, Nat.reduceDiv, Int.reduceToNat, Int.reducePow, Int.reduceMul, Int.reduceAdd, Int.reduceSub, Int.reduceLE, Int.reduceLT, Int.reduceNeg, Int.reduceDiv, Int.reduceMod, Int.reduceEq, Int.reduceBEq, Int.reduceBNe, f5, f5b, f5r0, f5r1, f5r2, f5r3, f5r4, f5r5, f5r6, f5r7, f5r8, f5r9, f5r10, f5r11, f5r12, f5r13, f5r15, f5r16, hk] | (refine BrW.of (fun hb => ?_) (fun hb => ?_) <;> (have hb' := hb; try simp only [decide_eq_true_eq, decide_eq_false_iff_not, beq_iff_eq, bne_iff_ne, beq_eq_false_iff_ne, bne_eq_false_iff_eq, Bool.not_eq_true', Bool.not_eq_false', Bool.not_eq_true, Bool.not_eq_false, Bool.and_eq_true, Bool.or_eq_true, Bool.and_eq_false_iff, Bool.or_eq_false_iff, Int.not_lt, Int.not_le, ne_eq, gt_iff_lt, ge_iff_le] at hb') <;> (try (exfalso; omega))) | (refine .of ((alive _).mono ?_); rintro v H ⟨rfl, rfl⟩) | (refine .of ((Work_spec l k 0 0 c t _ hs ht' hw).mono ?_); rintro v H ⟨rfl, rfl⟩) | (refine .of ((Work_spec l k 0 0 c (t + 1) _ hs (by omega) hw).mono ?_); rintro v H ⟨rfl, rfl⟩)
      refine loopW.keep [0, 1, 5, 7, 9, 43, 44, 45] ?_
      simp (disch := first | with_reducible assumption | omega) only [go_sem, Bool.true_and, Bool.and_true, Bool.and_self, Bool.false_and, Bool.and_false, Bool.true_or, Bool.or_true, Bool.false_or, Bool.or_false, ↓reduceIte, Nat.reduceEqDiff, Nat.reduceAdd, Nat.reduceMul, Nat.reduceSub, Nat.reduceBEq, Nat.reduceLeDiff, Nat.reduceLT, Nat.reduceMod, Nat.reduceDiv, Int.reduceToNat, Int.reducePow, Int.reduceMul, Int.reduceAdd, Int.reduceSub, Int.reduceLE, Int.reduceLT, Int.reduceNeg, Int.reduceDiv, Int.reduceMod, Int.reduceEq, Int.reduceBEq, Int.reduceBNe]
      refine loopW.of (by decide) (fun m e H'' => ∃ (i : Nat) (x : Int), e = [(0, slv k 0 0 l.length c), (1, .int .i64 t), (5, .int .i64 (work l t)), (7, .int .i64 (work l (t + 1))), (9, .int .i64 x), (43, slv k 0 0 l.length c), (44, .int .i64 l.length), (45, .int .i64 i)] ∧ H'' = H ∧ i ≤ l.length ∧ m = l.length - i ∧
        0 ≤ x ∧ x ≤ (i : Int) * 1048576 ∧ x + come (t + 1) (l.drop i) = come (t + 1) l) l.length ⟨0, 0, rfl, rfl, by omega, rfl, by omega, by omega, by rw [Int.zero_add]; rfl⟩ ?_
      rintro m e H'' ⟨i, x, rfl, rfl, hi, rfl, hx0, hx1, hinv⟩
      by_cases hlt : i < l.length
      · obtain ⟨e0, e1⟩ := hcs i hlt
        have hg := hf.get hlt
        rw [drop_cons s0 l i hlt] at hinv
        rw [come_cons] at hinv
        generalize l.getD i s0 = s at *
        by_cases hc : s.at' = t + 1
        · rw [if_pos hc] at hinv
          repeat' first | simp (disch := first | with_reducible assumption | omega) only [go_sem, Bool.true_and, Bool.and_true, Bool.and_self, Bool.false_and, Bool.and_false, Bool.true_or, Bool.or_true, Bool.false_or, Bool.or_false, ↓reduceIte, Nat.reduceEqDiff, Nat.reduceAdd, Nat.reduceMul, Nat.reduceSub, Nat.reduceBEq, Nat.reduceLeDiff, Nat.reduceLT, Nat.reduceMod, Nat.reduceDiv, Int.reduceToNat, Int.reducePow, Int.reduceMul, Int.reduceAdd, Int.reduceSub, Int.reduceLE, Int.reduceLT, Int.reduceNeg, Int.reduceDiv, Int.reduceMod, Int.reduceEq, Int.reduceBEq, Int.reduceBNe, f5, f5b, f5r0, f5r1, f5r2, f5r3, f5r4, f5r5, f5r6, f5r7, f5r8, f5r9, f5r10, f5r11, f5r12, f5r13, f5r15, f5r16, f5l0, hk, get_old hk, e0, e1] | (refine BrW.of (fun hb => ?_) (fun hb => ?_) <;> (have hb' := hb; try simp only [decide_eq_true_eq, decide_eq_false_iff_not, beq_iff_eq, bne_iff_ne, beq_eq_false_iff_ne, bne_eq_false_iff_eq, Bool.not_eq_true', Bool.not_eq_false', Bool.not_eq_true, Bool.not_eq_false, Bool.and_eq_true, Bool.or_eq_true, Bool.and_eq_false_iff, Bool.or_eq_false_iff, Int.not_lt, Int.not_le, ne_eq, gt_iff_lt, ge_iff_le] at hb') <;> (try (exfalso; omega)))
          refine RdW.cut0 [0, 1, 5, 7, 9, 43, 44, 45] (l.length - (i + 1)) ?_ ?_ ?_
          · omega
          · simp (disch := first | with_reducible assumption | omega) only [go_sem, Bool.true_and, Bool.and_true, Bool.and_self, Bool.false_and, Bool.and_false, Bool.true_or, Bool.or_true, Bool.false_or, Bool.or_false, ↓reduceIte, Nat.reduceEqDiff, Nat.reduceAdd, Nat.reduceMul, Nat.reduceSub, Nat.reduceBEq, Nat.reduceLeDiff, Nat.reduceLT, Nat.reduceMod, Nat.reduceDiv, Int.reduceToNat, Int.reducePow, Int.reduceMul, Int.reduceAdd, Int.reduceSub, Int.reduceLE, Int.reduceLT, Int.reduceNeg, Int.reduceDiv, Int.reduceMod, Int.reduceEq, Int.reduceBEq, Int.reduceBNe]
            simp; omega
          · simp (disch := first | with_reducible assumption | omega) only [go_sem, Bool.true_and, Bool.and_true, Bool.and_self, Bool.false_and, Bool.and_false, Bool.true_or, Bool.or_true, Bool.false_or, Bool.or_false, ↓reduceIte, Nat.reduceEqDiff, Nat.reduceAdd, Nat.reduceMul, Nat.reduceSub, Nat.reduceBEq, Nat.reduceLeDiff, Nat.reduceLT, Nat.reduceMod, Nat.reduceDiv, Int.reduceToNat, Int.reducePow, Int.reduceMul, Int.reduceAdd, Int.reduceSub, Int.reduceLE, Int.reduceLT, Int.reduceNeg, Int.reduceDiv, Int.reduceMod, Int.reduceEq, Int.reduceBEq, Int.reduceBNe]
            exact ⟨i + 1, x + s.by', rfl, by omega, rfl, by omega, by omega, by omega⟩
        · rw [if_neg hc] at hinv
          repeat' first | simp (disch := first | with_reducible assumption | omega) only [go_sem, Bool.true_and, Bool.and_true, Bool.and_self, Bool.false_and, Bool.and_false, Bool.true_or, Bool.or_true, Bool.false_or, Bool.or_false, ↓reduceIte, Nat.reduceEqDiff, Nat.reduceAdd, Nat.reduceMul, Nat.reduceSub, Nat.reduceBEq, Nat.reduceLeDiff, Nat.reduceLT, Nat.reduceMod, Nat.reduceDiv, Int.reduceToNat, Int.reducePow, Int.reduceMul, Int.reduceAdd, Int.reduceSub, Int.reduceLE, Int.reduceLT, Int.reduceNeg, Int.reduceDiv, Int.reduceMod, Int.reduceEq, Int.reduceBEq, Int.reduceBNe, f5, f5b, f5r0, f5r1, f5r2, f5r3, f5r4, f5r5, f5r6, f5r7, f5r8, f5r9, f5r10, f5r11, f5r12, f5r13, f5r15, f5r16, f5l0, hk, get_old hk, e0, e1] | (refine BrW.of (fun hb => ?_) (fun hb => ?_) <;> (have hb' := hb; try simp only [decide_eq_true_eq, decide_eq_false_iff_not, beq_iff_eq, bne_iff_ne, beq_eq_false_iff_ne, bne_eq_false_iff_eq, Bool.not_eq_true', Bool.not_eq_false', Bool.not_eq_true, Bool.not_eq_false, Bool.and_eq_true, Bool.or_eq_true, Bool.and_eq_false_iff, Bool.or_eq_false_iff, Int.not_lt, Int.not_le, ne_eq, gt_iff_lt, ge_iff_le] at hb') <;> (try (exfalso; omega)))
          refine RdW.cut0 [0, 1, 5, 7, 9, 43, 44, 45] (l.length - (i + 1)) ?_ ?_ ?_
          · omega
          · simp (disch := first | with_reducible assumption | omega) only [go_sem, Bool.true_and, Bool.and_true, Bool.and_self, Bool.false_and, Bool.and_false, Bool.true_or, Bool.or_true, Bool.false_or, Bool.or_false, ↓reduceIte, Nat.reduceEqDiff, Nat.reduceAdd, Nat.reduceMul, Nat.reduceSub, Nat.reduceBEq, Nat.reduceLeDiff, Nat.reduceLT, Nat.reduceMod, Nat.reduceDiv, Int.reduceToNat, Int.reducePow, Int.reduceMul, Int.reduceAdd, Int.reduceSub, Int.reduceLE, Int.reduceLT, Int.reduceNeg, Int.reduceDiv, Int.reduceMod, Int.reduceEq, Int.reduceBEq, Int.reduceBNe]
            simp; omega
          · simp (disch := first | with_reducible assumption | omega) only [go_sem, Bool.true_and, Bool.and_true, Bool.and_self, Bool.false_and, Bool.and_false, Bool.true_or, Bool.or_true, Bool.false_or, Bool.or_false, ↓reduceIte, Nat.reduceEqDiff, Nat.reduceAdd, Nat.reduceMul, Nat.reduceSub, Nat.reduceBEq, Nat.reduceLeDiff, Nat.reduceLT, Nat.reduceMod, Nat.reduceDiv, Int.reduceToNat, Int.reducePow, Int.reduceMul, Int.reduceAdd, Int.reduceSub, Int.reduceLE, Int.reduceLT, Int.reduceNeg, Int.reduceDiv, Int.reduceMod, Int.reduceEq, Int.reduceBEq, Int.reduceBNe]
            exact ⟨i + 1, x, rfl, by omega, rfl, by omega, by omega, by omega⟩
      · rw [List.drop_eq_nil_of_le (by omega)] at hinv
        rw [come_nil] at hinv
        rw [show come (t + 1) l = x by omega] at w1
        have wb := work_most hf t
        repeat' first | simp (disch := first | with_reducible assumption | omega) only [go_sem, Bool.true_and, Bool.and_true, Bool.and_self, Bool.false_and, Bool.and_false, Bool.true_or, Bool.or_true, Bool.false_or, Bool.or_false, ↓reduceIte, Nat.reduceEqDiff, Nat.reduceAdd, Nat.reduceMul, Nat.reduceSub, Nat.reduceBEq, Nat.reduceLeDiff, Nat.reduceLT, Nat.reduceMod, Nat.reduceDiv, Int.reduceToNat, Int.reducePow, Int.reduceMul, Int.reduceAdd, Int.reduceSub, Int.reduceLE, Int.reduceLT, Int.reduceNeg, Int.reduceDiv, Int.reduceMod, Int.reduceEq, Int.reduceBEq, Int.reduceBNe, f5, f5b, f5r0, f5r1, f5r2, f5r3, f5r4, f5r5, f5r6, f5r7, f5r8, f5r9, f5r10, f5r11, f5r12, f5r13, f5r15, f5r16, f5l0, f5, f5b, f5r0, f5r1, f5r2, f5r3, f5r4, f5r5, f5r6, f5r7, f5r8, f5r9, f5r10, f5r11, f5r12, f5r13, f5r15, f5r16, hk] | (refine BrW.of (fun hb => ?_) (fun hb => ?_) <;> (have hb' := hb; try simp only [decide_eq_true_eq, decide_eq_false_iff_not, beq_iff_eq, bne_iff_ne, beq_eq_false_iff_ne, bne_eq_false_iff_eq, Bool.not_eq_true', Bool.not_eq_false', Bool.not_eq_true, Bool.not_eq_false, Bool.and_eq_true, Bool.or_eq_true, Bool.and_eq_false_iff, Bool.or_eq_false_iff, Int.not_lt, Int.not_le, ne_eq, gt_iff_lt, ge_iff_le] at hb') <;> (try (exfalso; omega))) | (refine .of ((There_spec l k 0 0 c t _ hs hw).mono ?_); rintro v H ⟨rfl, rfl⟩)
        all_goals exact .here (by rw [show decide (0 < there l t) = decide (0 < work l t) from decide_eq_decide.2 w2]; simp)
  · have hw' : (wrongL l != 0) = true := by simpa using hw
    repeat' first | simp (disch := first | with_reducible assumption | omega) only [go_sem, Bool.true_and, Bool.and_true, Bool.and_self, Bool.false_and, Bool.and_false, Bool.true_or, Bool.or_true, Bool.false_or, Bool.or_false, ↓reduceIte, Nat.reduceEqDiff, Nat.reduceAdd, Nat.reduceMul, Nat.reduceSub, Nat.reduceBEq, Nat.reduceLeDiff, Nat.reduceLT, Nat.reduceMod, Nat.reduceDiv, Int.reduceToNat, Int.reducePow, Int.reduceMul, Int.reduceAdd, Int.reduceSub, Int.reduceLE, Int.reduceLT, Int.reduceNeg, Int.reduceDiv, Int.reduceMod, Int.reduceEq, Int.reduceBEq, Int.reduceBNe, f5, f5b, f5r0, f5r1, f5r2, f5r3, f5r4, f5r5, f5r6, f5r7, f5r8, f5r9, f5r10, f5r11, f5r12, f5r13, f5r15, f5r16, hk] | (refine BrW.of (fun hb => ?_) (fun hb => ?_) <;> (have hb' := hb; try simp only [decide_eq_true_eq, decide_eq_false_iff_not, beq_iff_eq, bne_iff_ne, beq_eq_false_iff_ne, bne_eq_false_iff_eq, Bool.not_eq_true', Bool.not_eq_false', Bool.not_eq_true, Bool.not_eq_false, Bool.and_eq_true, Bool.or_eq_true, Bool.and_eq_false_iff, Bool.or_eq_false_iff, Int.not_lt, Int.not_le, ne_eq, gt_iff_lt, ge_iff_le] at hb') <;> (try (exfalso; omega))) | (refine .of ((alive _).mono ?_); rintro v H ⟨rfl, rfl⟩) | (refine .of ((Work_bad l k 0 0 c _ _ hs hB' hw).mono ?_); rintro v H ⟨rfl, rfl⟩)
    all_goals exact .here (by (first | with_reducible rfl | (congr 1; first | with_reducible rfl | omega | (rw [Bool.eq_iff_iff]; simp only [decide_eq_true_eq, decide_eq_false_iff_not, beq_iff_eq, bne_iff_ne, beq_eq_false_iff_ne, bne_eq_false_iff_eq, Bool.not_eq_true', Bool.not_eq_false', Bool.not_eq_true, Bool.not_eq_false, Bool.and_eq_true, Bool.or_eq_true, Bool.and_eq_false_iff, Bool.or_eq_false_iff, Int.not_lt, Int.not_le, ne_eq, gt_iff_lt, ge_iff_le, Bool.and_false, Bool.false_and, Bool.or_true, Bool.true_or, Bool.false_eq_true, true_iff, iff_true, false_iff, iff_false, eq_self, not_true_eq_false, not_false_eq_true]; try omega))))
end Go.Proofs.Ytdddoioecccfpaa
