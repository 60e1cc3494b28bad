import Derived.Test.YtjdmpkaiijcchaaSteps8
set_option linter.unusedSimpArgs false
set_option linter.unusedVariables false
set_option maxHeartbeats 4000000
set_option maxRecDepth 20000
namespace Go.Proofs.Ytjdmpkaiijcchaa
open Go Go.Am
attribute [local irreducible] opsW Ww loopW callW drawW outW outDW gW cW BrW bothW vW resW DropW RdW dcallW altW forkW splitW Later.run

theorem le_of {H J : Heap} (hl : H.length ≤ J.length) (h : ∀ j, j < H.length → J[j]? = H[j]?) : Le H J := by
  refine ⟨J.drop H.length, ?_⟩
  conv => lhs; rw [← List.take_append_drop H.length J]
  congr 1
  refine List.ext_getElem? fun i => ?_
  by_cases hi : i < H.length
  · rw [List.getElem?_take_of_lt hi, h i hi]
  · rw [List.getElem?_eq_none (by rw [List.length_take]; omega), List.getElem?_eq_none (by omega)]
theorem Clip_spec (k g n c : Nat) (cs : List Value) (H : Heap) (h : H[k]? = some (.cells g 1 false cs)) (hn : n ≤ c) (hcl : c ≤ cs.length) (hc : c ≤ 9223372036854775807) :
    ACallK Try.prog 23 [slv k 0 g n c] H (fun v H' => v = slv k 0 g n n ∧ H' = H) := by
  refine .walkW f23_ok (by simp; decide) (by decide) ?_
  repeat' first | simp (disch := first | with_reducible assumption | omega) only [go_sem, Bool.true_and, Bool.and_true, Bool.and_self, Bool.false_and, Bool.and_false, Bool.true_or, Bool.or_true, Bool.false_or, Bool.or_false, ↓reduceIte, Nat.reduceEqDiff, Nat.reduceAdd, Nat.reduceMul, Nat.reduceSub, Nat.reduceBEq, Nat.reduceLeDiff, Nat.reduceLT, Nat.reduceMod, Nat.reduceDiv, Int.reduceToNat, Int.reducePow, Int.reduceMul, Int.reduceAdd, Int.reduceSub, Int.reduceLE, Int.reduceLT, Int.reduceNeg, Int.reduceDiv, Int.reduceMod, Int.reduceEq, Int.reduceBEq, Int.reduceBNe, f23, f23b, f23r0, f23r1, h] | (refine BrW.of (fun hb => ?_) (fun hb => ?_) <;> (have hb' := hb; try simp only [decide_eq_true_eq, decide_eq_false_iff_not, beq_iff_eq, bne_iff_ne, beq_eq_false_iff_ne, bne_eq_false_iff_eq, Bool.not_eq_true', Bool.not_eq_false', Bool.not_eq_true, Bool.not_eq_false, Bool.and_eq_true, Bool.or_eq_true, Bool.and_eq_false_iff, Bool.or_eq_false_iff, Int.not_lt, Int.not_le, ne_eq, gt_iff_lt, ge_iff_le] at hb') <;> (try (exfalso; omega))) | (refine altW.of ?_ ?_)
  all_goals first | exact .here ⟨rfl, rfl⟩ | (exfalso; omega)
theorem take_snocO (l : List Op) (n : Nat) (h : n < l.length) : l.take (n + 1) = l.take n ++ [l.getD n o0] := by
  rw [List.take_add_one, List.getD_eq_getElem?_getD, List.getElem?_eq_getElem h]; rfl
theorem ints_tk (l : List Int) : (ints l).take l.length = ints l := List.take_of_length_le (by rw [ints_length]; exact Nat.le_refl _)
theorem runR_lens (ops : List Op) : ∀ i, i ≤ ops.length → (runR (ops.take i)).errs.length = i ∧ (runR (ops.take i)).pop.length ≤ i
  | 0, _ => ⟨rfl, Nat.le_refl _⟩
  | i + 1, hi => by
    obtain ⟨h1, h2⟩ := runR_lens ops i (by omega)
    rw [take_snocO ops i (by omega), runR_snoc]
    unfold stepR
    refine ⟨by simp [h1], ?_⟩
    show (if _ then _ else _ : List Int).length ≤ _
    split
    · simp; omega
    · omega
theorem Play_spec (ops : List Op) (wo : Value) (A : Nat → Prop) (H : Heap) (ho0 : IsH A H wo ops) (hok : ∀ i, i < ops.length → (ops.getD i o0).ok) (hol : ops.length ≤ 1000000000) :
    ACallK Try.prog 8 [wo] H (fun v H' => ∃ a b c, v = .tuple #[a, b, c] ∧ Le H H' ∧ IsN (fun _ => True) H' a (runR ops).errs ∧ IsN (fun _ => True) H' b (runR ops).pop ∧ IsN (fun _ => True) H' c ((runR ops).s.map (·.i))) := by
  obtain ⟨ko, oo, go, co, _, rfl, hso, hco⟩ := ho0
  obtain ⟨roo, cso, hko, o2, o3⟩ := hso.at'
  have hlt := hso.lt
  refine .walkW f8_ok (by simp; decide) (by decide) ?_
  repeat' first | simp (disch := first | with_reducible assumption | omega) only [go_sem, Bool.true_and, Bool.and_true, Bool.and_self, Bool.false_and, Bool.and_false, Bool.true_or, Bool.or_true, Bool.false_or, Bool.or_false, ↓reduceIte, Nat.reduceEqDiff, Nat.reduceAdd, Nat.reduceMul, Nat.reduceSub, Nat.reduceBEq, Nat.reduceLeDiff, Nat.reduceLT, Nat.reduceMod, Nat.reduceDiv, Int.reduceToNat, Int.reducePow, Int.reduceMul, Int.reduceAdd, Int.reduceSub, Int.reduceLE, Int.reduceLT, Int.reduceNeg, Int.reduceDiv, Int.reduceMod, Int.reduceEq, Int.reduceBEq, Int.reduceBNe, f8, f8b, f8r0, f8r1, f8r2, f8r3, f8r4, f8r5, f8r6, f8r7, f8r8, f8r9, f8r10, f8r11, f8r13, f8r14, f8r16, hko, get_old hko] | (refine BrW.of (fun hb => ?_) (fun hb => ?_) <;> (have hb' := hb; try simp only [decide_eq_true_eq, decide_eq_false_iff_not, beq_iff_eq, bne_iff_ne, beq_eq_false_iff_ne, bne_eq_false_iff_eq, Bool.not_eq_true', Bool.not_eq_false', Bool.not_eq_true, Bool.not_eq_false, Bool.and_eq_true, Bool.or_eq_true, Bool.and_eq_false_iff, Bool.or_eq_false_iff, Int.not_lt, Int.not_le, ne_eq, gt_iff_lt, ge_iff_le] at hb') <;> (try (exfalso; omega))) | (refine altW.of ?_ ?_)
  refine loopW.ghost 6 1 rfl ?_
  simp (disch := first | with_reducible assumption | omega) only [go_sem, Bool.true_and, Bool.and_true, Bool.and_self, Bool.false_and, Bool.and_false, Bool.true_or, Bool.or_true, Bool.false_or, Bool.or_false, ↓reduceIte, Nat.reduceEqDiff, Nat.reduceAdd, Nat.reduceMul, Nat.reduceSub, Nat.reduceBEq, Nat.reduceLeDiff, Nat.reduceLT, Nat.reduceMod, Nat.reduceDiv, Int.reduceToNat, Int.reducePow, Int.reduceMul, Int.reduceAdd, Int.reduceSub, Int.reduceLE, Int.reduceLT, Int.reduceNeg, Int.reduceDiv, Int.reduceMod, Int.reduceEq, Int.reduceBEq, Int.reduceBNe]
  refine loopW.ghost 7 1 rfl ?_
  simp (disch := first | with_reducible assumption | omega) only [go_sem, Bool.true_and, Bool.and_true, Bool.and_self, Bool.false_and, Bool.and_false, Bool.true_or, Bool.or_true, Bool.false_or, Bool.or_false, ↓reduceIte, Nat.reduceEqDiff, Nat.reduceAdd, Nat.reduceMul, Nat.reduceSub, Nat.reduceBEq, Nat.reduceLeDiff, Nat.reduceLT, Nat.reduceMod, Nat.reduceDiv, Int.reduceToNat, Int.reducePow, Int.reduceMul, Int.reduceAdd, Int.reduceSub, Int.reduceLE, Int.reduceLT, Int.reduceNeg, Int.reduceDiv, Int.reduceMod, Int.reduceEq, Int.reduceBEq, Int.reduceBNe]
  refine loopW.ghost 8 1 rfl ?_
  simp (disch := first | with_reducible assumption | omega) only [go_sem, Bool.true_and, Bool.and_true, Bool.and_self, Bool.false_and, Bool.and_false, Bool.true_or, Bool.or_true, Bool.false_or, Bool.or_false, ↓reduceIte, Nat.reduceEqDiff, Nat.reduceAdd, Nat.reduceMul, Nat.reduceSub, Nat.reduceBEq, Nat.reduceLeDiff, Nat.reduceLT, Nat.reduceMod, Nat.reduceDiv, Int.reduceToNat, Int.reducePow, Int.reduceMul, Int.reduceAdd, Int.reduceSub, Int.reduceLE, Int.reduceLT, Int.reduceNeg, Int.reduceDiv, Int.reduceMod, Int.reduceEq, Int.reduceBEq, Int.reduceBNe]
  have hP0 : PI H.length H (H ++ [AObj.map [] 0, AObj.cells 0 0 false [.slice none 0 0, .map (some H.length)], AObj.cells 0 1 false [], AObj.cells 0 1 false [], AObj.cells 0 1 false []]) [] 0 [] [] [] 0 0 0 := by
    refine ⟨⟨[], [], 0, .inr ⟨rfl, ?_, ?_, trivial⟩, ⟨fun i hi => by omega, fun id u hu => by cases hu⟩, Abs.start _⟩, ?_, ?_, ?_, fun j hj => List.getElem?_append_left hj, by simp⟩
    · rw [get_new]; rfl
    · rw [get_new0]; rfl
    · rw [get_new]; rfl
    · rw [get_new]; rfl
    · rw [get_new]; rfl
  refine loopW.of (by decide) (fun m e J => ∃ (i n ge gp : Nat), e = [(5, .pointer (some ⟨H.length + 1, 0, some 1⟩)), (6, slv (H.length + 2) 0 ge (runR (ops.take i)).errs.length (runR (ops.take i)).errs.length), (7, slv (H.length + 3) 0 gp (runR (ops.take i)).pop.length (runR (ops.take i)).pop.length), (8, slv (H.length + 4) 0 0 0 0), (16, slv ko oo go ops.length co), (17, .int .i64 ops.length), (18, .int .i64 i)] ∧
    PI H.length H J (runR (ops.take i)).s n (runR (ops.take i)).errs (runR (ops.take i)).pop [] ge gp 0 ∧ n ≤ i ∧ i ≤ ops.length ∧ m = ops.length - i) ops.length ⟨0, 0, 0, 0, rfl, hP0, by omega, by omega, rfl⟩ ?_
  rintro m e J ⟨i, n, ge, gp, rfl, hI, hni, hi, rfl⟩
  have hkoJ : J[ko]? = _ := (hI.old ko hlt).trans hko
  obtain ⟨hel, hpl⟩ := runR_lens ops i hi
  by_cases hli : i < ops.length
  · have x0 := o3 i hli 0 (by omega)
    have x1 := o3 i hli 1 (by omega)
    have x2 := o3 i hli 2 (by omega)
    have x3 := o3 i hli 3 (by omega)
    simp only [Op.cells, List.getElem?_cons_zero, List.getElem?_cons_succ, Nat.add_zero, show oo + i * 4 + 2 = oo + i * 4 + 1 + 1 by omega, show oo + i * 4 + 3 = oo + i * 4 + 1 + 1 + 1 by omega] at x0 x1 x2 x3
    have hstep : runR (ops.take (i + 1)) = stepR (runR (ops.take i)) (ops.getD i o0) := by rw [take_snocO ops i hli, runR_snoc]
    have hoo := hok i hli
    clear o3 hok hP0
    generalize hr1 : runR (ops.take (i + 1)) = r1 at *
    generalize runR (ops.take i) = r0 at *
    generalize ops.getD i o0 = o at *
    have hI1 := hI.app [AObj.cells 0 0 false [.int .i64 o.k, .int .i64 o.i, .int .u64 o.h, .int .u64 o.l]]
    have hD := do_spec (H.length + 1) H.length (H.length + 5) _ r0.s n o hoo hI1.hp (by omega) (by omega) hI1.len (by omega)
    simp only [Op.val] at hD
    repeat' first | simp (disch := first | with_reducible assumption | omega) only [go_sem, Bool.true_and, Bool.and_true, Bool.and_self, Bool.false_and, Bool.and_false, Bool.true_or, Bool.or_true, Bool.false_or, Bool.or_false, ↓reduceIte, Nat.reduceEqDiff, Nat.reduceAdd, Nat.reduceMul, Nat.reduceSub, Nat.reduceBEq, Nat.reduceLeDiff, Nat.reduceLT, Nat.reduceMod, Nat.reduceDiv, Int.reduceToNat, Int.reducePow, Int.reduceMul, Int.reduceAdd, Int.reduceSub, Int.reduceLE, Int.reduceLT, Int.reduceNeg, Int.reduceDiv, Int.reduceMod, Int.reduceEq, Int.reduceBEq, Int.reduceBNe, f8, f8b, f8r0, f8r1, f8r2, f8r3, f8r4, f8r5, f8r6, f8r7, f8r8, f8r9, f8r10, f8r11, f8r13, f8r14, f8r16, f8l0, hkoJ, get_old hkoJ, x0, x1, x2, x3] | (refine BrW.of (fun hb => ?_) (fun hb => ?_) <;> (have hb' := hb; try simp only [decide_eq_true_eq, decide_eq_false_iff_not, beq_iff_eq, bne_iff_ne, beq_eq_false_iff_ne, bne_eq_false_iff_eq, Bool.not_eq_true', Bool.not_eq_false', Bool.not_eq_true, Bool.not_eq_false, Bool.and_eq_true, Bool.or_eq_true, Bool.and_eq_false_iff, Bool.or_eq_false_iff, Int.not_lt, Int.not_le, ne_eq, gt_iff_lt, ge_iff_le] at hb') <;> (try (exfalso; omega))) | (refine altW.of ?_ ?_)
    refine .of (hD.mono ?_)
    rintro v J1 ⟨rfl, ⟨n1, hp1, hn1⟩, hf1⟩
    have hI2 := hI1.go hp1 hf1
    have hbx : J1[J.length]? = some (AObj.cells 0 0 false [.int .i64 o.k, .int .i64 o.i, .int .u64 o.h, .int .u64 o.l]) := by
      rw [hf1.2 J.length (by simp) (fun _ g cs h => by rw [get_new0] at h; cases h) (by have := hI.len; omega) (by have := hI.len; omega), get_new0]
    have hJl : H.length + 5 ≤ J.length := hI.len
    have hIe := hI2.e
    have hIp := hI2.p
    have hst : r1 = ⟨r0.errs ++ [(doP r0.s o).1], if (doP r0.s o).1 = 0 ∧ o.k = 2 then r0.pop ++ [(doP r0.s o).2.1] else r0.pop, (doP r0.s o).2.2⟩ := hstep
    clear hstep hD hI hI1 hp1 hf1
    generalize (doP r0.s o).1 = d1 at *
    generalize (doP r0.s o).2.1 = d2 at *
    generalize (doP r0.s o).2.2 = d3 at *
    have te := ints_tk r0.errs
    have se := ints_snoc r0.errs d1
    have le := ints_length r0.errs
    have tp := ints_tk r0.pop
    have sp := ints_snoc r0.pop d2
    have lp := ints_length r0.pop
    have n1' : ¬ r0.errs.length + 1 ≤ r0.errs.length := by omega
    have n2' : ¬ r0.pop.length + 1 ≤ r0.pop.length := by omega
    have kb : ∀ X Y, ((J1 ++ X).set (H.length + 2) Y)[J.length]? = _ := fun X Y => (get_set_miss (by omega)).trans (get_old hbx X)
    have kp : ∀ X Y, ((J1 ++ X).set (H.length + 2) Y)[H.length + 3]? = _ := fun X Y => (get_set_miss (by omega)).trans (get_old hIp X)
    have fe : ∀ X, PI H.length H ((J1 ++ X).set (H.length + 2) (.cells (ge + 1) 1 false (ints (r0.errs ++ [d1])))) d3 n1 (r0.errs ++ [d1]) r0.pop [] (ge + 1) gp 0 := fun X => (hI2.app X).setE _ _
    have kp2 : ∀ X Y Z, (((J1 ++ X).set (H.length + 2) Y) ++ Z)[H.length + 3]? = _ := fun X Y Z => get_old (kp X Y) Z
    by_cases hc : d1 = 0 ∧ o.k = 2
    · obtain ⟨rfl, hk⟩ := hc
      rw [if_pos ⟨rfl, hk⟩] at hst
      subst hst
      repeat' first | simp (disch := first | with_reducible assumption | omega) only [go_sem, Bool.true_and, Bool.and_true, Bool.and_self, Bool.false_and, Bool.and_false, Bool.true_or, Bool.or_true, Bool.false_or, Bool.or_false, ↓reduceIte, Nat.reduceEqDiff, Nat.reduceAdd, Nat.reduceMul, Nat.reduceSub, Nat.reduceBEq, Nat.reduceLeDiff, Nat.reduceLT, Nat.reduceMod, Nat.reduceDiv, Int.reduceToNat, Int.reducePow, Int.reduceMul, Int.reduceAdd, Int.reduceSub, Int.reduceLE, Int.reduceLT, Int.reduceNeg, Int.reduceDiv, Int.reduceMod, Int.reduceEq, Int.reduceBEq, Int.reduceBNe, f8, f8b, f8r0, f8r1, f8r2, f8r3, f8r4, f8r5, f8r6, f8r7, f8r8, f8r9, f8r10, f8r11, f8r13, f8r14, f8r16, hIe, get_old hIe, hIp, te, se, le, tp, sp, lp, n1', n2', kb, kp, kp2, hk] | (refine BrW.of (fun hb => ?_) (fun hb => ?_) <;> (have hb' := hb; try simp only [decide_eq_true_eq, decide_eq_false_iff_not, beq_iff_eq, bne_iff_ne, beq_eq_false_iff_ne, bne_eq_false_iff_eq, Bool.not_eq_true', Bool.not_eq_false', Bool.not_eq_true, Bool.not_eq_false, Bool.and_eq_true, Bool.or_eq_true, Bool.and_eq_false_iff, Bool.or_eq_false_iff, Int.not_lt, Int.not_le, ne_eq, gt_iff_lt, ge_iff_le] at hb') <;> (try (exfalso; omega))) | (refine altW.of ?_ ?_)
      all_goals first | (exfalso; omega) | skip
      refine RdW.keep [5, 6, 7, 8, 16, 17, 18] (ops.length - (i + 1)) (by omega) ?_
      simp (disch := first | with_reducible assumption | omega) only [go_sem, Bool.true_and, Bool.and_true, Bool.and_self, Bool.false_and, Bool.and_false, Bool.true_or, Bool.or_true, Bool.false_or, Bool.or_false, ↓reduceIte, Nat.reduceEqDiff, Nat.reduceAdd, Nat.reduceMul, Nat.reduceSub, Nat.reduceBEq, Nat.reduceLeDiff, Nat.reduceLT, Nat.reduceMod, Nat.reduceDiv, Int.reduceToNat, Int.reducePow, Int.reduceMul, Int.reduceAdd, Int.reduceSub, Int.reduceLE, Int.reduceLT, Int.reduceNeg, Int.reduceDiv, Int.reduceMod, Int.reduceEq, Int.reduceBEq, Int.reduceBNe]
      exact ⟨i + 1, n1, ge + 1, gp + 1, by rw [hr1]; simp, by rw [hr1]; exact ((fe _).app _).setP _ _, by omega, by omega, rfl⟩
    · rw [if_neg hc] at hst
      subst hst
      by_cases hc1 : d1 = 0
      · subst hc1
        have hk : ¬ o.k = 2 := fun h => hc ⟨rfl, h⟩
        have hk' : (o.k == 2) = false := by simpa using hk
        clear hc
        repeat' first | simp (disch := first | with_reducible assumption | omega) only [go_sem, Bool.true_and, Bool.and_true, Bool.and_self, Bool.false_and, Bool.and_false, Bool.true_or, Bool.or_true, Bool.false_or, Bool.or_false, ↓reduceIte, Nat.reduceEqDiff, Nat.reduceAdd, Nat.reduceMul, Nat.reduceSub, Nat.reduceBEq, Nat.reduceLeDiff, Nat.reduceLT, Nat.reduceMod, Nat.reduceDiv, Int.reduceToNat, Int.reducePow, Int.reduceMul, Int.reduceAdd, Int.reduceSub, Int.reduceLE, Int.reduceLT, Int.reduceNeg, Int.reduceDiv, Int.reduceMod, Int.reduceEq, Int.reduceBEq, Int.reduceBNe, f8, f8b, f8r0, f8r1, f8r2, f8r3, f8r4, f8r5, f8r6, f8r7, f8r8, f8r9, f8r10, f8r11, f8r13, f8r14, f8r16, hIe, get_old hIe, hIp, te, se, le, tp, sp, lp, n1', n2', kb, kp, kp2, hk'] | (refine BrW.of (fun hb => ?_) (fun hb => ?_) <;> (have hb' := hb; try simp only [decide_eq_true_eq, decide_eq_false_iff_not, beq_iff_eq, bne_iff_ne, beq_eq_false_iff_ne, bne_eq_false_iff_eq, Bool.not_eq_true', Bool.not_eq_false', Bool.not_eq_true, Bool.not_eq_false, Bool.and_eq_true, Bool.or_eq_true, Bool.and_eq_false_iff, Bool.or_eq_false_iff, Int.not_lt, Int.not_le, ne_eq, gt_iff_lt, ge_iff_le] at hb') <;> (try (exfalso; omega))) | (refine altW.of ?_ ?_)
        all_goals first | (exfalso; omega) | skip
        refine RdW.keep [5, 6, 7, 8, 16, 17, 18] (ops.length - (i + 1)) (by omega) ?_
        simp (disch := first | with_reducible assumption | omega) only [go_sem, Bool.true_and, Bool.and_true, Bool.and_self, Bool.false_and, Bool.and_false, Bool.true_or, Bool.or_true, Bool.false_or, Bool.or_false, ↓reduceIte, Nat.reduceEqDiff, Nat.reduceAdd, Nat.reduceMul, Nat.reduceSub, Nat.reduceBEq, Nat.reduceLeDiff, Nat.reduceLT, Nat.reduceMod, Nat.reduceDiv, Int.reduceToNat, Int.reducePow, Int.reduceMul, Int.reduceAdd, Int.reduceSub, Int.reduceLE, Int.reduceLT, Int.reduceNeg, Int.reduceDiv, Int.reduceMod, Int.reduceEq, Int.reduceBEq, Int.reduceBNe]
        exact ⟨i + 1, n1, ge + 1, gp, by rw [hr1]; simp, by rw [hr1]; exact fe _, by omega, by omega, rfl⟩
      · have hk' : (d1 == 0) = false := by simpa using hc1
        clear hc
        repeat' first | simp (disch := first | with_reducible assumption | omega) only [go_sem, Bool.true_and, Bool.and_true, Bool.and_self, Bool.false_and, Bool.and_false, Bool.true_or, Bool.or_true, Bool.false_or, Bool.or_false, ↓reduceIte, Nat.reduceEqDiff, Nat.reduceAdd, Nat.reduceMul, Nat.reduceSub, Nat.reduceBEq, Nat.reduceLeDiff, Nat.reduceLT, Nat.reduceMod, Nat.reduceDiv, Int.reduceToNat, Int.reducePow, Int.reduceMul, Int.reduceAdd, Int.reduceSub, Int.reduceLE, Int.reduceLT, Int.reduceNeg, Int.reduceDiv, Int.reduceMod, Int.reduceEq, Int.reduceBEq, Int.reduceBNe, f8, f8b, f8r0, f8r1, f8r2, f8r3, f8r4, f8r5, f8r6, f8r7, f8r8, f8r9, f8r10, f8r11, f8r13, f8r14, f8r16, hIe, get_old hIe, hIp, te, se, le, tp, sp, lp, n1', n2', kb, kp, kp2, hk'] | (refine BrW.of (fun hb => ?_) (fun hb => ?_) <;> (have hb' := hb; try simp only [decide_eq_true_eq, decide_eq_false_iff_not, beq_iff_eq, bne_iff_ne, beq_eq_false_iff_ne, bne_eq_false_iff_eq, Bool.not_eq_true', Bool.not_eq_false', Bool.not_eq_true, Bool.not_eq_false, Bool.and_eq_true, Bool.or_eq_true, Bool.and_eq_false_iff, Bool.or_eq_false_iff, Int.not_lt, Int.not_le, ne_eq, gt_iff_lt, ge_iff_le] at hb') <;> (try (exfalso; omega))) | (refine altW.of ?_ ?_)
        all_goals first | (exfalso; omega) | skip
        refine RdW.keep [5, 6, 7, 8, 16, 17, 18] (ops.length - (i + 1)) (by omega) ?_
        simp (disch := first | with_reducible assumption | omega) only [go_sem, Bool.true_and, Bool.and_true, Bool.and_self, Bool.false_and, Bool.and_false, Bool.true_or, Bool.or_true, Bool.false_or, Bool.or_false, ↓reduceIte, Nat.reduceEqDiff, Nat.reduceAdd, Nat.reduceMul, Nat.reduceSub, Nat.reduceBEq, Nat.reduceLeDiff, Nat.reduceLT, Nat.reduceMod, Nat.reduceDiv, Int.reduceToNat, Int.reducePow, Int.reduceMul, Int.reduceAdd, Int.reduceSub, Int.reduceLE, Int.reduceLT, Int.reduceNeg, Int.reduceDiv, Int.reduceMod, Int.reduceEq, Int.reduceBEq, Int.reduceBNe]
        exact ⟨i + 1, n1, ge + 1, gp, by rw [hr1]; simp, by rw [hr1]; exact fe _, by omega, by omega, rfl⟩
  · obtain rfl : i = ops.length := by omega
    rw [List.take_length] at *
    generalize runR ops = R at *
    repeat' first | simp (disch := first | with_reducible assumption | omega) only [go_sem, Bool.true_and, Bool.and_true, Bool.and_self, Bool.false_and, Bool.and_false, Bool.true_or, Bool.or_true, Bool.false_or, Bool.or_false, ↓reduceIte, Nat.reduceEqDiff, Nat.reduceAdd, Nat.reduceMul, Nat.reduceSub, Nat.reduceBEq, Nat.reduceLeDiff, Nat.reduceLT, Nat.reduceMod, Nat.reduceDiv, Int.reduceToNat, Int.reducePow, Int.reduceMul, Int.reduceAdd, Int.reduceSub, Int.reduceLE, Int.reduceLT, Int.reduceNeg, Int.reduceDiv, Int.reduceMod, Int.reduceEq, Int.reduceBEq, Int.reduceBNe, f8, f8b, f8r0, f8r1, f8r2, f8r3, f8r4, f8r5, f8r6, f8r7, f8r8, f8r9, f8r10, f8r11, f8r13, f8r14, f8r16, f8l0, f8, f8b, f8r0, f8r1, f8r2, f8r3, f8r4, f8r5, f8r6, f8r7, f8r8, f8r9, f8r10, f8r11, f8r13, f8r14, f8r16, hkoJ] | (refine BrW.of (fun hb => ?_) (fun hb => ?_) <;> (have hb' := hb; try simp only [decide_eq_true_eq, decide_eq_false_iff_not, beq_iff_eq, bne_iff_ne, beq_eq_false_iff_ne, bne_eq_false_iff_eq, Bool.not_eq_true', Bool.not_eq_false', Bool.not_eq_true, Bool.not_eq_false, Bool.and_eq_true, Bool.or_eq_true, Bool.and_eq_false_iff, Bool.or_eq_false_iff, Int.not_lt, Int.not_le, ne_eq, gt_iff_lt, ge_iff_le] at hb') <;> (try (exfalso; omega))) | (refine altW.of ?_ ?_)
    refine loopW.of (by decide) (fun m e J => ∃ (t : List It) (n gl : Nat) (left : List Int), e = [(5, .pointer (some ⟨H.length + 1, 0, some 1⟩)), (6, slv (H.length + 2) 0 ge R.errs.length R.errs.length), (7, slv (H.length + 3) 0 gp R.pop.length R.pop.length), (8, slv (H.length + 4) 0 gl left.length left.length)] ∧
      PI H.length H J t n R.errs R.pop left ge gp gl ∧ left ++ t.map (·.i) = R.s.map (·.i) ∧ n ≤ ops.length ∧ left.length + n ≤ ops.length ∧ m = n) n ⟨R.s, n, 0, [], rfl, hI, rfl, by omega, by simp; omega, rfl⟩ ?_
    clear hI hP0 hkoJ o3
    rintro n1 e J ⟨t, _, gl, left, rfl, hI, hl, hn1, hn2, rfl⟩
    obtain ⟨L, m, c, hS, hM, hA⟩ := hI.hp
    cases t with
    | nil =>
      have hn0 := hA.nil.1 rfl
      have hle := le_of (by have := hI.len; omega) hI.old
      have hIl := hI.l
      have hC := Clip_spec (H.length + 4) gl left.length left.length (ints left) J hIl (Nat.le_refl _) (by rw [ints_length]; exact Nat.le_refl _) (by omega)
      have hE := IsT.of (A := fun _ => True) (c := R.errs.length) trivial (Ints.new J _ _ false R.errs hI.e) (Nat.le_refl _)
      have hP := IsT.of (A := fun _ => True) (c := R.pop.length) trivial (Ints.new J _ _ false R.pop hI.p) (Nat.le_refl _)
      have hL := IsT.of (A := fun _ => True) (c := left.length) trivial (Ints.new J _ _ false left hI.l) (Nat.le_refl _)
      have hl : left = R.s.map (·.i) := by simpa using hl
      rw [hl] at hL
      subst hn0
      rcases hS with ⟨q, g, h1, hQ⟩ | ⟨_, h2, _⟩
      · have fl := flI_len L
        have hq1 := hQ.hB
        have hq2 := hQ.hq
        repeat' first | simp (disch := first | with_reducible assumption | omega) only [go_sem, Bool.true_and, Bool.and_true, Bool.and_self, Bool.false_and, Bool.and_false, Bool.true_or, Bool.or_true, Bool.false_or, Bool.or_false, ↓reduceIte, Nat.reduceEqDiff, Nat.reduceAdd, Nat.reduceMul, Nat.reduceSub, Nat.reduceBEq, Nat.reduceLeDiff, Nat.reduceLT, Nat.reduceMod, Nat.reduceDiv, Int.reduceToNat, Int.reducePow, Int.reduceMul, Int.reduceAdd, Int.reduceSub, Int.reduceLE, Int.reduceLT, Int.reduceNeg, Int.reduceDiv, Int.reduceMod, Int.reduceEq, Int.reduceBEq, Int.reduceBNe, f8, f8b, f8r0, f8r1, f8r2, f8r3, f8r4, f8r5, f8r6, f8r7, f8r8, f8r9, f8r10, f8r11, f8r13, f8r14, f8r16, f8l1, f8, f8b, f8r0, f8r1, f8r2, f8r3, f8r4, f8r5, f8r6, f8r7, f8r8, f8r9, f8r10, f8r11, f8r13, f8r14, f8r16, hq1, hq2, fl] | (refine BrW.of (fun hb => ?_) (fun hb => ?_) <;> (have hb' := hb; try simp only [decide_eq_true_eq, decide_eq_false_iff_not, beq_iff_eq, bne_iff_ne, beq_eq_false_iff_ne, bne_eq_false_iff_eq, Bool.not_eq_true', Bool.not_eq_false', Bool.not_eq_true, Bool.not_eq_false, Bool.and_eq_true, Bool.or_eq_true, Bool.and_eq_false_iff, Bool.or_eq_false_iff, Int.not_lt, Int.not_le, ne_eq, gt_iff_lt, ge_iff_le] at hb') <;> (try (exfalso; omega))) | (refine altW.of ?_ ?_) | (refine .of (hC.mono ?_); rintro v J2 ⟨rfl, rfl⟩)
        all_goals first | (exfalso; omega) | skip
        rw [hl]
        exact .here ⟨_, _, _, rfl, hle, hE, hP, hL⟩
      · repeat' first | simp (disch := first | with_reducible assumption | omega) only [go_sem, Bool.true_and, Bool.and_true, Bool.and_self, Bool.false_and, Bool.and_false, Bool.true_or, Bool.or_true, Bool.false_or, Bool.or_false, ↓reduceIte, Nat.reduceEqDiff, Nat.reduceAdd, Nat.reduceMul, Nat.reduceSub, Nat.reduceBEq, Nat.reduceLeDiff, Nat.reduceLT, Nat.reduceMod, Nat.reduceDiv, Int.reduceToNat, Int.reducePow, Int.reduceMul, Int.reduceAdd, Int.reduceSub, Int.reduceLE, Int.reduceLT, Int.reduceNeg, Int.reduceDiv, Int.reduceMod, Int.reduceEq, Int.reduceBEq, Int.reduceBNe, f8, f8b, f8r0, f8r1, f8r2, f8r3, f8r4, f8r5, f8r6, f8r7, f8r8, f8r9, f8r10, f8r11, f8r13, f8r14, f8r16, f8l1, f8, f8b, f8r0, f8r1, f8r2, f8r3, f8r4, f8r5, f8r6, f8r7, f8r8, f8r9, f8r10, f8r11, f8r13, f8r14, f8r16, h2] | (refine BrW.of (fun hb => ?_) (fun hb => ?_) <;> (have hb' := hb; try simp only [decide_eq_true_eq, decide_eq_false_iff_not, beq_iff_eq, bne_iff_ne, beq_eq_false_iff_ne, bne_eq_false_iff_eq, Bool.not_eq_true', Bool.not_eq_false', Bool.not_eq_true, Bool.not_eq_false, Bool.and_eq_true, Bool.or_eq_true, Bool.and_eq_false_iff, Bool.or_eq_false_iff, Int.not_lt, Int.not_le, ne_eq, gt_iff_lt, ge_iff_le] at hb') <;> (try (exfalso; omega))) | (refine altW.of ?_ ?_) | (refine .of (hC.mono ?_); rintro v J2 ⟨rfl, rfl⟩)
        all_goals first | (exfalso; omega) | skip
        rw [hl]
        exact .here ⟨_, _, _, rfl, hle, hE, hP, hL⟩
    | cons x t =>
      obtain ⟨hn0, _⟩ := hA.head
      obtain ⟨q, g, h1, hQ⟩ := hS.full hn0
      have fl := flI_len L
      have hq1 := hQ.hB
      have hq2 := hQ.hq
      have hT := do_out H.length H J x t n1 R.errs R.pop left ge gp gl hI (by omega)
      have hT : ACallK Try.prog 22 [.pointer (some ⟨H.length + 1, 0, some 1⟩), .int .i64 0] _ _ := hT
      clear hS hM hA
      repeat' first | simp (disch := first | with_reducible assumption | omega) only [go_sem, Bool.true_and, Bool.and_true, Bool.and_self, Bool.false_and, Bool.and_false, Bool.true_or, Bool.or_true, Bool.false_or, Bool.or_false, ↓reduceIte, Nat.reduceEqDiff, Nat.reduceAdd, Nat.reduceMul, Nat.reduceSub, Nat.reduceBEq, Nat.reduceLeDiff, Nat.reduceLT, Nat.reduceMod, Nat.reduceDiv, Int.reduceToNat, Int.reducePow, Int.reduceMul, Int.reduceAdd, Int.reduceSub, Int.reduceLE, Int.reduceLT, Int.reduceNeg, Int.reduceDiv, Int.reduceMod, Int.reduceEq, Int.reduceBEq, Int.reduceBNe, f8, f8b, f8r0, f8r1, f8r2, f8r3, f8r4, f8r5, f8r6, f8r7, f8r8, f8r9, f8r10, f8r11, f8r13, f8r14, f8r16, f8l1, hq1, hq2, fl] | (refine BrW.of (fun hb => ?_) (fun hb => ?_) <;> (have hb' := hb; try simp only [decide_eq_true_eq, decide_eq_false_iff_not, beq_iff_eq, bne_iff_ne, beq_eq_false_iff_ne, bne_eq_false_iff_eq, Bool.not_eq_true', Bool.not_eq_false', Bool.not_eq_true, Bool.not_eq_false, Bool.and_eq_true, Bool.or_eq_true, Bool.and_eq_false_iff, Bool.or_eq_false_iff, Int.not_lt, Int.not_le, ne_eq, gt_iff_lt, ge_iff_le] at hb') <;> (try (exfalso; omega))) | (refine altW.of ?_ ?_)
      all_goals first | (exfalso; omega) | skip
      refine .of (hT.mono ?_)
      rintro v J1 ⟨rfl, n2, rfl, hI1⟩
      have hIl := hI1.l
      have tl := ints_tk left
      have sl := ints_snoc left x.i
      have ll := ints_length left
      have hni : ¬ left.length + 1 ≤ left.length := by omega
      repeat' first | simp (disch := first | with_reducible assumption | omega) only [go_sem, Bool.true_and, Bool.and_true, Bool.and_self, Bool.false_and, Bool.and_false, Bool.true_or, Bool.or_true, Bool.false_or, Bool.or_false, ↓reduceIte, Nat.reduceEqDiff, Nat.reduceAdd, Nat.reduceMul, Nat.reduceSub, Nat.reduceBEq, Nat.reduceLeDiff, Nat.reduceLT, Nat.reduceMod, Nat.reduceDiv, Int.reduceToNat, Int.reducePow, Int.reduceMul, Int.reduceAdd, Int.reduceSub, Int.reduceLE, Int.reduceLT, Int.reduceNeg, Int.reduceDiv, Int.reduceMod, Int.reduceEq, Int.reduceBEq, Int.reduceBNe, f8, f8b, f8r0, f8r1, f8r2, f8r3, f8r4, f8r5, f8r6, f8r7, f8r8, f8r9, f8r10, f8r11, f8r13, f8r14, f8r16, f8l1, It.cells, hIl, get_old hIl, tl, sl, ll, hni] | (refine BrW.of (fun hb => ?_) (fun hb => ?_) <;> (have hb' := hb; try simp only [decide_eq_true_eq, decide_eq_false_iff_not, beq_iff_eq, bne_iff_ne, beq_eq_false_iff_ne, bne_eq_false_iff_eq, Bool.not_eq_true', Bool.not_eq_false', Bool.not_eq_true, Bool.not_eq_false, Bool.and_eq_true, Bool.or_eq_true, Bool.and_eq_false_iff, Bool.or_eq_false_iff, Int.not_lt, Int.not_le, ne_eq, gt_iff_lt, ge_iff_le] at hb') <;> (try (exfalso; omega))) | (refine altW.of ?_ ?_)
      all_goals first | (exfalso; omega) | skip
      refine RdW.keep [5, 6, 7, 8] n2 (by omega) ?_
      simp (disch := first | with_reducible assumption | omega) only [go_sem, Bool.true_and, Bool.and_true, Bool.and_self, Bool.false_and, Bool.and_false, Bool.true_or, Bool.or_true, Bool.false_or, Bool.or_false, ↓reduceIte, Nat.reduceEqDiff, Nat.reduceAdd, Nat.reduceMul, Nat.reduceSub, Nat.reduceBEq, Nat.reduceLeDiff, Nat.reduceLT, Nat.reduceMod, Nat.reduceDiv, Int.reduceToNat, Int.reducePow, Int.reduceMul, Int.reduceAdd, Int.reduceSub, Int.reduceLE, Int.reduceLT, Int.reduceNeg, Int.reduceDiv, Int.reduceMod, Int.reduceEq, Int.reduceBEq, Int.reduceBNe]
      exact ⟨t, n2, gl + 1, left ++ [x.i], by simp, (hI1.app _).setL _ _, by rw [← hl]; simp, by omega, by simp; omega, rfl⟩
end Go.Proofs.Ytjdmpkaiijcchaa
