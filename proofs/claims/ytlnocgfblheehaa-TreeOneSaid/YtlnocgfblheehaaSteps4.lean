import Derived.Test.YtlnocgfblheehaaSteps3
import Derived.Test.YtlnocgfblheehaaStepsF
set_option linter.unusedSimpArgs false
set_option linter.unusedVariables false
set_option maxHeartbeats 2000000
set_option maxRecDepth 20000
namespace Go.Proofs.Ytlnocgfblheehaa
open Go Go.Am
attribute [local irreducible] opsW Ww loopW callW drawW outW outDW gW cW BrW bothW vW resW DropW RdW dcallW altW Later.run

theorem part_spec (l : List Nd) (k o g c : Nat) (H : Heap) (hO : Nodes H k o g l) (h : okT l) (q : Nat) (hq : q < l.length) :
    ACallK Try.prog 23 [slv k o g l.length c, .int .i64 q] H (fun v H' => v = (part l q).val ∧ H' = H) := by
  obtain ⟨ro, cs, hk, hcl, hcs⟩ := hO.at'
  have h16 := h.2.1
  have q0 : cs[o + q * 2]? = some (.int .i64 (up l q)) := hcs q hq 0 (by omega)
  have q1 : cs[o + q * 2 + 1]? = some (.int .i64 (wt l q)) := hcs q hq 1 (by omega)
  refine .walkW f23_ok (by simp; decide) (by decide) ?_
  unfold part
  by_cases hu : up l q < 0
  · rw [if_pos hu]
    repeat' first | simp (disch := first | with_reducible assumption | omega) only [go_sem, Bool.true_and, Bool.and_true, Bool.and_self, Bool.false_and, Bool.and_false, Bool.true_or, Bool.or_true, Bool.false_or, Bool.or_false, ↓reduceIte, Nat.reduceEqDiff, Nat.reduceAdd, Nat.reduceMul, Nat.reduceSub, Nat.reduceBEq, Nat.reduceLeDiff, Nat.reduceLT, Nat.reduceMod, Nat.reduceDiv, Int.reduceToNat, Int.reducePow, Int.reduceMul, Int.reduceAdd, Int.reduceSub, Int.reduceLE, Int.reduceLT, Int.reduceNeg, Int.reduceDiv, Int.reduceMod, Int.reduceEq, Int.reduceBEq, Int.reduceBNe, f23, f23b, f23r0, f23r1, f23r2, f23r3, f23r4, f23r5, f23r6, f23r7, f23r8, f23r9, f23r11, hk, get_old hk, q0, q1] | (refine BrW.of (fun hb => ?_) (fun hb => ?_) <;> (have hb' := hb; try simp only [decide_eq_true_eq, decide_eq_false_iff_not, beq_iff_eq, bne_iff_ne, beq_eq_false_iff_ne, bne_eq_false_iff_eq, Bool.not_eq_true', Bool.not_eq_false', Bool.not_eq_true, Bool.not_eq_false, Bool.and_eq_true, Bool.or_eq_true, Bool.and_eq_false_iff, Bool.or_eq_false_iff, Int.not_lt, Int.not_le, ne_eq, gt_iff_lt, ge_iff_le] at hb') <;> (try (exfalso; omega))) | (refine altW.of ?_ ?_)
    all_goals first | (exfalso; omega) | exact .back rfl ⟨rfl, rfl⟩
  · rw [if_neg hu]
    repeat' first | simp (disch := first | with_reducible assumption | omega) only [go_sem, Bool.true_and, Bool.and_true, Bool.and_self, Bool.false_and, Bool.and_false, Bool.true_or, Bool.or_true, Bool.false_or, Bool.or_false, ↓reduceIte, Nat.reduceEqDiff, Nat.reduceAdd, Nat.reduceMul, Nat.reduceSub, Nat.reduceBEq, Nat.reduceLeDiff, Nat.reduceLT, Nat.reduceMod, Nat.reduceDiv, Int.reduceToNat, Int.reducePow, Int.reduceMul, Int.reduceAdd, Int.reduceSub, Int.reduceLE, Int.reduceLT, Int.reduceNeg, Int.reduceDiv, Int.reduceMod, Int.reduceEq, Int.reduceBEq, Int.reduceBNe, f23, f23b, f23r0, f23r1, f23r2, f23r3, f23r4, f23r5, f23r6, f23r7, f23r8, f23r9, f23r11, hk, get_old hk, q0, q1] | (refine BrW.of (fun hb => ?_) (fun hb => ?_) <;> (have hb' := hb; try simp only [decide_eq_true_eq, decide_eq_false_iff_not, beq_iff_eq, bne_iff_ne, beq_eq_false_iff_ne, bne_eq_false_iff_eq, Bool.not_eq_true', Bool.not_eq_false', Bool.not_eq_true, Bool.not_eq_false, Bool.and_eq_true, Bool.or_eq_true, Bool.and_eq_false_iff, Bool.or_eq_false_iff, Int.not_lt, Int.not_le, ne_eq, gt_iff_lt, ge_iff_le] at hb') <;> (try (exfalso; omega))) | (refine altW.of ?_ ?_)
    all_goals first | (exfalso; omega) | skip
    refine loopW.of (by decide) (fun m e J => ∃ (i : Nat) (x : Heap), e = [(0, slv k o g l.length c), (1, .int .i64 q), (4, .pointer (some ⟨H.length, 0, some 1⟩)), (5, .int .i64 (sumW l (up l q) i)), (15, slv k o g l.length c), (16, .int .i64 l.length), (17, .int .i64 i)] ∧ J = H ++ (.cells 0 0 false [.int .i64 0, .int .i64 0] :: x) ∧ i ≤ l.length ∧ m = l.length - i) l.length ⟨0, [], rfl, rfl, by omega, rfl⟩ ?_
    rintro m e J ⟨i, x, rfl, rfl, hi, rfl⟩
    have hsb := sumW_bound h (up l q) i hi
    by_cases hlt : i < l.length
    · have e0 : cs[o + i * 2]? = some (.int .i64 (up l i)) := hcs i hlt 0 (by omega)
      have e1 : cs[o + i * 2 + 1]? = some (.int .i64 (wt l i)) := hcs i hlt 1 (by omega)
      have hw := (h.2.2 i hlt).1
      have hnx : sumW l (up l q) (i + 1) = sumW l (up l q) i + (if up l i = up l q then wt l i else 0) := rfl
      clear hcs hO
      generalize sumW l (up l q) i = s at *
      generalize hS1 : sumW l (up l q) (i + 1) = s' at *
      generalize up l i = u at *
      generalize wt l i = w at *
      generalize up l q = uq at *
      repeat' first | simp (disch := first | with_reducible assumption | omega) only [go_sem, Bool.true_and, Bool.and_true, Bool.and_self, Bool.false_and, Bool.and_false, Bool.true_or, Bool.or_true, Bool.false_or, Bool.or_false, ↓reduceIte, Nat.reduceEqDiff, Nat.reduceAdd, Nat.reduceMul, Nat.reduceSub, Nat.reduceBEq, Nat.reduceLeDiff, Nat.reduceLT, Nat.reduceMod, Nat.reduceDiv, Int.reduceToNat, Int.reducePow, Int.reduceMul, Int.reduceAdd, Int.reduceSub, Int.reduceLE, Int.reduceLT, Int.reduceNeg, Int.reduceDiv, Int.reduceMod, Int.reduceEq, Int.reduceBEq, Int.reduceBNe, f23, f23b, f23r0, f23r1, f23r2, f23r3, f23r4, f23r5, f23r6, f23r7, f23r8, f23r9, f23r11, f23l0, hk, get_old hk, e0, e1, q0, q1] | (refine BrW.of (fun hb => ?_) (fun hb => ?_) <;> (have hb' := hb; try simp only [decide_eq_true_eq, decide_eq_false_iff_not, beq_iff_eq, bne_iff_ne, beq_eq_false_iff_ne, bne_eq_false_iff_eq, Bool.not_eq_true', Bool.not_eq_false', Bool.not_eq_true, Bool.not_eq_false, Bool.and_eq_true, Bool.or_eq_true, Bool.and_eq_false_iff, Bool.or_eq_false_iff, Int.not_lt, Int.not_le, ne_eq, gt_iff_lt, ge_iff_le] at hb') <;> (try (exfalso; omega))) | (refine altW.of ?_ ?_)
      all_goals first | (exfalso; omega) | skip
      · rw [if_pos (by assumption)] at hnx
        refine RdW.keep [0, 1, 4, 5, 15, 16, 17] (l.length - (i + 1)) (by omega) ?_
        simp (disch := first | with_reducible assumption | omega) only [go_sem, Bool.true_and, Bool.and_true, Bool.and_self, Bool.false_and, Bool.and_false, Bool.true_or, Bool.or_true, Bool.false_or, Bool.or_false, ↓reduceIte, Nat.reduceEqDiff, Nat.reduceAdd, Nat.reduceMul, Nat.reduceSub, Nat.reduceBEq, Nat.reduceLeDiff, Nat.reduceLT, Nat.reduceMod, Nat.reduceDiv, Int.reduceToNat, Int.reducePow, Int.reduceMul, Int.reduceAdd, Int.reduceSub, Int.reduceLE, Int.reduceLT, Int.reduceNeg, Int.reduceDiv, Int.reduceMod, Int.reduceEq, Int.reduceBEq, Int.reduceBNe]
        exact ⟨i + 1, _, by rw [hS1, hnx]; rfl, rfl, by omega, rfl⟩
      · rw [if_neg (by assumption), Int.add_zero] at hnx
        refine RdW.keep [0, 1, 4, 5, 15, 16, 17] (l.length - (i + 1)) (by omega) ?_
        simp (disch := first | with_reducible assumption | omega) only [go_sem, Bool.true_and, Bool.and_true, Bool.and_self, Bool.false_and, Bool.and_false, Bool.true_or, Bool.or_true, Bool.false_or, Bool.or_false, ↓reduceIte, Nat.reduceEqDiff, Nat.reduceAdd, Nat.reduceMul, Nat.reduceSub, Nat.reduceBEq, Nat.reduceLeDiff, Nat.reduceLT, Nat.reduceMod, Nat.reduceDiv, Int.reduceToNat, Int.reducePow, Int.reduceMul, Int.reduceAdd, Int.reduceSub, Int.reduceLE, Int.reduceLT, Int.reduceNeg, Int.reduceDiv, Int.reduceMod, Int.reduceEq, Int.reduceBEq, Int.reduceBNe]
        exact ⟨i + 1, _, by rw [hS1, hnx]; rfl, rfl, by omega, rfl⟩
    · obtain rfl : i = l.length := by omega
      repeat' first | simp (disch := first | with_reducible assumption | omega) only [go_sem, Bool.true_and, Bool.and_true, Bool.and_self, Bool.false_and, Bool.and_false, Bool.true_or, Bool.or_true, Bool.false_or, Bool.or_false, ↓reduceIte, Nat.reduceEqDiff, Nat.reduceAdd, Nat.reduceMul, Nat.reduceSub, Nat.reduceBEq, Nat.reduceLeDiff, Nat.reduceLT, Nat.reduceMod, Nat.reduceDiv, Int.reduceToNat, Int.reducePow, Int.reduceMul, Int.reduceAdd, Int.reduceSub, Int.reduceLE, Int.reduceLT, Int.reduceNeg, Int.reduceDiv, Int.reduceMod, Int.reduceEq, Int.reduceBEq, Int.reduceBNe, f23, f23b, f23r0, f23r1, f23r2, f23r3, f23r4, f23r5, f23r6, f23r7, f23r8, f23r9, f23r11, f23l0, f23, f23b, f23r0, f23r1, f23r2, f23r3, f23r4, f23r5, f23r6, f23r7, f23r8, f23r9, f23r11, hk, get_old hk, q0, q1] | (refine BrW.of (fun hb => ?_) (fun hb => ?_) <;> (have hb' := hb; try simp only [decide_eq_true_eq, decide_eq_false_iff_not, beq_iff_eq, bne_iff_ne, beq_eq_false_iff_ne, bne_eq_false_iff_eq, Bool.not_eq_true', Bool.not_eq_false', Bool.not_eq_true, Bool.not_eq_false, Bool.and_eq_true, Bool.or_eq_true, Bool.and_eq_false_iff, Bool.or_eq_false_iff, Int.not_lt, Int.not_le, ne_eq, gt_iff_lt, ge_iff_le] at hb') <;> (try (exfalso; omega))) | (refine altW.of ?_ ?_)
      exact .back rfl ⟨rfl, rfl⟩
theorem shF_cons (l : List Nd) (a : F) (x : Int) (r : List Int) : shF l a (x :: r) = if (mulF a (part l x.toNat)).2 = 0 then shF l (mulF a (part l x.toNat)).1 r else (⟨0, 0⟩, (mulF a (part l x.toNat)).2) := rfl
theorem Share_spec (l : List Nd) (k o g c : Nat) (H : Heap) (hO : Nodes H k o g l) (h : okT l) (q : Nat) (hq : q < l.length) :
    ACallK Try.prog 12 [slv k o g l.length c, .int .i64 q] H (fun v H' => v = ansF (share l q) ∧ H' = H) := by
  have h16 := h.2.1
  have hP := fun (X : Heap) => Path_spec l k o g c (H ++ X) (hO.app X) (by omega) q (by omega)
  have hM := fun (G : Heap) (a b : F) => Mul_spec a b G
  refine .walkW f12_ok (by simp; decide) (by decide) ?_
  repeat' first | simp (disch := first | with_reducible assumption | omega) only [go_sem, Bool.true_and, Bool.and_true, Bool.and_self, Bool.false_and, Bool.and_false, Bool.true_or, Bool.or_true, Bool.false_or, Bool.or_false, ↓reduceIte, Nat.reduceEqDiff, Nat.reduceAdd, Nat.reduceMul, Nat.reduceSub, Nat.reduceBEq, Nat.reduceLeDiff, Nat.reduceLT, Nat.reduceMod, Nat.reduceDiv, Int.reduceToNat, Int.reducePow, Int.reduceMul, Int.reduceAdd, Int.reduceSub, Int.reduceLE, Int.reduceLT, Int.reduceNeg, Int.reduceDiv, Int.reduceMod, Int.reduceEq, Int.reduceBEq, Int.reduceBNe, f12, f12b, f12r0, f12r1, f12r2, f12r3, f12r4, f12r5, f12r6, f12r7, f12r8, f12r9, f12r10, f12r11, f12r12, f12r13, f12r14, f12r16] | (refine BrW.of (fun hb => ?_) (fun hb => ?_) <;> (have hb' := hb; try simp only [decide_eq_true_eq, decide_eq_false_iff_not, beq_iff_eq, bne_iff_ne, beq_eq_false_iff_ne, bne_eq_false_iff_eq, Bool.not_eq_true', Bool.not_eq_false', Bool.not_eq_true, Bool.not_eq_false, Bool.and_eq_true, Bool.or_eq_true, Bool.and_eq_false_iff, Bool.or_eq_false_iff, Int.not_lt, Int.not_le, ne_eq, gt_iff_lt, ge_iff_le] at hb') <;> (try (exfalso; omega))) | (refine altW.of ?_ ?_)
  refine .of ((hP _).mono ?_)
  rintro v J ⟨X, u, e, rfl, rfl, he, _, hX⟩
  obtain rfl := he.2 ⟨h, by omega, by omega⟩
  obtain ⟨kx, gx, rfl, hx⟩ := hX rfl
  rw [Int.toNat_natCast] at hx ⊢
  clear hP he
  have hway := way_way h hq
  have hrng := way_range h hq
  have hple := hway.le
  have hw : ∀ (R : AObj) (t : Heap), (H ++ R :: (X ++ t))[H.length + 1 + kx]? = some (.cells gx 1 false (ints (way l q))) := fun R t => by
    have := get_old (show (H ++ R :: X)[H.length + (1 + kx)]? = _ from by rw [get_new, Nat.add_comm 1 kx, List.getElem?_cons_succ]; exact hx) t
    rw [List.append_assoc] at this
    rw [Nat.add_assoc]
    exact this
  clear hx hX
  have hsh : share l q = shF l one (way l q) := rfl
  generalize hp : way l q = p at *
  obtain ⟨ro, cs, hk, hcl, hcs⟩ := hO.at'
  repeat' first | simp (disch := first | with_reducible assumption | omega) only [go_sem, Bool.true_and, Bool.and_true, Bool.and_self, Bool.false_and, Bool.and_false, Bool.true_or, Bool.or_true, Bool.false_or, Bool.or_false, ↓reduceIte, Nat.reduceEqDiff, Nat.reduceAdd, Nat.reduceMul, Nat.reduceSub, Nat.reduceBEq, Nat.reduceLeDiff, Nat.reduceLT, Nat.reduceMod, Nat.reduceDiv, Int.reduceToNat, Int.reducePow, Int.reduceMul, Int.reduceAdd, Int.reduceSub, Int.reduceLE, Int.reduceLT, Int.reduceNeg, Int.reduceDiv, Int.reduceMod, Int.reduceEq, Int.reduceBEq, Int.reduceBNe, f12, f12b, f12r0, f12r1, f12r2, f12r3, f12r4, f12r5, f12r6, f12r7, f12r8, f12r9, f12r10, f12r11, f12r12, f12r13, f12r14, f12r16, hw] | (refine BrW.of (fun hb => ?_) (fun hb => ?_) <;> (have hb' := hb; try simp only [decide_eq_true_eq, decide_eq_false_iff_not, beq_iff_eq, bne_iff_ne, beq_eq_false_iff_ne, bne_eq_false_iff_eq, Bool.not_eq_true', Bool.not_eq_false', Bool.not_eq_true, Bool.not_eq_false, Bool.and_eq_true, Bool.or_eq_true, Bool.and_eq_false_iff, Bool.or_eq_false_iff, Int.not_lt, Int.not_le, ne_eq, gt_iff_lt, ge_iff_le] at hb') <;> (try (exfalso; omega))) | (refine altW.of ?_ ?_)
  refine loopW.of (by decide) (fun m e J => ∃ (i : Nat) (x : Heap) (a : F), e = [(0, slv k o g l.length c), (4, .pointer (some ⟨H.length, 0, some 1⟩)), (8, .pointer (some ⟨H.length + (X.length + 1), 0, some 1⟩)), (24, slv (H.length + 1 + kx) 0 gx p.length p.length), (25, .int .i64 p.length), (26, .int .i64 i)] ∧
    J = H ++ (.cells 0 0 false [.int .i64 0, .int .i64 0] :: (X ++ (.cells 0 0 false [.int .i64 a.num, .int .i64 a.den] :: x))) ∧ i ≤ p.length ∧ m = p.length - i ∧ shF l one p = shF l a (p.drop i)) p.length ⟨0, [], one, rfl, rfl, by omega, rfl, rfl⟩ ?_
  rintro m e J ⟨i, x, a, rfl, rfl, hi, rfl, hinv⟩
  by_cases hlt : i < p.length
  · rw [drop_cons 0 p i hlt] at hinv
    have hxr := hrng (p.getD i 0) (by rw [List.getD_eq_getElem?_getD, List.getElem?_eq_getElem hlt]; exact List.getElem_mem _)
    have e0 : (ints p)[i]? = some (.int .i64 (p.getD i 0)) := ints_get p i hlt
    generalize p.getD i 0 = y at *
    obtain ⟨r, rfl⟩ : ∃ r : Nat, y = r := ⟨y.toNat, by omega⟩
    have hil := ints_length p
    have hQ := fun (G : Heap) => part_spec l k o g c (H ++ G) (hO.app G) h r (by omega)
    rw [shF_cons, Int.toNat_natCast] at hinv
    have hMM := fun (G : Heap) => hM G a (part l r)
    clear hM
    generalize part l r = pr at *
    simp only [F.val] at hQ hMM
    by_cases hz : (mulF a pr).2 = 0
    · rw [if_pos hz] at hinv
      rw [show mulF a pr = ((mulF a pr).1, 0) from Prod.ext rfl hz] at hMM
      generalize (mulF a pr).1 = a' at *
      simp only [ansF, F.val] at hMM
      repeat' first | simp (disch := first | with_reducible assumption | omega) only [go_sem, Bool.true_and, Bool.and_true, Bool.and_self, Bool.false_and, Bool.and_false, Bool.true_or, Bool.or_true, Bool.false_or, Bool.or_false, ↓reduceIte, Nat.reduceEqDiff, Nat.reduceAdd, Nat.reduceMul, Nat.reduceSub, Nat.reduceBEq, Nat.reduceLeDiff, Nat.reduceLT, Nat.reduceMod, Nat.reduceDiv, Int.reduceToNat, Int.reducePow, Int.reduceMul, Int.reduceAdd, Int.reduceSub, Int.reduceLE, Int.reduceLT, Int.reduceNeg, Int.reduceDiv, Int.reduceMod, Int.reduceEq, Int.reduceBEq, Int.reduceBNe, f12, f12b, f12r0, f12r1, f12r2, f12r3, f12r4, f12r5, f12r6, f12r7, f12r8, f12r9, f12r10, f12r11, f12r12, f12r13, f12r14, f12r16, f12l0, hw, e0] | (refine BrW.of (fun hb => ?_) (fun hb => ?_) <;> (have hb' := hb; try simp only [decide_eq_true_eq, decide_eq_false_iff_not, beq_iff_eq, bne_iff_ne, beq_eq_false_iff_ne, bne_eq_false_iff_eq, Bool.not_eq_true', Bool.not_eq_false', Bool.not_eq_true, Bool.not_eq_false, Bool.and_eq_true, Bool.or_eq_true, Bool.and_eq_false_iff, Bool.or_eq_false_iff, Int.not_lt, Int.not_le, ne_eq, gt_iff_lt, ge_iff_le] at hb') <;> (try (exfalso; omega))) | (refine altW.of ?_ ?_) | (refine .of ((hQ _).mono ?_); rintro v J ⟨rfl, rfl⟩) | (refine .of ((hMM _).mono ?_); rintro v J ⟨rfl, rfl⟩)
      all_goals
        refine RdW.keep [0, 4, 8, 24, 25, 26] (p.length - (i + 1)) (by omega) ?_
        simp (disch := first | with_reducible assumption | omega) only [go_sem, Bool.true_and, Bool.and_true, Bool.and_self, Bool.false_and, Bool.and_false, Bool.true_or, Bool.or_true, Bool.false_or, Bool.or_false, ↓reduceIte, Nat.reduceEqDiff, Nat.reduceAdd, Nat.reduceMul, Nat.reduceSub, Nat.reduceBEq, Nat.reduceLeDiff, Nat.reduceLT, Nat.reduceMod, Nat.reduceDiv, Int.reduceToNat, Int.reducePow, Int.reduceMul, Int.reduceAdd, Int.reduceSub, Int.reduceLE, Int.reduceLT, Int.reduceNeg, Int.reduceDiv, Int.reduceMod, Int.reduceEq, Int.reduceBEq, Int.reduceBNe]
        exact ⟨i + 1, _, a', rfl, rfl, by omega, rfl, hinv⟩
    · rw [if_neg hz] at hinv
      rw [show mulF a pr = ((mulF a pr).1, (mulF a pr).2) from rfl] at hMM
      generalize (mulF a pr).1 = a' at *
      generalize (mulF a pr).2 = er at *
      simp only [ansF, F.val] at hMM
      repeat' first | simp (disch := first | with_reducible assumption | omega) only [go_sem, Bool.true_and, Bool.and_true, Bool.and_self, Bool.false_and, Bool.and_false, Bool.true_or, Bool.or_true, Bool.false_or, Bool.or_false, ↓reduceIte, Nat.reduceEqDiff, Nat.reduceAdd, Nat.reduceMul, Nat.reduceSub, Nat.reduceBEq, Nat.reduceLeDiff, Nat.reduceLT, Nat.reduceMod, Nat.reduceDiv, Int.reduceToNat, Int.reducePow, Int.reduceMul, Int.reduceAdd, Int.reduceSub, Int.reduceLE, Int.reduceLT, Int.reduceNeg, Int.reduceDiv, Int.reduceMod, Int.reduceEq, Int.reduceBEq, Int.reduceBNe, f12, f12b, f12r0, f12r1, f12r2, f12r3, f12r4, f12r5, f12r6, f12r7, f12r8, f12r9, f12r10, f12r11, f12r12, f12r13, f12r14, f12r16, f12l0, f12, f12b, f12r0, f12r1, f12r2, f12r3, f12r4, f12r5, f12r6, f12r7, f12r8, f12r9, f12r10, f12r11, f12r12, f12r13, f12r14, f12r16, hw, e0] | (refine BrW.of (fun hb => ?_) (fun hb => ?_) <;> (have hb' := hb; try simp only [decide_eq_true_eq, decide_eq_false_iff_not, beq_iff_eq, bne_iff_ne, beq_eq_false_iff_ne, bne_eq_false_iff_eq, Bool.not_eq_true', Bool.not_eq_false', Bool.not_eq_true, Bool.not_eq_false, Bool.and_eq_true, Bool.or_eq_true, Bool.and_eq_false_iff, Bool.or_eq_false_iff, Int.not_lt, Int.not_le, ne_eq, gt_iff_lt, ge_iff_le] at hb') <;> (try (exfalso; omega))) | (refine altW.of ?_ ?_) | (refine .of ((hQ _).mono ?_); rintro v J ⟨rfl, rfl⟩) | (refine .of ((hMM _).mono ?_); rintro v J ⟨rfl, rfl⟩)
      all_goals exact .back rfl ⟨by rw [hsh, hinv]; rfl, rfl⟩
  · obtain rfl : i = p.length := by omega
    rw [List.drop_eq_nil_of_le (by omega)] at hinv
    repeat' first | simp (disch := first | with_reducible assumption | omega) only [go_sem, Bool.true_and, Bool.and_true, Bool.and_self, Bool.false_and, Bool.and_false, Bool.true_or, Bool.or_true, Bool.false_or, Bool.or_false, ↓reduceIte, Nat.reduceEqDiff, Nat.reduceAdd, Nat.reduceMul, Nat.reduceSub, Nat.reduceBEq, Nat.reduceLeDiff, Nat.reduceLT, Nat.reduceMod, Nat.reduceDiv, Int.reduceToNat, Int.reducePow, Int.reduceMul, Int.reduceAdd, Int.reduceSub, Int.reduceLE, Int.reduceLT, Int.reduceNeg, Int.reduceDiv, Int.reduceMod, Int.reduceEq, Int.reduceBEq, Int.reduceBNe, f12, f12b, f12r0, f12r1, f12r2, f12r3, f12r4, f12r5, f12r6, f12r7, f12r8, f12r9, f12r10, f12r11, f12r12, f12r13, f12r14, f12r16, f12l0, f12, f12b, f12r0, f12r1, f12r2, f12r3, f12r4, f12r5, f12r6, f12r7, f12r8, f12r9, f12r10, f12r11, f12r12, f12r13, f12r14, f12r16, hw] | (refine BrW.of (fun hb => ?_) (fun hb => ?_) <;> (have hb' := hb; try simp only [decide_eq_true_eq, decide_eq_false_iff_not, beq_iff_eq, bne_iff_ne, beq_eq_false_iff_ne, bne_eq_false_iff_eq, Bool.not_eq_true', Bool.not_eq_false', Bool.not_eq_true, Bool.not_eq_false, Bool.and_eq_true, Bool.or_eq_true, Bool.and_eq_false_iff, Bool.or_eq_false_iff, Int.not_lt, Int.not_le, ne_eq, gt_iff_lt, ge_iff_le] at hb') <;> (try (exfalso; omega))) | (refine altW.of ?_ ?_)
    exact .back rfl ⟨by rw [hsh, hinv]; rfl, rfl⟩
end Go.Proofs.Ytlnocgfblheehaa
