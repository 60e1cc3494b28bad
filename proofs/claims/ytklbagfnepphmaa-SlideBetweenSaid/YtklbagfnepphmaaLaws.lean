import Derived.Test.YtklbagfnepphmaaSteps3
import Derived.Test.YtklbagfnepphmaaBase
set_option linter.unusedSimpArgs false
set_option linter.unusedVariables false
set_option maxHeartbeats 1000000
set_option maxRecDepth 20000
namespace Go.Proofs.Ytklbagfnepphmaa
open Go Go.Am
attribute [local irreducible] opsW Ww loopW callW drawW outW outDW gW cW BrW bothW vW resW DropW RdW dcallW Later.run

theorem not_wrong {w : Int} {l : List Int} (h : ¬ wrongL w l) : 1 ≤ w ∧ w ≤ 400 ∧ okL l := Classical.byContradiction h
theorem Sum_any (w : Int) (l : List Int) (k o g c : Nat) (H : Heap) (hs : Ints H k o g l) (hl : l.length ≤ 9223372036854775807) :
    ACallK Try.prog 8 [.int .i64 w, slv k o g l.length c] H (fun v H' => ∃ a e, v = .tuple #[a, .int .i64 e] ∧ ∃ X, H' = H ++ X) := by
  by_cases h : wrongL w l
  · exact (Sum_bad w l k o g c H hs hl h).mono fun v H' ⟨h1, h2⟩ => ⟨_, _, h1, [], by rw [h2]; simp⟩
  · obtain ⟨h1, h2, h3⟩ := not_wrong h
    obtain ⟨w, rfl⟩ := Int.eq_ofNat_of_zero_le (show 0 ≤ w by omega)
    exact (Sum_spec w l k o g c H hs (by omega) (by omega) h3).mono fun v H' ⟨g', h1, h2⟩ => ⟨_, _, h1, _, h2⟩
theorem Most_any (w : Int) (l : List Int) (k o g c : Nat) (H : Heap) (hs : Ints H k o g l) (hl : l.length ≤ 9223372036854775807) :
    ACallK Try.prog 9 [.int .i64 w, slv k o g l.length c] H (fun v H' => ∃ a e, v = .tuple #[a, .int .i64 e] ∧ ∃ X, H' = H ++ X) := by
  by_cases h : wrongL w l
  · exact (Most_bad w l k o g c H hs hl h).mono fun v H' ⟨h1, h2⟩ => ⟨_, _, h1, [], by rw [h2]; simp⟩
  · obtain ⟨h1, h2, h3⟩ := not_wrong h
    obtain ⟨w, rfl⟩ := Int.eq_ofNat_of_zero_le (show 0 ≤ w by omega)
    exact (Most_spec w l k o g c H hs (by omega) (by omega) h3).mono fun v H' ⟨g', _, _, h1, h2, _⟩ => ⟨_, _, h1, _, h2⟩

theorem SlideParts_args (H : Heap) (vals : List Value) (h : ArgsOk maxLen H SlidePartsSh vals) : ACallK Try.prog 3 vals H fun v _ => v = .bool true := by
  obtain ⟨_, _, rfl, a1, h⟩ := h.cons
  obtain ⟨_, _, rfl, a2, h⟩ := h.cons
  obtain rfl := h.nil
  obtain ⟨W, rfl, hW⟩ := a1.cell.int_inv
  obtain ⟨k, c, l, rfl, hB, hlc, hs, hok⟩ := ints_of a2
  clear a1 a2 h
  obtain ⟨ro, cs, hk, hcl, hcs⟩ := hs.cell
  simp only [Nat.zero_add] at hcs
  have hkl := hs.lt
  have hB' : l.length ≤ 9223372036854775807 := hB
  refine .walkW f3_ok (by simp; decide) (by decide) ?_
  by_cases hw : wrongL W l
  · repeat' first | simp (disch := first | with_reducible assumption | omega) only [go_sem, Bool.true_and, Bool.and_true, Bool.and_self, Bool.false_and, Bool.and_false, Bool.true_or, Bool.or_true, Bool.false_or, Bool.or_false, ↓reduceIte, Nat.reduceEqDiff, Nat.reduceAdd, Nat.reduceMul, Nat.reduceSub, Nat.reduceBEq, Nat.reduceLeDiff, Nat.reduceLT, Nat.reduceMod, Nat.reduceDiv, Int.reduceToNat, Int.reducePow, Int.reduceMul, Int.reduceAdd, Int.reduceSub, Int.reduceLE, Int.reduceLT, Int.reduceNeg, Int.reduceDiv, Int.reduceMod, Int.reduceEq, Int.reduceBEq, Int.reduceBNe, f3, f3b, f3r0, f3r1, f3r2, f3r3, f3r4, f3r5, f3r6, f3r7, f3r8, f3r9, f3r10, f3r11, f3r12, f3r13, f3r14, f3r15, f3r17, hk, get_old hk] | (refine BrW.of (fun hb => ?_) (fun hb => ?_) <;> (have hb' := hb; try simp only [decide_eq_true_eq, decide_eq_false_iff_not, beq_iff_eq, bne_iff_ne, beq_eq_false_iff_ne, bne_eq_false_iff_eq, Bool.not_eq_true', Bool.not_eq_false', Bool.not_eq_true, Bool.not_eq_false, Bool.and_eq_true, Bool.or_eq_true, Bool.and_eq_false_iff, Bool.or_eq_false_iff, Int.not_lt, Int.not_le, ne_eq, gt_iff_lt, ge_iff_le] at hb') <;> (try (exfalso; omega))) | (refine .of ((alive _).mono ?_); rintro v H ⟨rfl, rfl⟩) | (refine .of ((Sum_bad W l k 0 0 c _ hs hB' hw).mono ?_); rintro v H ⟨rfl, rfl⟩) | (refine .of ((Sum_any _ l k 0 0 c _ hs hB').mono ?_); rintro v _ ⟨x1, x2, rfl, X, rfl⟩; replace hs := hs.app X; replace hk := get_old hk X; generalize H ++ X = H at *) | (refine .of ((Most_bad W l k 0 0 c _ hs hB' hw).mono ?_); rintro v H ⟨rfl, rfl⟩) | (refine .of ((Most_any _ l k 0 0 c _ hs hB').mono ?_); rintro v _ ⟨x1, x2, rfl, X, rfl⟩)
    all_goals exact .here (by (first | with_reducible rfl | (congr 1; first | with_reducible rfl | omega | (rw [Bool.eq_iff_iff]; simp only [decide_eq_true_eq, decide_eq_false_iff_not, beq_iff_eq, bne_iff_ne, beq_eq_false_iff_ne, bne_eq_false_iff_eq, Bool.not_eq_true', Bool.not_eq_false', Bool.not_eq_true, Bool.not_eq_false, Bool.and_eq_true, Bool.or_eq_true, Bool.and_eq_false_iff, Bool.or_eq_false_iff, Int.not_lt, Int.not_le, ne_eq, gt_iff_lt, ge_iff_le, Bool.and_false, Bool.false_and, Bool.or_true, Bool.true_or, Bool.false_eq_true, true_iff, iff_true, false_iff, iff_false, eq_self, not_true_eq_false, not_false_eq_true]; try omega))))
  · obtain ⟨w1, w2, hl⟩ := not_wrong hw
    obtain ⟨w, rfl⟩ := Int.eq_ofNat_of_zero_le (show 0 ≤ W by omega)
    have hs1 := fun H' (hs : Ints H' k 0 0 l) => Sum_spec w l k 0 0 c H' hs (by omega) (by omega) hl
    have hm1 := fun H' (hs : Ints H' k 0 0 l) => Most_spec w l k 0 0 c H' hs (by omega) (by omega) hl
    by_cases hw2 : 2 * w ≤ 400
    · have hs2 := fun H' (hs : Ints H' k 0 0 l) => Sum_spec (2 * w) l k 0 0 c H' hs (by omega) (by omega) hl
      have hm2 := fun H' (hs : Ints H' k 0 0 l) => Most_spec (2 * w) l k 0 0 c H' hs (by omega) (by omega) hl
      have hc2 : ((2 * w : Nat) : Int) = 2 * (w : Int) := by omega
      rw [hc2] at hs2 hm2
      repeat' first | simp (disch := first | with_reducible assumption | omega) only [go_sem, Bool.true_and, Bool.and_true, Bool.and_self, Bool.false_and, Bool.and_false, Bool.true_or, Bool.or_true, Bool.false_or, Bool.or_false, ↓reduceIte, Nat.reduceEqDiff, Nat.reduceAdd, Nat.reduceMul, Nat.reduceSub, Nat.reduceBEq, Nat.reduceLeDiff, Nat.reduceLT, Nat.reduceMod, Nat.reduceDiv, Int.reduceToNat, Int.reducePow, Int.reduceMul, Int.reduceAdd, Int.reduceSub, Int.reduceLE, Int.reduceLT, Int.reduceNeg, Int.reduceDiv, Int.reduceMod, Int.reduceEq, Int.reduceBEq, Int.reduceBNe, f3, f3b, f3r0, f3r1, f3r2, f3r3, f3r4, f3r5, f3r6, f3r7, f3r8, f3r9, f3r10, f3r11, f3r12, f3r13, f3r14, f3r15, f3r17, hk, get_old hk, Nat.add_assoc] | (refine BrW.of (fun hb => ?_) (fun hb => ?_) <;> (have hb' := hb; try simp only [decide_eq_true_eq, decide_eq_false_iff_not, beq_iff_eq, bne_iff_ne, beq_eq_false_iff_ne, bne_eq_false_iff_eq, Bool.not_eq_true', Bool.not_eq_false', Bool.not_eq_true, Bool.not_eq_false, Bool.and_eq_true, Bool.or_eq_true, Bool.and_eq_false_iff, Bool.or_eq_false_iff, Int.not_lt, Int.not_le, ne_eq, gt_iff_lt, ge_iff_le] at hb') <;> (try (exfalso; omega))) | (refine .of ((alive _).mono ?_); rintro v H ⟨rfl, rfl⟩) | (refine .of ((hs1 _ hs).mono ?_); rintro v _ ⟨g1, rfl, rfl⟩) | (refine .of ((hs2 _ (hs.app _)).mono ?_); rintro v _ ⟨g2, rfl, rfl⟩) | (refine .of ((hm1 _ (hs.app _)).mono ?_); rintro v _ ⟨g3, o1, m1, rfl, rfl, ml1, mm1⟩) | (refine .of ((hm2 _ (hs.app _)).mono ?_); rintro v _ ⟨g4, o2, m2, rfl, rfl, ml2, mm2⟩)
      have q0 := get_old hk [.cells g1 1 false (ints (tb (sumAt w l) l.length)), .cells g2 1 false (ints (tb (sumAt (2 * w) l) l.length)), o1, .cells g3 1 false (ints m1), o2, .cells g4 1 false (ints m2)]
      have q1 := get_new H [.cells g1 1 false (ints (tb (sumAt w l) l.length)), .cells g2 1 false (ints (tb (sumAt (2 * w) l) l.length)), o1, .cells g3 1 false (ints m1), o2, .cells g4 1 false (ints m2)]
      generalize H ++ [.cells g1 1 false (ints (tb (sumAt w l) l.length)), .cells g2 1 false (ints (tb (sumAt (2 * w) l) l.length)), o1, .cells g3 1 false (ints m1), o2, .cells g4 1 false (ints m2)] = J at *
      have r1 := q1 0
      have r2 := q1 1
      have r3 := q1 3
      have r4 := q1 5
      simp only [Nat.add_zero, List.getElem?_cons_zero, List.getElem?_cons_succ] at r1 r2 r3 r4
      refine loopW.of (by decide) (fun m e J' => ∃ (i : Nat), e = [(0, .int .i64 w), (1, slv k 0 0 l.length c), (5, slv H.length 0 g1 l.length l.length), (7, slv (H.length + 1) 0 g2 l.length l.length), (9, slv (H.length + 3) 0 g3 l.length l.length), (11, slv (H.length + 5) 0 g4 l.length l.length), (13, .int .i64 i)] ∧ J' = J ∧ w ≤ i ∧ m = l.length - i) (l.length - w) ⟨w, rfl, rfl, by omega, rfl⟩ ?_
      rintro m e J' ⟨i, rfl, rfl, hwi, rfl⟩
      by_cases hlt : i < l.length
      · have s1 := ints_get (tb (sumAt w l) l.length) i (by rw [tb_length]; exact hlt)
        have s2 := ints_get (tb (sumAt (2 * w) l) l.length) i (by rw [tb_length]; exact hlt)
        have s3 := ints_get (tb (sumAt w l) l.length) (i - w) (by rw [tb_length]; omega)
        have t1 := ints_get m1 i (by omega)
        have t2 := ints_get m2 i (by omega)
        have t3 := ints_get m1 (i - w) (by omega)
        rw [tb_getD _ _ _ (by omega)] at s1 s2 s3
        have e1 := sumAt_two (l := l) hwi
        have e2 := (mm1 i hlt).two hwi (mm1 (i - w) (by omega)) (mm2 i hlt)
        have ht : ((i : Int) - (w : Int)).toNat = i - w := by omega
        have b1 := sumAt_range hl (w := w) (k := i) (by omega)
        have b2 := sumAt_range hl (w := w) (k := i - w) (by omega)
        have b3 := sumAt_range hl (w := 2 * w) (k := i) (by omega)
        have h400 := hl.1
        clear mm1 mm2 hs1 hs2 hm1 hm2 q1 hcs hok
        generalize sumAt (2 * w) l i = x1 at *
        generalize sumAt w l i = x2 at *
        generalize sumAt w l (i - w) = x3 at *
        generalize m2.getD i 0 = y1 at *
        generalize m1.getD i 0 = y2 at *
        generalize m1.getD (i - w) 0 = y3 at *
        repeat' first | simp (disch := first | with_reducible assumption | omega) only [go_sem, Bool.true_and, Bool.and_true, Bool.and_self, Bool.false_and, Bool.and_false, Bool.true_or, Bool.or_true, Bool.false_or, Bool.or_false, ↓reduceIte, Nat.reduceEqDiff, Nat.reduceAdd, Nat.reduceMul, Nat.reduceSub, Nat.reduceBEq, Nat.reduceLeDiff, Nat.reduceLT, Nat.reduceMod, Nat.reduceDiv, Int.reduceToNat, Int.reducePow, Int.reduceMul, Int.reduceAdd, Int.reduceSub, Int.reduceLE, Int.reduceLT, Int.reduceNeg, Int.reduceDiv, Int.reduceMod, Int.reduceEq, Int.reduceBEq, Int.reduceBNe, f3, f3b, f3r0, f3r1, f3r2, f3r3, f3r4, f3r5, f3r6, f3r7, f3r8, f3r9, f3r10, f3r11, f3r12, f3r13, f3r14, f3r15, f3r17, f3l0, q0, r1, r2, r3, r4, s1, s2, s3, t1, t2, t3, ht, e1, e2] | (refine BrW.of (fun hb => ?_) (fun hb => ?_) <;> (have hb' := hb; try simp only [decide_eq_true_eq, decide_eq_false_iff_not, beq_iff_eq, bne_iff_ne, beq_eq_false_iff_ne, bne_eq_false_iff_eq, Bool.not_eq_true', Bool.not_eq_false', Bool.not_eq_true, Bool.not_eq_false, Bool.and_eq_true, Bool.or_eq_true, Bool.and_eq_false_iff, Bool.or_eq_false_iff, Int.not_lt, Int.not_le, ne_eq, gt_iff_lt, ge_iff_le] at hb') <;> (try (exfalso; omega)))
        refine RdW.keep [0, 1, 5, 7, 9, 11, 13] (l.length - (i + 1)) (by omega) ?_
        simp (disch := first | with_reducible assumption | omega) only [go_sem, Bool.true_and, Bool.and_true, Bool.and_self, Bool.false_and, Bool.and_false, Bool.true_or, Bool.or_true, Bool.false_or, Bool.or_false, ↓reduceIte, Nat.reduceEqDiff, Nat.reduceAdd, Nat.reduceMul, Nat.reduceSub, Nat.reduceBEq, Nat.reduceLeDiff, Nat.reduceLT, Nat.reduceMod, Nat.reduceDiv, Int.reduceToNat, Int.reducePow, Int.reduceMul, Int.reduceAdd, Int.reduceSub, Int.reduceLE, Int.reduceLT, Int.reduceNeg, Int.reduceDiv, Int.reduceMod, Int.reduceEq, Int.reduceBEq, Int.reduceBNe]
        exact ⟨i + 1, rfl, by omega, rfl⟩
      · repeat' first | simp (disch := first | with_reducible assumption | omega) only [go_sem, Bool.true_and, Bool.and_true, Bool.and_self, Bool.false_and, Bool.and_false, Bool.true_or, Bool.or_true, Bool.false_or, Bool.or_false, ↓reduceIte, Nat.reduceEqDiff, Nat.reduceAdd, Nat.reduceMul, Nat.reduceSub, Nat.reduceBEq, Nat.reduceLeDiff, Nat.reduceLT, Nat.reduceMod, Nat.reduceDiv, Int.reduceToNat, Int.reducePow, Int.reduceMul, Int.reduceAdd, Int.reduceSub, Int.reduceLE, Int.reduceLT, Int.reduceNeg, Int.reduceDiv, Int.reduceMod, Int.reduceEq, Int.reduceBEq, Int.reduceBNe, f3, f3b, f3r0, f3r1, f3r2, f3r3, f3r4, f3r5, f3r6, f3r7, f3r8, f3r9, f3r10, f3r11, f3r12, f3r13, f3r14, f3r15, f3r17, f3l0, f3, f3b, f3r0, f3r1, f3r2, f3r3, f3r4, f3r5, f3r6, f3r7, f3r8, f3r9, f3r10, f3r11, f3r12, f3r13, f3r14, f3r15, f3r17, q0] | (refine BrW.of (fun hb => ?_) (fun hb => ?_) <;> (have hb' := hb; try simp only [decide_eq_true_eq, decide_eq_false_iff_not, beq_iff_eq, bne_iff_ne, beq_eq_false_iff_ne, bne_eq_false_iff_eq, Bool.not_eq_true', Bool.not_eq_false', Bool.not_eq_true, Bool.not_eq_false, Bool.and_eq_true, Bool.or_eq_true, Bool.and_eq_false_iff, Bool.or_eq_false_iff, Int.not_lt, Int.not_le, ne_eq, gt_iff_lt, ge_iff_le] at hb') <;> (try (exfalso; omega)))
        exact .here rfl
    · have hwr : wrongL (2 * (w : Int)) l := fun h => by omega
      repeat' first | simp (disch := first | with_reducible assumption | omega) only [go_sem, Bool.true_and, Bool.and_true, Bool.and_self, Bool.false_and, Bool.and_false, Bool.true_or, Bool.or_true, Bool.false_or, Bool.or_false, ↓reduceIte, Nat.reduceEqDiff, Nat.reduceAdd, Nat.reduceMul, Nat.reduceSub, Nat.reduceBEq, Nat.reduceLeDiff, Nat.reduceLT, Nat.reduceMod, Nat.reduceDiv, Int.reduceToNat, Int.reducePow, Int.reduceMul, Int.reduceAdd, Int.reduceSub, Int.reduceLE, Int.reduceLT, Int.reduceNeg, Int.reduceDiv, Int.reduceMod, Int.reduceEq, Int.reduceBEq, Int.reduceBNe, f3, f3b, f3r0, f3r1, f3r2, f3r3, f3r4, f3r5, f3r6, f3r7, f3r8, f3r9, f3r10, f3r11, f3r12, f3r13, f3r14, f3r15, f3r17, hk, get_old hk] | (refine BrW.of (fun hb => ?_) (fun hb => ?_) <;> (have hb' := hb; try simp only [decide_eq_true_eq, decide_eq_false_iff_not, beq_iff_eq, bne_iff_ne, beq_eq_false_iff_ne, bne_eq_false_iff_eq, Bool.not_eq_true', Bool.not_eq_false', Bool.not_eq_true, Bool.not_eq_false, Bool.and_eq_true, Bool.or_eq_true, Bool.and_eq_false_iff, Bool.or_eq_false_iff, Int.not_lt, Int.not_le, ne_eq, gt_iff_lt, ge_iff_le] at hb') <;> (try (exfalso; omega))) | (refine .of ((alive _).mono ?_); rintro v H ⟨rfl, rfl⟩) | (refine .of ((hs1 _ hs).mono ?_); rintro v _ ⟨g1, rfl, rfl⟩) | (refine .of ((Sum_bad _ l k 0 0 c _ (hs.app _) hB' hwr).mono ?_); rintro v _ ⟨rfl, rfl⟩) | (refine .of ((hm1 _ (hs.app _)).mono ?_); rintro v _ ⟨g3, o1, m1, rfl, rfl, ml1, mm1⟩) | (refine .of ((Most_bad _ l k 0 0 c _ (hs.app _) hB' hwr).mono ?_); rintro v _ ⟨rfl, rfl⟩)
      all_goals exact .here (by (first | with_reducible rfl | (congr 1; first | with_reducible rfl | omega | (rw [Bool.eq_iff_iff]; simp only [decide_eq_true_eq, decide_eq_false_iff_not, beq_iff_eq, bne_iff_ne, beq_eq_false_iff_ne, bne_eq_false_iff_eq, Bool.not_eq_true', Bool.not_eq_false', Bool.not_eq_true, Bool.not_eq_false, Bool.and_eq_true, Bool.or_eq_true, Bool.and_eq_false_iff, Bool.or_eq_false_iff, Int.not_lt, Int.not_le, ne_eq, gt_iff_lt, ge_iff_le, Bool.and_false, Bool.false_and, Bool.or_true, Bool.true_or, Bool.false_eq_true, true_iff, iff_true, false_iff, iff_false, eq_self, not_true_eq_false, not_false_eq_true]; try omega))))
end Go.Proofs.Ytklbagfnepphmaa
