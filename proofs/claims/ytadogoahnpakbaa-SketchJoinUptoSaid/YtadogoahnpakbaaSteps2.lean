import Derived.Test.YtadogoahnpakbaaSteps
set_option linter.unusedSimpArgs false
set_option linter.unusedVariables false
set_option maxHeartbeats 1000000
set_option maxRecDepth 20000
namespace Go.Proofs.Ytadogoahnpakbaa
open Go Go.Am
attribute [local irreducible] opsW Ww loopW callW drawW outW outDW gW cW BrW bothW vW resW DropW RdW dcallW Later.run

def pint (l : List Nat) : List Int := l.map Int.ofNat
theorem pint_snoc (l : List Nat) (k : Nat) : pint (l ++ [k]) = pint l ++ [(k : Int)] := by simp [pint]
theorem pint_length (l : List Nat) : (pint l).length = l.length := by simp [pint]
theorem pint_get (l : List Nat) (i : Nat) : (pint l).getD i 0 = ((l.getD i 0 : Nat) : Int) := by
  simp only [pint, List.getD_eq_getElem?_getD, List.getElem?_map]
  cases l[i]? <;> rfl

abbrev pls (w rows : Nat) (x : Int) : List Nat := places w (pl w) rows x

theorem cells_ex (R W : Nat) (l : List Int) (v : Value) (x : Int) (H : Heap) (hR : 1 ≤ R ∧ R ≤ 8) (hW : 1 ≤ W ∧ W ≤ 64) (hx : 0 ≤ x ∧ x ≤ 18446744073709551615) :
    ACallK Try.prog 16 [S.val ⟨R, W, l⟩ v, .int .u64 x] H (fun v' H' => ∃ (g : Nat) (B : AObj) (y : Heap), v' = slv (H.length + 1) 0 g R R ∧ H' = H ++ (B :: .cells g 1 false (ints (pint (pls W R x))) :: y)) := by
  refine .walkW f16_ok (by simp; decide) (by decide) ?_
  repeat' first | simp (disch := first | with_reducible assumption | omega) only [go_sem, Bool.true_and, Bool.and_true, Bool.and_self, Bool.false_and, Bool.and_false, Bool.true_or, Bool.or_true, Bool.false_or, Bool.or_false, ↓reduceIte, Nat.reduceEqDiff, Nat.reduceAdd, Nat.reduceMul, Nat.reduceSub, Nat.reduceBEq, Nat.reduceLeDiff, Nat.reduceLT, Nat.reduceMod, Nat.reduceDiv, Int.reduceToNat, Int.reducePow, Int.reduceMul, Int.reduceAdd, Int.reduceSub, Int.reduceLE, Int.reduceLT, Int.reduceNeg, Int.reduceDiv, Int.reduceMod, Int.reduceEq, Int.reduceBEq, Int.reduceBNe, f16, f16b, f16r0, f16r1, f16r2, f16r3, f16r4, f16r5, f16r6, f16r7, f16r9, S.val] | (refine BrW.of (fun hb => ?_) (fun hb => ?_) <;> (have hb' := hb; try simp only [decide_eq_true_eq, decide_eq_false_iff_not, beq_iff_eq, bne_iff_ne, beq_eq_false_iff_ne, bne_eq_false_iff_eq, Bool.not_eq_true', Bool.not_eq_false', Bool.not_eq_true, Bool.not_eq_false, Bool.and_eq_true, Bool.or_eq_true, Bool.and_eq_false_iff, Bool.or_eq_false_iff, Int.not_lt, Int.not_le, ne_eq, gt_iff_lt, ge_iff_le] at hb') <;> (try (exfalso; omega)))
  refine loopW.ghost 5 1 rfl ?_
  simp (disch := first | with_reducible assumption | omega) only [go_sem, Bool.true_and, Bool.and_true, Bool.and_self, Bool.false_and, Bool.and_false, Bool.true_or, Bool.or_true, Bool.false_or, Bool.or_false, ↓reduceIte, Nat.reduceEqDiff, Nat.reduceAdd, Nat.reduceMul, Nat.reduceSub, Nat.reduceBEq, Nat.reduceLeDiff, Nat.reduceLT, Nat.reduceMod, Nat.reduceDiv, Int.reduceToNat, Int.reducePow, Int.reduceMul, Int.reduceAdd, Int.reduceSub, Int.reduceLE, Int.reduceLT, Int.reduceNeg, Int.reduceDiv, Int.reduceMod, Int.reduceEq, Int.reduceBEq, Int.reduceBNe]
  refine loopW.of (by decide) (fun m e J => ∃ (i g : Nat) (y : Heap), e = [(1, .int .u64 x), (2, .pointer (some ⟨H.length, 0, some 1⟩)), (5, slv (H.length + 1) 0 g i i), (10, .int .i64 R), (11, .int .i64 i)] ∧ J = H ++ (.cells 0 0 false [.int .i64 R, .int .i64 W, v] :: .cells g 1 false (ints (pint (pls W i x))) :: y) ∧ i ≤ R ∧ m = R - i) R ⟨0, 0, [], rfl, rfl, by omega, rfl⟩ ?_
  rintro m e J ⟨i, g, y, rfl, rfl, hi, rfl⟩
  by_cases hlt : i < R
  · have hP := fun H' => Place_spec i W x H' (by omega) hW hx
    have hiw : (i : Int) * (W : Int) = ((i * W : Nat) : Int) := by simp
    have hT : i * W ≤ 448 := by have := Nat.mul_le_mul (show i ≤ 7 by omega) hW.2; omega
    have hp := pl_lt hW.1 i x
    have hsn := places_succ W (pl W) i x
    have il : (ints (pint (pls W i x))).length = i := by rw [ints_length, pint_length, places_length]
    have hni : ¬ i + 1 ≤ i := by omega
    have htk := ints_take (pint (pls W i x)) i (by rw [pint_length, places_length]; exact Nat.le_refl _)
    have hst : ints (pint (pls W i x)) ++ [.int .i64 ((i * W : Nat) + (pl W i x : Nat))] = ints (pint (pls W (i + 1) x)) := by
      rw [ints_snoc, show pls W (i + 1) x = pls W i x ++ [i * W + pl W i x] from hsn, pint_snoc]; simp
    clear hsn
    generalize i * W = T at *
    generalize pl W i x = p at *
    generalize ints (pint (pls W i x)) = F at *
    repeat' first | simp (disch := first | with_reducible assumption | omega) only [go_sem, Bool.true_and, Bool.and_true, Bool.and_self, Bool.false_and, Bool.and_false, Bool.true_or, Bool.or_true, Bool.false_or, Bool.or_false, ↓reduceIte, Nat.reduceEqDiff, Nat.reduceAdd, Nat.reduceMul, Nat.reduceSub, Nat.reduceBEq, Nat.reduceLeDiff, Nat.reduceLT, Nat.reduceMod, Nat.reduceDiv, Int.reduceToNat, Int.reducePow, Int.reduceMul, Int.reduceAdd, Int.reduceSub, Int.reduceLE, Int.reduceLT, Int.reduceNeg, Int.reduceDiv, Int.reduceMod, Int.reduceEq, Int.reduceBEq, Int.reduceBNe, f16, f16b, f16r0, f16r1, f16r2, f16r3, f16r4, f16r5, f16r6, f16r7, f16r9, f16l0, hiw, il, hni, htk, hst] | (refine BrW.of (fun hb => ?_) (fun hb => ?_) <;> (have hb' := hb; try simp only [decide_eq_true_eq, decide_eq_false_iff_not, beq_iff_eq, bne_iff_ne, beq_eq_false_iff_ne, bne_eq_false_iff_eq, Bool.not_eq_true', Bool.not_eq_false', Bool.not_eq_true, Bool.not_eq_false, Bool.and_eq_true, Bool.or_eq_true, Bool.and_eq_false_iff, Bool.or_eq_false_iff, Int.not_lt, Int.not_le, ne_eq, gt_iff_lt, ge_iff_le] at hb') <;> (try (exfalso; omega))) | (refine .of ((hP _).mono ?_); rintro v _ ⟨rfl, rfl⟩)
    refine RdW.keep [1, 2, 5, 10, 11] (R - (i + 1)) (by omega) ?_
    simp (disch := first | with_reducible assumption | omega) only [go_sem, Bool.true_and, Bool.and_true, Bool.and_self, Bool.false_and, Bool.and_false, Bool.true_or, Bool.or_true, Bool.false_or, Bool.or_false, ↓reduceIte, Nat.reduceEqDiff, Nat.reduceAdd, Nat.reduceMul, Nat.reduceSub, Nat.reduceBEq, Nat.reduceLeDiff, Nat.reduceLT, Nat.reduceMod, Nat.reduceDiv, Int.reduceToNat, Int.reducePow, Int.reduceMul, Int.reduceAdd, Int.reduceSub, Int.reduceLE, Int.reduceLT, Int.reduceNeg, Int.reduceDiv, Int.reduceMod, Int.reduceEq, Int.reduceBEq, Int.reduceBNe]
    exact ⟨i + 1, g + 1, _, rfl, rfl, by omega, rfl⟩
  · obtain rfl : i = R := by omega
    repeat' first | simp (disch := first | with_reducible assumption | omega) only [go_sem, Bool.true_and, Bool.and_true, Bool.and_self, Bool.false_and, Bool.and_false, Bool.true_or, Bool.or_true, Bool.false_or, Bool.or_false, ↓reduceIte, Nat.reduceEqDiff, Nat.reduceAdd, Nat.reduceMul, Nat.reduceSub, Nat.reduceBEq, Nat.reduceLeDiff, Nat.reduceLT, Nat.reduceMod, Nat.reduceDiv, Int.reduceToNat, Int.reducePow, Int.reduceMul, Int.reduceAdd, Int.reduceSub, Int.reduceLE, Int.reduceLT, Int.reduceNeg, Int.reduceDiv, Int.reduceMod, Int.reduceEq, Int.reduceBEq, Int.reduceBNe, f16, f16b, f16r0, f16r1, f16r2, f16r3, f16r4, f16r5, f16r6, f16r7, f16r9, f16l0, f16, f16b, f16r0, f16r1, f16r2, f16r3, f16r4, f16r5, f16r6, f16r7, f16r9] | (refine BrW.of (fun hb => ?_) (fun hb => ?_) <;> (have hb' := hb; try simp only [decide_eq_true_eq, decide_eq_false_iff_not, beq_iff_eq, bne_iff_ne, beq_eq_false_iff_ne, bne_eq_false_iff_eq, Bool.not_eq_true', Bool.not_eq_false', Bool.not_eq_true, Bool.not_eq_false, Bool.and_eq_true, Bool.or_eq_true, Bool.and_eq_false_iff, Bool.or_eq_false_iff, Int.not_lt, Int.not_le, ne_eq, gt_iff_lt, ge_iff_le] at hb') <;> (try (exfalso; omega)))
    exact .here ⟨g, _, y, rfl, rfl⟩
theorem cells_u (R W : Nat) (l : List Int) (v : Value) (x : Int) (H : Heap) (hR : 1 ≤ R ∧ R ≤ 8) (hW : 1 ≤ W ∧ W ≤ 64) (hx : 0 ≤ x ∧ x ≤ 18446744073709551615) :
    ACallK Try.prog 16 [S.val ⟨R, W, l⟩ v, .int .u64 x] H (fun v' H' => ∃ k g, v' = slv k 0 g R R ∧ Le H H' ∧ Ints H' k 0 g (pint (pls W R x))) :=
  (cells_ex R W l v x H hR hW hx).mono fun v' H' ⟨g, B, y, h1, h2⟩ => ⟨_, g, h1, by rw [h2]; exact .app _ _, by rw [h2]; exact Ints.new _ _ _ false _ (by rw [get_new]; rfl)⟩

theorem right_cases {s : S} (h : s.right) : ∃ R W : Nat, s.rows = R ∧ s.w = W ∧ (1 ≤ R ∧ R ≤ 8) ∧ (1 ≤ W ∧ W ≤ 64) ∧ s.l.length = R * W ∧ 1 ≤ R * W ∧ R * W ≤ 512 ∧ ∀ x ∈ s.l, 0 ≤ x ∧ x ≤ 1099511627776 := by
  obtain ⟨h1, h2, h3, h4, h5, h6⟩ := h
  obtain ⟨R, hR⟩ := Int.eq_ofNat_of_zero_le (show 0 ≤ s.rows by omega)
  obtain ⟨W, hW⟩ := Int.eq_ofNat_of_zero_le (show 0 ≤ s.w by omega)
  refine ⟨R, W, hR, hW, by omega, by omega, ?_, ?_, ?_, h6⟩
  · rw [hR, hW, ← Int.natCast_mul] at h5; omega
  · exact Nat.mul_le_mul (show 1 ≤ R by omega) (show 1 ≤ W by omega)
  · exact Nat.mul_le_mul (show R ≤ 8 by omega) (show W ≤ 64 by omega)
theorem getD_nonneg {l : List Int} (h : ∀ x ∈ l, 0 ≤ x ∧ x ≤ 1099511627776) (j : Nat) : 0 ≤ l.getD j 0 ∧ l.getD j 0 ≤ 1099511627776 := by
  by_cases hj : j < l.length
  · exact h _ (getD_mem hj)
  · rw [List.getD_eq_getElem?_getD, List.getElem?_eq_none (by omega)]; simp

theorem Count_bad (s : S) (v : Value) (x : Int) (H : Heap) (hI : IsI H v s.l) (hB : s.l.length ≤ 9223372036854775807) (hr : ¬ s.right) :
    ACallK Try.prog 9 [s.val v, .int .u64 x] H (fun v' H' => v' = .tuple #[.int .i64 0, .int .i64 1] ∧ H' = H) := by
  have hR := fun X => Right_spec s v (H ++ X) (hI.app X) hB
  rw [decide_eq_false hr] at hR
  simp only [S.val] at hR
  refine .walkW f9_ok (by simp; decide) (by decide) ?_
  repeat' first | simp (disch := first | with_reducible assumption | omega) only [go_sem, Bool.true_and, Bool.and_true, Bool.and_self, Bool.false_and, Bool.and_false, Bool.true_or, Bool.or_true, Bool.false_or, Bool.or_false, ↓reduceIte, Nat.reduceEqDiff, Nat.reduceAdd, Nat.reduceMul, Nat.reduceSub, Nat.reduceBEq, Nat.reduceLeDiff, Nat.reduceLT, Nat.reduceMod, Nat.reduceDiv, Int.reduceToNat, Int.reducePow, Int.reduceMul, Int.reduceAdd, Int.reduceSub, Int.reduceLE, Int.reduceLT, Int.reduceNeg, Int.reduceDiv, Int.reduceMod, Int.reduceEq, Int.reduceBEq, Int.reduceBNe, f9, f9b, f9r0, f9r1, f9r2, f9r3, f9r4, f9r5, f9r6, f9r7, f9r8, f9r9, f9r11, S.val] | (refine BrW.of (fun hb => ?_) (fun hb => ?_) <;> (have hb' := hb; try simp only [decide_eq_true_eq, decide_eq_false_iff_not, beq_iff_eq, bne_iff_ne, beq_eq_false_iff_ne, bne_eq_false_iff_eq, Bool.not_eq_true', Bool.not_eq_false', Bool.not_eq_true, Bool.not_eq_false, Bool.and_eq_true, Bool.or_eq_true, Bool.and_eq_false_iff, Bool.or_eq_false_iff, Int.not_lt, Int.not_le, ne_eq, gt_iff_lt, ge_iff_le] at hb') <;> (try (exfalso; omega))) | (refine .of ((hR _).mono ?_); rintro v _ ⟨rfl, rfl⟩)
  all_goals exact .back rfl ⟨rfl, rfl⟩

theorem Count_spec (R W : Nat) (l : List Int) (v : Value) (x : Int) (H : Heap) (hI : IsI H v l) (hr : S.right ⟨R, W, l⟩) (hx : 0 ≤ x ∧ x ≤ 18446744073709551615) :
    ACallK Try.prog 9 [S.val ⟨R, W, l⟩ v, .int .u64 x] H (fun v' H' => v' = .tuple #[.int .i64 (least l (pls W R x)), .int .i64 0] ∧ H' = H) := by
  obtain ⟨R', W', e1, e2, h1, h2, h3, h4, h5, h6⟩ := right_cases hr
  simp only at e1 e2 h3 h6
  obtain rfl : R = R' := by omega
  obtain rfl : W = W' := by omega
  have hRt := fun X => Right_spec ⟨R, W, l⟩ v (H ++ X) (hI.app X) (by simp only; omega)
  rw [decide_eq_true hr] at hRt
  have hCe := fun H' => cells_u R W l v x H' h1 h2 hx
  simp only [S.val] at hRt hCe
  refine .walkW f9_ok (by simp; decide) (by decide) ?_
  rcases hI with ⟨rfl, rfl⟩ | ⟨k, o, g, c, rfl, hi, hc⟩
  · simp only [List.length_nil] at h3; omega
  · obtain ⟨ro, cs, hk, _, hcs⟩ := hi.cell
    repeat' first | simp (disch := first | with_reducible assumption | omega) only [go_sem, Bool.true_and, Bool.and_true, Bool.and_self, Bool.false_and, Bool.and_false, Bool.true_or, Bool.or_true, Bool.false_or, Bool.or_false, ↓reduceIte, Nat.reduceEqDiff, Nat.reduceAdd, Nat.reduceMul, Nat.reduceSub, Nat.reduceBEq, Nat.reduceLeDiff, Nat.reduceLT, Nat.reduceMod, Nat.reduceDiv, Int.reduceToNat, Int.reducePow, Int.reduceMul, Int.reduceAdd, Int.reduceSub, Int.reduceLE, Int.reduceLT, Int.reduceNeg, Int.reduceDiv, Int.reduceMod, Int.reduceEq, Int.reduceBEq, Int.reduceBNe, f9, f9b, f9r0, f9r1, f9r2, f9r3, f9r4, f9r5, f9r6, f9r7, f9r8, f9r9, f9r11, S.val] | (refine BrW.of (fun hb => ?_) (fun hb => ?_) <;> (have hb' := hb; try simp only [decide_eq_true_eq, decide_eq_false_iff_not, beq_iff_eq, bne_iff_ne, beq_eq_false_iff_ne, bne_eq_false_iff_eq, Bool.not_eq_true', Bool.not_eq_false', Bool.not_eq_true, Bool.not_eq_false, Bool.and_eq_true, Bool.or_eq_true, Bool.and_eq_false_iff, Bool.or_eq_false_iff, Int.not_lt, Int.not_le, ne_eq, gt_iff_lt, ge_iff_le] at hb') <;> (try (exfalso; omega))) | (refine .of ((hRt _).mono ?_); rintro v _ ⟨rfl, rfl⟩)
    refine .of ((hCe _).mono ?_)
    rintro v G ⟨k2, g2, rfl, hle, hK⟩
    have hbx := hle.get (get_new0 H (AObj.cells 0 0 false [.int .i64 R, .int .i64 W, slv k o g l.length c]) [])
    have hk := hle.get (get_old hk _)
    obtain ⟨ro2, cs2, hk2, _, hcs2⟩ := hK.cell
    have hgl : ∃ gg, G = H ++ gg := by obtain ⟨X, rfl⟩ := hle; exact ⟨_, by rw [List.append_assoc]⟩
    have hnn := fun j => (getD_nonneg h6 j)
    have hpl : (pls W R x).length = R := places_length _ _ _ _
    clear hRt hCe hle hK h6 hi
    generalize H.length = P at *
    repeat' first | simp (disch := first | with_reducible assumption | omega) only [go_sem, Bool.true_and, Bool.and_true, Bool.and_self, Bool.false_and, Bool.and_false, Bool.true_or, Bool.or_true, Bool.false_or, Bool.or_false, ↓reduceIte, Nat.reduceEqDiff, Nat.reduceAdd, Nat.reduceMul, Nat.reduceSub, Nat.reduceBEq, Nat.reduceLeDiff, Nat.reduceLT, Nat.reduceMod, Nat.reduceDiv, Int.reduceToNat, Int.reducePow, Int.reduceMul, Int.reduceAdd, Int.reduceSub, Int.reduceLE, Int.reduceLT, Int.reduceNeg, Int.reduceDiv, Int.reduceMod, Int.reduceEq, Int.reduceBEq, Int.reduceBNe, f9, f9b, f9r0, f9r1, f9r2, f9r3, f9r4, f9r5, f9r6, f9r7, f9r8, f9r9, f9r11, hbx, hk, hk2] | (refine BrW.of (fun hb => ?_) (fun hb => ?_) <;> (have hb' := hb; try simp only [decide_eq_true_eq, decide_eq_false_iff_not, beq_iff_eq, bne_iff_ne, beq_eq_false_iff_ne, bne_eq_false_iff_eq, Bool.not_eq_true', Bool.not_eq_false', Bool.not_eq_true, Bool.not_eq_false, Bool.and_eq_true, Bool.or_eq_true, Bool.and_eq_false_iff, Bool.or_eq_false_iff, Int.not_lt, Int.not_le, ne_eq, gt_iff_lt, ge_iff_le] at hb') <;> (try (exfalso; omega)))
    refine loopW.of (by decide) (fun m e J => ∃ i : Nat, e = [(2, .pointer (some ⟨P, 0, some 1⟩)), (6, .int .i64 (least l (pls W i x))), (14, slv k2 0 g2 R R), (15, .int .i64 R), (16, .int .i64 i)] ∧ J = G ∧ i ≤ R ∧ m = R - i) R ⟨0, rfl, rfl, by omega, rfl⟩ ?_
    rintro m e J ⟨i, rfl, rfl, hi, rfl⟩
    by_cases hlt : i < R
    · have e1 := hcs2 i (by rw [pint_length, hpl]; exact hlt)
      rw [pint_get, places_get _ _ _ _ _ hlt, Nat.zero_add] at e1
      have hpc : i * W + pl W i x < l.length := by
        rw [h3]; exact places_lt (pl_lt h2.1) (mem_places.2 ⟨i, hlt, rfl⟩)
      have e2 := hcs _ hpc
      have hnx := least_snoc l (pls W i x) (i * W + pl W i x)
      rw [← places_succ] at hnx
      unfold leastStep at hnx
      have hn1 := hnn (i * W + pl W i x)
      clear hcs hcs2 hnn
      generalize i * W + pl W i x = q at *
      have hqt : ((q : Int)).toNat = q := by omega
      generalize l.getD q 0 = y at *
      by_cases hc : least l (pls W i x) < 0 ∨ y < least l (pls W i x)
      · rw [if_pos hc] at hnx
        generalize least l (pls W i x) = z at *
        repeat' first | simp (disch := first | with_reducible assumption | omega) only [go_sem, Bool.true_and, Bool.and_true, Bool.and_self, Bool.false_and, Bool.and_false, Bool.true_or, Bool.or_true, Bool.false_or, Bool.or_false, ↓reduceIte, Nat.reduceEqDiff, Nat.reduceAdd, Nat.reduceMul, Nat.reduceSub, Nat.reduceBEq, Nat.reduceLeDiff, Nat.reduceLT, Nat.reduceMod, Nat.reduceDiv, Int.reduceToNat, Int.reducePow, Int.reduceMul, Int.reduceAdd, Int.reduceSub, Int.reduceLE, Int.reduceLT, Int.reduceNeg, Int.reduceDiv, Int.reduceMod, Int.reduceEq, Int.reduceBEq, Int.reduceBNe, f9, f9b, f9r0, f9r1, f9r2, f9r3, f9r4, f9r5, f9r6, f9r7, f9r8, f9r9, f9r11, f9l0, hbx, hk, hk2, e1, e2, hqt] | (refine BrW.of (fun hb => ?_) (fun hb => ?_) <;> (have hb' := hb; try simp only [decide_eq_true_eq, decide_eq_false_iff_not, beq_iff_eq, bne_iff_ne, beq_eq_false_iff_ne, bne_eq_false_iff_eq, Bool.not_eq_true', Bool.not_eq_false', Bool.not_eq_true, Bool.not_eq_false, Bool.and_eq_true, Bool.or_eq_true, Bool.and_eq_false_iff, Bool.or_eq_false_iff, Int.not_lt, Int.not_le, ne_eq, gt_iff_lt, ge_iff_le] at hb') <;> (try (exfalso; omega)))
        all_goals (refine RdW.keep [2, 6, 14, 15, 16] (R - (i + 1)) (by omega) ?_)
        all_goals simp only [go_sem]
        all_goals exact ⟨i + 1, by rw [hnx]; rfl, by omega, rfl⟩
      · rw [if_neg hc] at hnx
        generalize least l (pls W i x) = z at *
        repeat' first | simp (disch := first | with_reducible assumption | omega) only [go_sem, Bool.true_and, Bool.and_true, Bool.and_self, Bool.false_and, Bool.and_false, Bool.true_or, Bool.or_true, Bool.false_or, Bool.or_false, ↓reduceIte, Nat.reduceEqDiff, Nat.reduceAdd, Nat.reduceMul, Nat.reduceSub, Nat.reduceBEq, Nat.reduceLeDiff, Nat.reduceLT, Nat.reduceMod, Nat.reduceDiv, Int.reduceToNat, Int.reducePow, Int.reduceMul, Int.reduceAdd, Int.reduceSub, Int.reduceLE, Int.reduceLT, Int.reduceNeg, Int.reduceDiv, Int.reduceMod, Int.reduceEq, Int.reduceBEq, Int.reduceBNe, f9, f9b, f9r0, f9r1, f9r2, f9r3, f9r4, f9r5, f9r6, f9r7, f9r8, f9r9, f9r11, f9l0, hbx, hk, hk2, e1, e2, hqt] | (refine BrW.of (fun hb => ?_) (fun hb => ?_) <;> (have hb' := hb; try simp only [decide_eq_true_eq, decide_eq_false_iff_not, beq_iff_eq, bne_iff_ne, beq_eq_false_iff_ne, bne_eq_false_iff_eq, Bool.not_eq_true', Bool.not_eq_false', Bool.not_eq_true, Bool.not_eq_false, Bool.and_eq_true, Bool.or_eq_true, Bool.and_eq_false_iff, Bool.or_eq_false_iff, Int.not_lt, Int.not_le, ne_eq, gt_iff_lt, ge_iff_le] at hb') <;> (try (exfalso; omega)))
        all_goals (refine RdW.keep [2, 6, 14, 15, 16] (R - (i + 1)) (by omega) ?_)
        all_goals simp only [go_sem]
        all_goals exact ⟨i + 1, by rw [hnx]; rfl, by omega, rfl⟩
    · obtain rfl : i = R := by omega
      repeat' first | simp (disch := first | with_reducible assumption | omega) only [go_sem, Bool.true_and, Bool.and_true, Bool.and_self, Bool.false_and, Bool.and_false, Bool.true_or, Bool.or_true, Bool.false_or, Bool.or_false, ↓reduceIte, Nat.reduceEqDiff, Nat.reduceAdd, Nat.reduceMul, Nat.reduceSub, Nat.reduceBEq, Nat.reduceLeDiff, Nat.reduceLT, Nat.reduceMod, Nat.reduceDiv, Int.reduceToNat, Int.reducePow, Int.reduceMul, Int.reduceAdd, Int.reduceSub, Int.reduceLE, Int.reduceLT, Int.reduceNeg, Int.reduceDiv, Int.reduceMod, Int.reduceEq, Int.reduceBEq, Int.reduceBNe, f9, f9b, f9r0, f9r1, f9r2, f9r3, f9r4, f9r5, f9r6, f9r7, f9r8, f9r9, f9r11, f9l0, f9, f9b, f9r0, f9r1, f9r2, f9r3, f9r4, f9r5, f9r6, f9r7, f9r8, f9r9, f9r11] | (refine BrW.of (fun hb => ?_) (fun hb => ?_) <;> (have hb' := hb; try simp only [decide_eq_true_eq, decide_eq_false_iff_not, beq_iff_eq, bne_iff_ne, beq_eq_false_iff_ne, bne_eq_false_iff_eq, Bool.not_eq_true', Bool.not_eq_false', Bool.not_eq_true, Bool.not_eq_false, Bool.and_eq_true, Bool.or_eq_true, Bool.and_eq_false_iff, Bool.or_eq_false_iff, Int.not_lt, Int.not_le, ne_eq, gt_iff_lt, ge_iff_le] at hb') <;> (try (exfalso; omega)))
      exact .gone hgl rfl ⟨rfl, rfl⟩
end Go.Proofs.Ytadogoahnpakbaa
