import Derived.Test.YtadogoahnpakbaaSteps5
set_option linter.unusedSimpArgs false
set_option linter.unusedVariables false
set_option maxHeartbeats 1000000
set_option maxRecDepth 20000
namespace Go.Proofs.Ytadogoahnpakbaa
open Go Go.Am
attribute [local irreducible] opsW Ww loopW callW drawW outW outDW gW cW BrW bothW vW resW DropW RdW dcallW Later.run

/-- Two lists, of which the first i are added. -/
def joinT (a b : List Int) (i : Nat) : List Int := (List.range a.length).map fun j => if j < i then a.getD j 0 + b.getD j 0 else a.getD j 0
theorem joinT_length (a b : List Int) (i : Nat) : (joinT a b i).length = a.length := by simp [joinT]
theorem joinT_get (a b : List Int) (i j : Nat) (h : j < a.length) : (joinT a b i).getD j 0 = if j < i then a.getD j 0 + b.getD j 0 else a.getD j 0 := by
  simp [joinT, List.getD_eq_getElem?_getD, h]
theorem extI {l m : List Int} (h : l.length = m.length) (h2 : ∀ p, p < l.length → l.getD p 0 = m.getD p 0) : l = m := by
  refine List.ext_getElem h fun p h1 h3 => ?_
  have := h2 p h1
  simpa [List.getD_eq_getElem?_getD, h1, h3] using this
theorem joinT_zero (a b : List Int) : joinT a b 0 = a := extI (joinT_length a b 0) fun j hj => by
  rw [joinT_length] at hj; rw [joinT_get a b 0 j hj, if_neg (by omega)]
theorem joinT_succ (a b : List Int) (i : Nat) (h : i < a.length) : (joinT a b i).set i (a.getD i 0 + b.getD i 0) = joinT a b (i + 1) := extI (by simp [joinT_length]) fun j hj => by
  rw [List.length_set, joinT_length] at hj
  rw [getD_set _ _ _ _ (by rw [joinT_length]; exact h), joinT_get a b i j hj, joinT_get a b (i + 1) j hj]
  by_cases e : i = j
  · subst e; rw [if_pos rfl, if_pos (by omega)]
  · rw [if_neg e]
    by_cases h2 : j < i
    · rw [if_pos h2, if_pos (by omega)]
    · rw [if_neg h2, if_neg (by omega)]

theorem Join_u (R W : Nat) (a b : List Int) (u v : Value) (H : Heap) (ha : IsI H u a) (hb1 : IsI H v b) (hra : S.right ⟨R, W, a⟩) (hrb : S.right ⟨R, W, b⟩) (hsum : ∀ j, j < a.length → a.getD j 0 + b.getD j 0 ≤ 1099511627776) :
    ACallK Try.prog 11 [S.val ⟨R, W, a⟩ u, S.val ⟨R, W, b⟩ v] H (fun v' H' => ∃ (X : Heap) (w' : Value), H' = H ++ X ∧ v' = .tuple #[S.val ⟨R, W, joinT a b a.length⟩ w', .int .i64 0] ∧ IsX H.length X w' (joinT a b a.length)) := by
  refine .walkW f11_ok (by simp; decide) (by decide) ?_
  obtain ⟨R', W', e1, e2, h1, h2, h3, h4, h5, h6⟩ := right_cases hra
  obtain ⟨R2, W2, e3, e4, _, _, h3', _, _, h6'⟩ := right_cases hrb
  simp only at e1 e2 e3 e4 h3 h3' h6 h6'
  obtain rfl : R = R' := by omega
  obtain rfl : W = W' := by omega
  obtain rfl : R = R2 := by omega
  obtain rfl : W = W2 := by omega
  have hRa := fun X => Right_spec ⟨R, W, a⟩ u (H ++ X) (ha.app X) (by simp only; omega)
  have hRb := fun X => Right_spec ⟨R, W, b⟩ v (H ++ X) (hb1.app X) (by simp only; omega)
  rw [decide_eq_true hra] at hRa
  rw [decide_eq_true hrb] at hRb
  have hfa := fun j => getD_nonneg h6 j
  have hfb := fun j => getD_nonneg h6' j
  rcases ha with ⟨rfl, rfl⟩ | ⟨k, o, g, c, rfl, hi, hc⟩
  · simp only [List.length_nil] at h3; omega
  · rcases hb1 with ⟨rfl, rfl⟩ | ⟨k2, o2, g2, c2, rfl, hi2, hc2⟩
    · simp only [List.length_nil] at h3'; omega
    · have hCl := fun X => CloneI_spec a k o g c (H ++ X) (hi.app X) (by omega) hc
      simp only [flat'_ienc] at hCl
      obtain ⟨ro2, cs2, hk2, _, hcs2⟩ := hi2.cell
      have hab : a.length = b.length := by omega
      have hne : ∀ n : Nat, ((n : Int) != (n : Int)) = false := fun n => by simp
      simp only [S.val] at hRa hRb
      repeat' first | simp (disch := first | with_reducible assumption | omega) only [go_sem, Bool.true_and, Bool.and_true, Bool.and_self, Bool.false_and, Bool.and_false, Bool.true_or, Bool.or_true, Bool.false_or, Bool.or_false, ↓reduceIte, Nat.reduceEqDiff, Nat.reduceAdd, Nat.reduceMul, Nat.reduceSub, Nat.reduceBEq, Nat.reduceLeDiff, Nat.reduceLT, Nat.reduceMod, Nat.reduceDiv, Int.reduceToNat, Int.reducePow, Int.reduceMul, Int.reduceAdd, Int.reduceSub, Int.reduceLE, Int.reduceLT, Int.reduceNeg, Int.reduceDiv, Int.reduceMod, Int.reduceEq, Int.reduceBEq, Int.reduceBNe, f11, f11b, f11r0, f11r1, f11r2, f11r3, f11r4, f11r5, f11r6, f11r7, f11r8, f11r9, f11r10, f11r12, S.val, hk2, get_old hk2, hne] | (refine BrW.of (fun hb => ?_) (fun hb => ?_) <;> (have hb' := hb; try simp only [decide_eq_true_eq, decide_eq_false_iff_not, beq_iff_eq, bne_iff_ne, beq_eq_false_iff_ne, bne_eq_false_iff_eq, Bool.not_eq_true', Bool.not_eq_false', Bool.not_eq_true, Bool.not_eq_false, Bool.and_eq_true, Bool.or_eq_true, Bool.and_eq_false_iff, Bool.or_eq_false_iff, Int.not_lt, Int.not_le, ne_eq, gt_iff_lt, ge_iff_le] at hb') <;> (try (exfalso; omega))) | (refine .of ((hRa _).mono ?_); rintro v _ ⟨rfl, rfl⟩) | (refine .of ((hRb _).mono ?_); rintro v _ ⟨rfl, rfl⟩) | (refine .of ((hCl _).mono ?_); rintro v _ ⟨gn, rfl, rfl⟩)
      refine loopW.of (by decide) (fun m e J => ∃ (i : Nat), e = [(2, .pointer (some ⟨H.length, 0, some 1⟩)), (4, .pointer (some ⟨H.length + 2, 0, some 1⟩)), (36, slv k2 o2 g2 b.length c2), (37, .int .i64 b.length), (38, .int .i64 i)] ∧
        J = H ++ [.cells 0 0 false [.int .i64 R, .int .i64 W, slv (H.length + 3) 0 gn a.length a.length], .cells 0 0 false [.int .i64 R, .int .i64 W, slv k2 o2 g2 b.length c2], .cells 0 0 false [.int .i64 0, .int .i64 0, .slice none 0 0], .cells gn 1 false (ints (joinT a b i))] ∧ i ≤ b.length ∧ m = b.length - i) b.length ⟨0, rfl, by rw [joinT_zero], by omega, rfl⟩ ?_
      rintro m e J ⟨i, rfl, rfl, hi0, rfl⟩
      by_cases hlt : i < b.length
      · have f1 := hcs2 i hlt
        have f2 := ints_get (joinT a b i) i (by rw [joinT_length]; omega)
        rw [joinT_get a b i i (by omega), if_neg (by omega)] at f2
        have f3 := fun z => ints_set (joinT a b i) i z
        have f4 := joinT_succ a b i (by omega)
        have f5 := ints_get (joinT a b (i + 1)) i (by rw [joinT_length]; omega)
        rw [joinT_get a b (i + 1) i (by omega), if_pos (by omega)] at f5
        have f6 := ints_length (joinT a b i)
        rw [joinT_length] at f6
        have f7 := hsum i (by omega)
        have f8 := hfa i
        have f9 := hfb i
        have f10 : (ints (joinT a b i)).set i (.int .i64 (a.getD i 0 + b.getD i 0)) = ints (joinT a b (i + 1)) := by rw [f3, f4]
        clear f3 f4 hsum hfa hfb hcs2 hRa hRb hCl h6 h6'
        generalize ints (joinT a b i) = F1 at *
        generalize hF2 : ints (joinT a b (i + 1)) = F2 at *
        generalize a.getD i 0 = x at *
        generalize b.getD i 0 = y at *
        repeat' first | simp (disch := first | with_reducible assumption | omega) only [go_sem, Bool.true_and, Bool.and_true, Bool.and_self, Bool.false_and, Bool.and_false, Bool.true_or, Bool.or_true, Bool.false_or, Bool.or_false, ↓reduceIte, Nat.reduceEqDiff, Nat.reduceAdd, Nat.reduceMul, Nat.reduceSub, Nat.reduceBEq, Nat.reduceLeDiff, Nat.reduceLT, Nat.reduceMod, Nat.reduceDiv, Int.reduceToNat, Int.reducePow, Int.reduceMul, Int.reduceAdd, Int.reduceSub, Int.reduceLE, Int.reduceLT, Int.reduceNeg, Int.reduceDiv, Int.reduceMod, Int.reduceEq, Int.reduceBEq, Int.reduceBNe, f11, f11b, f11r0, f11r1, f11r2, f11r3, f11r4, f11r5, f11r6, f11r7, f11r8, f11r9, f11r10, f11r12, f11l0, hk2, get_old hk2, f1, f2, f10, f5, f6] | (refine BrW.of (fun hb => ?_) (fun hb => ?_) <;> (have hb' := hb; try simp only [decide_eq_true_eq, decide_eq_false_iff_not, beq_iff_eq, bne_iff_ne, beq_eq_false_iff_ne, bne_eq_false_iff_eq, Bool.not_eq_true', Bool.not_eq_false', Bool.not_eq_true, Bool.not_eq_false, Bool.and_eq_true, Bool.or_eq_true, Bool.and_eq_false_iff, Bool.or_eq_false_iff, Int.not_lt, Int.not_le, ne_eq, gt_iff_lt, ge_iff_le] at hb') <;> (try (exfalso; omega)))
        refine RdW.keep [2, 4, 36, 37, 38] (b.length - (i + 1)) (by omega) ?_
        simp (disch := first | with_reducible assumption | omega) only [go_sem, Bool.true_and, Bool.and_true, Bool.and_self, Bool.false_and, Bool.and_false, Bool.true_or, Bool.or_true, Bool.false_or, Bool.or_false, ↓reduceIte, Nat.reduceEqDiff, Nat.reduceAdd, Nat.reduceMul, Nat.reduceSub, Nat.reduceBEq, Nat.reduceLeDiff, Nat.reduceLT, Nat.reduceMod, Nat.reduceDiv, Int.reduceToNat, Int.reducePow, Int.reduceMul, Int.reduceAdd, Int.reduceSub, Int.reduceLE, Int.reduceLT, Int.reduceNeg, Int.reduceDiv, Int.reduceMod, Int.reduceEq, Int.reduceBEq, Int.reduceBNe]
        exact ⟨i + 1, rfl, by rw [hF2], by omega, rfl⟩
      · obtain rfl : i = b.length := by omega
        repeat' first | simp (disch := first | with_reducible assumption | omega) only [go_sem, Bool.true_and, Bool.and_true, Bool.and_self, Bool.false_and, Bool.and_false, Bool.true_or, Bool.or_true, Bool.false_or, Bool.or_false, ↓reduceIte, Nat.reduceEqDiff, Nat.reduceAdd, Nat.reduceMul, Nat.reduceSub, Nat.reduceBEq, Nat.reduceLeDiff, Nat.reduceLT, Nat.reduceMod, Nat.reduceDiv, Int.reduceToNat, Int.reducePow, Int.reduceMul, Int.reduceAdd, Int.reduceSub, Int.reduceLE, Int.reduceLT, Int.reduceNeg, Int.reduceDiv, Int.reduceMod, Int.reduceEq, Int.reduceBEq, Int.reduceBNe, f11, f11b, f11r0, f11r1, f11r2, f11r3, f11r4, f11r5, f11r6, f11r7, f11r8, f11r9, f11r10, f11r12, f11l0, f11, f11b, f11r0, f11r1, f11r2, f11r3, f11r4, f11r5, f11r6, f11r7, f11r8, f11r9, f11r10, f11r12, S.val] | (refine BrW.of (fun hb => ?_) (fun hb => ?_) <;> (have hb' := hb; try simp only [decide_eq_true_eq, decide_eq_false_iff_not, beq_iff_eq, bne_iff_ne, beq_eq_false_iff_ne, bne_eq_false_iff_eq, Bool.not_eq_true', Bool.not_eq_false', Bool.not_eq_true, Bool.not_eq_false, Bool.and_eq_true, Bool.or_eq_true, Bool.and_eq_false_iff, Bool.or_eq_false_iff, Int.not_lt, Int.not_le, ne_eq, gt_iff_lt, ge_iff_le] at hb') <;> (try (exfalso; omega)))
        exact .here ⟨_, slv (H.length + 3) 0 gn a.length a.length, rfl, by rw [hab]; rfl, .inr ⟨3, gn, by rw [joinT_length], by rw [hab]; rfl⟩⟩

theorem Same_spec (R W : Nat) (a : List Int) (u v : Value) (H : Heap) (ha : IsI H u a) (hb1 : IsI H v a) (hla : 1 ≤ a.length ∧ a.length ≤ 512) :
    ACallK Try.prog 12 [S.val ⟨R, W, a⟩ u, S.val ⟨R, W, a⟩ v] H (fun v' H' => v' = .bool true ∧ H' = H) := by
  refine .walkW f12_ok (by simp; decide) (by decide) ?_
  rcases ha with ⟨rfl, rfl⟩ | ⟨k, o, g, c, rfl, hi, hc⟩
  · simp only [List.length_nil] at hla; omega
  · rcases hb1 with ⟨rfl, rfl⟩ | ⟨k2, o2, g2, c2, rfl, hi2, hc2⟩
    · simp only [List.length_nil] at hla; omega
    · obtain ⟨ro, cs, hk, _, hcs⟩ := hi.cell
      obtain ⟨ro2, cs2, hk2, _, hcs2⟩ := hi2.cell
      have hne : ∀ n : Int, (n != n) = false := fun n => by simp
      repeat' first | simp (disch := first | with_reducible assumption | omega) only [go_sem, Bool.true_and, Bool.and_true, Bool.and_self, Bool.false_and, Bool.and_false, Bool.true_or, Bool.or_true, Bool.false_or, Bool.or_false, ↓reduceIte, Nat.reduceEqDiff, Nat.reduceAdd, Nat.reduceMul, Nat.reduceSub, Nat.reduceBEq, Nat.reduceLeDiff, Nat.reduceLT, Nat.reduceMod, Nat.reduceDiv, Int.reduceToNat, Int.reducePow, Int.reduceMul, Int.reduceAdd, Int.reduceSub, Int.reduceLE, Int.reduceLT, Int.reduceNeg, Int.reduceDiv, Int.reduceMod, Int.reduceEq, Int.reduceBEq, Int.reduceBNe, f12, f12b, f12r0, f12r1, f12r2, f12r3, f12r4, f12r5, f12r6, f12r7, f12r8, f12r10, S.val, hk, get_old hk, hk2, get_old hk2, hne] | (refine BrW.of (fun hb => ?_) (fun hb => ?_) <;> (have hb' := hb; try simp only [decide_eq_true_eq, decide_eq_false_iff_not, beq_iff_eq, bne_iff_ne, beq_eq_false_iff_ne, bne_eq_false_iff_eq, Bool.not_eq_true', Bool.not_eq_false', Bool.not_eq_true, Bool.not_eq_false, Bool.and_eq_true, Bool.or_eq_true, Bool.and_eq_false_iff, Bool.or_eq_false_iff, Int.not_lt, Int.not_le, ne_eq, gt_iff_lt, ge_iff_le] at hb') <;> (try (exfalso; omega)))
      refine loopW.of (by decide) (fun m e J => ∃ (i : Nat), e = [(2, .pointer (some ⟨H.length, 0, some 1⟩)), (3, .pointer (some ⟨H.length + 1, 0, some 1⟩)), (29, .int .i64 a.length), (30, .int .i64 i)] ∧
        J = H ++ [.cells 0 0 false [.int .i64 R, .int .i64 W, slv k o g a.length c], .cells 0 0 false [.int .i64 R, .int .i64 W, slv k2 o2 g2 a.length c2]] ∧ i ≤ a.length ∧ m = a.length - i) a.length ⟨0, rfl, rfl, by omega, rfl⟩ ?_
      rintro m e J ⟨i, rfl, rfl, hi0, rfl⟩
      by_cases hlt : i < a.length
      · have f1 := hcs i hlt
        have f2 := hcs2 i hlt
        clear hcs hcs2
        generalize a.getD i 0 = x at *
        repeat' first | simp (disch := first | with_reducible assumption | omega) only [go_sem, Bool.true_and, Bool.and_true, Bool.and_self, Bool.false_and, Bool.and_false, Bool.true_or, Bool.or_true, Bool.false_or, Bool.or_false, ↓reduceIte, Nat.reduceEqDiff, Nat.reduceAdd, Nat.reduceMul, Nat.reduceSub, Nat.reduceBEq, Nat.reduceLeDiff, Nat.reduceLT, Nat.reduceMod, Nat.reduceDiv, Int.reduceToNat, Int.reducePow, Int.reduceMul, Int.reduceAdd, Int.reduceSub, Int.reduceLE, Int.reduceLT, Int.reduceNeg, Int.reduceDiv, Int.reduceMod, Int.reduceEq, Int.reduceBEq, Int.reduceBNe, f12, f12b, f12r0, f12r1, f12r2, f12r3, f12r4, f12r5, f12r6, f12r7, f12r8, f12r10, f12l0, hk, get_old hk, hk2, get_old hk2, f1, f2, hne] | (refine BrW.of (fun hb => ?_) (fun hb => ?_) <;> (have hb' := hb; try simp only [decide_eq_true_eq, decide_eq_false_iff_not, beq_iff_eq, bne_iff_ne, beq_eq_false_iff_ne, bne_eq_false_iff_eq, Bool.not_eq_true', Bool.not_eq_false', Bool.not_eq_true, Bool.not_eq_false, Bool.and_eq_true, Bool.or_eq_true, Bool.and_eq_false_iff, Bool.or_eq_false_iff, Int.not_lt, Int.not_le, ne_eq, gt_iff_lt, ge_iff_le] at hb') <;> (try (exfalso; omega)))
        refine RdW.keep [2, 3, 29, 30] (a.length - (i + 1)) (by omega) ?_
        simp (disch := first | with_reducible assumption | omega) only [go_sem, Bool.true_and, Bool.and_true, Bool.and_self, Bool.false_and, Bool.and_false, Bool.true_or, Bool.or_true, Bool.false_or, Bool.or_false, ↓reduceIte, Nat.reduceEqDiff, Nat.reduceAdd, Nat.reduceMul, Nat.reduceSub, Nat.reduceBEq, Nat.reduceLeDiff, Nat.reduceLT, Nat.reduceMod, Nat.reduceDiv, Int.reduceToNat, Int.reducePow, Int.reduceMul, Int.reduceAdd, Int.reduceSub, Int.reduceLE, Int.reduceLT, Int.reduceNeg, Int.reduceDiv, Int.reduceMod, Int.reduceEq, Int.reduceBEq, Int.reduceBNe]
        exact ⟨i + 1, rfl, by omega, rfl⟩
      · obtain rfl : i = a.length := by omega
        repeat' first | simp (disch := first | with_reducible assumption | omega) only [go_sem, Bool.true_and, Bool.and_true, Bool.and_self, Bool.false_and, Bool.and_false, Bool.true_or, Bool.or_true, Bool.false_or, Bool.or_false, ↓reduceIte, Nat.reduceEqDiff, Nat.reduceAdd, Nat.reduceMul, Nat.reduceSub, Nat.reduceBEq, Nat.reduceLeDiff, Nat.reduceLT, Nat.reduceMod, Nat.reduceDiv, Int.reduceToNat, Int.reducePow, Int.reduceMul, Int.reduceAdd, Int.reduceSub, Int.reduceLE, Int.reduceLT, Int.reduceNeg, Int.reduceDiv, Int.reduceMod, Int.reduceEq, Int.reduceBEq, Int.reduceBNe, f12, f12b, f12r0, f12r1, f12r2, f12r3, f12r4, f12r5, f12r6, f12r7, f12r8, f12r10, f12l0, f12, f12b, f12r0, f12r1, f12r2, f12r3, f12r4, f12r5, f12r6, f12r7, f12r8, f12r10] | (refine BrW.of (fun hb => ?_) (fun hb => ?_) <;> (have hb' := hb; try simp only [decide_eq_true_eq, decide_eq_false_iff_not, beq_iff_eq, bne_iff_ne, beq_eq_false_iff_ne, bne_eq_false_iff_eq, Bool.not_eq_true', Bool.not_eq_false', Bool.not_eq_true, Bool.not_eq_false, Bool.and_eq_true, Bool.or_eq_true, Bool.and_eq_false_iff, Bool.or_eq_false_iff, Int.not_lt, Int.not_le, ne_eq, gt_iff_lt, ge_iff_le] at hb') <;> (try (exfalso; omega)))
        exact .back rfl ⟨rfl, rfl⟩
end Go.Proofs.Ytadogoahnpakbaa
