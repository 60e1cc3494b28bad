import Derived.Test.YtabcjhpgamhpoaaSteps4
import Derived.Test.YtabcjhpgamhpoaaSeq2
set_option linter.unusedSimpArgs false
set_option linter.unusedVariables false
set_option maxHeartbeats 2000000
set_option maxRecDepth 20000
namespace Go.Proofs.Ytabcjhpgamhpoaa
open Go Go.Am
attribute [local irreducible] opsW Ww loopW callW drawW outW outDW gW cW BrW bothW vW resW DropW RdW dcallW altW forkW splitW Later.run

/-- Of the first i those that differ from the one ahead. -/
def cT (L : List Int) : Nat → List Int
  | 0 => []
  | i + 1 => if i = 0 ∨ L.getD i 0 ≠ L.getD (i - 1) 0 then cT L i ++ [L.getD i 0] else cT L i
theorem cT_len (L : List Int) : ∀ i, (cT L i).length ≤ i
  | 0 => Nat.le_refl _
  | i + 1 => by
    have := cT_len L i
    unfold cT
    split
    · simp; omega
    · omega
theorem Sorted_spec (l : List Int) (kb gb kk o g c : Nat) (rb : Bool) (eb : Nat) (H : Heap) (hbox : H[kb]? = some (.cells gb eb rb [slv kk o g l.length c])) (hI : Ints H kk o g l) (hl : l.length ≤ 2097152) (hc : l.length ≤ c) :
    ACallK Try.prog 15 [.func (.func 24) #[] #[.pointer (some ⟨kb, 0, some (gb + 1)⟩)]] H (fun v H' => v = slv H.length 0 0 l.length l.length ∧ H' = H ++ [.cells 0 1 false (ints (sortI l))]) := by
  have hA := AppendSeq_spec l kb gb kk o g c rb eb H hbox hI hl hc
  have hC : ACallK Try.prog 23 [.func (.func 24) #[] #[.pointer (some ⟨kb, 0, some (gb + 1)⟩)]] H (fun v H' => v = slv H.length 0 0 l.length l.length ∧ H' = H ++ [.cells 0 1 false (ints l)]) := by
    refine .walkW f23_ok (by simp; decide) (by decide) ?_
    repeat' first | simp (disch := first | with_reducible assumption | omega) only [go_sem, Bool.true_and, Bool.and_true, Bool.and_self, Bool.false_and, Bool.and_false, Bool.true_or, Bool.or_true, Bool.false_or, Bool.or_false, ↓reduceIte, Nat.reduceEqDiff, Nat.reduceAdd, Nat.reduceMul, Nat.reduceSub, Nat.reduceBEq, Nat.reduceLeDiff, Nat.reduceLT, Nat.reduceMod, Nat.reduceDiv, Int.reduceToNat, Int.reducePow, Int.reduceMul, Int.reduceAdd, Int.reduceSub, Int.reduceLE, Int.reduceLT, Int.reduceNeg, Int.reduceDiv, Int.reduceMod, Int.reduceEq, Int.reduceBEq, Int.reduceBNe, f23, f23b, f23r0, f23r1] | (refine BrW.of (fun hb => ?_) (fun hb => ?_) <;> (have hb' := hb; try simp only [decide_eq_true_eq, decide_eq_false_iff_not, beq_iff_eq, bne_iff_ne, beq_eq_false_iff_ne, bne_eq_false_iff_eq, Bool.not_eq_true', Bool.not_eq_false', Bool.not_eq_true, Bool.not_eq_false, Bool.and_eq_true, Bool.or_eq_true, Bool.and_eq_false_iff, Bool.or_eq_false_iff, Int.not_lt, Int.not_le, ne_eq, gt_iff_lt, ge_iff_le] at hb') <;> (try (exfalso; omega))) | (refine altW.of ?_ ?_) | (refine .of (hA.mono ?_); rintro v J ⟨rfl, rfl⟩)
    exact .here ⟨rfl, rfl⟩
  have hS := Sort_spec l H.length 0 (H ++ [.cells 0 1 false (ints l)]) (get_new0 _ _ _) (by omega)
  have hset : (H ++ [AObj.cells 0 1 false (ints l)]).set H.length (.cells 0 1 false (ints (sortI l))) = H ++ [.cells 0 1 false (ints (sortI l))] := by simp
  rw [hset] at hS
  refine .walkW f15_ok (by simp; decide) (by decide) ?_
  repeat' first | simp (disch := first | with_reducible assumption | omega) only [go_sem, Bool.true_and, Bool.and_true, Bool.and_self, Bool.false_and, Bool.and_false, Bool.true_or, Bool.or_true, Bool.false_or, Bool.or_false, ↓reduceIte, Nat.reduceEqDiff, Nat.reduceAdd, Nat.reduceMul, Nat.reduceSub, Nat.reduceBEq, Nat.reduceLeDiff, Nat.reduceLT, Nat.reduceMod, Nat.reduceDiv, Int.reduceToNat, Int.reducePow, Int.reduceMul, Int.reduceAdd, Int.reduceSub, Int.reduceLE, Int.reduceLT, Int.reduceNeg, Int.reduceDiv, Int.reduceMod, Int.reduceEq, Int.reduceBEq, Int.reduceBNe, f15, f15b, f15r0, f15r1, f15r2, f15r3] | (refine BrW.of (fun hb => ?_) (fun hb => ?_) <;> (have hb' := hb; try simp only [decide_eq_true_eq, decide_eq_false_iff_not, beq_iff_eq, bne_iff_ne, beq_eq_false_iff_ne, bne_eq_false_iff_eq, Bool.not_eq_true', Bool.not_eq_false', Bool.not_eq_true, Bool.not_eq_false, Bool.and_eq_true, Bool.or_eq_true, Bool.and_eq_false_iff, Bool.or_eq_false_iff, Int.not_lt, Int.not_le, ne_eq, gt_iff_lt, ge_iff_le] at hb') <;> (try (exfalso; omega))) | (refine altW.of ?_ ?_) | (refine .of (hC.mono ?_); rintro v J ⟨rfl, rfl⟩) | (refine .of (hS.mono ?_); rintro v J ⟨rfl, rfl⟩)
  exact .here ⟨rfl, rfl⟩
theorem Compact_spec (L : List Int) (k g : Nat) (H : Heap) (hb0 : H[k]? = some (.cells g 1 false (ints L))) (hl : L.length ≤ 1000000000) :
    ACallK Try.prog 14 [slv k 0 g L.length L.length] H (fun v H' => ∃ cs c, v = slv k 0 g (cT L L.length).length c ∧ H' = H.set k (.cells g 1 false cs)) := by
  have hset : H.set k (.cells g 1 false (ints L)) = H := by
    apply List.ext_getElem?
    intro j
    rw [List.getElem?_set]
    by_cases hj : k = j
    · subst hj; rw [hb0]; simp [(List.getElem?_eq_some_iff.1 hb0).1]
    · simp [hj]
  have hil := ints_length L
  refine .walkW f14_ok (by simp; decide) (by decide) ?_
  by_cases h2 : L.length < 2
  · have e : (cT L L.length).length = L.length := by
      rcases Nat.eq_zero_or_pos L.length with h | h
      · rw [h]; rfl
      · have : L.length = 1 := by omega
        rw [this]; rfl
    repeat' first | simp (disch := first | with_reducible assumption | omega) only [go_sem, Bool.true_and, Bool.and_true, Bool.and_self, Bool.false_and, Bool.and_false, Bool.true_or, Bool.or_true, Bool.false_or, Bool.or_false, ↓reduceIte, Nat.reduceEqDiff, Nat.reduceAdd, Nat.reduceMul, Nat.reduceSub, Nat.reduceBEq, Nat.reduceLeDiff, Nat.reduceLT, Nat.reduceMod, Nat.reduceDiv, Int.reduceToNat, Int.reducePow, Int.reduceMul, Int.reduceAdd, Int.reduceSub, Int.reduceLE, Int.reduceLT, Int.reduceNeg, Int.reduceDiv, Int.reduceMod, Int.reduceEq, Int.reduceBEq, Int.reduceBNe, f14, f14b, f14r0, f14r1, f14r2, f14r3, f14r4, f14r5, f14r6, f14r7, f14r8, f14r9, f14r10, f14r11, f14r12, f14r14, f14r15, f14r16, f14r18, hb0] | (refine BrW.of (fun hb => ?_) (fun hb => ?_) <;> (have hb' := hb; try simp only [decide_eq_true_eq, decide_eq_false_iff_not, beq_iff_eq, bne_iff_ne, beq_eq_false_iff_ne, bne_eq_false_iff_eq, Bool.not_eq_true', Bool.not_eq_false', Bool.not_eq_true, Bool.not_eq_false, Bool.and_eq_true, Bool.or_eq_true, Bool.and_eq_false_iff, Bool.or_eq_false_iff, Int.not_lt, Int.not_le, ne_eq, gt_iff_lt, ge_iff_le] at hb') <;> (try (exfalso; omega))) | (refine altW.of ?_ ?_)
    exact .here ⟨_, _, by rw [e], hset.symm⟩
  repeat' first | simp (disch := first | with_reducible assumption | omega) only [go_sem, Bool.true_and, Bool.and_true, Bool.and_self, Bool.false_and, Bool.and_false, Bool.true_or, Bool.or_true, Bool.false_or, Bool.or_false, ↓reduceIte, Nat.reduceEqDiff, Nat.reduceAdd, Nat.reduceMul, Nat.reduceSub, Nat.reduceBEq, Nat.reduceLeDiff, Nat.reduceLT, Nat.reduceMod, Nat.reduceDiv, Int.reduceToNat, Int.reducePow, Int.reduceMul, Int.reduceAdd, Int.reduceSub, Int.reduceLE, Int.reduceLT, Int.reduceNeg, Int.reduceDiv, Int.reduceMod, Int.reduceEq, Int.reduceBEq, Int.reduceBNe, f14, f14b, f14r0, f14r1, f14r2, f14r3, f14r4, f14r5, f14r6, f14r7, f14r8, f14r9, f14r10, f14r11, f14r12, f14r14, f14r15, f14r16, f14r18, hb0] | (refine BrW.of (fun hb => ?_) (fun hb => ?_) <;> (have hb' := hb; try simp only [decide_eq_true_eq, decide_eq_false_iff_not, beq_iff_eq, bne_iff_ne, beq_eq_false_iff_ne, bne_eq_false_iff_eq, Bool.not_eq_true', Bool.not_eq_false', Bool.not_eq_true, Bool.not_eq_false, Bool.and_eq_true, Bool.or_eq_true, Bool.and_eq_false_iff, Bool.or_eq_false_iff, Int.not_lt, Int.not_le, ne_eq, gt_iff_lt, ge_iff_le] at hb') <;> (try (exfalso; omega))) | (refine altW.of ?_ ?_)
  refine loopW.of (by decide) (fun m e J => ∃ (i : Nat), e = [(0, slv k 0 g L.length L.length), (3, .int .i64 i)] ∧ J = H ∧ 1 ≤ i ∧ i ≤ L.length ∧ m = L.length - i ∧ (cT L i).length = i) (L.length - 1) ⟨1, rfl, rfl, by omega, by omega, by omega, rfl⟩ ?_
  rintro m e J ⟨i, rfl, hJ, hi1, hi, rfl, hci⟩
  obtain rfl := hJ.symm
  obtain ⟨i, rfl⟩ : ∃ i', i = i' + 1 := ⟨i - 1, by omega⟩
  by_cases hlt : i + 1 < L.length
  · have g1 := ints_get L (i + 1) hlt
    have g0 := ints_get L i (by omega)
    have z1 : ((i + 1 : Nat) : Int) - 1 = i := by omega
    have z2 : (i : Int).toNat = i := by omega
    have z3 : ((i + 1 : Nat) : Int).toNat = i + 1 := by omega
    by_cases he : L.getD (i + 1) 0 = L.getD i 0
    · have hc2 : (cT L (i + 2)).length = i + 1 := by
        rw [cT, if_neg (by rw [Nat.add_sub_cancel]; exact fun h => h.elim (by omega) (fun h => h he))]; exact hci
      have hX : L.getD i 0 = L.getD (i + 1) 0 := he.symm
      rw [hX] at g0
      clear hX he
      generalize hy : L.getD (i + 1) 0 = y at *
      repeat' first | simp (disch := first | with_reducible assumption | omega) only [go_sem, Bool.true_and, Bool.and_true, Bool.and_self, Bool.false_and, Bool.and_false, Bool.true_or, Bool.or_true, Bool.false_or, Bool.or_false, ↓reduceIte, Nat.reduceEqDiff, Nat.reduceAdd, Nat.reduceMul, Nat.reduceSub, Nat.reduceBEq, Nat.reduceLeDiff, Nat.reduceLT, Nat.reduceMod, Nat.reduceDiv, Int.reduceToNat, Int.reducePow, Int.reduceMul, Int.reduceAdd, Int.reduceSub, Int.reduceLE, Int.reduceLT, Int.reduceNeg, Int.reduceDiv, Int.reduceMod, Int.reduceEq, Int.reduceBEq, Int.reduceBNe, f14, f14b, f14r0, f14r1, f14r2, f14r3, f14r4, f14r5, f14r6, f14r7, f14r8, f14r9, f14r10, f14r11, f14r12, f14r14, f14r15, f14r16, f14r18, f14l1, hb0, g1, g0, z1, z2, z3, hil] | (refine BrW.of (fun hb => ?_) (fun hb => ?_) <;> (have hb' := hb; try simp only [decide_eq_true_eq, decide_eq_false_iff_not, beq_iff_eq, bne_iff_ne, beq_eq_false_iff_ne, bne_eq_false_iff_eq, Bool.not_eq_true', Bool.not_eq_false', Bool.not_eq_true, Bool.not_eq_false, Bool.and_eq_true, Bool.or_eq_true, Bool.and_eq_false_iff, Bool.or_eq_false_iff, Int.not_lt, Int.not_le, ne_eq, gt_iff_lt, ge_iff_le] at hb') <;> (try (exfalso; omega))) | (refine altW.of ?_ ?_)
      refine loopW.of (by decide) (fun m e J => ∃ (q kk : Nat) (A : List Int), e = [(0, slv k 0 g L.length L.length), (3, .int .i64 kk), (4, slv k (i + 1) g (L.length - (i + 1)) (L.length - (i + 1))), (5, .int .i64 (q + 1 : Nat))] ∧ J = H.set k (.cells g 1 false (ints A)) ∧
        A.length = L.length ∧ kk = (cT L (i + 1 + (q + 1))).length ∧ kk ≤ i + 1 + q ∧ i + 1 + (q + 1) ≤ L.length ∧ m = L.length - q ∧ ∀ j, i + 1 + q ≤ j → A.getD j 0 = L.getD j 0) L.length
        ⟨0, i + 1, L, by simp, hset.symm, rfl, hc2.symm, by omega, by omega, rfl, fun j hj => rfl⟩ ?_
      rintro m e J ⟨q, kk, A, rfl, rfl, hAl, hkk, hkq, hq, rfl, hA⟩
      have hkl : k < H.length := (List.getElem?_eq_some_iff.1 hb0).1
      have hbA : (H.set k (.cells g 1 false (ints A)))[k]? = some (.cells g 1 false (ints A)) := by rw [List.getElem?_set_self hkl]
      have hil2 := ints_length A
      have hsub : ((L.length - (i + 1) : Nat) : Int) = (L.length : Int) - (i + 1) := by omega
      by_cases hlt2 : i + 1 + (q + 1) < L.length
      · have a1 := ints_get A (i + 1 + (q + 1)) (by omega)
        have a0 := ints_get A (i + 1 + q) (by omega)
        rw [hA _ (by omega)] at a1
        rw [hA _ (by omega)] at a0
        have y1 : ((q + 1 : Nat) : Int) - 1 = q := by omega
        have y2 : (q : Int).toNat = q := by omega
        have y3 : ((q + 1 : Nat) : Int).toNat = q + 1 := by omega
        have y4 : (kk : Int).toNat = kk := by omega
        have hlq : (q + 1 : Nat) < L.length - (i + 1) := by omega
        by_cases hne : L.getD (i + 1 + (q + 1)) 0 = L.getD (i + 1 + q) 0
        · have hk2 : kk = (cT L (i + 1 + (q + 1 + 1))).length := by
            rw [show i + 1 + (q + 1 + 1) = i + 1 + (q + 1) + 1 by omega, cT, if_neg (by rw [show i + 1 + (q + 1) - 1 = i + 1 + q by omega]; exact fun h => h.elim (by omega) (fun h => h hne))]; exact hkk
          rw [hne] at a1
          clear hne
          generalize L.getD (i + 1 + q) 0 = u at *
          repeat' first | simp (disch := first | with_reducible assumption | omega) only [go_sem, Bool.true_and, Bool.and_true, Bool.and_self, Bool.false_and, Bool.and_false, Bool.true_or, Bool.or_true, Bool.false_or, Bool.or_false, ↓reduceIte, Nat.reduceEqDiff, Nat.reduceAdd, Nat.reduceMul, Nat.reduceSub, Nat.reduceBEq, Nat.reduceLeDiff, Nat.reduceLT, Nat.reduceMod, Nat.reduceDiv, Int.reduceToNat, Int.reducePow, Int.reduceMul, Int.reduceAdd, Int.reduceSub, Int.reduceLE, Int.reduceLT, Int.reduceNeg, Int.reduceDiv, Int.reduceMod, Int.reduceEq, Int.reduceBEq, Int.reduceBNe, f14, f14b, f14r0, f14r1, f14r2, f14r3, f14r4, f14r5, f14r6, f14r7, f14r8, f14r9, f14r10, f14r11, f14r12, f14r14, f14r15, f14r16, f14r18, f14l0, hbA, a1, a0, y1, y2, y3, hil2, hAl, hsub] | (refine BrW.of (fun hb => ?_) (fun hb => ?_) <;> (have hb' := hb; try simp only [decide_eq_true_eq, decide_eq_false_iff_not, beq_iff_eq, bne_iff_ne, beq_eq_false_iff_ne, bne_eq_false_iff_eq, Bool.not_eq_true', Bool.not_eq_false', Bool.not_eq_true, Bool.not_eq_false, Bool.and_eq_true, Bool.or_eq_true, Bool.and_eq_false_iff, Bool.or_eq_false_iff, Int.not_lt, Int.not_le, ne_eq, gt_iff_lt, ge_iff_le] at hb') <;> (try (exfalso; omega))) | (refine altW.of ?_ ?_)
          refine RdW.keep [0, 3, 4, 5] (L.length - (q + 1)) (by omega) ?_
          simp (disch := first | with_reducible assumption | omega) only [go_sem, Bool.true_and, Bool.and_true, Bool.and_self, Bool.false_and, Bool.and_false, Bool.true_or, Bool.or_true, Bool.false_or, Bool.or_false, ↓reduceIte, Nat.reduceEqDiff, Nat.reduceAdd, Nat.reduceMul, Nat.reduceSub, Nat.reduceBEq, Nat.reduceLeDiff, Nat.reduceLT, Nat.reduceMod, Nat.reduceDiv, Int.reduceToNat, Int.reducePow, Int.reduceMul, Int.reduceAdd, Int.reduceSub, Int.reduceLE, Int.reduceLT, Int.reduceNeg, Int.reduceDiv, Int.reduceMod, Int.reduceEq, Int.reduceBEq, Int.reduceBNe]
          exact ⟨q + 1, kk, A, rfl, rfl, hAl, hk2, by omega, by omega, rfl, fun j hj => hA j (by omega)⟩
        · have hk2 : kk + 1 = (cT L (i + 1 + (q + 1 + 1))).length := by
            rw [show i + 1 + (q + 1 + 1) = i + 1 + (q + 1) + 1 by omega, cT, if_pos (by rw [show i + 1 + (q + 1) - 1 = i + 1 + q by omega]; exact .inr hne), List.length_append, ← hkk]; rfl
          have s1 := ints_set A kk (L.getD (i + 1 + (q + 1)) 0)
          have hA2 : ∀ x : Int, ∀ j, i + 1 + (q + 1) ≤ j → (A.set kk x).getD j 0 = L.getD j 0 := fun x j hj => by
            rw [List.getD_eq_getElem?_getD, List.getElem?_set_ne (by omega), ← List.getD_eq_getElem?_getD]; exact hA j (by omega)
          have hA3 : ∀ x : Int, (A.set kk x).length = L.length := fun x => by rw [List.length_set]; exact hAl
          generalize hu : L.getD (i + 1 + q) 0 = u at *
          generalize hv : L.getD (i + 1 + (q + 1)) 0 = v at *
          repeat' first | simp (disch := first | with_reducible assumption | omega) only [go_sem, Bool.true_and, Bool.and_true, Bool.and_self, Bool.false_and, Bool.and_false, Bool.true_or, Bool.or_true, Bool.false_or, Bool.or_false, ↓reduceIte, Nat.reduceEqDiff, Nat.reduceAdd, Nat.reduceMul, Nat.reduceSub, Nat.reduceBEq, Nat.reduceLeDiff, Nat.reduceLT, Nat.reduceMod, Nat.reduceDiv, Int.reduceToNat, Int.reducePow, Int.reduceMul, Int.reduceAdd, Int.reduceSub, Int.reduceLE, Int.reduceLT, Int.reduceNeg, Int.reduceDiv, Int.reduceMod, Int.reduceEq, Int.reduceBEq, Int.reduceBNe, f14, f14b, f14r0, f14r1, f14r2, f14r3, f14r4, f14r5, f14r6, f14r7, f14r8, f14r9, f14r10, f14r11, f14r12, f14r14, f14r15, f14r16, f14r18, f14l0, hbA, a1, a0, y1, y2, y3, y4, s1, hil2, hAl, hsub] | (refine BrW.of (fun hb => ?_) (fun hb => ?_) <;> (have hb' := hb; try simp only [decide_eq_true_eq, decide_eq_false_iff_not, beq_iff_eq, bne_iff_ne, beq_eq_false_iff_ne, bne_eq_false_iff_eq, Bool.not_eq_true', Bool.not_eq_false', Bool.not_eq_true, Bool.not_eq_false, Bool.and_eq_true, Bool.or_eq_true, Bool.and_eq_false_iff, Bool.or_eq_false_iff, Int.not_lt, Int.not_le, ne_eq, gt_iff_lt, ge_iff_le] at hb') <;> (try (exfalso; omega))) | (refine altW.of ?_ ?_)
          refine RdW.keep [0, 3, 4, 5] (L.length - (q + 1)) (by omega) ?_
          simp (disch := first | with_reducible assumption | omega) only [go_sem, Bool.true_and, Bool.and_true, Bool.and_self, Bool.false_and, Bool.and_false, Bool.true_or, Bool.or_true, Bool.false_or, Bool.or_false, ↓reduceIte, Nat.reduceEqDiff, Nat.reduceAdd, Nat.reduceMul, Nat.reduceSub, Nat.reduceBEq, Nat.reduceLeDiff, Nat.reduceLT, Nat.reduceMod, Nat.reduceDiv, Int.reduceToNat, Int.reducePow, Int.reduceMul, Int.reduceAdd, Int.reduceSub, Int.reduceLE, Int.reduceLT, Int.reduceNeg, Int.reduceDiv, Int.reduceMod, Int.reduceEq, Int.reduceBEq, Int.reduceBNe]
          exact ⟨q + 1, kk + 1, A.set kk v, rfl, List.set_set .., hA3 v, hk2, by omega, by omega, rfl, hA2 v⟩
      · have e : i + 1 + (q + 1) = L.length := by omega
        rw [e] at hkk
        have hge : ¬ ((q + 1 : Nat) : Int) < (L.length : Int) - (i + 1) := by omega
        have hz : ¬ (L.length - kk = 0) := by omega
        have hbX : ∀ X, (H.set k X)[k]? = some X := fun X => List.getElem?_set_self hkl
        repeat' first | simp (disch := first | with_reducible assumption | omega) only [go_sem, Bool.true_and, Bool.and_true, Bool.and_self, Bool.false_and, Bool.and_false, Bool.true_or, Bool.or_true, Bool.false_or, Bool.or_false, ↓reduceIte, Nat.reduceEqDiff, Nat.reduceAdd, Nat.reduceMul, Nat.reduceSub, Nat.reduceBEq, Nat.reduceLeDiff, Nat.reduceLT, Nat.reduceMod, Nat.reduceDiv, Int.reduceToNat, Int.reducePow, Int.reduceMul, Int.reduceAdd, Int.reduceSub, Int.reduceLE, Int.reduceLT, Int.reduceNeg, Int.reduceDiv, Int.reduceMod, Int.reduceEq, Int.reduceBEq, Int.reduceBNe, f14, f14b, f14r0, f14r1, f14r2, f14r3, f14r4, f14r5, f14r6, f14r7, f14r8, f14r9, f14r10, f14r11, f14r12, f14r14, f14r15, f14r16, f14r18, f14l0, f14, f14b, f14r0, f14r1, f14r2, f14r3, f14r4, f14r5, f14r6, f14r7, f14r8, f14r9, f14r10, f14r11, f14r12, f14r14, f14r15, f14r16, f14r18, f14l1, f14, f14b, f14r0, f14r1, f14r2, f14r3, f14r4, f14r5, f14r6, f14r7, f14r8, f14r9, f14r10, f14r11, f14r12, f14r14, f14r15, f14r16, f14r18, hbA, hil2, hAl, hsub, hz, List.set_set, hbX] | (refine BrW.of (fun hb => ?_) (fun hb => ?_) <;> (have hb' := hb; try simp only [decide_eq_true_eq, decide_eq_false_iff_not, beq_iff_eq, bne_iff_ne, beq_eq_false_iff_ne, bne_eq_false_iff_eq, Bool.not_eq_true', Bool.not_eq_false', Bool.not_eq_true, Bool.not_eq_false, Bool.and_eq_true, Bool.or_eq_true, Bool.and_eq_false_iff, Bool.or_eq_false_iff, Int.not_lt, Int.not_le, ne_eq, gt_iff_lt, ge_iff_le] at hb') <;> (try (exfalso; omega))) | (refine altW.of ?_ ?_)
        exact .here ⟨_, _, by rw [hkk], rfl⟩
    · have hc2 : (cT L (i + 1 + 1)).length = i + 1 + 1 := by
        rw [cT, if_pos (by rw [Nat.add_sub_cancel]; exact .inr he), List.length_append, hci]; rfl
      generalize hu : L.getD i 0 = u at *
      generalize hv : L.getD (i + 1) 0 = v at *
      repeat' first | simp (disch := first | with_reducible assumption | omega) only [go_sem, Bool.true_and, Bool.and_true, Bool.and_self, Bool.false_and, Bool.and_false, Bool.true_or, Bool.or_true, Bool.false_or, Bool.or_false, ↓reduceIte, Nat.reduceEqDiff, Nat.reduceAdd, Nat.reduceMul, Nat.reduceSub, Nat.reduceBEq, Nat.reduceLeDiff, Nat.reduceLT, Nat.reduceMod, Nat.reduceDiv, Int.reduceToNat, Int.reducePow, Int.reduceMul, Int.reduceAdd, Int.reduceSub, Int.reduceLE, Int.reduceLT, Int.reduceNeg, Int.reduceDiv, Int.reduceMod, Int.reduceEq, Int.reduceBEq, Int.reduceBNe, f14, f14b, f14r0, f14r1, f14r2, f14r3, f14r4, f14r5, f14r6, f14r7, f14r8, f14r9, f14r10, f14r11, f14r12, f14r14, f14r15, f14r16, f14r18, f14l1, hb0, g1, g0, z1, z2, z3, hil] | (refine BrW.of (fun hb => ?_) (fun hb => ?_) <;> (have hb' := hb; try simp only [decide_eq_true_eq, decide_eq_false_iff_not, beq_iff_eq, bne_iff_ne, beq_eq_false_iff_ne, bne_eq_false_iff_eq, Bool.not_eq_true', Bool.not_eq_false', Bool.not_eq_true, Bool.not_eq_false, Bool.and_eq_true, Bool.or_eq_true, Bool.and_eq_false_iff, Bool.or_eq_false_iff, Int.not_lt, Int.not_le, ne_eq, gt_iff_lt, ge_iff_le] at hb') <;> (try (exfalso; omega))) | (refine altW.of ?_ ?_)
      refine RdW.keep [0, 3] (L.length - (i + 1 + 1)) (by omega) ?_
      simp (disch := first | with_reducible assumption | omega) only [go_sem, Bool.true_and, Bool.and_true, Bool.and_self, Bool.false_and, Bool.and_false, Bool.true_or, Bool.or_true, Bool.false_or, Bool.or_false, ↓reduceIte, Nat.reduceEqDiff, Nat.reduceAdd, Nat.reduceMul, Nat.reduceSub, Nat.reduceBEq, Nat.reduceLeDiff, Nat.reduceLT, Nat.reduceMod, Nat.reduceDiv, Int.reduceToNat, Int.reducePow, Int.reduceMul, Int.reduceAdd, Int.reduceSub, Int.reduceLE, Int.reduceLT, Int.reduceNeg, Int.reduceDiv, Int.reduceMod, Int.reduceEq, Int.reduceBEq, Int.reduceBNe]
      exact ⟨i + 1 + 1, rfl, by omega, by omega, rfl, hc2⟩
  · have e : i + 1 = L.length := by omega
    rw [e] at hci ⊢
    repeat' first | simp (disch := first | with_reducible assumption | omega) only [go_sem, Bool.true_and, Bool.and_true, Bool.and_self, Bool.false_and, Bool.and_false, Bool.true_or, Bool.or_true, Bool.false_or, Bool.or_false, ↓reduceIte, Nat.reduceEqDiff, Nat.reduceAdd, Nat.reduceMul, Nat.reduceSub, Nat.reduceBEq, Nat.reduceLeDiff, Nat.reduceLT, Nat.reduceMod, Nat.reduceDiv, Int.reduceToNat, Int.reducePow, Int.reduceMul, Int.reduceAdd, Int.reduceSub, Int.reduceLE, Int.reduceLT, Int.reduceNeg, Int.reduceDiv, Int.reduceMod, Int.reduceEq, Int.reduceBEq, Int.reduceBNe, f14, f14b, f14r0, f14r1, f14r2, f14r3, f14r4, f14r5, f14r6, f14r7, f14r8, f14r9, f14r10, f14r11, f14r12, f14r14, f14r15, f14r16, f14r18, f14l1, f14, f14b, f14r0, f14r1, f14r2, f14r3, f14r4, f14r5, f14r6, f14r7, f14r8, f14r9, f14r10, f14r11, f14r12, f14r14, f14r15, f14r16, f14r18, hb0] | (refine BrW.of (fun hb => ?_) (fun hb => ?_) <;> (have hb' := hb; try simp only [decide_eq_true_eq, decide_eq_false_iff_not, beq_iff_eq, bne_iff_ne, beq_eq_false_iff_ne, bne_eq_false_iff_eq, Bool.not_eq_true', Bool.not_eq_false', Bool.not_eq_true, Bool.not_eq_false, Bool.and_eq_true, Bool.or_eq_true, Bool.and_eq_false_iff, Bool.or_eq_false_iff, Int.not_lt, Int.not_le, ne_eq, gt_iff_lt, ge_iff_le] at hb') <;> (try (exfalso; omega))) | (refine altW.of ?_ ?_)
    exact .here ⟨_, _, by rw [hci], hset.symm⟩
end Go.Proofs.Ytabcjhpgamhpoaa
