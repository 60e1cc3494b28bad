import Derived.Test.YtamnmcljomgboaaSteps
import Derived.Test.YtamnmcljomgboaaPlain2
set_option linter.unusedSimpArgs false
set_option linter.unusedVariables false
set_option maxHeartbeats 1000000
set_option maxRecDepth 20000
namespace Go.Proofs.Ytamnmcljomgboaa
open Go Go.Am
attribute [local irreducible] opsW Ww loopW callW drawW outW outDW gW cW BrW bothW vW resW DropW RdW dcallW altW Later.run

/-- Sorting by insertion, with a function of two captured variables. -/
theorem Ins_spec (f : FuncId) (u1 u2 : Value) (G : Heap) (cf : Int → Int → Int) (D : Int → Prop) (ho : Swo D fun x y => decide (cf x y < 0)) (l : List Int) (hD : ∀ x ∈ l, D x) (hlen : l.length ≤ 9223372036854775806)
    (hc : ∀ x y L, D x → D y → ACallK Try.prog f [.int .i64 x, .int .i64 y, u1, u2] (G ++ [.cells 0 1 false (ints L)]) (fun v H' => v = .int .i64 (cf x y) ∧ H' = G ++ [.cells 0 1 false (ints L)])) :
    ACallK Try.prog 18 [slv G.length 0 0 l.length l.length, .int .i64 0, .int .i64 l.length, .func (.func f) #[] #[u1, u2]] (G ++ [.cells 0 1 false (ints l)]) (fun v H' => v = .tuple #[] ∧ ∃ L, H' = G ++ [.cells 0 1 false (ints L)] ∧ Sorts (fun x y => decide (cf x y < 0)) l L) := by
  refine .walkW f18_ok (by simp; decide) (by decide) ?_
  repeat' first | simp (disch := first | with_reducible assumption | omega) only [go_sem, Bool.true_and, Bool.and_true, Bool.and_self, Bool.false_and, Bool.and_false, Bool.true_or, Bool.or_true, Bool.false_or, Bool.or_false, ↓reduceIte, Nat.reduceEqDiff, Nat.reduceAdd, Nat.reduceMul, Nat.reduceSub, Nat.reduceBEq, Nat.reduceLeDiff, Nat.reduceLT, Nat.reduceMod, Nat.reduceDiv, Int.reduceToNat, Int.reducePow, Int.reduceMul, Int.reduceAdd, Int.reduceSub, Int.reduceLE, Int.reduceLT, Int.reduceNeg, Int.reduceDiv, Int.reduceMod, Int.reduceEq, Int.reduceBEq, Int.reduceBNe, f18, f18b, f18r0, f18r1, f18r2, f18r3, f18r4, f18r5, f18r7] | (refine BrW.of (fun hb => ?_) (fun hb => ?_) <;> (have hb' := hb; try simp only [decide_eq_true_eq, decide_eq_false_iff_not, beq_iff_eq, bne_iff_ne, beq_eq_false_iff_ne, bne_eq_false_iff_eq, Bool.not_eq_true', Bool.not_eq_false', Bool.not_eq_true, Bool.not_eq_false, Bool.and_eq_true, Bool.or_eq_true, Bool.and_eq_false_iff, Bool.or_eq_false_iff, Int.not_lt, Int.not_le, ne_eq, gt_iff_lt, ge_iff_le] at hb') <;> (try (exfalso; omega))) | (refine altW.of ?_ ?_)
  refine loopW.of (by decide) (fun m e J => ∃ (i : Nat) (L : List Int), e = [(0, slv G.length 0 0 l.length l.length), (1, .int .i64 0), (2, .int .i64 l.length), (3, .func (.func f) #[] #[u1, u2]), (8, .int .i64 i)] ∧ J = G ++ [.cells 0 1 false (ints L)] ∧ L.Perm l ∧ sortedTo (fun x y => decide (cf x y < 0)) L i ∧ 1 ≤ i ∧ i ≤ l.length + 1 ∧ m = l.length + 1 - i) l.length
    ⟨1, l, rfl, rfl, .refl _, fun p q h1 h2 => by omega, by omega, by omega, by omega⟩ ?_
  rintro m e J ⟨i, L, rfl, rfl, hp, hs, hi1, hi, rfl⟩
  have hpl := hp.length_eq
  by_cases hlt : i < l.length
  · have hst := InsI.start (D := D) hp hs hlt
    repeat' first | simp (disch := first | with_reducible assumption | omega) only [go_sem, Bool.true_and, Bool.and_true, Bool.and_self, Bool.false_and, Bool.and_false, Bool.true_or, Bool.or_true, Bool.false_or, Bool.or_false, ↓reduceIte, Nat.reduceEqDiff, Nat.reduceAdd, Nat.reduceMul, Nat.reduceSub, Nat.reduceBEq, Nat.reduceLeDiff, Nat.reduceLT, Nat.reduceMod, Nat.reduceDiv, Int.reduceToNat, Int.reducePow, Int.reduceMul, Int.reduceAdd, Int.reduceSub, Int.reduceLE, Int.reduceLT, Int.reduceNeg, Int.reduceDiv, Int.reduceMod, Int.reduceEq, Int.reduceBEq, Int.reduceBNe, f18, f18b, f18r0, f18r1, f18r2, f18r3, f18r4, f18r5, f18r7, f18l1] | (refine BrW.of (fun hb => ?_) (fun hb => ?_) <;> (have hb' := hb; try simp only [decide_eq_true_eq, decide_eq_false_iff_not, beq_iff_eq, bne_iff_ne, beq_eq_false_iff_ne, bne_eq_false_iff_eq, Bool.not_eq_true', Bool.not_eq_false', Bool.not_eq_true, Bool.not_eq_false, Bool.and_eq_true, Bool.or_eq_true, Bool.and_eq_false_iff, Bool.or_eq_false_iff, Int.not_lt, Int.not_le, ne_eq, gt_iff_lt, ge_iff_le] at hb') <;> (try (exfalso; omega))) | (refine altW.of ?_ ?_)
    refine loopW.of (by decide) (fun m e J => ∃ (j : Nat) (L : List Int), e = [(0, slv G.length 0 0 l.length l.length), (1, .int .i64 0), (2, .int .i64 l.length), (3, .func (.func f) #[] #[u1, u2]), (8, .int .i64 i), (9, .int .i64 j)] ∧ J = G ++ [.cells 0 1 false (ints L)] ∧ InsI D (fun x y => decide (cf x y < 0)) l L i j ∧ m = j) i
      ⟨i, L, rfl, rfl, hst, rfl⟩ ?_
    clear hst hs hpl hp
    rintro m e J ⟨j, L, rfl, rfl, hI, rfl⟩
    have hpl := hI.perm.length_eq
    have hle := hI.le
    have il := ints_length L
    rcases m with _ | j
    · have hz := hI.zero
      have hper := hI.perm
      repeat' first | simp (disch := first | with_reducible assumption | omega) only [go_sem, Bool.true_and, Bool.and_true, Bool.and_self, Bool.false_and, Bool.and_false, Bool.true_or, Bool.or_true, Bool.false_or, Bool.or_false, ↓reduceIte, Nat.reduceEqDiff, Nat.reduceAdd, Nat.reduceMul, Nat.reduceSub, Nat.reduceBEq, Nat.reduceLeDiff, Nat.reduceLT, Nat.reduceMod, Nat.reduceDiv, Int.reduceToNat, Int.reducePow, Int.reduceMul, Int.reduceAdd, Int.reduceSub, Int.reduceLE, Int.reduceLT, Int.reduceNeg, Int.reduceDiv, Int.reduceMod, Int.reduceEq, Int.reduceBEq, Int.reduceBNe, f18, f18b, f18r0, f18r1, f18r2, f18r3, f18r4, f18r5, f18r7, f18l0, f18, f18b, f18r0, f18r1, f18r2, f18r3, f18r4, f18r5, f18r7, f18l1] | (refine BrW.of (fun hb => ?_) (fun hb => ?_) <;> (have hb' := hb; try simp only [decide_eq_true_eq, decide_eq_false_iff_not, beq_iff_eq, bne_iff_ne, beq_eq_false_iff_ne, bne_eq_false_iff_eq, Bool.not_eq_true', Bool.not_eq_false', Bool.not_eq_true, Bool.not_eq_false, Bool.and_eq_true, Bool.or_eq_true, Bool.and_eq_false_iff, Bool.or_eq_false_iff, Int.not_lt, Int.not_le, ne_eq, gt_iff_lt, ge_iff_le] at hb') <;> (try (exfalso; omega))) | (refine altW.of ?_ ?_)
      refine RdW.keep [0, 1, 2, 3, 8] (l.length + 1 - (i + 1)) (by omega) ?_
      simp (disch := first | with_reducible assumption | omega) only [go_sem, Bool.true_and, Bool.and_true, Bool.and_self, Bool.false_and, Bool.and_false, Bool.true_or, Bool.or_true, Bool.false_or, Bool.or_false, ↓reduceIte, Nat.reduceEqDiff, Nat.reduceAdd, Nat.reduceMul, Nat.reduceSub, Nat.reduceBEq, Nat.reduceLeDiff, Nat.reduceLT, Nat.reduceMod, Nat.reduceDiv, Int.reduceToNat, Int.reducePow, Int.reduceMul, Int.reduceAdd, Int.reduceSub, Int.reduceLE, Int.reduceLT, Int.reduceNeg, Int.reduceDiv, Int.reduceMod, Int.reduceEq, Int.reduceBEq, Int.reduceBNe]
      exact ⟨i + 1, L, rfl, rfl, hper, hz, by omega, by omega, rfl⟩
    · have g1 := ints_get L (j + 1) (by omega)
      have g0 := ints_get L j (by omega)
      have hcall := hc (L.getD (j + 1) 0) (L.getD j 0) L (perm_D hI.perm hD (by omega)) (perm_D hI.perm hD (by omega))
      by_cases hcmp : cf (L.getD (j + 1) 0) (L.getD j 0) < 0
      · have hnx := hI.next ho hD (by simpa using hcmp)
        have s1 := ints_set L (j + 1) (L.getD j 0)
        have s2 := ints_set (L.set (j + 1) (L.getD j 0)) j (L.getD (j + 1) 0)
        have il2 := ints_length (L.set (j + 1) (L.getD j 0))
        rw [List.length_set] at il2
        change (ints _).set _ _ = ints (swapD L j) at s2
        have z1 : ((j + 1 : Nat) : Int) - 1 = j := by omega
        have z2 : ((j + 1 : Nat) : Int).toNat = j + 1 := by omega
        have z3 : (j : Int).toNat = j := by omega
        generalize hX : L.getD (j + 1) 0 = X at *
        generalize hY : L.getD j 0 = Y at *
        repeat' first | simp (disch := first | with_reducible assumption | omega) only [go_sem, Bool.true_and, Bool.and_true, Bool.and_self, Bool.false_and, Bool.and_false, Bool.true_or, Bool.or_true, Bool.false_or, Bool.or_false, ↓reduceIte, Nat.reduceEqDiff, Nat.reduceAdd, Nat.reduceMul, Nat.reduceSub, Nat.reduceBEq, Nat.reduceLeDiff, Nat.reduceLT, Nat.reduceMod, Nat.reduceDiv, Int.reduceToNat, Int.reducePow, Int.reduceMul, Int.reduceAdd, Int.reduceSub, Int.reduceLE, Int.reduceLT, Int.reduceNeg, Int.reduceDiv, Int.reduceMod, Int.reduceEq, Int.reduceBEq, Int.reduceBNe, f18, f18b, f18r0, f18r1, f18r2, f18r3, f18r4, f18r5, f18r7, f18l0, g1, g0, z1, z2, z3, s1, s2, il, il2] | (refine BrW.of (fun hb => ?_) (fun hb => ?_) <;> (have hb' := hb; try simp only [decide_eq_true_eq, decide_eq_false_iff_not, beq_iff_eq, bne_iff_ne, beq_eq_false_iff_ne, bne_eq_false_iff_eq, Bool.not_eq_true', Bool.not_eq_false', Bool.not_eq_true, Bool.not_eq_false, Bool.and_eq_true, Bool.or_eq_true, Bool.and_eq_false_iff, Bool.or_eq_false_iff, Int.not_lt, Int.not_le, ne_eq, gt_iff_lt, ge_iff_le] at hb') <;> (try (exfalso; omega))) | (refine altW.of ?_ ?_) | (refine dcallW.of _ _ hcall ?_)
        refine RdW.keep [0, 1, 2, 3, 8, 9] j (by omega) ?_
        simp (disch := first | with_reducible assumption | omega) only [go_sem, Bool.true_and, Bool.and_true, Bool.and_self, Bool.false_and, Bool.and_false, Bool.true_or, Bool.or_true, Bool.false_or, Bool.or_false, ↓reduceIte, Nat.reduceEqDiff, Nat.reduceAdd, Nat.reduceMul, Nat.reduceSub, Nat.reduceBEq, Nat.reduceLeDiff, Nat.reduceLT, Nat.reduceMod, Nat.reduceDiv, Int.reduceToNat, Int.reducePow, Int.reduceMul, Int.reduceAdd, Int.reduceSub, Int.reduceLE, Int.reduceLT, Int.reduceNeg, Int.reduceDiv, Int.reduceMod, Int.reduceEq, Int.reduceBEq, Int.reduceBNe]
        exact ⟨j, swapD L j, rfl, rfl, hnx, rfl⟩
      · have hstop := hI.stop ho hD (by simpa using hcmp)
        have hper := hI.perm
        have z1 : ((j + 1 : Nat) : Int) - 1 = j := by omega
        have z2 : ((j + 1 : Nat) : Int).toNat = j + 1 := by omega
        have z3 : (j : Int).toNat = j := by omega
        generalize hX : L.getD (j + 1) 0 = X at *
        generalize hY : L.getD j 0 = Y at *
        repeat' first | simp (disch := first | with_reducible assumption | omega) only [go_sem, Bool.true_and, Bool.and_true, Bool.and_self, Bool.false_and, Bool.and_false, Bool.true_or, Bool.or_true, Bool.false_or, Bool.or_false, ↓reduceIte, Nat.reduceEqDiff, Nat.reduceAdd, Nat.reduceMul, Nat.reduceSub, Nat.reduceBEq, Nat.reduceLeDiff, Nat.reduceLT, Nat.reduceMod, Nat.reduceDiv, Int.reduceToNat, Int.reducePow, Int.reduceMul, Int.reduceAdd, Int.reduceSub, Int.reduceLE, Int.reduceLT, Int.reduceNeg, Int.reduceDiv, Int.reduceMod, Int.reduceEq, Int.reduceBEq, Int.reduceBNe, f18, f18b, f18r0, f18r1, f18r2, f18r3, f18r4, f18r5, f18r7, f18l0, f18, f18b, f18r0, f18r1, f18r2, f18r3, f18r4, f18r5, f18r7, f18l1, g1, g0, z1, z2, z3, il] | (refine BrW.of (fun hb => ?_) (fun hb => ?_) <;> (have hb' := hb; try simp only [decide_eq_true_eq, decide_eq_false_iff_not, beq_iff_eq, bne_iff_ne, beq_eq_false_iff_ne, bne_eq_false_iff_eq, Bool.not_eq_true', Bool.not_eq_false', Bool.not_eq_true, Bool.not_eq_false, Bool.and_eq_true, Bool.or_eq_true, Bool.and_eq_false_iff, Bool.or_eq_false_iff, Int.not_lt, Int.not_le, ne_eq, gt_iff_lt, ge_iff_le] at hb') <;> (try (exfalso; omega))) | (refine altW.of ?_ ?_) | (refine dcallW.of _ _ hcall ?_)
        refine RdW.keep [0, 1, 2, 3, 8] (l.length + 1 - (i + 1)) (by omega) ?_
        simp (disch := first | with_reducible assumption | omega) only [go_sem, Bool.true_and, Bool.and_true, Bool.and_self, Bool.false_and, Bool.and_false, Bool.true_or, Bool.or_true, Bool.false_or, Bool.or_false, ↓reduceIte, Nat.reduceEqDiff, Nat.reduceAdd, Nat.reduceMul, Nat.reduceSub, Nat.reduceBEq, Nat.reduceLeDiff, Nat.reduceLT, Nat.reduceMod, Nat.reduceDiv, Int.reduceToNat, Int.reducePow, Int.reduceMul, Int.reduceAdd, Int.reduceSub, Int.reduceLE, Int.reduceLT, Int.reduceNeg, Int.reduceDiv, Int.reduceMod, Int.reduceEq, Int.reduceBEq, Int.reduceBNe]
        exact ⟨i + 1, L, rfl, rfl, hper, hstop, by omega, by omega, rfl⟩
  · repeat' first | simp (disch := first | with_reducible assumption | omega) only [go_sem, Bool.true_and, Bool.and_true, Bool.and_self, Bool.false_and, Bool.and_false, Bool.true_or, Bool.or_true, Bool.false_or, Bool.or_false, ↓reduceIte, Nat.reduceEqDiff, Nat.reduceAdd, Nat.reduceMul, Nat.reduceSub, Nat.reduceBEq, Nat.reduceLeDiff, Nat.reduceLT, Nat.reduceMod, Nat.reduceDiv, Int.reduceToNat, Int.reducePow, Int.reduceMul, Int.reduceAdd, Int.reduceSub, Int.reduceLE, Int.reduceLT, Int.reduceNeg, Int.reduceDiv, Int.reduceMod, Int.reduceEq, Int.reduceBEq, Int.reduceBNe, f18, f18b, f18r0, f18r1, f18r2, f18r3, f18r4, f18r5, f18r7, f18l1, f18, f18b, f18r0, f18r1, f18r2, f18r3, f18r4, f18r5, f18r7] | (refine BrW.of (fun hb => ?_) (fun hb => ?_) <;> (have hb' := hb; try simp only [decide_eq_true_eq, decide_eq_false_iff_not, beq_iff_eq, bne_iff_ne, beq_eq_false_iff_ne, bne_eq_false_iff_eq, Bool.not_eq_true', Bool.not_eq_false', Bool.not_eq_true, Bool.not_eq_false, Bool.and_eq_true, Bool.or_eq_true, Bool.and_eq_false_iff, Bool.or_eq_false_iff, Int.not_lt, Int.not_le, ne_eq, gt_iff_lt, ge_iff_le] at hb') <;> (try (exfalso; omega))) | (refine altW.of ?_ ?_)
    exact .here ⟨rfl, L, rfl, hp, fun p q h1 h2 => hs p q h1 (by omega)⟩

theorem Stable_spec (f : FuncId) (u1 u2 : Value) (G : Heap) (cf : Int → Int → Int) (D : Int → Prop) (ho : Swo D fun x y => decide (cf x y < 0)) (l : List Int) (hD : ∀ x ∈ l, D x) (hlen : l.length ≤ 16)
    (hc : ∀ x y L, D x → D y → ACallK Try.prog f [.int .i64 x, .int .i64 y, u1, u2] (G ++ [.cells 0 1 false (ints L)]) (fun v H' => v = .int .i64 (cf x y) ∧ H' = G ++ [.cells 0 1 false (ints L)])) :
    ACallK Try.prog 17 [slv G.length 0 0 l.length l.length, .int .i64 l.length, .func (.func f) #[] #[u1, u2]] (G ++ [.cells 0 1 false (ints l)]) (fun v H' => v = .tuple #[] ∧ ∃ L, H' = G ++ [.cells 0 1 false (ints L)] ∧ Sorts (fun x y => decide (cf x y < 0)) l L) := by
  have hI := Ins_spec f u1 u2 G cf D ho l hD (by omega) hc
  refine .walkW f17_ok (by simp; decide) (by decide) ?_
  repeat' first | simp (disch := first | with_reducible assumption | omega) only [go_sem, Bool.true_and, Bool.and_true, Bool.and_self, Bool.false_and, Bool.and_false, Bool.true_or, Bool.or_true, Bool.false_or, Bool.or_false, ↓reduceIte, Nat.reduceEqDiff, Nat.reduceAdd, Nat.reduceMul, Nat.reduceSub, Nat.reduceBEq, Nat.reduceLeDiff, Nat.reduceLT, Nat.reduceMod, Nat.reduceDiv, Int.reduceToNat, Int.reducePow, Int.reduceMul, Int.reduceAdd, Int.reduceSub, Int.reduceLE, Int.reduceLT, Int.reduceNeg, Int.reduceDiv, Int.reduceMod, Int.reduceEq, Int.reduceBEq, Int.reduceBNe, f17, f17b, f17r0, f17r1, f17r2, f17r3, f17r4, f17r5, f17r7, f17r8, f17r9, f17r10, f17r11, f17r12, f17r13, f17r15, f17r16, f17r17, f17r18] | (refine BrW.of (fun hb => ?_) (fun hb => ?_) <;> (have hb' := hb; try simp only [decide_eq_true_eq, decide_eq_false_iff_not, beq_iff_eq, bne_iff_ne, beq_eq_false_iff_ne, bne_eq_false_iff_eq, Bool.not_eq_true', Bool.not_eq_false', Bool.not_eq_true, Bool.not_eq_false, Bool.and_eq_true, Bool.or_eq_true, Bool.and_eq_false_iff, Bool.or_eq_false_iff, Int.not_lt, Int.not_le, ne_eq, gt_iff_lt, ge_iff_le] at hb') <;> (try (exfalso; omega))) | (refine altW.of ?_ ?_)
  refine loopW.of (by decide) (fun m e J => e = [(0, slv G.length 0 0 l.length l.length), (1, .int .i64 l.length), (2, .func (.func f) #[] #[u1, u2]), (6, .int .i64 20), (7, .int .i64 0), (8, .int .i64 20)] ∧ J = G ++ [.cells 0 1 false (ints l)]) 0 ⟨rfl, rfl⟩ ?_
  rintro m e J ⟨rfl, rfl⟩
  repeat' first | simp (disch := first | with_reducible assumption | omega) only [go_sem, Bool.true_and, Bool.and_true, Bool.and_self, Bool.false_and, Bool.and_false, Bool.true_or, Bool.or_true, Bool.false_or, Bool.or_false, ↓reduceIte, Nat.reduceEqDiff, Nat.reduceAdd, Nat.reduceMul, Nat.reduceSub, Nat.reduceBEq, Nat.reduceLeDiff, Nat.reduceLT, Nat.reduceMod, Nat.reduceDiv, Int.reduceToNat, Int.reducePow, Int.reduceMul, Int.reduceAdd, Int.reduceSub, Int.reduceLE, Int.reduceLT, Int.reduceNeg, Int.reduceDiv, Int.reduceMod, Int.reduceEq, Int.reduceBEq, Int.reduceBNe, f17, f17b, f17r0, f17r1, f17r2, f17r3, f17r4, f17r5, f17r7, f17r8, f17r9, f17r10, f17r11, f17r12, f17r13, f17r15, f17r16, f17r17, f17r18, f17l0, f17, f17b, f17r0, f17r1, f17r2, f17r3, f17r4, f17r5, f17r7, f17r8, f17r9, f17r10, f17r11, f17r12, f17r13, f17r15, f17r16, f17r17, f17r18] | (refine BrW.of (fun hb => ?_) (fun hb => ?_) <;> (have hb' := hb; try simp only [decide_eq_true_eq, decide_eq_false_iff_not, beq_iff_eq, bne_iff_ne, beq_eq_false_iff_ne, bne_eq_false_iff_eq, Bool.not_eq_true', Bool.not_eq_false', Bool.not_eq_true, Bool.not_eq_false, Bool.and_eq_true, Bool.or_eq_true, Bool.and_eq_false_iff, Bool.or_eq_false_iff, Int.not_lt, Int.not_le, ne_eq, gt_iff_lt, ge_iff_le] at hb') <;> (try (exfalso; omega))) | (refine altW.of ?_ ?_) | (refine .of (hI.mono ?_); rintro v H ⟨rfl, L, rfl, hL⟩)
  refine loopW.of (by decide) (fun m e J => e = [(0, slv G.length 0 0 l.length l.length), (1, .int .i64 l.length), (2, .func (.func f) #[] #[u1, u2]), (6, .int .i64 20)] ∧ J = G ++ [.cells 0 1 false (ints L)]) 0 ⟨rfl, rfl⟩ ?_
  rintro m e J ⟨rfl, rfl⟩
  repeat' first | simp (disch := first | with_reducible assumption | omega) only [go_sem, Bool.true_and, Bool.and_true, Bool.and_self, Bool.false_and, Bool.and_false, Bool.true_or, Bool.or_true, Bool.false_or, Bool.or_false, ↓reduceIte, Nat.reduceEqDiff, Nat.reduceAdd, Nat.reduceMul, Nat.reduceSub, Nat.reduceBEq, Nat.reduceLeDiff, Nat.reduceLT, Nat.reduceMod, Nat.reduceDiv, Int.reduceToNat, Int.reducePow, Int.reduceMul, Int.reduceAdd, Int.reduceSub, Int.reduceLE, Int.reduceLT, Int.reduceNeg, Int.reduceDiv, Int.reduceMod, Int.reduceEq, Int.reduceBEq, Int.reduceBNe, f17, f17b, f17r0, f17r1, f17r2, f17r3, f17r4, f17r5, f17r7, f17r8, f17r9, f17r10, f17r11, f17r12, f17r13, f17r15, f17r16, f17r17, f17r18, f17l2, f17, f17b, f17r0, f17r1, f17r2, f17r3, f17r4, f17r5, f17r7, f17r8, f17r9, f17r10, f17r11, f17r12, f17r13, f17r15, f17r16, f17r17, f17r18] | (refine BrW.of (fun hb => ?_) (fun hb => ?_) <;> (have hb' := hb; try simp only [decide_eq_true_eq, decide_eq_false_iff_not, beq_iff_eq, bne_iff_ne, beq_eq_false_iff_ne, bne_eq_false_iff_eq, Bool.not_eq_true', Bool.not_eq_false', Bool.not_eq_true, Bool.not_eq_false, Bool.and_eq_true, Bool.or_eq_true, Bool.and_eq_false_iff, Bool.or_eq_false_iff, Int.not_lt, Int.not_le, ne_eq, gt_iff_lt, ge_iff_le] at hb') <;> (try (exfalso; omega))) | (refine altW.of ?_ ?_)
  exact .here ⟨rfl, L, rfl, hL⟩
theorem SortS_spec (f : FuncId) (u1 u2 : Value) (G : Heap) (cf : Int → Int → Int) (D : Int → Prop) (ho : Swo D fun x y => decide (cf x y < 0)) (l : List Int) (hD : ∀ x ∈ l, D x) (hlen : l.length ≤ 16)
    (hc : ∀ x y L, D x → D y → ACallK Try.prog f [.int .i64 x, .int .i64 y, u1, u2] (G ++ [.cells 0 1 false (ints L)]) (fun v H' => v = .int .i64 (cf x y) ∧ H' = G ++ [.cells 0 1 false (ints L)])) :
    ACallK Try.prog 15 [slv G.length 0 0 l.length l.length, .func (.func f) #[] #[u1, u2]] (G ++ [.cells 0 1 false (ints l)]) (fun v H' => v = .tuple #[] ∧ ∃ L, H' = G ++ [.cells 0 1 false (ints L)] ∧ Sorts (fun x y => decide (cf x y < 0)) l L) := by
  have hI := Stable_spec f u1 u2 G cf D ho l hD hlen hc
  refine .walkW f15_ok (by simp; decide) (by decide) ?_
  repeat' first | simp (disch := first | with_reducible assumption | omega) only [go_sem, Bool.true_and, Bool.and_true, Bool.and_self, Bool.false_and, Bool.and_false, Bool.true_or, Bool.or_true, Bool.false_or, Bool.or_false, ↓reduceIte, Nat.reduceEqDiff, Nat.reduceAdd, Nat.reduceMul, Nat.reduceSub, Nat.reduceBEq, Nat.reduceLeDiff, Nat.reduceLT, Nat.reduceMod, Nat.reduceDiv, Int.reduceToNat, Int.reducePow, Int.reduceMul, Int.reduceAdd, Int.reduceSub, Int.reduceLE, Int.reduceLT, Int.reduceNeg, Int.reduceDiv, Int.reduceMod, Int.reduceEq, Int.reduceBEq, Int.reduceBNe, f15, f15b, f15r0] | (refine BrW.of (fun hb => ?_) (fun hb => ?_) <;> (have hb' := hb; try simp only [decide_eq_true_eq, decide_eq_false_iff_not, beq_iff_eq, bne_iff_ne, beq_eq_false_iff_ne, bne_eq_false_iff_eq, Bool.not_eq_true', Bool.not_eq_false', Bool.not_eq_true, Bool.not_eq_false, Bool.and_eq_true, Bool.or_eq_true, Bool.and_eq_false_iff, Bool.or_eq_false_iff, Int.not_lt, Int.not_le, ne_eq, gt_iff_lt, ge_iff_le] at hb') <;> (try (exfalso; omega))) | (refine altW.of ?_ ?_) | (refine .of (hI.mono ?_); rintro v H ⟨rfl, L, rfl, hL⟩)
  exact .here ⟨rfl, L, rfl, hL⟩
/-- The comparison: when one is done, and when the other one. -/
theorem cmp_spec (bs ws : List Int) (h : okB bs ws) (x y : Int) (hx : DO bs.length x) (hy : DO bs.length y) (H : Heap) (p6 p3 g6 g3 k2 o2 g2 c2 k3 o3 g3' c3 : Nat) (z6 z3 : Nat)
    (h6 : H[p6]? = some (.cells 0 z6 false [slv k3 o3 g3' bs.length c3])) (h3 : H[p3]? = some (.cells 0 z3 false [slv k2 o2 g2 bs.length c2]))
    (hE : Ints H k3 o3 g3' (tbE bs ws bs.length)) (hW : Ints H k2 o2 g2 ws) :
    ACallK Try.prog 16 [.int .i64 x, .int .i64 y, .pointer (some ⟨p6, 0, some 1⟩), .pointer (some ⟨p3, 0, some 1⟩)] H (fun v H' => v = .int .i64 (cfO bs ws x y) ∧ H' = H) := by
  obtain ⟨roE, csE, hkE, hclE, hcsE⟩ := Ints.cell hE
  obtain ⟨roW, csW, hkW, hclW, hcsW⟩ := Ints.cell hW
  rw [tbE_len] at hclE hcsE
  unfold DO at hx hy
  have ex := hcsE x.toNat (by omega)
  have ey := hcsE y.toNat (by omega)
  have vx := hcsW x.toNat (by rw [← h.1]; omega)
  have vy := hcsW y.toNat (by rw [← h.1]; omega)
  rw [tbE_get _ _ _ _ (by omega)] at ex ey
  have bx := endK_bound h (k := x.toNat) (by omega)
  have by' := endK_bound h (k := y.toNat) (by omega)
  have wx := (h.2.2 x.toNat (by omega)).2
  have wy := (h.2.2 y.toNat (by omega)).2
  have m1 := mul_bound bx.1 bx.2 (show 0 ≤ ws.getD y.toNat 0 by omega) wy.2
  have m2 := mul_bound by'.1 by'.2 (show 0 ≤ ws.getD x.toNat 0 by omega) wx.2
  have hcf : cfO bs ws x y = endK bs ws x.toNat * ws.getD y.toNat 0 - endK bs ws y.toNat * ws.getD x.toNat 0 := rfl
  refine .walkW f16_ok (by simp; decide) (by decide) ?_
  clear hcsE hcsW
  have hlw := h.1
  rw [hcf]
  clear hcf
  generalize endK bs ws x.toNat = EX at *
  generalize endK bs ws y.toNat = EY at *
  generalize ws.getD x.toNat 0 = VX at *
  generalize ws.getD y.toNat 0 = VY at *
  repeat' first | simp (disch := first | with_reducible assumption | omega) only [go_sem, Bool.true_and, Bool.and_true, Bool.and_self, Bool.false_and, Bool.and_false, Bool.true_or, Bool.or_true, Bool.false_or, Bool.or_false, ↓reduceIte, Nat.reduceEqDiff, Nat.reduceAdd, Nat.reduceMul, Nat.reduceSub, Nat.reduceBEq, Nat.reduceLeDiff, Nat.reduceLT, Nat.reduceMod, Nat.reduceDiv, Int.reduceToNat, Int.reducePow, Int.reduceMul, Int.reduceAdd, Int.reduceSub, Int.reduceLE, Int.reduceLT, Int.reduceNeg, Int.reduceDiv, Int.reduceMod, Int.reduceEq, Int.reduceBEq, Int.reduceBNe, f16, f16b, f16r0, f16r1, h6, h3, hkE, hkW, ex, ey, vx, vy] | (refine BrW.of (fun hb => ?_) (fun hb => ?_) <;> (have hb' := hb; try simp only [decide_eq_true_eq, decide_eq_false_iff_not, beq_iff_eq, bne_iff_ne, beq_eq_false_iff_ne, bne_eq_false_iff_eq, Bool.not_eq_true', Bool.not_eq_false', Bool.not_eq_true, Bool.not_eq_false, Bool.and_eq_true, Bool.or_eq_true, Bool.and_eq_false_iff, Bool.or_eq_false_iff, Int.not_lt, Int.not_le, ne_eq, gt_iff_lt, ge_iff_le] at hb') <;> (try (exfalso; omega))) | (refine altW.of ?_ ?_)
  exact .here ⟨rfl, rfl⟩
/-- The first i are laidO, the others not yet. -/
def laidO (n i : Nat) : List Int := rng i ++ List.replicate (n - i) 0
theorem laidO_zero (n : Nat) : laidO n 0 = List.replicate n 0 := by simp [laidO, rng]
theorem laidO_all (n : Nat) : laidO n n = rng n := by simp [laidO]
theorem laidO_len (n i : Nat) (h : i ≤ n) : (laidO n i).length = n := by simp [laidO, rng]; omega
theorem laidO_succ (n i : Nat) (h : i < n) : (laidO n i).set i (i : Int) = laidO n (i + 1) := by
  unfold laidO
  rw [rng_succ, List.set_append_right _ _ (by rw [rng_len]; exact Nat.le_refl _), rng_len, Nat.sub_self, show n - i = n - (i + 1) + 1 by omega, List.replicate_succ]
  simp
theorem Order_spec (bs ws : List Int) (wb ww : Value) (A B : Nat → Prop) (H : Heap) (hb0 : IsN A H wb bs) (hw0 : IsN B H ww ws) (hbl : bs.length ≤ 9223372036854775807) (hwl : ws.length ≤ 9223372036854775807) :
    ACallK Try.prog 12 [wb, ww] H (fun v H' => ∃ a e, v = .tuple #[a, .int .i64 e] ∧ Le H H' ∧ (e = 0 ↔ okB bs ws) ∧ (e ≠ 0 → a = .slice none 0 0) ∧ (e = 0 → ∃ o, IsN (H.length ≤ ·) H' a o ∧ Sorts (ltO bs ws) (rng bs.length) o)) := by
  obtain ⟨k2, o2, g2, c2, _, rfl, hs2, hc2⟩ := hw0
  have hE := End_spec bs ws wb (slv k2 o2 g2 ws.length c2) A (fun _ => True) (H ++ [.cells 0 0 false [slv k2 o2 g2 ws.length c2]]) (hb0.app _) (.of trivial (hs2.app _) hc2) hbl hwl
  obtain ⟨k, o, g, c, _, rfl, hs, hc⟩ := hb0
  obtain ⟨ro, cs, hk, hcl, hcs⟩ := Ints.cell hs
  clear hcs
  refine .walkW f12_ok (by simp; decide) (by decide) ?_
  repeat' first | simp (disch := first | with_reducible assumption | omega) only [go_sem, Bool.true_and, Bool.and_true, Bool.and_self, Bool.false_and, Bool.and_false, Bool.true_or, Bool.or_true, Bool.false_or, Bool.or_false, ↓reduceIte, Nat.reduceEqDiff, Nat.reduceAdd, Nat.reduceMul, Nat.reduceSub, Nat.reduceBEq, Nat.reduceLeDiff, Nat.reduceLT, Nat.reduceMod, Nat.reduceDiv, Int.reduceToNat, Int.reducePow, Int.reduceMul, Int.reduceAdd, Int.reduceSub, Int.reduceLE, Int.reduceLT, Int.reduceNeg, Int.reduceDiv, Int.reduceMod, Int.reduceEq, Int.reduceBEq, Int.reduceBNe, f12, f12b, f12r0, f12r1, f12r2, f12r3, f12r4, f12r5, f12r6, f12r7, f12r8, f12r9, f12r11, f12r12] | (refine BrW.of (fun hb => ?_) (fun hb => ?_) <;> (have hb' := hb; try simp only [decide_eq_true_eq, decide_eq_false_iff_not, beq_iff_eq, bne_iff_ne, beq_eq_false_iff_ne, bne_eq_false_iff_eq, Bool.not_eq_true', Bool.not_eq_false', Bool.not_eq_true, Bool.not_eq_false, Bool.and_eq_true, Bool.or_eq_true, Bool.and_eq_false_iff, Bool.or_eq_false_iff, Int.not_lt, Int.not_le, ne_eq, gt_iff_lt, ge_iff_le] at hb') <;> (try (exfalso; omega))) | (refine altW.of ?_ ?_)
  refine .of (hE.mono ?_)
  rintro v G ⟨a, e, rfl, hLe, he, hn, hy⟩
  have hle : Le H G := (Le.app _ _).trans hLe
  by_cases z : e = 0
  · have hok := he.1 z
    obtain ⟨k3, o3, g3, c3, _, rfl, hs3, hc3⟩ := hy z
    rw [tbE_len] at hc3 ⊢
    have hl16 := hok.2.1
    have hll := hok.1
    subst z
    clear hE he hn hy
    have hkG := hle.get hk
    have hz : (List.replicate bs.length [Value.int .i64 0]).flatten = ints (laidO bs.length 0) := by
      rw [laidO_zero]
      have : ∀ n : Nat, (List.replicate n [Value.int .i64 0]).flatten = List.replicate n (Value.int .i64 0) := fun n => by
        induction n with
        | zero => rfl
        | succ n ih => simp only [List.replicate_succ, List.flatten_cons, ih]; rfl
      rw [this]; simp [ints]
    have h3 := hLe.get (get_new0 H (.cells 0 0 false [slv k2 o2 g2 ws.length c2]) [])
    have hW3 : Ints G k2 o2 g2 ws := hs2.le hle
    have hHG : H.length < G.length := (List.getElem?_eq_some_iff.1 h3).1
    have hord := swoO hok
    have hcall := fun (u y : Int) (L : List Int) (hu : DO bs.length u) (hy : DO bs.length y) => cmp_spec bs ws hok u y hu hy (G ++ [.cells 0 0 false [slv k3 o3 g3 bs.length c3]] ++ [.cells 0 1 false (ints L)]) G.length H.length 0 0 k2 o2 g2 c2 k3 o3 g3 c3 0 0
      (by rw [List.append_assoc]; exact get_new0 _ _ _) (by rw [hll]; exact get_old (get_old h3 _) _) ((hs3.app _).app _) ((hW3.app _).app _)
    have hS := SortS_spec 16 (.pointer (some ⟨G.length, 0, some 1⟩)) (.pointer (some ⟨H.length, 0, some 1⟩)) (G ++ [.cells 0 0 false [slv k3 o3 g3 bs.length c3]]) (cfO bs ws) (DO bs.length) hord (rng bs.length) (fun x hx => rng_mem hx) (by rw [rng_len]; exact hl16) hcall
    rw [rng_len] at hS
    simp only [List.append_assoc, List.cons_append, List.nil_append, List.length_append, List.length_cons, List.length_nil, Nat.zero_add] at hS
    clear hcall
    repeat' first | simp (disch := first | with_reducible assumption | omega) only [go_sem, Bool.true_and, Bool.and_true, Bool.and_self, Bool.false_and, Bool.and_false, Bool.true_or, Bool.or_true, Bool.false_or, Bool.or_false, ↓reduceIte, Nat.reduceEqDiff, Nat.reduceAdd, Nat.reduceMul, Nat.reduceSub, Nat.reduceBEq, Nat.reduceLeDiff, Nat.reduceLT, Nat.reduceMod, Nat.reduceDiv, Int.reduceToNat, Int.reducePow, Int.reduceMul, Int.reduceAdd, Int.reduceSub, Int.reduceLE, Int.reduceLT, Int.reduceNeg, Int.reduceDiv, Int.reduceMod, Int.reduceEq, Int.reduceBEq, Int.reduceBNe, f12, f12b, f12r0, f12r1, f12r2, f12r3, f12r4, f12r5, f12r6, f12r7, f12r8, f12r9, f12r11, f12r12, hkG, get_old hkG, hz] | (refine BrW.of (fun hb => ?_) (fun hb => ?_) <;> (have hb' := hb; try simp only [decide_eq_true_eq, decide_eq_false_iff_not, beq_iff_eq, bne_iff_ne, beq_eq_false_iff_ne, bne_eq_false_iff_eq, Bool.not_eq_true', Bool.not_eq_false', Bool.not_eq_true, Bool.not_eq_false, Bool.and_eq_true, Bool.or_eq_true, Bool.and_eq_false_iff, Bool.or_eq_false_iff, Int.not_lt, Int.not_le, ne_eq, gt_iff_lt, ge_iff_le] at hb') <;> (try (exfalso; omega))) | (refine altW.of ?_ ?_)
    have hlz := laidO_len bs.length 0 (by omega)
    refine loopW.of (by decide) (fun m e J => ∃ i : Nat, e = [(3, .pointer (some ⟨H.length, 0, some 1⟩)), (6, .pointer (some ⟨G.length, 0, some 1⟩)), (8, slv (G.length + 1) 0 0 bs.length bs.length), (23, .int .i64 bs.length), (24, .int .i64 i)] ∧ J = G ++ [.cells 0 0 false [slv k3 o3 g3 bs.length c3], .cells 0 1 false (ints (laidO bs.length i))] ∧ i ≤ bs.length ∧ m = bs.length - i) bs.length ⟨0, rfl, rfl, by omega, rfl⟩ ?_
    rintro m e J ⟨i, rfl, rfl, hi, rfl⟩
    have il := ints_length (laidO bs.length i)
    rw [laidO_len _ _ hi] at il
    by_cases hlt : i < bs.length
    · have st := ints_set (laidO bs.length i) i (i : Int)
      rw [laidO_succ _ _ hlt] at st
      have z3 : (i : Int).toNat = i := by omega
      repeat' first | simp (disch := first | with_reducible assumption | omega) only [go_sem, Bool.true_and, Bool.and_true, Bool.and_self, Bool.false_and, Bool.and_false, Bool.true_or, Bool.or_true, Bool.false_or, Bool.or_false, ↓reduceIte, Nat.reduceEqDiff, Nat.reduceAdd, Nat.reduceMul, Nat.reduceSub, Nat.reduceBEq, Nat.reduceLeDiff, Nat.reduceLT, Nat.reduceMod, Nat.reduceDiv, Int.reduceToNat, Int.reducePow, Int.reduceMul, Int.reduceAdd, Int.reduceSub, Int.reduceLE, Int.reduceLT, Int.reduceNeg, Int.reduceDiv, Int.reduceMod, Int.reduceEq, Int.reduceBEq, Int.reduceBNe, f12, f12b, f12r0, f12r1, f12r2, f12r3, f12r4, f12r5, f12r6, f12r7, f12r8, f12r9, f12r11, f12r12, f12l0, il, st, z3] | (refine BrW.of (fun hb => ?_) (fun hb => ?_) <;> (have hb' := hb; try simp only [decide_eq_true_eq, decide_eq_false_iff_not, beq_iff_eq, bne_iff_ne, beq_eq_false_iff_ne, bne_eq_false_iff_eq, Bool.not_eq_true', Bool.not_eq_false', Bool.not_eq_true, Bool.not_eq_false, Bool.and_eq_true, Bool.or_eq_true, Bool.and_eq_false_iff, Bool.or_eq_false_iff, Int.not_lt, Int.not_le, ne_eq, gt_iff_lt, ge_iff_le] at hb') <;> (try (exfalso; omega))) | (refine altW.of ?_ ?_)
      refine RdW.keep [3, 6, 8, 23, 24] (bs.length - (i + 1)) (by omega) ?_
      simp (disch := first | with_reducible assumption | omega) only [go_sem, Bool.true_and, Bool.and_true, Bool.and_self, Bool.false_and, Bool.and_false, Bool.true_or, Bool.or_true, Bool.false_or, Bool.or_false, ↓reduceIte, Nat.reduceEqDiff, Nat.reduceAdd, Nat.reduceMul, Nat.reduceSub, Nat.reduceBEq, Nat.reduceLeDiff, Nat.reduceLT, Nat.reduceMod, Nat.reduceDiv, Int.reduceToNat, Int.reducePow, Int.reduceMul, Int.reduceAdd, Int.reduceSub, Int.reduceLE, Int.reduceLT, Int.reduceNeg, Int.reduceDiv, Int.reduceMod, Int.reduceEq, Int.reduceBEq, Int.reduceBNe]
      exact ⟨i + 1, rfl, rfl, by omega, rfl⟩
    · obtain rfl : i = bs.length := by omega
      rw [laidO_all]
      repeat' first | simp (disch := first | with_reducible assumption | omega) only [go_sem, Bool.true_and, Bool.and_true, Bool.and_self, Bool.false_and, Bool.and_false, Bool.true_or, Bool.or_true, Bool.false_or, Bool.or_false, ↓reduceIte, Nat.reduceEqDiff, Nat.reduceAdd, Nat.reduceMul, Nat.reduceSub, Nat.reduceBEq, Nat.reduceLeDiff, Nat.reduceLT, Nat.reduceMod, Nat.reduceDiv, Int.reduceToNat, Int.reducePow, Int.reduceMul, Int.reduceAdd, Int.reduceSub, Int.reduceLE, Int.reduceLT, Int.reduceNeg, Int.reduceDiv, Int.reduceMod, Int.reduceEq, Int.reduceBEq, Int.reduceBNe, f12, f12b, f12r0, f12r1, f12r2, f12r3, f12r4, f12r5, f12r6, f12r7, f12r8, f12r9, f12r11, f12r12, f12l0, f12, f12b, f12r0, f12r1, f12r2, f12r3, f12r4, f12r5, f12r6, f12r7, f12r8, f12r9, f12r11, f12r12] | (refine BrW.of (fun hb => ?_) (fun hb => ?_) <;> (have hb' := hb; try simp only [decide_eq_true_eq, decide_eq_false_iff_not, beq_iff_eq, bne_iff_ne, beq_eq_false_iff_ne, bne_eq_false_iff_eq, Bool.not_eq_true', Bool.not_eq_false', Bool.not_eq_true, Bool.not_eq_false, Bool.and_eq_true, Bool.or_eq_true, Bool.and_eq_false_iff, Bool.or_eq_false_iff, Int.not_lt, Int.not_le, ne_eq, gt_iff_lt, ge_iff_le] at hb') <;> (try (exfalso; omega))) | (refine altW.of ?_ ?_) | (refine .of (hS.mono ?_); rintro v J ⟨rfl, L, rfl, hL⟩)
      have hLl := hL.1.length_eq
      rw [rng_len] at hLl
      refine .here ⟨_, 0, rfl, hle.trans (.app _ _), ⟨fun _ => hok, fun _ => rfl⟩, fun h => absurd rfl h, fun _ => ⟨L, ?_, hL⟩⟩
      refine ⟨G.length + 1, 0, 0, bs.length, by omega, by rw [hLl], Ints.new _ _ _ false _ ?_, by omega⟩
      rw [get_new]; rfl
  · have z' : (e != 0) = true := by simpa using z
    obtain rfl := hn z
    repeat' first | simp (disch := first | with_reducible assumption | omega) only [go_sem, Bool.true_and, Bool.and_true, Bool.and_self, Bool.false_and, Bool.and_false, Bool.true_or, Bool.or_true, Bool.false_or, Bool.or_false, ↓reduceIte, Nat.reduceEqDiff, Nat.reduceAdd, Nat.reduceMul, Nat.reduceSub, Nat.reduceBEq, Nat.reduceLeDiff, Nat.reduceLT, Nat.reduceMod, Nat.reduceDiv, Int.reduceToNat, Int.reducePow, Int.reduceMul, Int.reduceAdd, Int.reduceSub, Int.reduceLE, Int.reduceLT, Int.reduceNeg, Int.reduceDiv, Int.reduceMod, Int.reduceEq, Int.reduceBEq, Int.reduceBNe, f12, f12b, f12r0, f12r1, f12r2, f12r3, f12r4, f12r5, f12r6, f12r7, f12r8, f12r9, f12r11, f12r12, z'] | (refine BrW.of (fun hb => ?_) (fun hb => ?_) <;> (have hb' := hb; try simp only [decide_eq_true_eq, decide_eq_false_iff_not, beq_iff_eq, bne_iff_ne, beq_eq_false_iff_ne, bne_eq_false_iff_eq, Bool.not_eq_true', Bool.not_eq_false', Bool.not_eq_true, Bool.not_eq_false, Bool.and_eq_true, Bool.or_eq_true, Bool.and_eq_false_iff, Bool.or_eq_false_iff, Int.not_lt, Int.not_le, ne_eq, gt_iff_lt, ge_iff_le] at hb') <;> (try (exfalso; omega))) | (refine altW.of ?_ ?_)
    exact .here ⟨_, _, rfl, hle.trans (Le.app _ _), he, fun _ => rfl, fun h => absurd h z⟩
end Go.Proofs.Ytamnmcljomgboaa
