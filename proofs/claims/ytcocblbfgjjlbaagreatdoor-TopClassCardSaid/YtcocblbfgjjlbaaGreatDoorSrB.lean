import Derived.Test.YtcocblbfgjjlbaaGreatDoorSrA
set_option linter.unusedSimpArgs false
set_option linter.unusedVariables false
set_option maxHeartbeats 2000000
set_option maxRecDepth 20000
namespace Go.Proofs.YtcocblbfgjjlbaaGreatDoor
open Go Go.Am Tr

/-- Half of a sum, by a shift. -/
theorem half_eq (x y : Nat) (h : x + y ≤ 4194304) : (((x : Int) + y) / 2).toNat = (x + y) / 2 := by omega

/-- What the merging asks for, and gives. -/
def SymR (G : Heap) (gn : Nat) (n : Nat) : Prop := ∀ (L : List Px) (a m b c : Nat), b - a < n → (∀ x ∈ L, okb x) → a < m → m < b → b ≤ L.length → L.length ≤ 1048576 → srt p0 ltB L a m → srt p0 ltB L m b →
  ACallK Tryz.prog 34 [slv G.length 0 gn L.length c, .int .i64 a, .int .i64 m, .int .i64 b, .func (.func 9) #[] #[]] (G ++ [.cells gn 6 false (flat' Px.cells L)]) (fun v H' => v = .tuple #[] ∧ ∃ S, H' = G ++ [.cells gn 6 false (flat' Px.cells S)] ∧ Rng p0 L S a b ∧ srt p0 ltB S a b)

theorem Sym_one (G : Heap) (gn : Nat) (L : List Px) (a b c : Nat) (hO : ∀ x ∈ L, okb x) (h1 : a + 1 < b) (h2 : b ≤ L.length) (hL : L.length ≤ 1048576) (hs : srt p0 ltB L (a + 1) b) :
  ACallK Tryz.prog 34 [slv G.length 0 gn L.length c, .int .i64 a, .int .i64 ((a + 1 : Nat) : Int), .int .i64 b, .func (.func 9) #[] #[]] (G ++ [.cells gn 6 false (flat' Px.cells L)]) (fun v H' => v = .tuple #[] ∧ ∃ S, H' = G ++ [.cells gn 6 false (flat' Px.cells S)] ∧ Rng p0 L S a b ∧ srt p0 ltB S a b) := by
  have l1 := flat'_length (enc := Px.cells) (s := 6) (fun _ => rfl) L
  have z0 : ((a + 1 : Nat) : Int) - a = 1 := by omega
  have f1 := flat'_ld (enc := Px.cells) (s := 6) (fun _ => rfl) p0 L a (by omega)
  have z3 : (a : Int).toNat = a := by omega
  have ox := okb_get hO (k := a) (by omega)
  refine .walkW f34_ok (by simp; decide) (by decide) ?_
  repeat' first | simp (disch := first | with_reducible assumption | omega) only [go_sem, Bool.true_and, Bool.and_true, Bool.and_self, Bool.false_and, Bool.and_false, Bool.true_or, Bool.or_true, Bool.false_or, Bool.or_false, ↓reduceIte, Nat.reduceEqDiff, Nat.reduceAdd, Nat.reduceMul, Nat.reduceSub, Nat.reduceBEq, Nat.reduceLeDiff, Nat.reduceLT, Nat.reduceMod, Nat.reduceDiv, Int.reduceToNat, Int.reducePow, Int.reduceMul, Int.reduceAdd, Int.reduceSub, Int.reduceLE, Int.reduceLT, Int.reduceNeg, Int.reduceDiv, Int.reduceMod, Int.reduceEq, Int.reduceBEq, Int.reduceBNe, f34, f34b, f34r0, f34r1, f34r2, f34r3, f34r4, f34r5, f34r6, f34r7, f34r9, f34r10, f34r11, f34r12, f34r14, f34r15, f34r16, f34r17, f34r18, f34r19, f34r20, f34r21, f34r23, f34r24, f34r25, f34r26, f34r28, f34r29, f34r30, f34r31, f34r32, f34r33, f34r34, f34r35, f34r36, f34r37, f34r38, f34r39, f34r40, f34r41, f34r43, f34r44, f34r45, f34r46, f34r47, f34r48, f34r49, z0] | (refine BrW.of (fun hb => ?_) (fun hb => ?_) <;> (have hb' := hb; try simp only [decide_eq_true_eq, decide_eq_false_iff_not, beq_iff_eq, bne_iff_ne, beq_eq_false_iff_ne, bne_eq_false_iff_eq, Bool.not_eq_true', Bool.not_eq_false', Bool.not_eq_true, Bool.not_eq_false, Bool.and_eq_true, Bool.or_eq_true, Bool.and_eq_false_iff, Bool.or_eq_false_iff, Int.not_lt, Int.not_le, ne_eq, gt_iff_lt, ge_iff_le] at hb') <;> (try (exfalso; omega))) | (refine altW.of ?_ ?_)
  refine loopW.of (by decide) (fun w e J => ∃ i j : Nat, e = [(0, slv G.length 0 gn L.length c), (1, .int .i64 a), (4, .func (.func 9) #[] #[]), (10, .int .i64 i), (11, .int .i64 j)] ∧ J = G ++ [.cells gn 6 false (flat' Px.cells L)] ∧ a + 1 ≤ i ∧ i ≤ j ∧ j ≤ b ∧
    (∀ k, a + 1 ≤ k → k < i → ltB (L.getD k p0) (L.getD a p0) = true) ∧ (∀ k, j ≤ k → k < b → ltB (L.getD k p0) (L.getD a p0) = false) ∧ w = j - i) (b - (a + 1)) ⟨a + 1, b, rfl, rfl, by omega, by omega, by omega, fun k _ _ => by omega, fun k _ _ => by omega, rfl⟩ ?_
  rintro w e J ⟨i, j, rfl, rfl, hi, hij, hj, hlo, hhi, rfl⟩
  by_cases hlt : i < j
  · obtain ⟨h, hh⟩ : ∃ h, h = (i + j) / 2 := ⟨_, rfl⟩
    have zh : ((i : Int) + j) / 2 = h := by omega
    have zt : (h : Int).toNat = h := by omega
    have f2 := flat'_ld (enc := Px.cells) (s := 6) (fun _ => rfl) p0 L h (by omega)
    have oh := okb_get hO (k := h) (by omega)
    have hcall := cmpB_spec (L.getD h p0) (L.getD a p0) oh ox (G ++ [.cells gn 6 false (flat' Px.cells L)])
    by_cases hcmp : (L.getD a p0).bits < (L.getD h p0).bits
    · have hlo' : ∀ k, a + 1 ≤ k → k < h + 1 → ltB (L.getD k p0) (L.getD a p0) = true := fun k k1 k2 => by
        by_cases e : k < i
        · exact hlo k k1 e
        · have := hs.le swoB k1 (show k ≤ h by omega) (by omega)
          unfold ltB at this ⊢
          simp only [decide_eq_true_eq, decide_eq_false_iff_not] at this ⊢
          omega
      clear hlo
      unfold okb at ox oh
      generalize L.getD h p0 = X at *
      generalize L.getD a p0 = Y at *
      have hc0 : Y.bits - X.bits < 0 := by omega
      repeat' first | simp (disch := first | with_reducible assumption | omega) only [go_sem, Bool.true_and, Bool.and_true, Bool.and_self, Bool.false_and, Bool.and_false, Bool.true_or, Bool.or_true, Bool.false_or, Bool.or_false, ↓reduceIte, Nat.reduceEqDiff, Nat.reduceAdd, Nat.reduceMul, Nat.reduceSub, Nat.reduceBEq, Nat.reduceLeDiff, Nat.reduceLT, Nat.reduceMod, Nat.reduceDiv, Int.reduceToNat, Int.reducePow, Int.reduceMul, Int.reduceAdd, Int.reduceSub, Int.reduceLE, Int.reduceLT, Int.reduceNeg, Int.reduceDiv, Int.reduceMod, Int.reduceEq, Int.reduceBEq, Int.reduceBNe, f34, f34b, f34r0, f34r1, f34r2, f34r3, f34r4, f34r5, f34r6, f34r7, f34r9, f34r10, f34r11, f34r12, f34r14, f34r15, f34r16, f34r17, f34r18, f34r19, f34r20, f34r21, f34r23, f34r24, f34r25, f34r26, f34r28, f34r29, f34r30, f34r31, f34r32, f34r33, f34r34, f34r35, f34r36, f34r37, f34r38, f34r39, f34r40, f34r41, f34r43, f34r44, f34r45, f34r46, f34r47, f34r48, f34r49, f34l0, ↓f1, ↓f2, l1, z3, zh, zt, Px.cells_length] | (refine BrW.of (fun hb => ?_) (fun hb => ?_) <;> (have hb' := hb; try simp only [decide_eq_true_eq, decide_eq_false_iff_not, beq_iff_eq, bne_iff_ne, beq_eq_false_iff_ne, bne_eq_false_iff_eq, Bool.not_eq_true', Bool.not_eq_false', Bool.not_eq_true, Bool.not_eq_false, Bool.and_eq_true, Bool.or_eq_true, Bool.and_eq_false_iff, Bool.or_eq_false_iff, Int.not_lt, Int.not_le, ne_eq, gt_iff_lt, ge_iff_le] at hb') <;> (try (exfalso; omega))) | (refine altW.of ?_ ?_) | (refine dcallW.of _ _ hcall ?_) | (refine callW.ex _ _ hcall ?_)
      refine RdW.keep [0, 1, 4, 10, 11] (j - (h + 1)) (by omega) ?_
      simp (disch := first | with_reducible assumption | omega) only [go_sem, Bool.true_and, Bool.and_true, Bool.and_self, Bool.false_and, Bool.and_false, Bool.true_or, Bool.or_true, Bool.false_or, Bool.or_false, ↓reduceIte, Nat.reduceEqDiff, Nat.reduceAdd, Nat.reduceMul, Nat.reduceSub, Nat.reduceBEq, Nat.reduceLeDiff, Nat.reduceLT, Nat.reduceMod, Nat.reduceDiv, Int.reduceToNat, Int.reducePow, Int.reduceMul, Int.reduceAdd, Int.reduceSub, Int.reduceLE, Int.reduceLT, Int.reduceNeg, Int.reduceDiv, Int.reduceMod, Int.reduceEq, Int.reduceBEq, Int.reduceBNe]
      exact ⟨h + 1, j, rfl, by omega, by omega, hj, hlo', hhi, rfl⟩
    · have hhi' : ∀ k, h ≤ k → k < b → ltB (L.getD k p0) (L.getD a p0) = false := fun k k1 k2 => by
        have := hs.le swoB (show a + 1 ≤ h by omega) k1 k2
        unfold ltB at this ⊢
        simp only [decide_eq_true_eq, decide_eq_false_iff_not] at this ⊢
        omega
      clear hhi
      unfold okb at ox oh
      generalize L.getD h p0 = X at *
      generalize L.getD a p0 = Y at *
      have hc0 : 0 ≤ Y.bits - X.bits := by omega
      repeat' first | simp (disch := first | with_reducible assumption | omega) only [go_sem, Bool.true_and, Bool.and_true, Bool.and_self, Bool.false_and, Bool.and_false, Bool.true_or, Bool.or_true, Bool.false_or, Bool.or_false, ↓reduceIte, Nat.reduceEqDiff, Nat.reduceAdd, Nat.reduceMul, Nat.reduceSub, Nat.reduceBEq, Nat.reduceLeDiff, Nat.reduceLT, Nat.reduceMod, Nat.reduceDiv, Int.reduceToNat, Int.reducePow, Int.reduceMul, Int.reduceAdd, Int.reduceSub, Int.reduceLE, Int.reduceLT, Int.reduceNeg, Int.reduceDiv, Int.reduceMod, Int.reduceEq, Int.reduceBEq, Int.reduceBNe, f34, f34b, f34r0, f34r1, f34r2, f34r3, f34r4, f34r5, f34r6, f34r7, f34r9, f34r10, f34r11, f34r12, f34r14, f34r15, f34r16, f34r17, f34r18, f34r19, f34r20, f34r21, f34r23, f34r24, f34r25, f34r26, f34r28, f34r29, f34r30, f34r31, f34r32, f34r33, f34r34, f34r35, f34r36, f34r37, f34r38, f34r39, f34r40, f34r41, f34r43, f34r44, f34r45, f34r46, f34r47, f34r48, f34r49, f34l0, ↓f1, ↓f2, l1, z3, zh, zt, Px.cells_length] | (refine BrW.of (fun hb => ?_) (fun hb => ?_) <;> (have hb' := hb; try simp only [decide_eq_true_eq, decide_eq_false_iff_not, beq_iff_eq, bne_iff_ne, beq_eq_false_iff_ne, bne_eq_false_iff_eq, Bool.not_eq_true', Bool.not_eq_false', Bool.not_eq_true, Bool.not_eq_false, Bool.and_eq_true, Bool.or_eq_true, Bool.and_eq_false_iff, Bool.or_eq_false_iff, Int.not_lt, Int.not_le, ne_eq, gt_iff_lt, ge_iff_le] at hb') <;> (try (exfalso; omega))) | (refine altW.of ?_ ?_) | (refine dcallW.of _ _ hcall ?_) | (refine callW.ex _ _ hcall ?_)
      refine RdW.keep [0, 1, 4, 10, 11] (h - i) (by omega) ?_
      simp (disch := first | with_reducible assumption | omega) only [go_sem, Bool.true_and, Bool.and_true, Bool.and_self, Bool.false_and, Bool.and_false, Bool.true_or, Bool.or_true, Bool.false_or, Bool.or_false, ↓reduceIte, Nat.reduceEqDiff, Nat.reduceAdd, Nat.reduceMul, Nat.reduceSub, Nat.reduceBEq, Nat.reduceLeDiff, Nat.reduceLT, Nat.reduceMod, Nat.reduceDiv, Int.reduceToNat, Int.reducePow, Int.reduceMul, Int.reduceAdd, Int.reduceSub, Int.reduceLE, Int.reduceLT, Int.reduceNeg, Int.reduceDiv, Int.reduceMod, Int.reduceEq, Int.reduceBEq, Int.reduceBNe]
      exact ⟨i, h, rfl, hi, by omega, by omega, hlo, hhi', rfl⟩
  · obtain rfl : i = j := by omega
    have hfin := shU_srt (d := p0) swoB hs ⟨hi, hj⟩ h2 hlo hhi
    have hrf := shU_rng (d := p0) L a b h2 (i - 1 - a) (by omega)
    clear hlo hhi f1
    repeat' first | simp (disch := first | with_reducible assumption | omega) only [go_sem, Bool.true_and, Bool.and_true, Bool.and_self, Bool.false_and, Bool.and_false, Bool.true_or, Bool.or_true, Bool.false_or, Bool.or_false, ↓reduceIte, Nat.reduceEqDiff, Nat.reduceAdd, Nat.reduceMul, Nat.reduceSub, Nat.reduceBEq, Nat.reduceLeDiff, Nat.reduceLT, Nat.reduceMod, Nat.reduceDiv, Int.reduceToNat, Int.reducePow, Int.reduceMul, Int.reduceAdd, Int.reduceSub, Int.reduceLE, Int.reduceLT, Int.reduceNeg, Int.reduceDiv, Int.reduceMod, Int.reduceEq, Int.reduceBEq, Int.reduceBNe, f34, f34b, f34r0, f34r1, f34r2, f34r3, f34r4, f34r5, f34r6, f34r7, f34r9, f34r10, f34r11, f34r12, f34r14, f34r15, f34r16, f34r17, f34r18, f34r19, f34r20, f34r21, f34r23, f34r24, f34r25, f34r26, f34r28, f34r29, f34r30, f34r31, f34r32, f34r33, f34r34, f34r35, f34r36, f34r37, f34r38, f34r39, f34r40, f34r41, f34r43, f34r44, f34r45, f34r46, f34r47, f34r48, f34r49, f34l0, f34, f34b, f34r0, f34r1, f34r2, f34r3, f34r4, f34r5, f34r6, f34r7, f34r9, f34r10, f34r11, f34r12, f34r14, f34r15, f34r16, f34r17, f34r18, f34r19, f34r20, f34r21, f34r23, f34r24, f34r25, f34r26, f34r28, f34r29, f34r30, f34r31, f34r32, f34r33, f34r34, f34r35, f34r36, f34r37, f34r38, f34r39, f34r40, f34r41, f34r43, f34r44, f34r45, f34r46, f34r47, f34r48, f34r49] | (refine BrW.of (fun hb => ?_) (fun hb => ?_) <;> (have hb' := hb; try simp only [decide_eq_true_eq, decide_eq_false_iff_not, beq_iff_eq, bne_iff_ne, beq_eq_false_iff_ne, bne_eq_false_iff_eq, Bool.not_eq_true', Bool.not_eq_false', Bool.not_eq_true, Bool.not_eq_false, Bool.and_eq_true, Bool.or_eq_true, Bool.and_eq_false_iff, Bool.or_eq_false_iff, Int.not_lt, Int.not_le, ne_eq, gt_iff_lt, ge_iff_le] at hb') <;> (try (exfalso; omega))) | (refine altW.of ?_ ?_)
    refine loopW.of (by decide) (fun w e J => ∃ t : Nat, e = [(0, slv G.length 0 gn L.length c), (10, .int .i64 i), (13, .int .i64 ((a + t : Nat) : Int))] ∧ J = G ++ [.cells gn 6 false (flat' Px.cells (shU p0 L a t))] ∧ t ≤ i - 1 - a ∧ w = i - t) i ⟨0, rfl, rfl, by omega, by omega⟩ ?_
    rintro w e J ⟨t, rfl, rfl, ht, rfl⟩
    have hsl := shU_len (d := p0) L a t
    by_cases hlt : a + t < i - 1
    · have hss : shU p0 L a (t + 1) = swapG p0 (shU p0 L a t) (a + t) (a + t + 1) := rfl
      unfold swapG at hss
      generalize shU p0 L a t = S at *
      have z4 : ((a + t : Nat) : Int).toNat = a + t := by omega
      have z5 : (((a + t : Nat) : Int) + 1).toNat = a + t + 1 := by omega
      have g1 := flat'_ld (enc := Px.cells) (s := 6) (fun _ => rfl) p0 S (a + t) (by omega)
      have g2 := flat'_ld (enc := Px.cells) (s := 6) (fun _ => rfl) p0 S (a + t + 1) (by omega)
      have w1 := flat'_wr (enc := Px.cells) (s := 6) (fun _ => rfl) (S.getD (a + t + 1) p0) S (a + t) (by omega)
      have w2 := flat'_wr (enc := Px.cells) (s := 6) (fun _ => rfl) (S.getD (a + t) p0) (S.set (a + t) (S.getD (a + t + 1) p0)) (a + t + 1) (by rw [List.length_set]; omega)
      have k1 := flat'_length (enc := Px.cells) (s := 6) (fun _ => rfl) S
      have k2 := flat'_length (enc := Px.cells) (s := 6) (fun _ => rfl) (S.set (a + t) (S.getD (a + t + 1) p0))
      rw [List.length_set] at k2
      rw [hsl] at k1 k2
      rw [← hss] at w2
      clear l1
      repeat' first | simp (disch := first | with_reducible assumption | omega) only [go_sem, Bool.true_and, Bool.and_true, Bool.and_self, Bool.false_and, Bool.and_false, Bool.true_or, Bool.or_true, Bool.false_or, Bool.or_false, ↓reduceIte, Nat.reduceEqDiff, Nat.reduceAdd, Nat.reduceMul, Nat.reduceSub, Nat.reduceBEq, Nat.reduceLeDiff, Nat.reduceLT, Nat.reduceMod, Nat.reduceDiv, Int.reduceToNat, Int.reducePow, Int.reduceMul, Int.reduceAdd, Int.reduceSub, Int.reduceLE, Int.reduceLT, Int.reduceNeg, Int.reduceDiv, Int.reduceMod, Int.reduceEq, Int.reduceBEq, Int.reduceBNe, f34, f34b, f34r0, f34r1, f34r2, f34r3, f34r4, f34r5, f34r6, f34r7, f34r9, f34r10, f34r11, f34r12, f34r14, f34r15, f34r16, f34r17, f34r18, f34r19, f34r20, f34r21, f34r23, f34r24, f34r25, f34r26, f34r28, f34r29, f34r30, f34r31, f34r32, f34r33, f34r34, f34r35, f34r36, f34r37, f34r38, f34r39, f34r40, f34r41, f34r43, f34r44, f34r45, f34r46, f34r47, f34r48, f34r49, f34l1, ↓g1, ↓g2, ↓w1, ↓w2, k1, k2, z4, z5, Px.cells_length] | (refine BrW.of (fun hb => ?_) (fun hb => ?_) <;> (have hb' := hb; try simp only [decide_eq_true_eq, decide_eq_false_iff_not, beq_iff_eq, bne_iff_ne, beq_eq_false_iff_ne, bne_eq_false_iff_eq, Bool.not_eq_true', Bool.not_eq_false', Bool.not_eq_true, Bool.not_eq_false, Bool.and_eq_true, Bool.or_eq_true, Bool.and_eq_false_iff, Bool.or_eq_false_iff, Int.not_lt, Int.not_le, ne_eq, gt_iff_lt, ge_iff_le] at hb') <;> (try (exfalso; omega))) | (refine altW.of ?_ ?_)
      refine RdW.keep [0, 10, 13] (i - (t + 1)) (by omega) ?_
      simp (disch := first | with_reducible assumption | omega) only [go_sem, Bool.true_and, Bool.and_true, Bool.and_self, Bool.false_and, Bool.and_false, Bool.true_or, Bool.or_true, Bool.false_or, Bool.or_false, ↓reduceIte, Nat.reduceEqDiff, Nat.reduceAdd, Nat.reduceMul, Nat.reduceSub, Nat.reduceBEq, Nat.reduceLeDiff, Nat.reduceLT, Nat.reduceMod, Nat.reduceDiv, Int.reduceToNat, Int.reducePow, Int.reduceMul, Int.reduceAdd, Int.reduceSub, Int.reduceLE, Int.reduceLT, Int.reduceNeg, Int.reduceDiv, Int.reduceMod, Int.reduceEq, Int.reduceBEq, Int.reduceBNe]
      exact ⟨t + 1, rfl, rfl, by omega, rfl⟩
    · obtain rfl : t = i - 1 - a := by omega
      repeat' first | simp (disch := first | with_reducible assumption | omega) only [go_sem, Bool.true_and, Bool.and_true, Bool.and_self, Bool.false_and, Bool.and_false, Bool.true_or, Bool.or_true, Bool.false_or, Bool.or_false, ↓reduceIte, Nat.reduceEqDiff, Nat.reduceAdd, Nat.reduceMul, Nat.reduceSub, Nat.reduceBEq, Nat.reduceLeDiff, Nat.reduceLT, Nat.reduceMod, Nat.reduceDiv, Int.reduceToNat, Int.reducePow, Int.reduceMul, Int.reduceAdd, Int.reduceSub, Int.reduceLE, Int.reduceLT, Int.reduceNeg, Int.reduceDiv, Int.reduceMod, Int.reduceEq, Int.reduceBEq, Int.reduceBNe, f34, f34b, f34r0, f34r1, f34r2, f34r3, f34r4, f34r5, f34r6, f34r7, f34r9, f34r10, f34r11, f34r12, f34r14, f34r15, f34r16, f34r17, f34r18, f34r19, f34r20, f34r21, f34r23, f34r24, f34r25, f34r26, f34r28, f34r29, f34r30, f34r31, f34r32, f34r33, f34r34, f34r35, f34r36, f34r37, f34r38, f34r39, f34r40, f34r41, f34r43, f34r44, f34r45, f34r46, f34r47, f34r48, f34r49, f34l1, f34, f34b, f34r0, f34r1, f34r2, f34r3, f34r4, f34r5, f34r6, f34r7, f34r9, f34r10, f34r11, f34r12, f34r14, f34r15, f34r16, f34r17, f34r18, f34r19, f34r20, f34r21, f34r23, f34r24, f34r25, f34r26, f34r28, f34r29, f34r30, f34r31, f34r32, f34r33, f34r34, f34r35, f34r36, f34r37, f34r38, f34r39, f34r40, f34r41, f34r43, f34r44, f34r45, f34r46, f34r47, f34r48, f34r49] | (refine BrW.of (fun hb => ?_) (fun hb => ?_) <;> (have hb' := hb; try simp only [decide_eq_true_eq, decide_eq_false_iff_not, beq_iff_eq, bne_iff_ne, beq_eq_false_iff_ne, bne_eq_false_iff_eq, Bool.not_eq_true', Bool.not_eq_false', Bool.not_eq_true, Bool.not_eq_false, Bool.and_eq_true, Bool.or_eq_true, Bool.and_eq_false_iff, Bool.or_eq_false_iff, Int.not_lt, Int.not_le, ne_eq, gt_iff_lt, ge_iff_le] at hb') <;> (try (exfalso; omega))) | (refine altW.of ?_ ?_)
      exact .here ⟨rfl, _, rfl, hrf, hfin⟩
theorem Sym_last (G : Heap) (gn : Nat) (L : List Px) (a m c : Nat) (hO : ∀ x ∈ L, okb x) (h1 : a + 1 < m) (h2 : m < L.length) (hL : L.length ≤ 1048576) (hs : srt p0 ltB L a m) :
  ACallK Tryz.prog 34 [slv G.length 0 gn L.length c, .int .i64 a, .int .i64 m, .int .i64 ((m + 1 : Nat) : Int), .func (.func 9) #[] #[]] (G ++ [.cells gn 6 false (flat' Px.cells L)]) (fun v H' => v = .tuple #[] ∧ ∃ S, H' = G ++ [.cells gn 6 false (flat' Px.cells S)] ∧ Rng p0 L S a (m + 1) ∧ srt p0 ltB S a (m + 1)) := by
  have l1 := flat'_length (enc := Px.cells) (s := 6) (fun _ => rfl) L
  have z0 : ((m + 1 : Nat) : Int) - m = 1 := by omega
  have z0' : ((m : Int) - a == 1) = false := by simp only [beq_eq_false_iff_ne, ne_eq]; omega
  have f1 := flat'_ld (enc := Px.cells) (s := 6) (fun _ => rfl) p0 L m (by omega)
  have z3 : (m : Int).toNat = m := by omega
  have ox := okb_get hO (k := m) (by omega)
  refine .walkW f34_ok (by simp; decide) (by decide) ?_
  repeat' first | simp (disch := first | with_reducible assumption | omega) only [go_sem, Bool.true_and, Bool.and_true, Bool.and_self, Bool.false_and, Bool.and_false, Bool.true_or, Bool.or_true, Bool.false_or, Bool.or_false, ↓reduceIte, Nat.reduceEqDiff, Nat.reduceAdd, Nat.reduceMul, Nat.reduceSub, Nat.reduceBEq, Nat.reduceLeDiff, Nat.reduceLT, Nat.reduceMod, Nat.reduceDiv, Int.reduceToNat, Int.reducePow, Int.reduceMul, Int.reduceAdd, Int.reduceSub, Int.reduceLE, Int.reduceLT, Int.reduceNeg, Int.reduceDiv, Int.reduceMod, Int.reduceEq, Int.reduceBEq, Int.reduceBNe, f34, f34b, f34r0, f34r1, f34r2, f34r3, f34r4, f34r5, f34r6, f34r7, f34r9, f34r10, f34r11, f34r12, f34r14, f34r15, f34r16, f34r17, f34r18, f34r19, f34r20, f34r21, f34r23, f34r24, f34r25, f34r26, f34r28, f34r29, f34r30, f34r31, f34r32, f34r33, f34r34, f34r35, f34r36, f34r37, f34r38, f34r39, f34r40, f34r41, f34r43, f34r44, f34r45, f34r46, f34r47, f34r48, f34r49, z0, z0'] | (refine BrW.of (fun hb => ?_) (fun hb => ?_) <;> (have hb' := hb; try simp only [decide_eq_true_eq, decide_eq_false_iff_not, beq_iff_eq, bne_iff_ne, beq_eq_false_iff_ne, bne_eq_false_iff_eq, Bool.not_eq_true', Bool.not_eq_false', Bool.not_eq_true, Bool.not_eq_false, Bool.and_eq_true, Bool.or_eq_true, Bool.and_eq_false_iff, Bool.or_eq_false_iff, Int.not_lt, Int.not_le, ne_eq, gt_iff_lt, ge_iff_le] at hb') <;> (try (exfalso; omega))) | (refine altW.of ?_ ?_)
  refine loopW.of (by decide) (fun w e J => ∃ i j : Nat, e = [(0, slv G.length 0 gn L.length c), (2, .int .i64 m), (4, .func (.func 9) #[] #[]), (14, .int .i64 i), (15, .int .i64 j)] ∧ J = G ++ [.cells gn 6 false (flat' Px.cells L)] ∧ a ≤ i ∧ i ≤ j ∧ j ≤ m ∧
    (∀ k, a ≤ k → k < i → ltB (L.getD m p0) (L.getD k p0) = false) ∧ (∀ k, j ≤ k → k < m → ltB (L.getD m p0) (L.getD k p0) = true) ∧ w = j - i) (m - a) ⟨a, m, rfl, rfl, by omega, by omega, by omega, fun k _ _ => by omega, fun k _ _ => by omega, rfl⟩ ?_
  rintro w e J ⟨i, j, rfl, rfl, hi, hij, hj, hlo, hhi, rfl⟩
  by_cases hlt : i < j
  · obtain ⟨h, hh⟩ : ∃ h, h = (i + j) / 2 := ⟨_, rfl⟩
    have zh : ((i : Int) + j) / 2 = h := by omega
    have zt : (h : Int).toNat = h := by omega
    have f2 := flat'_ld (enc := Px.cells) (s := 6) (fun _ => rfl) p0 L h (by omega)
    have oh := okb_get hO (k := h) (by omega)
    have hcall := cmpB_spec (L.getD m p0) (L.getD h p0) ox oh (G ++ [.cells gn 6 false (flat' Px.cells L)])
    by_cases hcmp : (L.getD h p0).bits < (L.getD m p0).bits
    · have hhi' : ∀ k, h ≤ k → k < m → ltB (L.getD m p0) (L.getD k p0) = true := fun k k1 k2 => by
        have := hs.le swoB (show a ≤ h by omega) k1 k2
        unfold ltB at this ⊢
        simp only [decide_eq_true_eq, decide_eq_false_iff_not] at this ⊢
        omega
      clear hhi
      unfold okb at ox oh
      generalize L.getD h p0 = X at *
      generalize L.getD m p0 = Y at *
      have hc0 : X.bits - Y.bits < 0 := by omega
      repeat' first | simp (disch := first | with_reducible assumption | omega) only [go_sem, Bool.true_and, Bool.and_true, Bool.and_self, Bool.false_and, Bool.and_false, Bool.true_or, Bool.or_true, Bool.false_or, Bool.or_false, ↓reduceIte, Nat.reduceEqDiff, Nat.reduceAdd, Nat.reduceMul, Nat.reduceSub, Nat.reduceBEq, Nat.reduceLeDiff, Nat.reduceLT, Nat.reduceMod, Nat.reduceDiv, Int.reduceToNat, Int.reducePow, Int.reduceMul, Int.reduceAdd, Int.reduceSub, Int.reduceLE, Int.reduceLT, Int.reduceNeg, Int.reduceDiv, Int.reduceMod, Int.reduceEq, Int.reduceBEq, Int.reduceBNe, f34, f34b, f34r0, f34r1, f34r2, f34r3, f34r4, f34r5, f34r6, f34r7, f34r9, f34r10, f34r11, f34r12, f34r14, f34r15, f34r16, f34r17, f34r18, f34r19, f34r20, f34r21, f34r23, f34r24, f34r25, f34r26, f34r28, f34r29, f34r30, f34r31, f34r32, f34r33, f34r34, f34r35, f34r36, f34r37, f34r38, f34r39, f34r40, f34r41, f34r43, f34r44, f34r45, f34r46, f34r47, f34r48, f34r49, f34l2, ↓f1, ↓f2, l1, z3, zh, zt, Px.cells_length] | (refine BrW.of (fun hb => ?_) (fun hb => ?_) <;> (have hb' := hb; try simp only [decide_eq_true_eq, decide_eq_false_iff_not, beq_iff_eq, bne_iff_ne, beq_eq_false_iff_ne, bne_eq_false_iff_eq, Bool.not_eq_true', Bool.not_eq_false', Bool.not_eq_true, Bool.not_eq_false, Bool.and_eq_true, Bool.or_eq_true, Bool.and_eq_false_iff, Bool.or_eq_false_iff, Int.not_lt, Int.not_le, ne_eq, gt_iff_lt, ge_iff_le] at hb') <;> (try (exfalso; omega))) | (refine altW.of ?_ ?_) | (refine dcallW.of _ _ hcall ?_) | (refine callW.ex _ _ hcall ?_)
      refine RdW.keep [0, 2, 4, 14, 15] (h - i) (by omega) ?_
      simp (disch := first | with_reducible assumption | omega) only [go_sem, Bool.true_and, Bool.and_true, Bool.and_self, Bool.false_and, Bool.and_false, Bool.true_or, Bool.or_true, Bool.false_or, Bool.or_false, ↓reduceIte, Nat.reduceEqDiff, Nat.reduceAdd, Nat.reduceMul, Nat.reduceSub, Nat.reduceBEq, Nat.reduceLeDiff, Nat.reduceLT, Nat.reduceMod, Nat.reduceDiv, Int.reduceToNat, Int.reducePow, Int.reduceMul, Int.reduceAdd, Int.reduceSub, Int.reduceLE, Int.reduceLT, Int.reduceNeg, Int.reduceDiv, Int.reduceMod, Int.reduceEq, Int.reduceBEq, Int.reduceBNe]
      exact ⟨i, h, rfl, hi, by omega, by omega, hlo, hhi', rfl⟩
    · have hlo' : ∀ k, a ≤ k → k < h + 1 → ltB (L.getD m p0) (L.getD k p0) = false := fun k k1 k2 => by
        have := hs.le swoB k1 (show k ≤ h by omega) (by omega)
        unfold ltB at this ⊢
        simp only [decide_eq_true_eq, decide_eq_false_iff_not] at this ⊢
        omega
      clear hlo
      unfold okb at ox oh
      generalize L.getD h p0 = X at *
      generalize L.getD m p0 = Y at *
      have hc0 : 0 ≤ X.bits - Y.bits := by omega
      repeat' first | simp (disch := first | with_reducible assumption | omega) only [go_sem, Bool.true_and, Bool.and_true, Bool.and_self, Bool.false_and, Bool.and_false, Bool.true_or, Bool.or_true, Bool.false_or, Bool.or_false, ↓reduceIte, Nat.reduceEqDiff, Nat.reduceAdd, Nat.reduceMul, Nat.reduceSub, Nat.reduceBEq, Nat.reduceLeDiff, Nat.reduceLT, Nat.reduceMod, Nat.reduceDiv, Int.reduceToNat, Int.reducePow, Int.reduceMul, Int.reduceAdd, Int.reduceSub, Int.reduceLE, Int.reduceLT, Int.reduceNeg, Int.reduceDiv, Int.reduceMod, Int.reduceEq, Int.reduceBEq, Int.reduceBNe, f34, f34b, f34r0, f34r1, f34r2, f34r3, f34r4, f34r5, f34r6, f34r7, f34r9, f34r10, f34r11, f34r12, f34r14, f34r15, f34r16, f34r17, f34r18, f34r19, f34r20, f34r21, f34r23, f34r24, f34r25, f34r26, f34r28, f34r29, f34r30, f34r31, f34r32, f34r33, f34r34, f34r35, f34r36, f34r37, f34r38, f34r39, f34r40, f34r41, f34r43, f34r44, f34r45, f34r46, f34r47, f34r48, f34r49, f34l2, ↓f1, ↓f2, l1, z3, zh, zt, Px.cells_length] | (refine BrW.of (fun hb => ?_) (fun hb => ?_) <;> (have hb' := hb; try simp only [decide_eq_true_eq, decide_eq_false_iff_not, beq_iff_eq, bne_iff_ne, beq_eq_false_iff_ne, bne_eq_false_iff_eq, Bool.not_eq_true', Bool.not_eq_false', Bool.not_eq_true, Bool.not_eq_false, Bool.and_eq_true, Bool.or_eq_true, Bool.and_eq_false_iff, Bool.or_eq_false_iff, Int.not_lt, Int.not_le, ne_eq, gt_iff_lt, ge_iff_le] at hb') <;> (try (exfalso; omega))) | (refine altW.of ?_ ?_) | (refine dcallW.of _ _ hcall ?_) | (refine callW.ex _ _ hcall ?_)
      refine RdW.keep [0, 2, 4, 14, 15] (j - (h + 1)) (by omega) ?_
      simp (disch := first | with_reducible assumption | omega) only [go_sem, Bool.true_and, Bool.and_true, Bool.and_self, Bool.false_and, Bool.and_false, Bool.true_or, Bool.or_true, Bool.false_or, Bool.or_false, ↓reduceIte, Nat.reduceEqDiff, Nat.reduceAdd, Nat.reduceMul, Nat.reduceSub, Nat.reduceBEq, Nat.reduceLeDiff, Nat.reduceLT, Nat.reduceMod, Nat.reduceDiv, Int.reduceToNat, Int.reducePow, Int.reduceMul, Int.reduceAdd, Int.reduceSub, Int.reduceLE, Int.reduceLT, Int.reduceNeg, Int.reduceDiv, Int.reduceMod, Int.reduceEq, Int.reduceBEq, Int.reduceBNe]
      exact ⟨h + 1, j, rfl, by omega, by omega, hj, hlo', hhi, rfl⟩
  · obtain rfl : i = j := by omega
    have hfin := shD_srt (d := p0) swoB hs ⟨hi, hj⟩ h2 hlo hhi
    have hrf := shD_rng (d := p0) L a m (m + 1) (by omega) (by omega) (m - i) (by omega)
    clear hlo hhi f1
    repeat' first | simp (disch := first | with_reducible assumption | omega) only [go_sem, Bool.true_and, Bool.and_true, Bool.and_self, Bool.false_and, Bool.and_false, Bool.true_or, Bool.or_true, Bool.false_or, Bool.or_false, ↓reduceIte, Nat.reduceEqDiff, Nat.reduceAdd, Nat.reduceMul, Nat.reduceSub, Nat.reduceBEq, Nat.reduceLeDiff, Nat.reduceLT, Nat.reduceMod, Nat.reduceDiv, Int.reduceToNat, Int.reducePow, Int.reduceMul, Int.reduceAdd, Int.reduceSub, Int.reduceLE, Int.reduceLT, Int.reduceNeg, Int.reduceDiv, Int.reduceMod, Int.reduceEq, Int.reduceBEq, Int.reduceBNe, f34, f34b, f34r0, f34r1, f34r2, f34r3, f34r4, f34r5, f34r6, f34r7, f34r9, f34r10, f34r11, f34r12, f34r14, f34r15, f34r16, f34r17, f34r18, f34r19, f34r20, f34r21, f34r23, f34r24, f34r25, f34r26, f34r28, f34r29, f34r30, f34r31, f34r32, f34r33, f34r34, f34r35, f34r36, f34r37, f34r38, f34r39, f34r40, f34r41, f34r43, f34r44, f34r45, f34r46, f34r47, f34r48, f34r49, f34l2, f34, f34b, f34r0, f34r1, f34r2, f34r3, f34r4, f34r5, f34r6, f34r7, f34r9, f34r10, f34r11, f34r12, f34r14, f34r15, f34r16, f34r17, f34r18, f34r19, f34r20, f34r21, f34r23, f34r24, f34r25, f34r26, f34r28, f34r29, f34r30, f34r31, f34r32, f34r33, f34r34, f34r35, f34r36, f34r37, f34r38, f34r39, f34r40, f34r41, f34r43, f34r44, f34r45, f34r46, f34r47, f34r48, f34r49] | (refine BrW.of (fun hb => ?_) (fun hb => ?_) <;> (have hb' := hb; try simp only [decide_eq_true_eq, decide_eq_false_iff_not, beq_iff_eq, bne_iff_ne, beq_eq_false_iff_ne, bne_eq_false_iff_eq, Bool.not_eq_true', Bool.not_eq_false', Bool.not_eq_true, Bool.not_eq_false, Bool.and_eq_true, Bool.or_eq_true, Bool.and_eq_false_iff, Bool.or_eq_false_iff, Int.not_lt, Int.not_le, ne_eq, gt_iff_lt, ge_iff_le] at hb') <;> (try (exfalso; omega))) | (refine altW.of ?_ ?_)
    refine loopW.of (by decide) (fun w e J => ∃ t : Nat, e = [(0, slv G.length 0 gn L.length c), (14, .int .i64 i), (17, .int .i64 ((m - t : Nat) : Int))] ∧ J = G ++ [.cells gn 6 false (flat' Px.cells (shD p0 L m t))] ∧ t ≤ m - i ∧ w = m - t) m ⟨0, rfl, rfl, by omega, by omega⟩ ?_
    rintro w e J ⟨t, rfl, rfl, ht, rfl⟩
    have hsl := shD_len (d := p0) L m t
    by_cases hlt : i < m - t
    · have hss : shD p0 L m (t + 1) = swapG p0 (shD p0 L m t) (m - t) (m - t - 1) := rfl
      unfold swapG at hss
      generalize shD p0 L m t = S at *
      obtain ⟨q, hq⟩ : ∃ q, m - t = q + 1 := ⟨m - t - 1, by omega⟩
      rw [hq, show q + 1 - 1 = q by omega] at hss
      rw [hq]
      have z4 : ((q + 1 : Nat) : Int).toNat = q + 1 := by omega
      have z5 : ((q + 1 : Nat) : Int) - 1 = q := by omega
      have z6 : (q : Int).toNat = q := by omega
      have g1 := flat'_ld (enc := Px.cells) (s := 6) (fun _ => rfl) p0 S (q + 1) (by omega)
      have g2 := flat'_ld (enc := Px.cells) (s := 6) (fun _ => rfl) p0 S q (by omega)
      have w1 := flat'_wr (enc := Px.cells) (s := 6) (fun _ => rfl) (S.getD q p0) S (q + 1) (by omega)
      have w2 := flat'_wr (enc := Px.cells) (s := 6) (fun _ => rfl) (S.getD (q + 1) p0) (S.set (q + 1) (S.getD q p0)) q (by rw [List.length_set]; omega)
      have k1 := flat'_length (enc := Px.cells) (s := 6) (fun _ => rfl) S
      have k2 := flat'_length (enc := Px.cells) (s := 6) (fun _ => rfl) (S.set (q + 1) (S.getD q p0))
      rw [List.length_set] at k2
      rw [hsl] at k1 k2
      rw [← hss] at w2
      clear l1
      repeat' first | simp (disch := first | with_reducible assumption | omega) only [go_sem, Bool.true_and, Bool.and_true, Bool.and_self, Bool.false_and, Bool.and_false, Bool.true_or, Bool.or_true, Bool.false_or, Bool.or_false, ↓reduceIte, Nat.reduceEqDiff, Nat.reduceAdd, Nat.reduceMul, Nat.reduceSub, Nat.reduceBEq, Nat.reduceLeDiff, Nat.reduceLT, Nat.reduceMod, Nat.reduceDiv, Int.reduceToNat, Int.reducePow, Int.reduceMul, Int.reduceAdd, Int.reduceSub, Int.reduceLE, Int.reduceLT, Int.reduceNeg, Int.reduceDiv, Int.reduceMod, Int.reduceEq, Int.reduceBEq, Int.reduceBNe, f34, f34b, f34r0, f34r1, f34r2, f34r3, f34r4, f34r5, f34r6, f34r7, f34r9, f34r10, f34r11, f34r12, f34r14, f34r15, f34r16, f34r17, f34r18, f34r19, f34r20, f34r21, f34r23, f34r24, f34r25, f34r26, f34r28, f34r29, f34r30, f34r31, f34r32, f34r33, f34r34, f34r35, f34r36, f34r37, f34r38, f34r39, f34r40, f34r41, f34r43, f34r44, f34r45, f34r46, f34r47, f34r48, f34r49, f34l3, ↓g1, ↓g2, ↓w1, ↓w2, k1, k2, z4, z5, z6, Px.cells_length] | (refine BrW.of (fun hb => ?_) (fun hb => ?_) <;> (have hb' := hb; try simp only [decide_eq_true_eq, decide_eq_false_iff_not, beq_iff_eq, bne_iff_ne, beq_eq_false_iff_ne, bne_eq_false_iff_eq, Bool.not_eq_true', Bool.not_eq_false', Bool.not_eq_true, Bool.not_eq_false, Bool.and_eq_true, Bool.or_eq_true, Bool.and_eq_false_iff, Bool.or_eq_false_iff, Int.not_lt, Int.not_le, ne_eq, gt_iff_lt, ge_iff_le] at hb') <;> (try (exfalso; omega))) | (refine altW.of ?_ ?_)
      refine RdW.keep [0, 14, 17] (m - (t + 1)) (by omega) ?_
      simp (disch := first | with_reducible assumption | omega) only [go_sem, Bool.true_and, Bool.and_true, Bool.and_self, Bool.false_and, Bool.and_false, Bool.true_or, Bool.or_true, Bool.false_or, Bool.or_false, ↓reduceIte, Nat.reduceEqDiff, Nat.reduceAdd, Nat.reduceMul, Nat.reduceSub, Nat.reduceBEq, Nat.reduceLeDiff, Nat.reduceLT, Nat.reduceMod, Nat.reduceDiv, Int.reduceToNat, Int.reducePow, Int.reduceMul, Int.reduceAdd, Int.reduceSub, Int.reduceLE, Int.reduceLT, Int.reduceNeg, Int.reduceDiv, Int.reduceMod, Int.reduceEq, Int.reduceBEq, Int.reduceBNe]
      exact ⟨t + 1, by rw [show m - (t + 1) = q by omega], rfl, by omega, rfl⟩
    · obtain rfl : t = m - i := by omega
      repeat' first | simp (disch := first | with_reducible assumption | omega) only [go_sem, Bool.true_and, Bool.and_true, Bool.and_self, Bool.false_and, Bool.and_false, Bool.true_or, Bool.or_true, Bool.false_or, Bool.or_false, ↓reduceIte, Nat.reduceEqDiff, Nat.reduceAdd, Nat.reduceMul, Nat.reduceSub, Nat.reduceBEq, Nat.reduceLeDiff, Nat.reduceLT, Nat.reduceMod, Nat.reduceDiv, Int.reduceToNat, Int.reducePow, Int.reduceMul, Int.reduceAdd, Int.reduceSub, Int.reduceLE, Int.reduceLT, Int.reduceNeg, Int.reduceDiv, Int.reduceMod, Int.reduceEq, Int.reduceBEq, Int.reduceBNe, f34, f34b, f34r0, f34r1, f34r2, f34r3, f34r4, f34r5, f34r6, f34r7, f34r9, f34r10, f34r11, f34r12, f34r14, f34r15, f34r16, f34r17, f34r18, f34r19, f34r20, f34r21, f34r23, f34r24, f34r25, f34r26, f34r28, f34r29, f34r30, f34r31, f34r32, f34r33, f34r34, f34r35, f34r36, f34r37, f34r38, f34r39, f34r40, f34r41, f34r43, f34r44, f34r45, f34r46, f34r47, f34r48, f34r49, f34l3, f34, f34b, f34r0, f34r1, f34r2, f34r3, f34r4, f34r5, f34r6, f34r7, f34r9, f34r10, f34r11, f34r12, f34r14, f34r15, f34r16, f34r17, f34r18, f34r19, f34r20, f34r21, f34r23, f34r24, f34r25, f34r26, f34r28, f34r29, f34r30, f34r31, f34r32, f34r33, f34r34, f34r35, f34r36, f34r37, f34r38, f34r39, f34r40, f34r41, f34r43, f34r44, f34r45, f34r46, f34r47, f34r48, f34r49] | (refine BrW.of (fun hb => ?_) (fun hb => ?_) <;> (have hb' := hb; try simp only [decide_eq_true_eq, decide_eq_false_iff_not, beq_iff_eq, bne_iff_ne, beq_eq_false_iff_ne, bne_eq_false_iff_eq, Bool.not_eq_true', Bool.not_eq_false', Bool.not_eq_true, Bool.not_eq_false, Bool.and_eq_true, Bool.or_eq_true, Bool.and_eq_false_iff, Bool.or_eq_false_iff, Int.not_lt, Int.not_le, ne_eq, gt_iff_lt, ge_iff_le] at hb') <;> (try (exfalso; omega))) | (refine altW.of ?_ ?_)
      exact .here ⟨rfl, _, rfl, hrf, hfin⟩
end Go.Proofs.YtcocblbfgjjlbaaGreatDoor
