import Derived.Test.YtcocblbfgjjlbaaGreatDoorSrC
import Derived.Test.YtcocblbfgjjlbaaGreatDoorSortM
set_option linter.unusedSimpArgs false
set_option linter.unusedVariables false
set_option maxHeartbeats 4000000
set_option maxRecDepth 20000
namespace Go.Proofs.YtcocblbfgjjlbaaGreatDoor
open Go Go.Am Tr

theorem Sym_all (G : Heap) (gn : Nat) : ∀ n, SymR G gn n
  | 0 => fun L a m b c hn => by omega
  | n + 1 => fun L a m b c hn hO h1 h2 h3 hL hsa hsb => by
    by_cases e1 : m = a + 1
    · subst e1
      exact Sym_one G gn L a b c hO h2 h3 hL hsb
    · by_cases e2 : b = m + 1
      · subst e2
        exact Sym_last G gn L a m c hO (by omega) (by omega) hL hsa
      · exact Sym_many G gn n (Sym_all G gn n) L a m b c hn hO (by omega) (by omega) h3 hL hsa hsb
theorem Sym_spec (G : Heap) (gn : Nat) (L : List Px) (a m b c : Nat) (hO : ∀ x ∈ L, okb x) (h1 : a < m) (h2 : m < b) (h3 : b ≤ L.length) (hL : L.length ≤ 1048576) (hsa : srt p0 ltB L a m) (hsb : srt p0 ltB L m b) :
  ACallK Tryz.prog 34 [slv G.length 0 gn L.length c, .int .i64 a, .int .i64 m, .int .i64 b, .func (.func 9) #[] #[]] (G ++ [.cells gn 6 false (flat' Px.cells L)]) (fun v H' => v = .tuple #[] ∧ ∃ S, H' = G ++ [.cells gn 6 false (flat' Px.cells S)] ∧ Rng p0 L S a b ∧ srt p0 ltB S a b) :=
  Sym_all G gn (b - a + 1) L a m b c (by omega) hO h1 h2 h3 hL hsa hsb
end Go.Proofs.YtcocblbfgjjlbaaGreatDoor
set_option linter.unusedSimpArgs false
set_option linter.unusedVariables false
set_option maxHeartbeats 4000000
set_option maxRecDepth 20000
namespace Go.Proofs.YtcocblbfgjjlbaaGreatDoor
open Go Go.Am Tr

theorem Stable_spec (G : Heap) (gn : Nat) (L : List Px) (c : Nat) (hO : ∀ x ∈ L, okb x) (hL : L.length ≤ 1048576) :
  ACallK Tryz.prog 19 [slv G.length 0 gn L.length c, .int .i64 L.length, .func (.func 9) #[] #[]] (G ++ [.cells gn 6 false (flat' Px.cells L)]) (fun v H' => v = .tuple #[] ∧ ∃ S, H' = G ++ [.cells gn 6 false (flat' Px.cells S)] ∧ S.Perm L ∧ srt p0 ltB S 0 L.length) := by
  refine .walkW f19_ok (by simp; decide) (by decide) ?_
  repeat' first | simp (disch := first | with_reducible assumption | omega) only [go_sem, Bool.true_and, Bool.and_true, Bool.and_self, Bool.false_and, Bool.and_false, Bool.true_or, Bool.or_true, Bool.false_or, Bool.or_false, ↓reduceIte, Nat.reduceEqDiff, Nat.reduceAdd, Nat.reduceMul, Nat.reduceSub, Nat.reduceBEq, Nat.reduceLeDiff, Nat.reduceLT, Nat.reduceMod, Nat.reduceDiv, Int.reduceToNat, Int.reducePow, Int.reduceMul, Int.reduceAdd, Int.reduceSub, Int.reduceLE, Int.reduceLT, Int.reduceNeg, Int.reduceDiv, Int.reduceMod, Int.reduceEq, Int.reduceBEq, Int.reduceBNe, f19, f19b, f19r0, f19r1, f19r2, f19r3, f19r4, f19r5, f19r7, f19r8, f19r9, f19r10, f19r11, f19r12, f19r13, f19r15, f19r16, f19r17, f19r18] | (refine BrW.of (fun hb => ?_) (fun hb => ?_) <;> (have hb' := hb; try simp only [decide_eq_true_eq, decide_eq_false_iff_not, beq_iff_eq, bne_iff_ne, beq_eq_false_iff_ne, bne_eq_false_iff_eq, Bool.not_eq_true', Bool.not_eq_false', Bool.not_eq_true, Bool.not_eq_false, Bool.and_eq_true, Bool.or_eq_true, Bool.and_eq_false_iff, Bool.or_eq_false_iff, Int.not_lt, Int.not_le, ne_eq, gt_iff_lt, ge_iff_le] at hb') <;> (try (exfalso; omega))) | (refine altW.of ?_ ?_)
  refine loopW.of (by decide) (fun w e J => ∃ (i : Nat) (S : List Px), e = [(0, slv G.length 0 gn L.length c), (1, .int .i64 L.length), (2, .func (.func 9) #[] #[]), (6, .int .i64 20), (7, .int .i64 ((i * 20 : Nat) : Int)), (8, .int .i64 ((i * 20 + 20 : Nat) : Int))] ∧ J = G ++ [.cells gn 6 false (flat' Px.cells S)] ∧ S.Perm L ∧ BlTo p0 ltB S 20 i ∧ i * 20 ≤ L.length ∧ w = L.length - i * 20) L.length
    ⟨0, L, rfl, rfl, .refl _, fun j hj => by omega, by omega, by omega⟩ ?_
  rintro w e J ⟨i, S, rfl, rfl, hp, hbt, hi, rfl⟩
  have hsl := hp.length_eq
  have hOS : ∀ x ∈ S, okb x := fun x hx => hO x (hp.mem_iff.1 hx)
  by_cases hlt : i * 20 + 20 ≤ L.length
  · have hC := InsB_spec G gn S (i * 20) (i * 20 + 20) c hOS (by omega) (by omega) (by omega)
    rw [hsl] at hC
    repeat' first | simp (disch := first | with_reducible assumption | omega) only [go_sem, Bool.true_and, Bool.and_true, Bool.and_self, Bool.false_and, Bool.and_false, Bool.true_or, Bool.or_true, Bool.false_or, Bool.or_false, ↓reduceIte, Nat.reduceEqDiff, Nat.reduceAdd, Nat.reduceMul, Nat.reduceSub, Nat.reduceBEq, Nat.reduceLeDiff, Nat.reduceLT, Nat.reduceMod, Nat.reduceDiv, Int.reduceToNat, Int.reducePow, Int.reduceMul, Int.reduceAdd, Int.reduceSub, Int.reduceLE, Int.reduceLT, Int.reduceNeg, Int.reduceDiv, Int.reduceMod, Int.reduceEq, Int.reduceBEq, Int.reduceBNe, f19, f19b, f19r0, f19r1, f19r2, f19r3, f19r4, f19r5, f19r7, f19r8, f19r9, f19r10, f19r11, f19r12, f19r13, f19r15, f19r16, f19r17, f19r18, f19l0] | (refine BrW.of (fun hb => ?_) (fun hb => ?_) <;> (have hb' := hb; try simp only [decide_eq_true_eq, decide_eq_false_iff_not, beq_iff_eq, bne_iff_ne, beq_eq_false_iff_ne, bne_eq_false_iff_eq, Bool.not_eq_true', Bool.not_eq_false', Bool.not_eq_true, Bool.not_eq_false, Bool.and_eq_true, Bool.or_eq_true, Bool.and_eq_false_iff, Bool.or_eq_false_iff, Int.not_lt, Int.not_le, ne_eq, gt_iff_lt, ge_iff_le] at hb') <;> (try (exfalso; omega))) | (refine altW.of ?_ ?_) | (refine .of (hC.mono ?_); rintro v _ ⟨rfl, S2, rfl, hR, hs⟩)
    refine RdW.keep [0, 1, 2, 6, 7, 8] (L.length - (i + 1) * 20) (by omega) ?_
    simp (disch := first | with_reducible assumption | omega) only [go_sem, Bool.true_and, Bool.and_true, Bool.and_self, Bool.false_and, Bool.and_false, Bool.true_or, Bool.or_true, Bool.false_or, Bool.or_false, ↓reduceIte, Nat.reduceEqDiff, Nat.reduceAdd, Nat.reduceMul, Nat.reduceSub, Nat.reduceBEq, Nat.reduceLeDiff, Nat.reduceLT, Nat.reduceMod, Nat.reduceDiv, Int.reduceToNat, Int.reducePow, Int.reduceMul, Int.reduceAdd, Int.reduceSub, Int.reduceLE, Int.reduceLT, Int.reduceNeg, Int.reduceDiv, Int.reduceMod, Int.reduceEq, Int.reduceBEq, Int.reduceBNe]
    exact ⟨i + 1, S2, by rw [show (i + 1) * 20 = i * 20 + 20 by omega]; rfl, rfl, hR.perm.trans hp, hbt.next hR hs, by omega, rfl⟩
  · have hC := InsB_spec G gn S (i * 20) L.length c hOS (by omega) (by omega) (by omega)
    rw [hsl] at hC
    repeat' first | simp (disch := first | with_reducible assumption | omega) only [go_sem, Bool.true_and, Bool.and_true, Bool.and_self, Bool.false_and, Bool.and_false, Bool.true_or, Bool.or_true, Bool.false_or, Bool.or_false, ↓reduceIte, Nat.reduceEqDiff, Nat.reduceAdd, Nat.reduceMul, Nat.reduceSub, Nat.reduceBEq, Nat.reduceLeDiff, Nat.reduceLT, Nat.reduceMod, Nat.reduceDiv, Int.reduceToNat, Int.reducePow, Int.reduceMul, Int.reduceAdd, Int.reduceSub, Int.reduceLE, Int.reduceLT, Int.reduceNeg, Int.reduceDiv, Int.reduceMod, Int.reduceEq, Int.reduceBEq, Int.reduceBNe, f19, f19b, f19r0, f19r1, f19r2, f19r3, f19r4, f19r5, f19r7, f19r8, f19r9, f19r10, f19r11, f19r12, f19r13, f19r15, f19r16, f19r17, f19r18, f19l0, f19, f19b, f19r0, f19r1, f19r2, f19r3, f19r4, f19r5, f19r7, f19r8, f19r9, f19r10, f19r11, f19r12, f19r13, f19r15, f19r16, f19r17, f19r18] | (refine BrW.of (fun hb => ?_) (fun hb => ?_) <;> (have hb' := hb; try simp only [decide_eq_true_eq, decide_eq_false_iff_not, beq_iff_eq, bne_iff_ne, beq_eq_false_iff_ne, bne_eq_false_iff_eq, Bool.not_eq_true', Bool.not_eq_false', Bool.not_eq_true, Bool.not_eq_false, Bool.and_eq_true, Bool.or_eq_true, Bool.and_eq_false_iff, Bool.or_eq_false_iff, Int.not_lt, Int.not_le, ne_eq, gt_iff_lt, ge_iff_le] at hb') <;> (try (exfalso; omega))) | (refine altW.of ?_ ?_) | (refine .of (hC.mono ?_); rintro v _ ⟨rfl, S2, rfl, hR, hs⟩)
    have hB := hbt.last hi (by omega) hR hs
    have hp2 := hR.perm.trans hp
    clear hC hbt hs hR hp hsl hOS
    refine loopW.of (by decide) (fun w e J => ∃ (B : Nat) (S : List Px), e = [(0, slv G.length 0 gn L.length c), (1, .int .i64 L.length), (2, .func (.func 9) #[] #[]), (6, .int .i64 B)] ∧ J = G ++ [.cells gn 6 false (flat' Px.cells S)] ∧ S.Perm L ∧ Bl p0 ltB S B L.length ∧ 20 ≤ B ∧ B ≤ 2097152 ∧ w = L.length - B) (L.length - 20)
      ⟨20, S2, rfl, rfl, hp2, hB, by omega, by omega, by omega⟩ ?_
    clear hB hp2 S2
    rintro w e J ⟨B, S, rfl, rfl, hp, hB, hB1, hB2, rfl⟩
    by_cases hlt2 : B < L.length
    · repeat' first | simp (disch := first | with_reducible assumption | omega) only [go_sem, Bool.true_and, Bool.and_true, Bool.and_self, Bool.false_and, Bool.and_false, Bool.true_or, Bool.or_true, Bool.false_or, Bool.or_false, ↓reduceIte, Nat.reduceEqDiff, Nat.reduceAdd, Nat.reduceMul, Nat.reduceSub, Nat.reduceBEq, Nat.reduceLeDiff, Nat.reduceLT, Nat.reduceMod, Nat.reduceDiv, Int.reduceToNat, Int.reducePow, Int.reduceMul, Int.reduceAdd, Int.reduceSub, Int.reduceLE, Int.reduceLT, Int.reduceNeg, Int.reduceDiv, Int.reduceMod, Int.reduceEq, Int.reduceBEq, Int.reduceBNe, f19, f19b, f19r0, f19r1, f19r2, f19r3, f19r4, f19r5, f19r7, f19r8, f19r9, f19r10, f19r11, f19r12, f19r13, f19r15, f19r16, f19r17, f19r18, f19l2] | (refine BrW.of (fun hb => ?_) (fun hb => ?_) <;> (have hb' := hb; try simp only [decide_eq_true_eq, decide_eq_false_iff_not, beq_iff_eq, bne_iff_ne, beq_eq_false_iff_ne, bne_eq_false_iff_eq, Bool.not_eq_true', Bool.not_eq_false', Bool.not_eq_true, Bool.not_eq_false, Bool.and_eq_true, Bool.or_eq_true, Bool.and_eq_false_iff, Bool.or_eq_false_iff, Int.not_lt, Int.not_le, ne_eq, gt_iff_lt, ge_iff_le] at hb') <;> (try (exfalso; omega))) | (refine altW.of ?_ ?_)
      refine loopW.of (by decide) (fun w e J => ∃ (i a : Nat) (S : List Px), e = [(0, slv G.length 0 gn L.length c), (1, .int .i64 L.length), (2, .func (.func 9) #[] #[]), (6, .int .i64 B), (7, .int .i64 a), (8, .int .i64 ((a : Int) + 2 * B))] ∧ J = G ++ [.cells gn 6 false (flat' Px.cells S)] ∧ a = i * (2 * B) ∧ S.Perm L ∧ Mg p0 ltB S B L.length i ∧ a ≤ L.length ∧ w = L.length - a) L.length
        ⟨0, 0, S, by simp, rfl, by simp, hp, Mg.start hB, by omega, by omega⟩ ?_
      clear hB hp
      clear S
      rintro w e J ⟨i, a, S, rfl, rfl, ha, hp, hM, hal, rfl⟩
      have hsl := hp.length_eq
      have hOS : ∀ x ∈ S, okb x := fun x hx => hO x (hp.mem_iff.1 hx)
      have hsucc : a + 2 * B = (i + 1) * (2 * B) := by rw [Nat.add_mul, Nat.one_mul, ha]
      by_cases hl3 : a + 2 * B ≤ L.length
      · have m1 := hM.left (by omega)
        have m2 := hM.right
        rw [Nat.min_eq_left (by omega)] at m2
        rw [← ha] at m1 m2
        have hC := Sym_spec G gn S a (a + B) (a + 2 * B) c hOS (by omega) (by omega) (by omega) (by omega) m1 (by rw [show a + 2 * B = a + B + B by omega]; exact m2)
        rw [hsl, show ((a + B : Nat) : Int) = (a : Int) + B by omega, show ((a + 2 * B : Nat) : Int) = (a : Int) + 2 * B by omega] at hC
        repeat' first | simp (disch := first | with_reducible assumption | omega) only [go_sem, Bool.true_and, Bool.and_true, Bool.and_self, Bool.false_and, Bool.and_false, Bool.true_or, Bool.or_true, Bool.false_or, Bool.or_false, ↓reduceIte, Nat.reduceEqDiff, Nat.reduceAdd, Nat.reduceMul, Nat.reduceSub, Nat.reduceBEq, Nat.reduceLeDiff, Nat.reduceLT, Nat.reduceMod, Nat.reduceDiv, Int.reduceToNat, Int.reducePow, Int.reduceMul, Int.reduceAdd, Int.reduceSub, Int.reduceLE, Int.reduceLT, Int.reduceNeg, Int.reduceDiv, Int.reduceMod, Int.reduceEq, Int.reduceBEq, Int.reduceBNe, f19, f19b, f19r0, f19r1, f19r2, f19r3, f19r4, f19r5, f19r7, f19r8, f19r9, f19r10, f19r11, f19r12, f19r13, f19r15, f19r16, f19r17, f19r18, f19l1] | (refine BrW.of (fun hb => ?_) (fun hb => ?_) <;> (have hb' := hb; try simp only [decide_eq_true_eq, decide_eq_false_iff_not, beq_iff_eq, bne_iff_ne, beq_eq_false_iff_ne, bne_eq_false_iff_eq, Bool.not_eq_true', Bool.not_eq_false', Bool.not_eq_true, Bool.not_eq_false, Bool.and_eq_true, Bool.or_eq_true, Bool.and_eq_false_iff, Bool.or_eq_false_iff, Int.not_lt, Int.not_le, ne_eq, gt_iff_lt, ge_iff_le] at hb') <;> (try (exfalso; omega))) | (refine altW.of ?_ ?_) | (refine .of (hC.mono ?_); rintro v _ ⟨rfl, S2, rfl, hR, hs⟩)
        refine RdW.keep [0, 1, 2, 6, 7, 8] (L.length - (a + 2 * B)) (by omega) ?_
        simp (disch := first | with_reducible assumption | omega) only [go_sem, Bool.true_and, Bool.and_true, Bool.and_self, Bool.false_and, Bool.and_false, Bool.true_or, Bool.or_true, Bool.false_or, Bool.or_false, ↓reduceIte, Nat.reduceEqDiff, Nat.reduceAdd, Nat.reduceMul, Nat.reduceSub, Nat.reduceBEq, Nat.reduceLeDiff, Nat.reduceLT, Nat.reduceMod, Nat.reduceDiv, Int.reduceToNat, Int.reducePow, Int.reduceMul, Int.reduceAdd, Int.reduceSub, Int.reduceLE, Int.reduceLT, Int.reduceNeg, Int.reduceDiv, Int.reduceMod, Int.reduceEq, Int.reduceBEq, Int.reduceBNe]
        exact ⟨i + 1, a + 2 * B, S2, by rw [show ((a + 2 * B : Nat) : Int) = (a : Int) + 2 * B by omega], rfl, hsucc, hR.perm.trans hp, hM.next (by rw [← ha]; exact hR) (by rw [← ha]; exact hs), by omega, rfl⟩
      · by_cases hl4 : a + B < L.length
        · have m1 := hM.left (by omega)
          have m2 := hM.right
          rw [Nat.min_eq_right (by omega)] at m2
          rw [← ha] at m1 m2
          have hC := Sym_spec G gn S a (a + B) L.length c hOS (by omega) (by omega) (by omega) (by omega) m1 m2
          rw [hsl, show ((a + B : Nat) : Int) = (a : Int) + B by omega] at hC
          repeat' first | simp (disch := first | with_reducible assumption | omega) only [go_sem, Bool.true_and, Bool.and_true, Bool.and_self, Bool.false_and, Bool.and_false, Bool.true_or, Bool.or_true, Bool.false_or, Bool.or_false, ↓reduceIte, Nat.reduceEqDiff, Nat.reduceAdd, Nat.reduceMul, Nat.reduceSub, Nat.reduceBEq, Nat.reduceLeDiff, Nat.reduceLT, Nat.reduceMod, Nat.reduceDiv, Int.reduceToNat, Int.reducePow, Int.reduceMul, Int.reduceAdd, Int.reduceSub, Int.reduceLE, Int.reduceLT, Int.reduceNeg, Int.reduceDiv, Int.reduceMod, Int.reduceEq, Int.reduceBEq, Int.reduceBNe, f19, f19b, f19r0, f19r1, f19r2, f19r3, f19r4, f19r5, f19r7, f19r8, f19r9, f19r10, f19r11, f19r12, f19r13, f19r15, f19r16, f19r17, f19r18, f19l1, f19, f19b, f19r0, f19r1, f19r2, f19r3, f19r4, f19r5, f19r7, f19r8, f19r9, f19r10, f19r11, f19r12, f19r13, f19r15, f19r16, f19r17, f19r18, f19l2] | (refine BrW.of (fun hb => ?_) (fun hb => ?_) <;> (have hb' := hb; try simp only [decide_eq_true_eq, decide_eq_false_iff_not, beq_iff_eq, bne_iff_ne, beq_eq_false_iff_ne, bne_eq_false_iff_eq, Bool.not_eq_true', Bool.not_eq_false', Bool.not_eq_true, Bool.not_eq_false, Bool.and_eq_true, Bool.or_eq_true, Bool.and_eq_false_iff, Bool.or_eq_false_iff, Int.not_lt, Int.not_le, ne_eq, gt_iff_lt, ge_iff_le] at hb') <;> (try (exfalso; omega))) | (refine altW.of ?_ ?_) | (refine .of (hC.mono ?_); rintro v _ ⟨rfl, S2, rfl, hR, hs⟩)
          refine RdW.keep [0, 1, 2, 6] (L.length - 2 * B) (by omega) ?_
          simp (disch := first | with_reducible assumption | omega) only [go_sem, Bool.true_and, Bool.and_true, Bool.and_self, Bool.false_and, Bool.and_false, Bool.true_or, Bool.or_true, Bool.false_or, Bool.or_false, ↓reduceIte, Nat.reduceEqDiff, Nat.reduceAdd, Nat.reduceMul, Nat.reduceSub, Nat.reduceBEq, Nat.reduceLeDiff, Nat.reduceLT, Nat.reduceMod, Nat.reduceDiv, Int.reduceToNat, Int.reducePow, Int.reduceMul, Int.reduceAdd, Int.reduceSub, Int.reduceLE, Int.reduceLT, Int.reduceNeg, Int.reduceDiv, Int.reduceMod, Int.reduceEq, Int.reduceBEq, Int.reduceBNe]
          exact ⟨2 * B, S2, by rw [show ((2 * B : Nat) : Int) = (B : Int) * 2 by omega], rfl, hR.perm.trans hp, hM.last (by rw [← ha]; exact hal) (by rw [← ha]; omega) (by rw [← ha]; exact hR) (by rw [← ha]; exact hs), by omega, by omega, rfl⟩
        · have m1 := hM.short (by rw [← ha]; omega)
          repeat' first | simp (disch := first | with_reducible assumption | omega) only [go_sem, Bool.true_and, Bool.and_true, Bool.and_self, Bool.false_and, Bool.and_false, Bool.true_or, Bool.or_true, Bool.false_or, Bool.or_false, ↓reduceIte, Nat.reduceEqDiff, Nat.reduceAdd, Nat.reduceMul, Nat.reduceSub, Nat.reduceBEq, Nat.reduceLeDiff, Nat.reduceLT, Nat.reduceMod, Nat.reduceDiv, Int.reduceToNat, Int.reducePow, Int.reduceMul, Int.reduceAdd, Int.reduceSub, Int.reduceLE, Int.reduceLT, Int.reduceNeg, Int.reduceDiv, Int.reduceMod, Int.reduceEq, Int.reduceBEq, Int.reduceBNe, f19, f19b, f19r0, f19r1, f19r2, f19r3, f19r4, f19r5, f19r7, f19r8, f19r9, f19r10, f19r11, f19r12, f19r13, f19r15, f19r16, f19r17, f19r18, f19l1, f19, f19b, f19r0, f19r1, f19r2, f19r3, f19r4, f19r5, f19r7, f19r8, f19r9, f19r10, f19r11, f19r12, f19r13, f19r15, f19r16, f19r17, f19r18, f19l2] | (refine BrW.of (fun hb => ?_) (fun hb => ?_) <;> (have hb' := hb; try simp only [decide_eq_true_eq, decide_eq_false_iff_not, beq_iff_eq, bne_iff_ne, beq_eq_false_iff_ne, bne_eq_false_iff_eq, Bool.not_eq_true', Bool.not_eq_false', Bool.not_eq_true, Bool.not_eq_false, Bool.and_eq_true, Bool.or_eq_true, Bool.and_eq_false_iff, Bool.or_eq_false_iff, Int.not_lt, Int.not_le, ne_eq, gt_iff_lt, ge_iff_le] at hb') <;> (try (exfalso; omega))) | (refine altW.of ?_ ?_)
          refine RdW.keep [0, 1, 2, 6] (L.length - 2 * B) (by omega) ?_
          simp (disch := first | with_reducible assumption | omega) only [go_sem, Bool.true_and, Bool.and_true, Bool.and_self, Bool.false_and, Bool.and_false, Bool.true_or, Bool.or_true, Bool.false_or, Bool.or_false, ↓reduceIte, Nat.reduceEqDiff, Nat.reduceAdd, Nat.reduceMul, Nat.reduceSub, Nat.reduceBEq, Nat.reduceLeDiff, Nat.reduceLT, Nat.reduceMod, Nat.reduceDiv, Int.reduceToNat, Int.reducePow, Int.reduceMul, Int.reduceAdd, Int.reduceSub, Int.reduceLE, Int.reduceLT, Int.reduceNeg, Int.reduceDiv, Int.reduceMod, Int.reduceEq, Int.reduceBEq, Int.reduceBNe]
          exact ⟨2 * B, S, by rw [show ((2 * B : Nat) : Int) = (B : Int) * 2 by omega], rfl, hp, hM.last (by rw [← ha]; exact hal) (by rw [← ha]; omega) (.refl _ _ _) m1, by omega, by omega, rfl⟩
    · have hall := hB.all (by omega)
      repeat' first | simp (disch := first | with_reducible assumption | omega) only [go_sem, Bool.true_and, Bool.and_true, Bool.and_self, Bool.false_and, Bool.and_false, Bool.true_or, Bool.or_true, Bool.false_or, Bool.or_false, ↓reduceIte, Nat.reduceEqDiff, Nat.reduceAdd, Nat.reduceMul, Nat.reduceSub, Nat.reduceBEq, Nat.reduceLeDiff, Nat.reduceLT, Nat.reduceMod, Nat.reduceDiv, Int.reduceToNat, Int.reducePow, Int.reduceMul, Int.reduceAdd, Int.reduceSub, Int.reduceLE, Int.reduceLT, Int.reduceNeg, Int.reduceDiv, Int.reduceMod, Int.reduceEq, Int.reduceBEq, Int.reduceBNe, f19, f19b, f19r0, f19r1, f19r2, f19r3, f19r4, f19r5, f19r7, f19r8, f19r9, f19r10, f19r11, f19r12, f19r13, f19r15, f19r16, f19r17, f19r18, f19l2, f19, f19b, f19r0, f19r1, f19r2, f19r3, f19r4, f19r5, f19r7, f19r8, f19r9, f19r10, f19r11, f19r12, f19r13, f19r15, f19r16, f19r17, f19r18] | (refine BrW.of (fun hb => ?_) (fun hb => ?_) <;> (have hb' := hb; try simp only [decide_eq_true_eq, decide_eq_false_iff_not, beq_iff_eq, bne_iff_ne, beq_eq_false_iff_ne, bne_eq_false_iff_eq, Bool.not_eq_true', Bool.not_eq_false', Bool.not_eq_true, Bool.not_eq_false, Bool.and_eq_true, Bool.or_eq_true, Bool.and_eq_false_iff, Bool.or_eq_false_iff, Int.not_lt, Int.not_le, ne_eq, gt_iff_lt, ge_iff_le] at hb') <;> (try (exfalso; omega))) | (refine altW.of ?_ ?_)
      all_goals exact .here ⟨rfl, S, rfl, hp, hall⟩
end Go.Proofs.YtcocblbfgjjlbaaGreatDoor
set_option linter.unusedSimpArgs false
set_option linter.unusedVariables false
set_option maxHeartbeats 2000000
set_option maxRecDepth 20000
namespace Go.Proofs.YtcocblbfgjjlbaaGreatDoor
open Go Go.Am Tr

theorem CloneP_spec (l : List Px) (k o g c : Nat) (H : Heap) (hs : Tbl Px Px.cells 6 p0 H k o g l) (hl : l.length ≤ 1099511627776) (hc : l.length ≤ c) :
    ACallK Tryz.prog 7 [slv k o g l.length c] H (fun v H' => ∃ g', v = slv H.length 0 g' l.length l.length ∧ H' = H ++ [.cells g' 6 false (flat' Px.cells l)]) := by
  obtain ⟨ro, cs, hk, hle, hcs⟩ := hs.at'
  have ht := Tbl.cells (enc := Px.cells) (fun _ => rfl) hle hcs
  try simp only [Nat.mul_one] at ht
  refine .walkW f7_ok (by simp; decide) (by decide) ?_
  have hkn := get_old hk
  simp (disch := first | with_reducible assumption | omega) only [go_sem, Bool.true_and, Bool.and_true, Bool.and_self, Bool.false_and, Bool.and_false, Bool.true_or, Bool.or_true, Bool.false_or, Bool.or_false, ↓reduceIte, Nat.reduceEqDiff, Nat.reduceAdd, Nat.reduceMul, Nat.reduceSub, Nat.reduceBEq, Nat.reduceLeDiff, Nat.reduceLT, Nat.reduceMod, Nat.reduceDiv, Int.reduceToNat, Int.reducePow, Int.reduceMul, Int.reduceAdd, Int.reduceSub, Int.reduceLE, Int.reduceLT, Int.reduceNeg, Int.reduceDiv, Int.reduceMod, Int.reduceEq, Int.reduceBEq, Int.reduceBNe, f7, f7b, f7r0, f7r1, f7r2, f7r3, hk]
  refine .of ?_ (fun hn => ?_)
  · by_cases hz : l.length = 0
    · have hb : flat' Px.cells l = [] := by rw [List.length_eq_zero_iff.1 hz]; rfl
      simp (disch := first | with_reducible assumption | omega) only [go_sem, Bool.true_and, Bool.and_true, Bool.and_self, Bool.false_and, Bool.and_false, Bool.true_or, Bool.or_true, Bool.false_or, Bool.or_false, ↓reduceIte, Nat.reduceEqDiff, Nat.reduceAdd, Nat.reduceMul, Nat.reduceSub, Nat.reduceBEq, Nat.reduceLeDiff, Nat.reduceLT, Nat.reduceMod, Nat.reduceDiv, Int.reduceToNat, Int.reducePow, Int.reduceMul, Int.reduceAdd, Int.reduceSub, Int.reduceLE, Int.reduceLT, Int.reduceNeg, Int.reduceDiv, Int.reduceMod, Int.reduceEq, Int.reduceBEq, Int.reduceBNe, f7, f7b, f7r0, f7r1, f7r2, f7r3, hk, hkn, hz]
      exact .here ⟨0, by rw [hz], by rw [hb]⟩
    · have hz' : ¬ l.length ≤ 0 := by omega
      simp (disch := first | with_reducible assumption | omega) only [go_sem, Bool.true_and, Bool.and_true, Bool.and_self, Bool.false_and, Bool.and_false, Bool.true_or, Bool.or_true, Bool.false_or, Bool.or_false, ↓reduceIte, Nat.reduceEqDiff, Nat.reduceAdd, Nat.reduceMul, Nat.reduceSub, Nat.reduceBEq, Nat.reduceLeDiff, Nat.reduceLT, Nat.reduceMod, Nat.reduceDiv, Int.reduceToNat, Int.reducePow, Int.reduceMul, Int.reduceAdd, Int.reduceSub, Int.reduceLE, Int.reduceLT, Int.reduceNeg, Int.reduceDiv, Int.reduceMod, Int.reduceEq, Int.reduceBEq, Int.reduceBNe, f7, f7b, f7r0, f7r1, f7r2, f7r3, hk, hkn, hz, hz', ht, List.take_zero, List.drop_nil]
      exact .here ⟨1, rfl, rfl⟩
  · have hz : l.length = 0 := by have : c = 0 := by simpa using hn
                                 omega
    have hb : flat' Px.cells l = [] := by rw [List.length_eq_zero_iff.1 hz]; rfl
    simp (disch := first | with_reducible assumption | omega) only [go_sem, Bool.true_and, Bool.and_true, Bool.and_self, Bool.false_and, Bool.and_false, Bool.true_or, Bool.or_true, Bool.false_or, Bool.or_false, ↓reduceIte, Nat.reduceEqDiff, Nat.reduceAdd, Nat.reduceMul, Nat.reduceSub, Nat.reduceBEq, Nat.reduceLeDiff, Nat.reduceLT, Nat.reduceMod, Nat.reduceDiv, Int.reduceToNat, Int.reducePow, Int.reduceMul, Int.reduceAdd, Int.reduceSub, Int.reduceLE, Int.reduceLT, Int.reduceNeg, Int.reduceDiv, Int.reduceMod, Int.reduceEq, Int.reduceBEq, Int.reduceBNe, f7, f7b, f7r0, f7r1, f7r2, f7r3, hk]
    refine .ghost 6 false ⟨0, by rw [hz], by rw [hb]⟩

theorem SortS_spec (G : Heap) (gn : Nat) (L : List Px) (c : Nat) (hO : ∀ x ∈ L, okb x) (hL : L.length ≤ 1048576) :
  ACallK Tryz.prog 8 [slv G.length 0 gn L.length c, .func (.func 9) #[] #[]] (G ++ [.cells gn 6 false (flat' Px.cells L)]) (fun v H' => v = .tuple #[] ∧ ∃ S, H' = G ++ [.cells gn 6 false (flat' Px.cells S)] ∧ S.Perm L ∧ srt p0 ltB S 0 L.length) := by
  have hC := Stable_spec G gn L c hO hL
  refine .walkW f8_ok (by simp; decide) (by decide) ?_
  repeat' first | simp (disch := first | with_reducible assumption | omega) only [go_sem, Bool.true_and, Bool.and_true, Bool.and_self, Bool.false_and, Bool.and_false, Bool.true_or, Bool.or_true, Bool.false_or, Bool.or_false, ↓reduceIte, Nat.reduceEqDiff, Nat.reduceAdd, Nat.reduceMul, Nat.reduceSub, Nat.reduceBEq, Nat.reduceLeDiff, Nat.reduceLT, Nat.reduceMod, Nat.reduceDiv, Int.reduceToNat, Int.reducePow, Int.reduceMul, Int.reduceAdd, Int.reduceSub, Int.reduceLE, Int.reduceLT, Int.reduceNeg, Int.reduceDiv, Int.reduceMod, Int.reduceEq, Int.reduceBEq, Int.reduceBNe, f8, f8b, f8r0] | (refine BrW.of (fun hb => ?_) (fun hb => ?_) <;> (have hb' := hb; try simp only [decide_eq_true_eq, decide_eq_false_iff_not, beq_iff_eq, bne_iff_ne, beq_eq_false_iff_ne, bne_eq_false_iff_eq, Bool.not_eq_true', Bool.not_eq_false', Bool.not_eq_true, Bool.not_eq_false, Bool.and_eq_true, Bool.or_eq_true, Bool.and_eq_false_iff, Bool.or_eq_false_iff, Int.not_lt, Int.not_le, ne_eq, gt_iff_lt, ge_iff_le] at hb') <;> (try (exfalso; omega))) | (refine altW.of ?_ ?_) | (refine .of (hC.mono ?_); rintro v _ ⟨rfl, S2, rfl, hR, hs⟩)
  exact .here ⟨rfl, S2, rfl, hR, hs⟩
end Go.Proofs.YtcocblbfgjjlbaaGreatDoor
