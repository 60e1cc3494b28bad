import Derived.Test.YtklbagfnepphmaaSteps2
set_option linter.unusedSimpArgs false
set_option linter.unusedVariables false
set_option maxHeartbeats 1000000
namespace Go.Proofs.Ytklbagfnepphmaa
open Go Go.Am
attribute [local irreducible] opsW Ww loopW callW drawW outW outDW gW cW BrW bothW vW resW DropW RdW dcallW Later.run

def badS (s f : Int) (l : List Int) : Prop := s < 0 ∨ 10 < s ∨ wrongL 1 l ∨ f < -1073741824 ∨ 1073741824 < f
theorem Smooth_bad (s f : Int) (l : List Int) (k o g c : Nat) (H : Heap) (hs : Ints H k o g l) (hl : l.length ≤ 9223372036854775807) (hb : badS s f l) :
    ACallK Try.prog 11 [.int .i64 s, .int .i64 f, slv k o g l.length c] H (fun v H' => v = badV ∧ H' = H) := by
  refine .walkW f11_ok (by simp; decide) (by decide) ?_
  by_cases h1 : 0 ≤ s
  · by_cases h2 : s ≤ 10
    · by_cases h3 : wrongL 1 l
      · repeat' first | simp (disch := first | with_reducible assumption | omega) only [go_sem, Bool.true_and, Bool.and_true, Bool.and_self, Bool.false_and, Bool.and_false, Bool.true_or, Bool.or_true, Bool.false_or, Bool.or_false, ↓reduceIte, Nat.reduceEqDiff, Nat.reduceAdd, Nat.reduceMul, Nat.reduceSub, Nat.reduceBEq, Nat.reduceLeDiff, Nat.reduceLT, Nat.reduceMod, Nat.reduceDiv, Int.reduceToNat, Int.reducePow, Int.reduceMul, Int.reduceAdd, Int.reduceSub, Int.reduceLE, Int.reduceLT, Int.reduceNeg, Int.reduceDiv, Int.reduceMod, Int.reduceEq, Int.reduceBEq, Int.reduceBNe, f11, f11b, f11r0, f11r1, f11r2, f11r3, f11r4, f11r5, f11r6, f11r7, f11r8, f11r9, f11r10, f11r12] | (refine BrW.of (fun hb => ?_) (fun hb => ?_) <;> (have hb' := hb; try simp only [decide_eq_true_eq, decide_eq_false_iff_not, beq_iff_eq, bne_iff_ne, beq_eq_false_iff_ne, bne_eq_false_iff_eq, Bool.not_eq_true', Bool.not_eq_false', Bool.not_eq_true, Bool.not_eq_false, Bool.and_eq_true, Bool.or_eq_true, Bool.and_eq_false_iff, Bool.or_eq_false_iff, Int.not_lt, Int.not_le, ne_eq, gt_iff_lt, ge_iff_le] at hb') <;> (try (exfalso; omega))) | (refine .of ((wrong_yes 1 l k o g c _ hs hl h3).mono ?_); rintro v _ ⟨rfl, rfl⟩)
        all_goals exact .here ⟨rfl, rfl⟩
      · have h3' : okL l := Classical.byContradiction fun h => h3 (fun h' => h h'.2.2)
        have h4 : f < -1073741824 ∨ 1073741824 < f := by
          rcases hb with h | h | h | h | h
          · omega
          · omega
          · exact (h3 h).elim
          · exact .inl h
          · exact .inr h
        clear hb
        rcases h4 with h4 | h4
        · repeat' first | simp (disch := first | with_reducible assumption | omega) only [go_sem, Bool.true_and, Bool.and_true, Bool.and_self, Bool.false_and, Bool.and_false, Bool.true_or, Bool.or_true, Bool.false_or, Bool.or_false, ↓reduceIte, Nat.reduceEqDiff, Nat.reduceAdd, Nat.reduceMul, Nat.reduceSub, Nat.reduceBEq, Nat.reduceLeDiff, Nat.reduceLT, Nat.reduceMod, Nat.reduceDiv, Int.reduceToNat, Int.reducePow, Int.reduceMul, Int.reduceAdd, Int.reduceSub, Int.reduceLE, Int.reduceLT, Int.reduceNeg, Int.reduceDiv, Int.reduceMod, Int.reduceEq, Int.reduceBEq, Int.reduceBNe, f11, f11b, f11r0, f11r1, f11r2, f11r3, f11r4, f11r5, f11r6, f11r7, f11r8, f11r9, f11r10, f11r12] | (refine BrW.of (fun hb => ?_) (fun hb => ?_) <;> (have hb' := hb; try simp only [decide_eq_true_eq, decide_eq_false_iff_not, beq_iff_eq, bne_iff_ne, beq_eq_false_iff_ne, bne_eq_false_iff_eq, Bool.not_eq_true', Bool.not_eq_false', Bool.not_eq_true, Bool.not_eq_false, Bool.and_eq_true, Bool.or_eq_true, Bool.and_eq_false_iff, Bool.or_eq_false_iff, Int.not_lt, Int.not_le, ne_eq, gt_iff_lt, ge_iff_le] at hb') <;> (try (exfalso; omega))) | (refine .of ((wrong_no 1 l k o g c _ hs (by omega) (by omega) h3').mono ?_); rintro v _ ⟨rfl, rfl⟩)
          all_goals exact .here ⟨rfl, rfl⟩
        · repeat' first | simp (disch := first | with_reducible assumption | omega) only [go_sem, Bool.true_and, Bool.and_true, Bool.and_self, Bool.false_and, Bool.and_false, Bool.true_or, Bool.or_true, Bool.false_or, Bool.or_false, ↓reduceIte, Nat.reduceEqDiff, Nat.reduceAdd, Nat.reduceMul, Nat.reduceSub, Nat.reduceBEq, Nat.reduceLeDiff, Nat.reduceLT, Nat.reduceMod, Nat.reduceDiv, Int.reduceToNat, Int.reducePow, Int.reduceMul, Int.reduceAdd, Int.reduceSub, Int.reduceLE, Int.reduceLT, Int.reduceNeg, Int.reduceDiv, Int.reduceMod, Int.reduceEq, Int.reduceBEq, Int.reduceBNe, f11, f11b, f11r0, f11r1, f11r2, f11r3, f11r4, f11r5, f11r6, f11r7, f11r8, f11r9, f11r10, f11r12] | (refine BrW.of (fun hb => ?_) (fun hb => ?_) <;> (have hb' := hb; try simp only [decide_eq_true_eq, decide_eq_false_iff_not, beq_iff_eq, bne_iff_ne, beq_eq_false_iff_ne, bne_eq_false_iff_eq, Bool.not_eq_true', Bool.not_eq_false', Bool.not_eq_true, Bool.not_eq_false, Bool.and_eq_true, Bool.or_eq_true, Bool.and_eq_false_iff, Bool.or_eq_false_iff, Int.not_lt, Int.not_le, ne_eq, gt_iff_lt, ge_iff_le] at hb') <;> (try (exfalso; omega))) | (refine .of ((wrong_no 1 l k o g c _ hs (by omega) (by omega) h3').mono ?_); rintro v _ ⟨rfl, rfl⟩)
          all_goals exact .here ⟨rfl, rfl⟩
    · clear hb
      repeat' first | simp (disch := first | with_reducible assumption | omega) only [go_sem, Bool.true_and, Bool.and_true, Bool.and_self, Bool.false_and, Bool.and_false, Bool.true_or, Bool.or_true, Bool.false_or, Bool.or_false, ↓reduceIte, Nat.reduceEqDiff, Nat.reduceAdd, Nat.reduceMul, Nat.reduceSub, Nat.reduceBEq, Nat.reduceLeDiff, Nat.reduceLT, Nat.reduceMod, Nat.reduceDiv, Int.reduceToNat, Int.reducePow, Int.reduceMul, Int.reduceAdd, Int.reduceSub, Int.reduceLE, Int.reduceLT, Int.reduceNeg, Int.reduceDiv, Int.reduceMod, Int.reduceEq, Int.reduceBEq, Int.reduceBNe, f11, f11b, f11r0, f11r1, f11r2, f11r3, f11r4, f11r5, f11r6, f11r7, f11r8, f11r9, f11r10, f11r12] | (refine BrW.of (fun hb => ?_) (fun hb => ?_) <;> (have hb' := hb; try simp only [decide_eq_true_eq, decide_eq_false_iff_not, beq_iff_eq, bne_iff_ne, beq_eq_false_iff_ne, bne_eq_false_iff_eq, Bool.not_eq_true', Bool.not_eq_false', Bool.not_eq_true, Bool.not_eq_false, Bool.and_eq_true, Bool.or_eq_true, Bool.and_eq_false_iff, Bool.or_eq_false_iff, Int.not_lt, Int.not_le, ne_eq, gt_iff_lt, ge_iff_le] at hb') <;> (try (exfalso; omega)))
      all_goals exact .here ⟨rfl, rfl⟩
  · clear hb
    repeat' first | simp (disch := first | with_reducible assumption | omega) only [go_sem, Bool.true_and, Bool.and_true, Bool.and_self, Bool.false_and, Bool.and_false, Bool.true_or, Bool.or_true, Bool.false_or, Bool.or_false, ↓reduceIte, Nat.reduceEqDiff, Nat.reduceAdd, Nat.reduceMul, Nat.reduceSub, Nat.reduceBEq, Nat.reduceLeDiff, Nat.reduceLT, Nat.reduceMod, Nat.reduceDiv, Int.reduceToNat, Int.reducePow, Int.reduceMul, Int.reduceAdd, Int.reduceSub, Int.reduceLE, Int.reduceLT, Int.reduceNeg, Int.reduceDiv, Int.reduceMod, Int.reduceEq, Int.reduceBEq, Int.reduceBNe, f11, f11b, f11r0, f11r1, f11r2, f11r3, f11r4, f11r5, f11r6, f11r7, f11r8, f11r9, f11r10, f11r12] | (refine BrW.of (fun hb => ?_) (fun hb => ?_) <;> (have hb' := hb; try simp only [decide_eq_true_eq, decide_eq_false_iff_not, beq_iff_eq, bne_iff_ne, beq_eq_false_iff_ne, bne_eq_false_iff_eq, Bool.not_eq_true', Bool.not_eq_false', Bool.not_eq_true, Bool.not_eq_false, Bool.and_eq_true, Bool.or_eq_true, Bool.and_eq_false_iff, Bool.or_eq_false_iff, Int.not_lt, Int.not_le, ne_eq, gt_iff_lt, ge_iff_le] at hb') <;> (try (exfalso; omega)))
    all_goals exact .here ⟨rfl, rfl⟩

theorem smooth_drop (d : Int) : ∀ (l : List Int) (a : Int) (i : Nat), i ≤ l.length → ∃ b, smooth d b (l.drop i) = (smooth d a l).drop i
  | _, a, 0, _ => ⟨a, rfl⟩
  | [], a, i + 1, h => by simp at h
  | n :: r, a, i + 1, h => by
    obtain ⟨b, hb⟩ := smooth_drop d r (a + (n - a / d)) i (by simpa using h)
    exact ⟨b, by simpa [smooth] using hb⟩

theorem Smooth_ex (s : Nat) (f : Int) (l : List Int) (k o g c : Nat) (H : Heap) (hs : Ints H k o g l) (h1 : s ≤ 10) (h2 : -1073741824 ≤ f) (h3 : f ≤ 1073741824) (hl : okL l) :
    ACallK Try.prog 11 [.int .i64 s, .int .i64 f, slv k o g l.length c] H (fun v H' => v = .tuple #[slv H.length 0 l.length l.length l.length, .int .i64 0] ∧ H' = H ++ [.cells l.length 1 false (ints (smooth (2 ^ s) (f * 2 ^ s) l))]) := by
  obtain ⟨ro, cs, hk, hcl, hcs⟩ := hs.cell
  have h400 := hl.1
  have hkl := hs.lt
  have hd : (1 : Int) ≤ 2 ^ s ∧ (2 : Int) ^ s ≤ 1024 := by
    have h1 := Nat.one_le_two_pow (n := s)
    have h2 := Nat.pow_le_pow_right (n := 2) (by decide) (show s ≤ 10 by assumption)
    have h3 : ((2 ^ s : Nat) : Int) = 2 ^ s := by simp
    omega
  refine .walkW f11_ok (by simp; decide) (by decide) ?_
  have hb1 : -1073741824 * (2 : Int) ^ s ≤ f * 2 ^ s := Int.mul_le_mul_of_nonneg_right h2 (by omega)
  have hb2 : f * (2 : Int) ^ s < (1073741824 + 1) * 2 ^ s := Int.mul_lt_mul_of_pos_right (by omega) (by omega)
  have hsh : ishl .i64 f (s : Int) = f * 2 ^ s := by
    rw [ishl_i64 f s (by omega), Int.toNat_natCast]
    exact imul_i64 _ _ (by omega)
  have hshr : ∀ x : Int, ishr .i64 x (s : Int) = x / 2 ^ s := fun x => by rw [ishr_i64 x s (by omega), Int.toNat_natCast]
  generalize hd2 : (2 : Int) ^ s = d at *
  repeat' first | simp (disch := first | with_reducible assumption | omega) only [go_sem, Bool.true_and, Bool.and_true, Bool.and_self, Bool.false_and, Bool.and_false, Bool.true_or, Bool.or_true, Bool.false_or, Bool.or_false, ↓reduceIte, Nat.reduceEqDiff, Nat.reduceAdd, Nat.reduceMul, Nat.reduceSub, Nat.reduceBEq, Nat.reduceLeDiff, Nat.reduceLT, Nat.reduceMod, Nat.reduceDiv, Int.reduceToNat, Int.reducePow, Int.reduceMul, Int.reduceAdd, Int.reduceSub, Int.reduceLE, Int.reduceLT, Int.reduceNeg, Int.reduceDiv, Int.reduceMod, Int.reduceEq, Int.reduceBEq, Int.reduceBNe, f11, f11b, f11r0, f11r1, f11r2, f11r3, f11r4, f11r5, f11r6, f11r7, f11r8, f11r9, f11r10, f11r12, hk, get_old hk, hsh] | (refine BrW.of (fun hb => ?_) (fun hb => ?_) <;> (have hb' := hb; try simp only [decide_eq_true_eq, decide_eq_false_iff_not, beq_iff_eq, bne_iff_ne, beq_eq_false_iff_ne, bne_eq_false_iff_eq, Bool.not_eq_true', Bool.not_eq_false', Bool.not_eq_true, Bool.not_eq_false, Bool.and_eq_true, Bool.or_eq_true, Bool.and_eq_false_iff, Bool.or_eq_false_iff, Int.not_lt, Int.not_le, ne_eq, gt_iff_lt, ge_iff_le] at hb') <;> (try (exfalso; omega))) | (refine .of ((wrong_no 1 l k o g c _ hs (by omega) (by omega) hl).mono ?_); rintro v H ⟨rfl, rfl⟩)
  refine loopW.ghost 9 1 rfl ?_
  simp (disch := first | with_reducible assumption | omega) only [go_sem, Bool.true_and, Bool.and_true, Bool.and_self, Bool.false_and, Bool.and_false, Bool.true_or, Bool.or_true, Bool.false_or, Bool.or_false, ↓reduceIte, Nat.reduceEqDiff, Nat.reduceAdd, Nat.reduceMul, Nat.reduceSub, Nat.reduceBEq, Nat.reduceLeDiff, Nat.reduceLT, Nat.reduceMod, Nat.reduceDiv, Int.reduceToNat, Int.reducePow, Int.reduceMul, Int.reduceAdd, Int.reduceSub, Int.reduceLE, Int.reduceLT, Int.reduceNeg, Int.reduceDiv, Int.reduceMod, Int.reduceEq, Int.reduceBEq, Int.reduceBNe]
  have hsl := smooth_length d l (f * d)
  obtain ⟨S, hS⟩ : ∃ S, S = smooth d (f * d) l := ⟨_, rfl⟩
  rw [← hS] at hsl ⊢
  refine loopW.of (by decide) (fun m e H'' => ∃ (i : Nat) (a : Int), e = [(0, .int .i64 s), (8, .int .i64 a), (9, slv H.length 0 i i i), (33, slv k o g l.length c), (34, .int .i64 l.length), (35, .int .i64 i)] ∧
    H'' = H ++ [.cells i 1 false (ints (S.take i))] ∧ i ≤ l.length ∧ m = l.length - i ∧ -1073741824 * d ≤ a ∧ a < (1073741824 + 1) * d ∧ smooth d a (l.drop i) = S.drop i) l.length ⟨0, f * d, rfl, rfl, by omega, rfl, hb1, hb2, hS.symm⟩ ?_
  rintro m e H'' ⟨i, a, rfl, rfl, hi, rfl, ha1, ha2, hinv⟩
  by_cases hlt : i < l.length
  · have e0 := hcs i hlt
    have b0 := hl.2 i hlt
    obtain ⟨c1, c2⟩ := ediv_between hd.1 ha1 ha2 b0.1 b0.2
    obtain ⟨c3, c4⟩ := div_between hd.1 ha1 ha2
    obtain ⟨c5, c6⟩ := div_between hd.1 c1 c2
    rw [drop_cons 0 l i hlt, drop_cons 0 S i (by omega)] at hinv
    unfold smooth at hinv
    simp only [List.cons.injEq] at hinv
    obtain ⟨v1, v2⟩ := hinv
    have htk := take_snoc 0 S i (by omega)
    rw [← v1] at htk
    have il : (ints (S.take i)).length = i := by rw [ints_length]; simp; omega
    have hni : ¬ i + 1 ≤ i := by omega
    have hit : (ints (S.take i)).take i = ints (S.take i) := by rw [List.take_of_length_le (by omega)]
    have r1 : -1099511627776 ≤ a ∧ a ≤ 1099511627776 + 1024 := by
      have := Int.mul_le_mul_of_nonneg_left hd.2 (show (0 : Int) ≤ 1073741824 by omega)
      have := Int.mul_le_mul_of_nonneg_left hd.2 (show (0 : Int) ≤ 1073741824 + 1 by omega)
      omega
    have r2 : -1099511627776 ≤ a + (l.getD i 0 - a / d) ∧ a + (l.getD i 0 - a / d) ≤ 1099511627776 + 1024 := by
      have := Int.mul_le_mul_of_nonneg_left hd.2 (show (0 : Int) ≤ 1073741824 by omega)
      have := Int.mul_le_mul_of_nonneg_left hd.2 (show (0 : Int) ≤ 1073741824 + 1 by omega)
      omega
    generalize l.getD i 0 = x at *
    generalize hq : a / d = q at *
    generalize hz : a + (x - q) = z at *
    have hz' : (a + (x - q)) / d = z / d := by rw [hz]
    repeat' first | simp (disch := first | with_reducible assumption | omega) only [go_sem, Bool.true_and, Bool.and_true, Bool.and_self, Bool.false_and, Bool.and_false, Bool.true_or, Bool.or_true, Bool.false_or, Bool.or_false, ↓reduceIte, Nat.reduceEqDiff, Nat.reduceAdd, Nat.reduceMul, Nat.reduceSub, Nat.reduceBEq, Nat.reduceLeDiff, Nat.reduceLT, Nat.reduceMod, Nat.reduceDiv, Int.reduceToNat, Int.reducePow, Int.reduceMul, Int.reduceAdd, Int.reduceSub, Int.reduceLE, Int.reduceLT, Int.reduceNeg, Int.reduceDiv, Int.reduceMod, Int.reduceEq, Int.reduceBEq, Int.reduceBNe, f11, f11b, f11r0, f11r1, f11r2, f11r3, f11r4, f11r5, f11r6, f11r7, f11r8, f11r9, f11r10, f11r12, f11l0, hk, get_old hk, e0, il, hni, hit, hshr, hd2, hq, hz] | (refine BrW.of (fun hb => ?_) (fun hb => ?_) <;> (have hb' := hb; try simp only [decide_eq_true_eq, decide_eq_false_iff_not, beq_iff_eq, bne_iff_ne, beq_eq_false_iff_ne, bne_eq_false_iff_eq, Bool.not_eq_true', Bool.not_eq_false', Bool.not_eq_true, Bool.not_eq_false, Bool.and_eq_true, Bool.or_eq_true, Bool.and_eq_false_iff, Bool.or_eq_false_iff, Int.not_lt, Int.not_le, ne_eq, gt_iff_lt, ge_iff_le] at hb') <;> (try (exfalso; omega)))
    refine RdW.cut1 [0, 8, 9, 33, 34, 35] (l.length - (i + 1)) ?_ ?_ ?_ ?_
    · omega
    · rw [ints_snoc]; exact abnd_ints' _ _ _ _ _
    · simp (disch := first | with_reducible assumption | omega) only [go_sem, Bool.true_and, Bool.and_true, Bool.and_self, Bool.false_and, Bool.and_false, Bool.true_or, Bool.or_true, Bool.false_or, Bool.or_false, ↓reduceIte, Nat.reduceEqDiff, Nat.reduceAdd, Nat.reduceMul, Nat.reduceSub, Nat.reduceBEq, Nat.reduceLeDiff, Nat.reduceLT, Nat.reduceMod, Nat.reduceDiv, Int.reduceToNat, Int.reducePow, Int.reduceMul, Int.reduceAdd, Int.reduceSub, Int.reduceLE, Int.reduceLT, Int.reduceNeg, Int.reduceDiv, Int.reduceMod, Int.reduceEq, Int.reduceBEq, Int.reduceBNe]
      simp; omega
    · simp (disch := first | with_reducible assumption | omega) only [go_sem, Bool.true_and, Bool.and_true, Bool.and_self, Bool.false_and, Bool.and_false, Bool.true_or, Bool.or_true, Bool.false_or, Bool.or_false, ↓reduceIte, Nat.reduceEqDiff, Nat.reduceAdd, Nat.reduceMul, Nat.reduceSub, Nat.reduceBEq, Nat.reduceLeDiff, Nat.reduceLT, Nat.reduceMod, Nat.reduceDiv, Int.reduceToNat, Int.reducePow, Int.reduceMul, Int.reduceAdd, Int.reduceSub, Int.reduceLE, Int.reduceLT, Int.reduceNeg, Int.reduceDiv, Int.reduceMod, Int.reduceEq, Int.reduceBEq, Int.reduceBNe]
      exact ⟨i + 1, z, rfl, by rw [htk, ← ints_snoc], by omega, rfl, c1, c2, v2⟩
  · obtain rfl : i = l.length := by omega
    have hto : S.take l.length = S := by rw [← hsl, List.take_length]
    rw [hto]
    repeat' first | simp (disch := first | with_reducible assumption | omega) only [go_sem, Bool.true_and, Bool.and_true, Bool.and_self, Bool.false_and, Bool.and_false, Bool.true_or, Bool.or_true, Bool.false_or, Bool.or_false, ↓reduceIte, Nat.reduceEqDiff, Nat.reduceAdd, Nat.reduceMul, Nat.reduceSub, Nat.reduceBEq, Nat.reduceLeDiff, Nat.reduceLT, Nat.reduceMod, Nat.reduceDiv, Int.reduceToNat, Int.reducePow, Int.reduceMul, Int.reduceAdd, Int.reduceSub, Int.reduceLE, Int.reduceLT, Int.reduceNeg, Int.reduceDiv, Int.reduceMod, Int.reduceEq, Int.reduceBEq, Int.reduceBNe, f11, f11b, f11r0, f11r1, f11r2, f11r3, f11r4, f11r5, f11r6, f11r7, f11r8, f11r9, f11r10, f11r12, f11l0, f11, f11b, f11r0, f11r1, f11r2, f11r3, f11r4, f11r5, f11r6, f11r7, f11r8, f11r9, f11r10, f11r12, hk, get_old hk] | (refine BrW.of (fun hb => ?_) (fun hb => ?_) <;> (have hb' := hb; try simp only [decide_eq_true_eq, decide_eq_false_iff_not, beq_iff_eq, bne_iff_ne, beq_eq_false_iff_ne, bne_eq_false_iff_eq, Bool.not_eq_true', Bool.not_eq_false', Bool.not_eq_true, Bool.not_eq_false, Bool.and_eq_true, Bool.or_eq_true, Bool.and_eq_false_iff, Bool.or_eq_false_iff, Int.not_lt, Int.not_le, ne_eq, gt_iff_lt, ge_iff_le] at hb') <;> (try (exfalso; omega)))
    exact .here ⟨rfl, rfl⟩
theorem Smooth_spec (s : Nat) (f : Int) (l : List Int) (k o g c : Nat) (H : Heap) (hs : Ints H k o g l) (h1 : s ≤ 10) (h2 : -1073741824 ≤ f) (h3 : f ≤ 1073741824) (hl : okL l) :
    ACallK Try.prog 11 [.int .i64 s, .int .i64 f, slv k o g l.length c] H (fun v H' => ∃ g', v = .tuple #[slv H.length 0 g' l.length l.length, .int .i64 0] ∧ H' = H ++ [.cells g' 1 false (ints (smooth (2 ^ s) (f * 2 ^ s) l))]) :=
  (Smooth_ex s f l k o g c H hs h1 h2 h3 hl).mono fun _ _ h => ⟨_, h⟩
end Go.Proofs.Ytklbagfnepphmaa
