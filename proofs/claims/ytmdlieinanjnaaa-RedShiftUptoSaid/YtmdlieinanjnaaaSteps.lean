import Derived.Test.YtmdlieinanjnaaaTab
import Derived.Test.YtmdlieinanjnaaaPlain
import Derived.Test.YtmdlieinanjnaaaLib
set_option linter.unusedSimpArgs false
set_option linter.unusedVariables false
set_option maxHeartbeats 1000000
set_option maxRecDepth 10000
namespace Go.Proofs.Ytmdlieinanjnaaa
open Go Go.Am
attribute [local irreducible] opsW Ww loopW callW drawW outW outDW gW cW BrW bothW vW resW DropW RdW dcallW Later.run

theorem len8 : ∀ n : Nat, n < 256 → (n : Int) < 2 ^ (strAt f15r10s0 n).toNat ∧ 0 ≤ strAt f15r10s0 n ∧ strAt f15r10s0 n ≤ 8 := by decide +kernel

theorem strAt_range (s : ByteArray) (n : Nat) : 0 ≤ strAt s n ∧ strAt s n ≤ 255 := by
  unfold strAt
  have := (s.data.toList.getD n 0).toNat_lt
  omega
theorem strSize : f15r10s0.size = 256 := by decide +kernel
theorem conv_str (s : ByteArray) (n : Nat) : iconv .i64 (strAt s n) = strAt s n := iconv_i64 _ (by have := strAt_range s n; omega)
theorem len_leaf (n q : Int) (k : Nat) (hq : 0 ≤ q ∧ q < 256) (hn : n < (q + 1) * 2 ^ k) (hk : k ≤ 56) : ∃ l : Nat, (k : Int) + strAt f15r10s0 q.toNat = l ∧ l ≤ 64 ∧ n < 2 ^ l := by
  have h := len8 q.toNat (by omega)
  obtain ⟨s, hs⟩ := Int.eq_ofNat_of_zero_le h.2.1
  rw [hs] at h ⊢
  refine ⟨k + s, by omega, by omega, ?_⟩
  have h1 : q < 2 ^ s := by have := h.1; simp only [Int.toNat_natCast] at this; omega
  rw [Int.pow_add, Int.mul_comm (2 ^ k)]
  have hp : (0 : Int) ≤ 2 ^ k := Int.le_of_lt (Int.pow_pos (by decide))
  exact Int.lt_of_lt_of_le hn (Int.mul_le_mul_of_nonneg_right (by omega) hp)

theorem Len64_spec (n : Int) (h0 : 0 ≤ n ∧ n < 18446744073709551616) (H : Heap) : ACallK Try.prog 15 [.int .u64 n] H (fun v H' => (∃ l : Nat, v = .int .i64 l ∧ l ≤ 64 ∧ n < 2 ^ l) ∧ H' = H) := by
  refine .walkW f15_ok (by simp; decide) (by decide) ?_
  have s0 := strAt_range f15r10s0 (n / 4294967296 / 65536 / 256).toNat
  have s1 := strAt_range f15r10s0 (n / 4294967296 / 65536).toNat
  have s2 := strAt_range f15r10s0 (n / 4294967296 / 256).toNat
  have s3 := strAt_range f15r10s0 (n / 4294967296).toNat
  have s4 := strAt_range f15r10s0 (n / 65536 / 256).toNat
  have s5 := strAt_range f15r10s0 (n / 65536).toNat
  have s6 := strAt_range f15r10s0 (n / 256).toNat
  have s7 := strAt_range f15r10s0 (n).toNat
  repeat' first | simp (disch := first | with_reducible assumption | omega) only [go_sem, Bool.true_and, Bool.and_true, Bool.and_self, Bool.false_and, Bool.and_false, Bool.true_or, Bool.or_true, Bool.false_or, Bool.or_false, ↓reduceIte, Nat.reduceEqDiff, Nat.reduceAdd, Nat.reduceMul, Nat.reduceSub, Nat.reduceBEq, Nat.reduceLeDiff, Nat.reduceLT, Nat.reduceMod, Nat.reduceDiv, Int.reduceToNat, Int.reducePow, Int.reduceMul, Int.reduceAdd, Int.reduceSub, Int.reduceLE, Int.reduceLT, Int.reduceNeg, Int.reduceDiv, Int.reduceMod, Int.reduceEq, Int.reduceBEq, Int.reduceBNe, f15, f15b, f15r0, f15r1, f15r2, f15r3, f15r4, f15r5, f15r6, f15r7, f15r8, f15r9, f15r10, strSize, conv_str] | (refine BrW.of (fun hb => ?_) (fun hb => ?_) <;> (have hb' := hb; try simp only [decide_eq_true_eq, decide_eq_false_iff_not, beq_iff_eq, bne_iff_ne, beq_eq_false_iff_ne, bne_eq_false_iff_eq, Bool.not_eq_true', Bool.not_eq_false', Bool.not_eq_true, Bool.not_eq_false, Bool.and_eq_true, Bool.or_eq_true, Bool.and_eq_false_iff, Bool.or_eq_false_iff, Int.not_lt, Int.not_le, ne_eq, gt_iff_lt, ge_iff_le] at hb') <;> (try (exfalso; omega)))
  · obtain ⟨l, h1, h2, h3⟩ := len_leaf n (n / 4294967296 / 65536 / 256) 56 (by omega) (by simp only [Int.reducePow]; omega) (by omega)
    exact .here ⟨⟨l, by rw [← h1]; (first | with_reducible rfl | ((try simp (disch := first | with_reducible assumption | omega) only [if_pos, if_neg]) <;> repeat' first | with_reducible rfl | omega | congr 1)), h2, h3⟩, rfl⟩
  · obtain ⟨l, h1, h2, h3⟩ := len_leaf n (n / 4294967296 / 65536) 48 (by omega) (by simp only [Int.reducePow]; omega) (by omega)
    exact .here ⟨⟨l, by rw [← h1]; (first | with_reducible rfl | ((try simp (disch := first | with_reducible assumption | omega) only [if_pos, if_neg]) <;> repeat' first | with_reducible rfl | omega | congr 1)), h2, h3⟩, rfl⟩
  · obtain ⟨l, h1, h2, h3⟩ := len_leaf n (n / 4294967296 / 256) 40 (by omega) (by simp only [Int.reducePow]; omega) (by omega)
    exact .here ⟨⟨l, by rw [← h1]; (first | with_reducible rfl | ((try simp (disch := first | with_reducible assumption | omega) only [if_pos, if_neg]) <;> repeat' first | with_reducible rfl | omega | congr 1)), h2, h3⟩, rfl⟩
  · obtain ⟨l, h1, h2, h3⟩ := len_leaf n (n / 4294967296) 32 (by omega) (by simp only [Int.reducePow]; omega) (by omega)
    exact .here ⟨⟨l, by rw [← h1]; (first | with_reducible rfl | ((try simp (disch := first | with_reducible assumption | omega) only [if_pos, if_neg]) <;> repeat' first | with_reducible rfl | omega | congr 1)), h2, h3⟩, rfl⟩
  · obtain ⟨l, h1, h2, h3⟩ := len_leaf n (n / 65536 / 256) 24 (by omega) (by simp only [Int.reducePow]; omega) (by omega)
    exact .here ⟨⟨l, by rw [← h1]; (first | with_reducible rfl | ((try simp (disch := first | with_reducible assumption | omega) only [if_pos, if_neg]) <;> repeat' first | with_reducible rfl | omega | congr 1)), h2, h3⟩, rfl⟩
  · obtain ⟨l, h1, h2, h3⟩ := len_leaf n (n / 65536) 16 (by omega) (by simp only [Int.reducePow]; omega) (by omega)
    exact .here ⟨⟨l, by rw [← h1]; (first | with_reducible rfl | ((try simp (disch := first | with_reducible assumption | omega) only [if_pos, if_neg]) <;> repeat' first | with_reducible rfl | omega | congr 1)), h2, h3⟩, rfl⟩
  · obtain ⟨l, h1, h2, h3⟩ := len_leaf n (n / 256) 8 (by omega) (by simp only [Int.reducePow]; omega) (by omega)
    exact .here ⟨⟨l, by rw [← h1]; (first | with_reducible rfl | ((try simp (disch := first | with_reducible assumption | omega) only [if_pos, if_neg]) <;> repeat' first | with_reducible rfl | omega | congr 1)), h2, h3⟩, rfl⟩
  · obtain ⟨l, h1, h2, h3⟩ := len_leaf n (n) 0 (by omega) (by simp only [Int.reducePow]; omega) (by omega)
    exact .here ⟨⟨l, by rw [← h1]; (first | with_reducible rfl | ((try simp (disch := first | with_reducible assumption | omega) only [if_pos, if_neg]) <;> repeat' first | with_reducible rfl | omega | congr 1)), h2, h3⟩, rfl⟩

theorem or_add (r : Int) (i : Nat) (k : Nat) (hr : r = 2 ^ (i + 1) * k) (hi : i ≤ 32) (hs : r + 2 ^ i < 18446744073709551616) : ior .u64 r (2 ^ i) = r + 2 ^ i := by
  unfold ior
  have e : IntKind.u64.bits = 64 := rfl
  have hp : (2 : Int) ^ i = ((2 ^ i : Nat) : Int) := by simp
  have hr' : r = ((2 ^ (i + 1) * k : Nat) : Int) := by rw [hr]; simp
  have hlt : 2 ^ (i + 1) * k + 2 ^ i < 2 ^ 64 := by
    rw [hr', hp] at hs
    generalize 2 ^ (i + 1) * k = a at hs ⊢
    generalize 2 ^ i = b at hs ⊢
    omega
  rw [e, hr', hp]
  simp only [BitVec.ofInt_natCast, BitVec.toNat_or, BitVec.toNat_ofNat]
  rw [Nat.mod_eq_of_lt (Nat.lt_of_le_of_lt (Nat.le_add_right _ _) hlt), Nat.mod_eq_of_lt (Nat.lt_of_le_of_lt (Nat.le_add_left _ _) hlt)]
  have h2 : 2 ^ i < 2 ^ (i + 1) := Nat.pow_lt_pow_right (by decide) (by omega)
  rw [← Nat.two_pow_add_eq_or_of_lt h2]
  generalize 2 ^ (i + 1) * k = a at hlt ⊢
  generalize 2 ^ i = b at hlt ⊢
  rw [wrap_u64 _ (by omega)]
  omega

theorem Root_spec (n : Int) (h0 : 0 ≤ n ∧ n < 18446744073709551616) (H : Heap) : ACallK Try.prog 14 [.int .u64 n] H (fun v H' => (∃ r, v = .int .u64 r ∧ isRoot r n) ∧ H' = H) := by
  refine .walkW f14_ok (by simp; decide) (by decide) ?_
  simp (disch := first | with_reducible assumption | omega) only [go_sem, Bool.true_and, Bool.and_true, Bool.and_self, Bool.false_and, Bool.and_false, Bool.true_or, Bool.or_true, Bool.false_or, Bool.or_false, ↓reduceIte, Nat.reduceEqDiff, Nat.reduceAdd, Nat.reduceMul, Nat.reduceSub, Nat.reduceBEq, Nat.reduceLeDiff, Nat.reduceLT, Nat.reduceMod, Nat.reduceDiv, Int.reduceToNat, Int.reducePow, Int.reduceMul, Int.reduceAdd, Int.reduceSub, Int.reduceLE, Int.reduceLT, Int.reduceNeg, Int.reduceDiv, Int.reduceMod, Int.reduceEq, Int.reduceBEq, Int.reduceBNe, f14, f14b, f14r0, f14r1, f14r2, f14r3, f14r4, f14r5, f14r6, f14r7, f14r9]
  refine .of ((Len64_spec n h0 H).mono ?_)
  rintro v H' ⟨⟨l, rfl, hl, hn⟩, rfl⟩
  simp (disch := first | with_reducible assumption | omega) only [go_sem, Bool.true_and, Bool.and_true, Bool.and_self, Bool.false_and, Bool.and_false, Bool.true_or, Bool.or_true, Bool.false_or, Bool.or_false, ↓reduceIte, Nat.reduceEqDiff, Nat.reduceAdd, Nat.reduceMul, Nat.reduceSub, Nat.reduceBEq, Nat.reduceLeDiff, Nat.reduceLT, Nat.reduceMod, Nat.reduceDiv, Int.reduceToNat, Int.reducePow, Int.reduceMul, Int.reduceAdd, Int.reduceSub, Int.reduceLE, Int.reduceLT, Int.reduceNeg, Int.reduceDiv, Int.reduceMod, Int.reduceEq, Int.reduceBEq, Int.reduceBNe, f14, f14b, f14r0, f14r1, f14r2, f14r3, f14r4, f14r5, f14r6, f14r7, f14r9]
  refine loopW.of (by decide) (fun m e H'' => ∃ (j k : Nat) (r : Int), e = [(0, .int .u64 n), (3, .int .u64 r), (4, .int .i64 ((j : Int) - 1))] ∧ H'' = H' ∧ j ≤ 33 ∧ r = 2 ^ j * k ∧ r < 4294967296 ∧ r * r ≤ n ∧ n < (r + 2 ^ j) * (r + 2 ^ j) ∧ m = j) ((l + 1) / 2 + 1) ⟨(l + 1) / 2 + 1, 0, 0, ?_, rfl, by omega, by simp, by omega, by omega, ?_, rfl⟩ ?_
  · have : ((l : Int) + 1) / 2 = (((l + 1) / 2 + 1 : Nat) : Int) - 1 := by omega
    rw [this]
  · have h1 : (2 : Int) ^ l ≤ 2 ^ ((l + 1) / 2 + 1 + ((l + 1) / 2 + 1)) := by
      have := Nat.pow_le_pow_right (n := 2) (by decide) (show l ≤ (l + 1) / 2 + 1 + ((l + 1) / 2 + 1) by omega)
      exact_mod_cast this
    rw [Int.pow_add] at h1
    rw [Int.zero_add]
    omega
  rintro m e H'' ⟨j, k, r, rfl, rfl, hj, hr, hr2, hle, hlt, rfl⟩
  cases m with
  | zero =>
    have ez : ((0 : Nat) : Int) - 1 = -1 := rfl
    rw [ez]
    simp (disch := first | with_reducible assumption | omega) only [go_sem, Bool.true_and, Bool.and_true, Bool.and_self, Bool.false_and, Bool.and_false, Bool.true_or, Bool.or_true, Bool.false_or, Bool.or_false, ↓reduceIte, Nat.reduceEqDiff, Nat.reduceAdd, Nat.reduceMul, Nat.reduceSub, Nat.reduceBEq, Nat.reduceLeDiff, Nat.reduceLT, Nat.reduceMod, Nat.reduceDiv, Int.reduceToNat, Int.reducePow, Int.reduceMul, Int.reduceAdd, Int.reduceSub, Int.reduceLE, Int.reduceLT, Int.reduceNeg, Int.reduceDiv, Int.reduceMod, Int.reduceEq, Int.reduceBEq, Int.reduceBNe, f14, f14b, f14r0, f14r1, f14r2, f14r3, f14r4, f14r5, f14r6, f14r7, f14r9, f14l0, f14, f14b, f14r0, f14r1, f14r2, f14r3, f14r4, f14r5, f14r6, f14r7, f14r9]
    refine .here ⟨⟨r, rfl, ?_⟩, rfl⟩
    have e1 : (2 : Int) ^ 0 = 1 := rfl
    rw [e1] at hlt hr
    exact ⟨by omega, hle, hlt⟩
  | succ i =>
    have e1 : ((i + 1 : Nat) : Int) - 1 = i := by omega
    rw [e1]
    have hp : (1 : Int) ≤ 2 ^ i ∧ (2 : Int) ^ i ≤ 4294967296 := by
      have h1 := Nat.one_le_two_pow (n := i)
      have h2 := Nat.pow_le_pow_right (n := 2) (by decide) (show i ≤ 32 by omega)
      have h3 : ((2 ^ i : Nat) : Int) = 2 ^ i := by simp
      omega
    have hsh : ishl .u64 1 (i : Int) = 2 ^ i := by
      rw [ishl_u64 1 i (by omega), Int.toNat_natCast, imul_u64 _ _ (by omega), Int.one_mul]
    have hd : (2 : Int) ^ (i + 1) = 2 * 2 ^ i := by rw [Int.pow_succ, Int.mul_comm]
    have hor := or_add r i k hr (by omega) (by omega)
    have hmul : r = 2 ^ i * ((2 * k : Nat) : Int) := by rw [hr, hd]; push_cast; rw [Int.mul_assoc, Int.mul_left_comm]
    have hmul2 : r + 2 ^ i = 2 ^ i * ((2 * k + 1 : Nat) : Int) := by
      rw [hmul]; push_cast; rw [Int.mul_add, Int.mul_one]
    have hsq : ¬ r + 2 ^ i < 4294967296 → n < (r + 2 ^ i) * (r + 2 ^ i) := fun h => by
      have := sq_le (show (0 : Int) ≤ 4294967296 by omega) (show 4294967296 ≤ r + 2 ^ i by omega)
      omega
    have hr0 : 0 ≤ r := by rw [hmul]; exact Int.mul_nonneg (by omega) (by omega)
    have hsq2 : r + 2 ^ i < 4294967296 → 0 ≤ (r + 2 ^ i) * (r + 2 ^ i) ∧ (r + 2 ^ i) * (r + 2 ^ i) ≤ 18446744073709551615 := fun h => by
      have := sq_le (show 0 ≤ r + 2 ^ i by omega) (show r + 2 ^ i ≤ 4294967295 by omega)
      have := Int.mul_nonneg (show 0 ≤ r + 2 ^ i by omega) (show 0 ≤ r + 2 ^ i by omega)
      omega
    have hnext : n < (r + 2 ^ i + 2 ^ i) * (r + 2 ^ i + 2 ^ i) := by
      have : r + 2 ^ i + 2 ^ i = r + 2 ^ (i + 1) := by omega
      rw [this]; exact hlt
    generalize hP : (2 : Int) ^ i = P at *
    have hP' := hP
    clear hr hlt hd hP
    have hi0 : (0 : Int) ≤ (i : Int) := by omega
    repeat' first | simp (disch := first | with_reducible assumption | omega) only [go_sem, Bool.true_and, Bool.and_true, Bool.and_self, Bool.false_and, Bool.and_false, Bool.true_or, Bool.or_true, Bool.false_or, Bool.or_false, ↓reduceIte, Nat.reduceEqDiff, Nat.reduceAdd, Nat.reduceMul, Nat.reduceSub, Nat.reduceBEq, Nat.reduceLeDiff, Nat.reduceLT, Nat.reduceMod, Nat.reduceDiv, Int.reduceToNat, Int.reducePow, Int.reduceMul, Int.reduceAdd, Int.reduceSub, Int.reduceLE, Int.reduceLT, Int.reduceNeg, Int.reduceDiv, Int.reduceMod, Int.reduceEq, Int.reduceBEq, Int.reduceBNe, f14, f14b, f14r0, f14r1, f14r2, f14r3, f14r4, f14r5, f14r6, f14r7, f14r9, f14l0, hsh, hor, hi0] | (refine BrW.of (fun hb => ?_) (fun hb => ?_) <;> (have hb' := hb; try simp only [decide_eq_true_eq, decide_eq_false_iff_not, beq_iff_eq, bne_iff_ne, beq_eq_false_iff_ne, bne_eq_false_iff_eq, Bool.not_eq_true', Bool.not_eq_false', Bool.not_eq_true, Bool.not_eq_false, Bool.and_eq_true, Bool.or_eq_true, Bool.and_eq_false_iff, Bool.or_eq_false_iff, Int.not_lt, Int.not_le, ne_eq, gt_iff_lt, ge_iff_le] at hb') <;> (try (exfalso; omega)))
    · refine RdW.keep [0, 3, 4] i (by omega) ?_
      simp (disch := first | with_reducible assumption | omega) only [go_sem, Bool.true_and, Bool.and_true, Bool.and_self, Bool.false_and, Bool.and_false, Bool.true_or, Bool.or_true, Bool.false_or, Bool.or_false, ↓reduceIte, Nat.reduceEqDiff, Nat.reduceAdd, Nat.reduceMul, Nat.reduceSub, Nat.reduceBEq, Nat.reduceLeDiff, Nat.reduceLT, Nat.reduceMod, Nat.reduceDiv, Int.reduceToNat, Int.reducePow, Int.reduceMul, Int.reduceAdd, Int.reduceSub, Int.reduceLE, Int.reduceLT, Int.reduceNeg, Int.reduceDiv, Int.reduceMod, Int.reduceEq, Int.reduceBEq, Int.reduceBNe, f14, f14b, f14r0, f14r1, f14r2, f14r3, f14r4, f14r5, f14r6, f14r7, f14r9]
      exact ⟨i, 2 * k + 1, r + P, rfl, by omega, by rw [hP']; exact hmul2, by omega, hb', by rw [hP']; exact hnext, rfl⟩
    · refine RdW.keep [0, 3, 4] i (by omega) ?_
      simp (disch := first | with_reducible assumption | omega) only [go_sem, Bool.true_and, Bool.and_true, Bool.and_self, Bool.false_and, Bool.and_false, Bool.true_or, Bool.or_true, Bool.false_or, Bool.or_false, ↓reduceIte, Nat.reduceEqDiff, Nat.reduceAdd, Nat.reduceMul, Nat.reduceSub, Nat.reduceBEq, Nat.reduceLeDiff, Nat.reduceLT, Nat.reduceMod, Nat.reduceDiv, Int.reduceToNat, Int.reducePow, Int.reduceMul, Int.reduceAdd, Int.reduceSub, Int.reduceLE, Int.reduceLT, Int.reduceNeg, Int.reduceDiv, Int.reduceMod, Int.reduceEq, Int.reduceBEq, Int.reduceBNe, f14, f14b, f14r0, f14r1, f14r2, f14r3, f14r4, f14r5, f14r6, f14r7, f14r9]
      exact ⟨i, 2 * k, r, rfl, by omega, by rw [hP']; exact hmul, hr2, hle, by rw [hP']; exact hb', rfl⟩
    · refine RdW.keep [0, 3, 4] i (by omega) ?_
      simp (disch := first | with_reducible assumption | omega) only [go_sem, Bool.true_and, Bool.and_true, Bool.and_self, Bool.false_and, Bool.and_false, Bool.true_or, Bool.or_true, Bool.false_or, Bool.or_false, ↓reduceIte, Nat.reduceEqDiff, Nat.reduceAdd, Nat.reduceMul, Nat.reduceSub, Nat.reduceBEq, Nat.reduceLeDiff, Nat.reduceLT, Nat.reduceMod, Nat.reduceDiv, Int.reduceToNat, Int.reducePow, Int.reduceMul, Int.reduceAdd, Int.reduceSub, Int.reduceLE, Int.reduceLT, Int.reduceNeg, Int.reduceDiv, Int.reduceMod, Int.reduceEq, Int.reduceBEq, Int.reduceBNe, f14, f14b, f14r0, f14r1, f14r2, f14r3, f14r4, f14r5, f14r6, f14r7, f14r9]
      exact ⟨i, 2 * k, r, rfl, by omega, by rw [hP']; exact hmul, hr2, hle, by rw [hP']; exact hsq (by omega), rfl⟩


theorem Gap_spec (iv n : Int) (H : Heap) (h : 1 ≤ iv ∧ iv ≤ 1048576) (hn : 1 ≤ n ∧ n ≤ 400) :
    ACallK Try.prog 9 [.int .i64 iv, .int .i64 n] H (fun v H' => v = .tuple #[.int .i64 (gap iv n), .int .i64 0] ∧ H' = H) := by
  refine .walkW f9_ok (by simp; decide) (by decide) ?_
  have hc : iconv .u64 n = n := iconv_u64 n (by omega)
  have hsh : ishl .u64 n 20 = n * 1048576 := by rw [ishl_u64 n 20 (by omega), show ((2 : Int) ^ (20 : Int).toNat) = 1048576 from rfl]; exact imul_u64 _ _ (by omega)
  have hlo := root_low hn.1
  have hhi := root_high (by omega) hn.2
  have hq : gap iv n = iv * 1024 / root n := rfl
  have hiv : imul .i64 iv 1024 = iv * 1024 := imul_i64 _ _ (by omega)
  repeat' first | simp (disch := first | with_reducible assumption | omega) only [go_sem, Bool.true_and, Bool.and_true, Bool.and_self, Bool.false_and, Bool.and_false, Bool.true_or, Bool.or_true, Bool.false_or, Bool.or_false, ↓reduceIte, Nat.reduceEqDiff, Nat.reduceAdd, Nat.reduceMul, Nat.reduceSub, Nat.reduceBEq, Nat.reduceLeDiff, Nat.reduceLT, Nat.reduceMod, Nat.reduceDiv, Int.reduceToNat, Int.reducePow, Int.reduceMul, Int.reduceAdd, Int.reduceSub, Int.reduceLE, Int.reduceLT, Int.reduceNeg, Int.reduceDiv, Int.reduceMod, Int.reduceEq, Int.reduceBEq, Int.reduceBNe, f9, f9b, f9r0, f9r1, f9r2, f9r3, hc, hsh] | (refine BrW.of (fun hb => ?_) (fun hb => ?_) <;> (have hb' := hb; try simp only [decide_eq_true_eq, decide_eq_false_iff_not, beq_iff_eq, bne_iff_ne, beq_eq_false_iff_ne, bne_eq_false_iff_eq, Bool.not_eq_true', Bool.not_eq_false', Bool.not_eq_true, Bool.not_eq_false, Bool.and_eq_true, Bool.or_eq_true, Bool.and_eq_false_iff, Bool.or_eq_false_iff, Int.not_lt, Int.not_le, ne_eq, gt_iff_lt, ge_iff_le] at hb') <;> (try (exfalso; omega))) | (refine .of ((Root_spec (n * 1048576) (by omega) _).mono ?_); rintro v _ ⟨⟨r, rfl, hr⟩, rfl⟩; obtain rfl := hr.eq (root_is n (by omega)))
  exact .here ⟨by rw [hq], rfl⟩

theorem Gap_bad (iv n : Int) (H : Heap) (h : ¬ (1 ≤ iv ∧ iv ≤ 1048576 ∧ 1 ≤ n ∧ n ≤ 400)) :
    ACallK Try.prog 9 [.int .i64 iv, .int .i64 n] H (fun v H' => v = .tuple #[.int .i64 0, .int .i64 2] ∧ H' = H) := by
  refine .walkW f9_ok (by simp; decide) (by decide) ?_
  by_cases h1 : 1 ≤ iv
  · by_cases h2 : iv ≤ 1048576
    · by_cases h3 : 1 ≤ n
      · have h4 : ¬ n ≤ 400 := fun h4 => h ⟨h1, h2, h3, h4⟩
        clear h
        repeat' first | simp (disch := first | with_reducible assumption | omega) only [go_sem, Bool.true_and, Bool.and_true, Bool.and_self, Bool.false_and, Bool.and_false, Bool.true_or, Bool.or_true, Bool.false_or, Bool.or_false, ↓reduceIte, Nat.reduceEqDiff, Nat.reduceAdd, Nat.reduceMul, Nat.reduceSub, Nat.reduceBEq, Nat.reduceLeDiff, Nat.reduceLT, Nat.reduceMod, Nat.reduceDiv, Int.reduceToNat, Int.reducePow, Int.reduceMul, Int.reduceAdd, Int.reduceSub, Int.reduceLE, Int.reduceLT, Int.reduceNeg, Int.reduceDiv, Int.reduceMod, Int.reduceEq, Int.reduceBEq, Int.reduceBNe, f9, f9b, f9r0, f9r1, f9r2, f9r3] | (refine BrW.of (fun hb => ?_) (fun hb => ?_) <;> (have hb' := hb; try simp only [decide_eq_true_eq, decide_eq_false_iff_not, beq_iff_eq, bne_iff_ne, beq_eq_false_iff_ne, bne_eq_false_iff_eq, Bool.not_eq_true', Bool.not_eq_false', Bool.not_eq_true, Bool.not_eq_false, Bool.and_eq_true, Bool.or_eq_true, Bool.and_eq_false_iff, Bool.or_eq_false_iff, Int.not_lt, Int.not_le, ne_eq, gt_iff_lt, ge_iff_le] at hb') <;> (try (exfalso; omega)))
        all_goals exact .here ⟨rfl, rfl⟩
      · clear h
        repeat' first | simp (disch := first | with_reducible assumption | omega) only [go_sem, Bool.true_and, Bool.and_true, Bool.and_self, Bool.false_and, Bool.and_false, Bool.true_or, Bool.or_true, Bool.false_or, Bool.or_false, ↓reduceIte, Nat.reduceEqDiff, Nat.reduceAdd, Nat.reduceMul, Nat.reduceSub, Nat.reduceBEq, Nat.reduceLeDiff, Nat.reduceLT, Nat.reduceMod, Nat.reduceDiv, Int.reduceToNat, Int.reducePow, Int.reduceMul, Int.reduceAdd, Int.reduceSub, Int.reduceLE, Int.reduceLT, Int.reduceNeg, Int.reduceDiv, Int.reduceMod, Int.reduceEq, Int.reduceBEq, Int.reduceBNe, f9, f9b, f9r0, f9r1, f9r2, f9r3] | (refine BrW.of (fun hb => ?_) (fun hb => ?_) <;> (have hb' := hb; try simp only [decide_eq_true_eq, decide_eq_false_iff_not, beq_iff_eq, bne_iff_ne, beq_eq_false_iff_ne, bne_eq_false_iff_eq, Bool.not_eq_true', Bool.not_eq_false', Bool.not_eq_true, Bool.not_eq_false, Bool.and_eq_true, Bool.or_eq_true, Bool.and_eq_false_iff, Bool.or_eq_false_iff, Int.not_lt, Int.not_le, ne_eq, gt_iff_lt, ge_iff_le] at hb') <;> (try (exfalso; omega)))
        all_goals exact .here ⟨rfl, rfl⟩
    · clear h
      repeat' first | simp (disch := first | with_reducible assumption | omega) only [go_sem, Bool.true_and, Bool.and_true, Bool.and_self, Bool.false_and, Bool.and_false, Bool.true_or, Bool.or_true, Bool.false_or, Bool.or_false, ↓reduceIte, Nat.reduceEqDiff, Nat.reduceAdd, Nat.reduceMul, Nat.reduceSub, Nat.reduceBEq, Nat.reduceLeDiff, Nat.reduceLT, Nat.reduceMod, Nat.reduceDiv, Int.reduceToNat, Int.reducePow, Int.reduceMul, Int.reduceAdd, Int.reduceSub, Int.reduceLE, Int.reduceLT, Int.reduceNeg, Int.reduceDiv, Int.reduceMod, Int.reduceEq, Int.reduceBEq, Int.reduceBNe, f9, f9b, f9r0, f9r1, f9r2, f9r3] | (refine BrW.of (fun hb => ?_) (fun hb => ?_) <;> (have hb' := hb; try simp only [decide_eq_true_eq, decide_eq_false_iff_not, beq_iff_eq, bne_iff_ne, beq_eq_false_iff_ne, bne_eq_false_iff_eq, Bool.not_eq_true', Bool.not_eq_false', Bool.not_eq_true, Bool.not_eq_false, Bool.and_eq_true, Bool.or_eq_true, Bool.and_eq_false_iff, Bool.or_eq_false_iff, Int.not_lt, Int.not_le, ne_eq, gt_iff_lt, ge_iff_le] at hb') <;> (try (exfalso; omega)))
      all_goals exact .here ⟨rfl, rfl⟩
  · clear h
    repeat' first | simp (disch := first | with_reducible assumption | omega) only [go_sem, Bool.true_and, Bool.and_true, Bool.and_self, Bool.false_and, Bool.and_false, Bool.true_or, Bool.or_true, Bool.false_or, Bool.or_false, ↓reduceIte, Nat.reduceEqDiff, Nat.reduceAdd, Nat.reduceMul, Nat.reduceSub, Nat.reduceBEq, Nat.reduceLeDiff, Nat.reduceLT, Nat.reduceMod, Nat.reduceDiv, Int.reduceToNat, Int.reducePow, Int.reduceMul, Int.reduceAdd, Int.reduceSub, Int.reduceLE, Int.reduceLT, Int.reduceNeg, Int.reduceDiv, Int.reduceMod, Int.reduceEq, Int.reduceBEq, Int.reduceBNe, f9, f9b, f9r0, f9r1, f9r2, f9r3] | (refine BrW.of (fun hb => ?_) (fun hb => ?_) <;> (have hb' := hb; try simp only [decide_eq_true_eq, decide_eq_false_iff_not, beq_iff_eq, bne_iff_ne, beq_eq_false_iff_ne, bne_eq_false_iff_eq, Bool.not_eq_true', Bool.not_eq_false', Bool.not_eq_true, Bool.not_eq_false, Bool.and_eq_true, Bool.or_eq_true, Bool.and_eq_false_iff, Bool.or_eq_false_iff, Int.not_lt, Int.not_le, ne_eq, gt_iff_lt, ge_iff_le] at hb') <;> (try (exfalso; omega)))
    all_goals exact .here ⟨rfl, rfl⟩

def X.cells (x : X) : List Value := [.int .i64 x.at', .int .i64 x.wa]
def x0 : X := ⟨0, 0⟩
abbrev Xs (H : Heap) (k o g : Nat) (l : List X) : Prop := Tbl X X.cells 2 x0 H k o g l
theorem Xs.cell {H : Heap} {k o g : Nat} {l : List X} (h : Xs H k o g l) : ∃ ro cs, H[k]? = some (.cells g 2 ro cs) ∧ o + l.length * 2 ≤ cs.length ∧ ∀ i, i < l.length → cs[o + i * 2]? = some (.int .i64 (l.getD i x0).at') ∧ cs[o + i * 2 + 1]? = some (.int .i64 (l.getD i x0).wa) := by
  obtain ⟨ro, cs, h1, h2, h3⟩ := h.at'
  exact ⟨ro, cs, h1, h2, fun i hi => ⟨h3 i hi 0 (by omega), h3 i hi 1 (by omega)⟩⟩
def St.cells (s : St) : List Value := [.int .i64 s.since, .bool s.drop, .int .i64 s.next, .int .i64 s.many]

def good (tg iv : Int) (l : List X) : Prop := 0 ≤ tg ∧ tg ≤ 1048576 ∧ 1 ≤ iv ∧ iv ≤ 1048576 ∧ l.length ≤ 400
theorem Play_wrong (tg iv : Int) (l : List X) (k o g c : Nat) (H : Heap) (hs : Xs H k o g l) (h : ¬ good tg iv l) :
    ACallK Try.prog 8 [.int .i64 tg, .int .i64 iv, slv k o g l.length c] H (fun v H' => v = .tuple #[.slice none 0 0, .int .i64 2] ∧ H' = H) := by
  obtain ⟨ro, cs, hk, hcl, hcs⟩ := hs.cell
  refine .walkW f8_ok (by simp; decide) (by decide) ?_
  by_cases h1 : 0 ≤ tg
  · by_cases h2 : tg ≤ 1048576
    · by_cases h3 : 1 ≤ iv
      · by_cases h4 : iv ≤ 1048576
        · have h5 : ¬ l.length ≤ 400 := fun h5 => h ⟨h1, h2, h3, h4, h5⟩
          clear h
          repeat' first | simp (disch := first | with_reducible assumption | omega) only [go_sem, Bool.true_and, Bool.and_true, Bool.and_self, Bool.false_and, Bool.and_false, Bool.true_or, Bool.or_true, Bool.false_or, Bool.or_false, ↓reduceIte, Nat.reduceEqDiff, Nat.reduceAdd, Nat.reduceMul, Nat.reduceSub, Nat.reduceBEq, Nat.reduceLeDiff, Nat.reduceLT, Nat.reduceMod, Nat.reduceDiv, Int.reduceToNat, Int.reducePow, Int.reduceMul, Int.reduceAdd, Int.reduceSub, Int.reduceLE, Int.reduceLT, Int.reduceNeg, Int.reduceDiv, Int.reduceMod, Int.reduceEq, Int.reduceBEq, Int.reduceBNe, f8, f8b, f8r0, f8r1, f8r2, f8r3, f8r4, f8r5, f8r6, f8r7, f8r8, f8r9, f8r10, f8r11, f8r12, f8r13, f8r14, f8r15, f8r16, f8r17, f8r18, f8r19, f8r20, f8r21, f8r22, f8r23, f8r24, f8r25, f8r26, f8r28, hk] | (refine BrW.of (fun hb => ?_) (fun hb => ?_) <;> (have hb' := hb; try simp only [decide_eq_true_eq, decide_eq_false_iff_not, beq_iff_eq, bne_iff_ne, beq_eq_false_iff_ne, bne_eq_false_iff_eq, Bool.not_eq_true', Bool.not_eq_false', Bool.not_eq_true, Bool.not_eq_false, Bool.and_eq_true, Bool.or_eq_true, Bool.and_eq_false_iff, Bool.or_eq_false_iff, Int.not_lt, Int.not_le, ne_eq, gt_iff_lt, ge_iff_le] at hb') <;> (try (exfalso; omega)))
          all_goals exact .here ⟨rfl, rfl⟩
        · clear h
          repeat' first | simp (disch := first | with_reducible assumption | omega) only [go_sem, Bool.true_and, Bool.and_true, Bool.and_self, Bool.false_and, Bool.and_false, Bool.true_or, Bool.or_true, Bool.false_or, Bool.or_false, ↓reduceIte, Nat.reduceEqDiff, Nat.reduceAdd, Nat.reduceMul, Nat.reduceSub, Nat.reduceBEq, Nat.reduceLeDiff, Nat.reduceLT, Nat.reduceMod, Nat.reduceDiv, Int.reduceToNat, Int.reducePow, Int.reduceMul, Int.reduceAdd, Int.reduceSub, Int.reduceLE, Int.reduceLT, Int.reduceNeg, Int.reduceDiv, Int.reduceMod, Int.reduceEq, Int.reduceBEq, Int.reduceBNe, f8, f8b, f8r0, f8r1, f8r2, f8r3, f8r4, f8r5, f8r6, f8r7, f8r8, f8r9, f8r10, f8r11, f8r12, f8r13, f8r14, f8r15, f8r16, f8r17, f8r18, f8r19, f8r20, f8r21, f8r22, f8r23, f8r24, f8r25, f8r26, f8r28, hk] | (refine BrW.of (fun hb => ?_) (fun hb => ?_) <;> (have hb' := hb; try simp only [decide_eq_true_eq, decide_eq_false_iff_not, beq_iff_eq, bne_iff_ne, beq_eq_false_iff_ne, bne_eq_false_iff_eq, Bool.not_eq_true', Bool.not_eq_false', Bool.not_eq_true, Bool.not_eq_false, Bool.and_eq_true, Bool.or_eq_true, Bool.and_eq_false_iff, Bool.or_eq_false_iff, Int.not_lt, Int.not_le, ne_eq, gt_iff_lt, ge_iff_le] at hb') <;> (try (exfalso; omega)))
          all_goals exact .here ⟨rfl, rfl⟩
      · clear h
        repeat' first | simp (disch := first | with_reducible assumption | omega) only [go_sem, Bool.true_and, Bool.and_true, Bool.and_self, Bool.false_and, Bool.and_false, Bool.true_or, Bool.or_true, Bool.false_or, Bool.or_false, ↓reduceIte, Nat.reduceEqDiff, Nat.reduceAdd, Nat.reduceMul, Nat.reduceSub, Nat.reduceBEq, Nat.reduceLeDiff, Nat.reduceLT, Nat.reduceMod, Nat.reduceDiv, Int.reduceToNat, Int.reducePow, Int.reduceMul, Int.reduceAdd, Int.reduceSub, Int.reduceLE, Int.reduceLT, Int.reduceNeg, Int.reduceDiv, Int.reduceMod, Int.reduceEq, Int.reduceBEq, Int.reduceBNe, f8, f8b, f8r0, f8r1, f8r2, f8r3, f8r4, f8r5, f8r6, f8r7, f8r8, f8r9, f8r10, f8r11, f8r12, f8r13, f8r14, f8r15, f8r16, f8r17, f8r18, f8r19, f8r20, f8r21, f8r22, f8r23, f8r24, f8r25, f8r26, f8r28, hk] | (refine BrW.of (fun hb => ?_) (fun hb => ?_) <;> (have hb' := hb; try simp only [decide_eq_true_eq, decide_eq_false_iff_not, beq_iff_eq, bne_iff_ne, beq_eq_false_iff_ne, bne_eq_false_iff_eq, Bool.not_eq_true', Bool.not_eq_false', Bool.not_eq_true, Bool.not_eq_false, Bool.and_eq_true, Bool.or_eq_true, Bool.and_eq_false_iff, Bool.or_eq_false_iff, Int.not_lt, Int.not_le, ne_eq, gt_iff_lt, ge_iff_le] at hb') <;> (try (exfalso; omega)))
        all_goals exact .here ⟨rfl, rfl⟩
    · clear h
      repeat' first | simp (disch := first | with_reducible assumption | omega) only [go_sem, Bool.true_and, Bool.and_true, Bool.and_self, Bool.false_and, Bool.and_false, Bool.true_or, Bool.or_true, Bool.false_or, Bool.or_false, ↓reduceIte, Nat.reduceEqDiff, Nat.reduceAdd, Nat.reduceMul, Nat.reduceSub, Nat.reduceBEq, Nat.reduceLeDiff, Nat.reduceLT, Nat.reduceMod, Nat.reduceDiv, Int.reduceToNat, Int.reducePow, Int.reduceMul, Int.reduceAdd, Int.reduceSub, Int.reduceLE, Int.reduceLT, Int.reduceNeg, Int.reduceDiv, Int.reduceMod, Int.reduceEq, Int.reduceBEq, Int.reduceBNe, f8, f8b, f8r0, f8r1, f8r2, f8r3, f8r4, f8r5, f8r6, f8r7, f8r8, f8r9, f8r10, f8r11, f8r12, f8r13, f8r14, f8r15, f8r16, f8r17, f8r18, f8r19, f8r20, f8r21, f8r22, f8r23, f8r24, f8r25, f8r26, f8r28, hk] | (refine BrW.of (fun hb => ?_) (fun hb => ?_) <;> (have hb' := hb; try simp only [decide_eq_true_eq, decide_eq_false_iff_not, beq_iff_eq, bne_iff_ne, beq_eq_false_iff_ne, bne_eq_false_iff_eq, Bool.not_eq_true', Bool.not_eq_false', Bool.not_eq_true, Bool.not_eq_false, Bool.and_eq_true, Bool.or_eq_true, Bool.and_eq_false_iff, Bool.or_eq_false_iff, Int.not_lt, Int.not_le, ne_eq, gt_iff_lt, ge_iff_le] at hb') <;> (try (exfalso; omega)))
      all_goals exact .here ⟨rfl, rfl⟩
  · clear h
    repeat' first | simp (disch := first | with_reducible assumption | omega) only [go_sem, Bool.true_and, Bool.and_true, Bool.and_self, Bool.false_and, Bool.and_false, Bool.true_or, Bool.or_true, Bool.false_or, Bool.or_false, ↓reduceIte, Nat.reduceEqDiff, Nat.reduceAdd, Nat.reduceMul, Nat.reduceSub, Nat.reduceBEq, Nat.reduceLeDiff, Nat.reduceLT, Nat.reduceMod, Nat.reduceDiv, Int.reduceToNat, Int.reducePow, Int.reduceMul, Int.reduceAdd, Int.reduceSub, Int.reduceLE, Int.reduceLT, Int.reduceNeg, Int.reduceDiv, Int.reduceMod, Int.reduceEq, Int.reduceBEq, Int.reduceBNe, f8, f8b, f8r0, f8r1, f8r2, f8r3, f8r4, f8r5, f8r6, f8r7, f8r8, f8r9, f8r10, f8r11, f8r12, f8r13, f8r14, f8r15, f8r16, f8r17, f8r18, f8r19, f8r20, f8r21, f8r22, f8r23, f8r24, f8r25, f8r26, f8r28, hk] | (refine BrW.of (fun hb => ?_) (fun hb => ?_) <;> (have hb' := hb; try simp only [decide_eq_true_eq, decide_eq_false_iff_not, beq_iff_eq, bne_iff_ne, beq_eq_false_iff_ne, bne_eq_false_iff_eq, Bool.not_eq_true', Bool.not_eq_false', Bool.not_eq_true, Bool.not_eq_false, Bool.and_eq_true, Bool.or_eq_true, Bool.and_eq_false_iff, Bool.or_eq_false_iff, Int.not_lt, Int.not_le, ne_eq, gt_iff_lt, ge_iff_le] at hb') <;> (try (exfalso; omega)))
    all_goals exact .here ⟨rfl, rfl⟩

theorem run_next {tg iv last : Int} {s s' : St} {x : X} {b : Bool} (r : List X) (outp : List Bool) (h : okX last x) (hs : step tg iv s x = (s', b)) :
    (run tg iv last s (x :: r)).map (outp ++ ·) = (run tg iv x.at' s' r).map ((outp ++ [b]) ++ ·) := by
  rw [run_cons, if_pos h, hs]
  cases run tg iv x.at' s' r <;> simp

theorem Play_spec (tg iv : Int) (l : List X) (k o g c : Nat) (H : Heap) (hs : Xs H k o g l) (h : good tg iv l) :
    ACallK Try.prog 8 [.int .i64 tg, .int .i64 iv, slv k o g l.length c] H (fun v H' => (run tg iv 0 .zero l = none ∧ v = .tuple #[.slice none 0 0, .int .i64 1] ∧ ∃ x, H' = H ++ x) ∨
      (∃ out g' o1, run tg iv 0 .zero l = some out ∧ v = .tuple #[slv (H.length + 1) 0 g' l.length l.length, .int .i64 0] ∧ H' = H ++ [o1, .cells g' 1 false (bools out)])) := by
  obtain ⟨ro, cs, hk, hcl, hcs⟩ := hs.cell
  have hkl := hs.lt
  obtain ⟨h1, h2, h3, h4, h5⟩ := h
  refine .walkW f8_ok (by simp; decide) (by decide) ?_
  repeat' first | simp (disch := first | with_reducible assumption | omega) only [go_sem, Bool.true_and, Bool.and_true, Bool.and_self, Bool.false_and, Bool.and_false, Bool.true_or, Bool.or_true, Bool.false_or, Bool.or_false, ↓reduceIte, Nat.reduceEqDiff, Nat.reduceAdd, Nat.reduceMul, Nat.reduceSub, Nat.reduceBEq, Nat.reduceLeDiff, Nat.reduceLT, Nat.reduceMod, Nat.reduceDiv, Int.reduceToNat, Int.reducePow, Int.reduceMul, Int.reduceAdd, Int.reduceSub, Int.reduceLE, Int.reduceLT, Int.reduceNeg, Int.reduceDiv, Int.reduceMod, Int.reduceEq, Int.reduceBEq, Int.reduceBNe, f8, f8b, f8r0, f8r1, f8r2, f8r3, f8r4, f8r5, f8r6, f8r7, f8r8, f8r9, f8r10, f8r11, f8r12, f8r13, f8r14, f8r15, f8r16, f8r17, f8r18, f8r19, f8r20, f8r21, f8r22, f8r23, f8r24, f8r25, f8r26, f8r28, hk, get_old hk] | (refine BrW.of (fun hb => ?_) (fun hb => ?_) <;> (have hb' := hb; try simp only [decide_eq_true_eq, decide_eq_false_iff_not, beq_iff_eq, bne_iff_ne, beq_eq_false_iff_ne, bne_eq_false_iff_eq, Bool.not_eq_true', Bool.not_eq_false', Bool.not_eq_true, Bool.not_eq_false, Bool.and_eq_true, Bool.or_eq_true, Bool.and_eq_false_iff, Bool.or_eq_false_iff, Int.not_lt, Int.not_le, ne_eq, gt_iff_lt, ge_iff_le] at hb') <;> (try (exfalso; omega)))
  refine loopW.ghost 9 1 rfl ?_
  simp (disch := first | with_reducible assumption | omega) only [go_sem, Bool.true_and, Bool.and_true, Bool.and_self, Bool.false_and, Bool.and_false, Bool.true_or, Bool.or_true, Bool.false_or, Bool.or_false, ↓reduceIte, Nat.reduceEqDiff, Nat.reduceAdd, Nat.reduceMul, Nat.reduceSub, Nat.reduceBEq, Nat.reduceLeDiff, Nat.reduceLT, Nat.reduceMod, Nat.reduceDiv, Int.reduceToNat, Int.reducePow, Int.reduceMul, Int.reduceAdd, Int.reduceSub, Int.reduceLE, Int.reduceLT, Int.reduceNeg, Int.reduceDiv, Int.reduceMod, Int.reduceEq, Int.reduceBEq, Int.reduceBNe]
  refine loopW.keep [0, 1, 8, 9, 10, 37, 38, 39] ?_
  simp (disch := first | with_reducible assumption | omega) only [go_sem, Bool.true_and, Bool.and_true, Bool.and_self, Bool.false_and, Bool.and_false, Bool.true_or, Bool.or_true, Bool.false_or, Bool.or_false, ↓reduceIte, Nat.reduceEqDiff, Nat.reduceAdd, Nat.reduceMul, Nat.reduceSub, Nat.reduceBEq, Nat.reduceLeDiff, Nat.reduceLT, Nat.reduceMod, Nat.reduceDiv, Int.reduceToNat, Int.reducePow, Int.reduceMul, Int.reduceAdd, Int.reduceSub, Int.reduceLE, Int.reduceLT, Int.reduceNeg, Int.reduceDiv, Int.reduceMod, Int.reduceEq, Int.reduceBEq, Int.reduceBNe]
  refine loopW.of (by decide) (fun m e H'' => ∃ (i g' : Nat) (last : Int) (s : St) (out : List Bool), e = [(0, .int .i64 tg), (1, .int .i64 iv), (8, .pointer (some ⟨H.length, 0, some 1⟩)), (9, slv (H.length + 1) 0 g' i i), (10, .int .i64 last), (37, slv k o g l.length c), (38, .int .i64 l.length), (39, .int .i64 i)] ∧
    H'' = H ++ [.cells 0 0 false s.cells, .cells g' 1 false (bools out)] ∧ i ≤ l.length ∧ m = l.length - i ∧ out.length = i ∧ Inv iv last i s ∧ run tg iv 0 .zero l = (run tg iv last s (l.drop i)).map (out ++ ·)) l.length
    ⟨0, 0, 0, .zero, [], rfl, rfl, by omega, rfl, rfl, Inv.zero 0 (by omega) (by omega), by simp⟩ ?_
  rintro m e H'' ⟨i, g', last, s, out, rfl, rfl, hi, rfl, hol, hI, hinv⟩
  by_cases hlt : i < l.length
  · obtain ⟨e0, e1⟩ := hcs i hlt
    rw [drop_cons x0 l i hlt] at hinv
    generalize hx : l.getD i x0 = x at *
    obtain ⟨xa, xw⟩ := x
    obtain ⟨since, drop, next, many⟩ := s
    obtain ⟨l0, l1, s0, s1, m0, m1, n0, n1, d⟩ := hI
    have hI : Inv iv last i ⟨since, drop, next, many⟩ := ⟨l0, l1, s0, s1, m0, m1, n0, n1, d⟩
    simp only at s0 s1 m0 m1 n0 n1 d e0 e1
    have il : (bools out).length = i := by rw [bools_length]; omega
    have hni : ¬ i + 1 ≤ i := by omega
    have htk : (bools out).take i = bools out := bools_take _ _ (by omega)
    clear hcs hx
    by_cases hok : okX last ⟨xa, xw⟩
    · have hok' := hok
      simp only [okX] at hok'
      obtain ⟨k0, k1, k2, k3⟩ := hok'
      by_cases c1 : xw < tg
      · have hst : step tg iv ⟨since, drop, next, many⟩ ⟨xa, xw⟩ = (.zero, false) := by unfold step; rw [if_pos c1]
        clear d
        repeat' first | simp (disch := first | with_reducible assumption | omega) only [go_sem, Bool.true_and, Bool.and_true, Bool.and_self, Bool.false_and, Bool.and_false, Bool.true_or, Bool.or_true, Bool.false_or, Bool.or_false, ↓reduceIte, Nat.reduceEqDiff, Nat.reduceAdd, Nat.reduceMul, Nat.reduceSub, Nat.reduceBEq, Nat.reduceLeDiff, Nat.reduceLT, Nat.reduceMod, Nat.reduceDiv, Int.reduceToNat, Int.reducePow, Int.reduceMul, Int.reduceAdd, Int.reduceSub, Int.reduceLE, Int.reduceLT, Int.reduceNeg, Int.reduceDiv, Int.reduceMod, Int.reduceEq, Int.reduceBEq, Int.reduceBNe, f8, f8b, f8r0, f8r1, f8r2, f8r3, f8r4, f8r5, f8r6, f8r7, f8r8, f8r9, f8r10, f8r11, f8r12, f8r13, f8r14, f8r15, f8r16, f8r17, f8r18, f8r19, f8r20, f8r21, f8r22, f8r23, f8r24, f8r25, f8r26, f8r28, f8l0, hk, get_old hk, e0, e1, il, hni, htk, St.cells, St.zero] | (refine BrW.of (fun hb => ?_) (fun hb => ?_) <;> (have hb' := hb; try simp only [decide_eq_true_eq, decide_eq_false_iff_not, beq_iff_eq, bne_iff_ne, beq_eq_false_iff_ne, bne_eq_false_iff_eq, Bool.not_eq_true', Bool.not_eq_false', Bool.not_eq_true, Bool.not_eq_false, Bool.and_eq_true, Bool.or_eq_true, Bool.and_eq_false_iff, Bool.or_eq_false_iff, Int.not_lt, Int.not_le, ne_eq, gt_iff_lt, ge_iff_le] at hb') <;> (try (exfalso; omega)))
        have hn := hinv.trans (run_next (l.drop (i + 1)) out hok hst)
        have hi' := Inv.after (tg := tg) ⟨h3, h4⟩ hI hok
        rw [hst] at hi'
        refine RdW.cut2 [0, 1, 8, 9, 10, 37, 38, 39] (l.length - (i + 1)) ?_ ?_ ?_ ?_ ?_
        · omega
        · rfl
        · rw [bools_snoc]; exact abnd_bools' _ _ _ _ _
        · simp (disch := first | with_reducible assumption | omega) only [go_sem, Bool.true_and, Bool.and_true, Bool.and_self, Bool.false_and, Bool.and_false, Bool.true_or, Bool.or_true, Bool.false_or, Bool.or_false, ↓reduceIte, Nat.reduceEqDiff, Nat.reduceAdd, Nat.reduceMul, Nat.reduceSub, Nat.reduceBEq, Nat.reduceLeDiff, Nat.reduceLT, Nat.reduceMod, Nat.reduceDiv, Int.reduceToNat, Int.reducePow, Int.reduceMul, Int.reduceAdd, Int.reduceSub, Int.reduceLE, Int.reduceLT, Int.reduceNeg, Int.reduceDiv, Int.reduceMod, Int.reduceEq, Int.reduceBEq, Int.reduceBNe]
          simp; omega
        · simp (disch := first | with_reducible assumption | omega) only [go_sem, Bool.true_and, Bool.and_true, Bool.and_self, Bool.false_and, Bool.and_false, Bool.true_or, Bool.or_true, Bool.false_or, Bool.or_false, ↓reduceIte, Nat.reduceEqDiff, Nat.reduceAdd, Nat.reduceMul, Nat.reduceSub, Nat.reduceBEq, Nat.reduceLeDiff, Nat.reduceLT, Nat.reduceMod, Nat.reduceDiv, Int.reduceToNat, Int.reducePow, Int.reduceMul, Int.reduceAdd, Int.reduceSub, Int.reduceLE, Int.reduceLT, Int.reduceNeg, Int.reduceDiv, Int.reduceMod, Int.reduceEq, Int.reduceBEq, Int.reduceBNe]
          exact ⟨i + 1, g' + 1, xa, .zero, out ++ [false], rfl, by rw [← bools_app]; rfl, by omega, rfl, by simp; omega, hi', hn⟩
      · by_cases c2 : since < 0
        · have hst : step tg iv ⟨since, drop, next, many⟩ ⟨xa, xw⟩ = (⟨xa, drop, next, many⟩, false) := by unfold step; rw [if_neg c1, if_pos c2]
          clear d
          repeat' first | simp (disch := first | with_reducible assumption | omega) only [go_sem, Bool.true_and, Bool.and_true, Bool.and_self, Bool.false_and, Bool.and_false, Bool.true_or, Bool.or_true, Bool.false_or, Bool.or_false, ↓reduceIte, Nat.reduceEqDiff, Nat.reduceAdd, Nat.reduceMul, Nat.reduceSub, Nat.reduceBEq, Nat.reduceLeDiff, Nat.reduceLT, Nat.reduceMod, Nat.reduceDiv, Int.reduceToNat, Int.reducePow, Int.reduceMul, Int.reduceAdd, Int.reduceSub, Int.reduceLE, Int.reduceLT, Int.reduceNeg, Int.reduceDiv, Int.reduceMod, Int.reduceEq, Int.reduceBEq, Int.reduceBNe, f8, f8b, f8r0, f8r1, f8r2, f8r3, f8r4, f8r5, f8r6, f8r7, f8r8, f8r9, f8r10, f8r11, f8r12, f8r13, f8r14, f8r15, f8r16, f8r17, f8r18, f8r19, f8r20, f8r21, f8r22, f8r23, f8r24, f8r25, f8r26, f8r28, f8l0, hk, get_old hk, e0, e1, il, hni, htk, St.cells, St.zero] | (refine BrW.of (fun hb => ?_) (fun hb => ?_) <;> (have hb' := hb; try simp only [decide_eq_true_eq, decide_eq_false_iff_not, beq_iff_eq, bne_iff_ne, beq_eq_false_iff_ne, bne_eq_false_iff_eq, Bool.not_eq_true', Bool.not_eq_false', Bool.not_eq_true, Bool.not_eq_false, Bool.and_eq_true, Bool.or_eq_true, Bool.and_eq_false_iff, Bool.or_eq_false_iff, Int.not_lt, Int.not_le, ne_eq, gt_iff_lt, ge_iff_le] at hb') <;> (try (exfalso; omega)))
          have hn := hinv.trans (run_next (l.drop (i + 1)) out hok hst)
          have hi' := Inv.after (tg := tg) ⟨h3, h4⟩ hI hok
          rw [hst] at hi'
          refine RdW.cut2 [0, 1, 8, 9, 10, 37, 38, 39] (l.length - (i + 1)) ?_ ?_ ?_ ?_ ?_
          · omega
          · rfl
          · rw [bools_snoc]; exact abnd_bools' _ _ _ _ _
          · simp (disch := first | with_reducible assumption | omega) only [go_sem, Bool.true_and, Bool.and_true, Bool.and_self, Bool.false_and, Bool.and_false, Bool.true_or, Bool.or_true, Bool.false_or, Bool.or_false, ↓reduceIte, Nat.reduceEqDiff, Nat.reduceAdd, Nat.reduceMul, Nat.reduceSub, Nat.reduceBEq, Nat.reduceLeDiff, Nat.reduceLT, Nat.reduceMod, Nat.reduceDiv, Int.reduceToNat, Int.reducePow, Int.reduceMul, Int.reduceAdd, Int.reduceSub, Int.reduceLE, Int.reduceLT, Int.reduceNeg, Int.reduceDiv, Int.reduceMod, Int.reduceEq, Int.reduceBEq, Int.reduceBNe]
            simp; omega
          · simp (disch := first | with_reducible assumption | omega) only [go_sem, Bool.true_and, Bool.and_true, Bool.and_self, Bool.false_and, Bool.and_false, Bool.true_or, Bool.or_true, Bool.false_or, Bool.or_false, ↓reduceIte, Nat.reduceEqDiff, Nat.reduceAdd, Nat.reduceMul, Nat.reduceSub, Nat.reduceBEq, Nat.reduceLeDiff, Nat.reduceLT, Nat.reduceMod, Nat.reduceDiv, Int.reduceToNat, Int.reducePow, Int.reduceMul, Int.reduceAdd, Int.reduceSub, Int.reduceLE, Int.reduceLT, Int.reduceNeg, Int.reduceDiv, Int.reduceMod, Int.reduceEq, Int.reduceBEq, Int.reduceBNe]
            exact ⟨i + 1, g' + 1, xa, ⟨xa, drop, next, many⟩, out ++ [false], rfl, by rw [← bools_app]; rfl, by omega, rfl, by simp; omega, hi', hn⟩
        · cases drop with
          | false =>
            clear d
            by_cases c3 : iv ≤ xa - since
            · have hst : step tg iv ⟨since, false, next, many⟩ ⟨xa, xw⟩ = (⟨since, true, xa + gap iv (many + 1), many + 1⟩, true) := by unfold step; rw [if_neg c1, if_neg c2, if_pos (.inl ⟨rfl, c3⟩)]; rfl
              have hg := gap_range h3 (show 1 ≤ many + 1 by omega)
              repeat' first | simp (disch := first | with_reducible assumption | omega) only [go_sem, Bool.true_and, Bool.and_true, Bool.and_self, Bool.false_and, Bool.and_false, Bool.true_or, Bool.or_true, Bool.false_or, Bool.or_false, ↓reduceIte, Nat.reduceEqDiff, Nat.reduceAdd, Nat.reduceMul, Nat.reduceSub, Nat.reduceBEq, Nat.reduceLeDiff, Nat.reduceLT, Nat.reduceMod, Nat.reduceDiv, Int.reduceToNat, Int.reducePow, Int.reduceMul, Int.reduceAdd, Int.reduceSub, Int.reduceLE, Int.reduceLT, Int.reduceNeg, Int.reduceDiv, Int.reduceMod, Int.reduceEq, Int.reduceBEq, Int.reduceBNe, f8, f8b, f8r0, f8r1, f8r2, f8r3, f8r4, f8r5, f8r6, f8r7, f8r8, f8r9, f8r10, f8r11, f8r12, f8r13, f8r14, f8r15, f8r16, f8r17, f8r18, f8r19, f8r20, f8r21, f8r22, f8r23, f8r24, f8r25, f8r26, f8r28, f8l0, hk, get_old hk, e0, e1, il, hni, htk, St.cells, St.zero] | (refine BrW.of (fun hb => ?_) (fun hb => ?_) <;> (have hb' := hb; try simp only [decide_eq_true_eq, decide_eq_false_iff_not, beq_iff_eq, bne_iff_ne, beq_eq_false_iff_ne, bne_eq_false_iff_eq, Bool.not_eq_true', Bool.not_eq_false', Bool.not_eq_true, Bool.not_eq_false, Bool.and_eq_true, Bool.or_eq_true, Bool.and_eq_false_iff, Bool.or_eq_false_iff, Int.not_lt, Int.not_le, ne_eq, gt_iff_lt, ge_iff_le] at hb') <;> (try (exfalso; omega))) | (refine .of ((Gap_spec iv (many + 1) _ ⟨h3, h4⟩ (by omega)).mono ?_); rintro v _ ⟨rfl, rfl⟩)
              have hn := hinv.trans (run_next (l.drop (i + 1)) out hok hst)
              have hi' := Inv.after (tg := tg) ⟨h3, h4⟩ hI hok
              rw [hst] at hi'
              refine RdW.cut2 [0, 1, 8, 9, 10, 37, 38, 39] (l.length - (i + 1)) ?_ ?_ ?_ ?_ ?_
              · omega
              · rfl
              · rw [bools_snoc]; exact abnd_bools' _ _ _ _ _
              · simp (disch := first | with_reducible assumption | omega) only [go_sem, Bool.true_and, Bool.and_true, Bool.and_self, Bool.false_and, Bool.and_false, Bool.true_or, Bool.or_true, Bool.false_or, Bool.or_false, ↓reduceIte, Nat.reduceEqDiff, Nat.reduceAdd, Nat.reduceMul, Nat.reduceSub, Nat.reduceBEq, Nat.reduceLeDiff, Nat.reduceLT, Nat.reduceMod, Nat.reduceDiv, Int.reduceToNat, Int.reducePow, Int.reduceMul, Int.reduceAdd, Int.reduceSub, Int.reduceLE, Int.reduceLT, Int.reduceNeg, Int.reduceDiv, Int.reduceMod, Int.reduceEq, Int.reduceBEq, Int.reduceBNe]
                simp; omega
              · simp (disch := first | with_reducible assumption | omega) only [go_sem, Bool.true_and, Bool.and_true, Bool.and_self, Bool.false_and, Bool.and_false, Bool.true_or, Bool.or_true, Bool.false_or, Bool.or_false, ↓reduceIte, Nat.reduceEqDiff, Nat.reduceAdd, Nat.reduceMul, Nat.reduceSub, Nat.reduceBEq, Nat.reduceLeDiff, Nat.reduceLT, Nat.reduceMod, Nat.reduceDiv, Int.reduceToNat, Int.reducePow, Int.reduceMul, Int.reduceAdd, Int.reduceSub, Int.reduceLE, Int.reduceLT, Int.reduceNeg, Int.reduceDiv, Int.reduceMod, Int.reduceEq, Int.reduceBEq, Int.reduceBNe]
                exact ⟨i + 1, g' + 1, xa, ⟨since, true, xa + gap iv (many + 1), many + 1⟩, out ++ [true], rfl, by rw [← bools_app]; rfl, by omega, rfl, by simp; omega, hi', hn⟩
            · have hst : step tg iv ⟨since, false, next, many⟩ ⟨xa, xw⟩ = (⟨since, false, next, many⟩, false) := by unfold step; rw [if_neg c1, if_neg c2, if_neg (fun h => by rcases h with ⟨_, h⟩ | ⟨h, _⟩; exact c3 h; cases h)]
              repeat' first | simp (disch := first | with_reducible assumption | omega) only [go_sem, Bool.true_and, Bool.and_true, Bool.and_self, Bool.false_and, Bool.and_false, Bool.true_or, Bool.or_true, Bool.false_or, Bool.or_false, ↓reduceIte, Nat.reduceEqDiff, Nat.reduceAdd, Nat.reduceMul, Nat.reduceSub, Nat.reduceBEq, Nat.reduceLeDiff, Nat.reduceLT, Nat.reduceMod, Nat.reduceDiv, Int.reduceToNat, Int.reducePow, Int.reduceMul, Int.reduceAdd, Int.reduceSub, Int.reduceLE, Int.reduceLT, Int.reduceNeg, Int.reduceDiv, Int.reduceMod, Int.reduceEq, Int.reduceBEq, Int.reduceBNe, f8, f8b, f8r0, f8r1, f8r2, f8r3, f8r4, f8r5, f8r6, f8r7, f8r8, f8r9, f8r10, f8r11, f8r12, f8r13, f8r14, f8r15, f8r16, f8r17, f8r18, f8r19, f8r20, f8r21, f8r22, f8r23, f8r24, f8r25, f8r26, f8r28, f8l0, hk, get_old hk, e0, e1, il, hni, htk, St.cells, St.zero] | (refine BrW.of (fun hb => ?_) (fun hb => ?_) <;> (have hb' := hb; try simp only [decide_eq_true_eq, decide_eq_false_iff_not, beq_iff_eq, bne_iff_ne, beq_eq_false_iff_ne, bne_eq_false_iff_eq, Bool.not_eq_true', Bool.not_eq_false', Bool.not_eq_true, Bool.not_eq_false, Bool.and_eq_true, Bool.or_eq_true, Bool.and_eq_false_iff, Bool.or_eq_false_iff, Int.not_lt, Int.not_le, ne_eq, gt_iff_lt, ge_iff_le] at hb') <;> (try (exfalso; omega)))
              have hn := hinv.trans (run_next (l.drop (i + 1)) out hok hst)
              have hi' := Inv.after (tg := tg) ⟨h3, h4⟩ hI hok
              rw [hst] at hi'
              refine RdW.cut2 [0, 1, 8, 9, 10, 37, 38, 39] (l.length - (i + 1)) ?_ ?_ ?_ ?_ ?_
              · omega
              · rfl
              · rw [bools_snoc]; exact abnd_bools' _ _ _ _ _
              · simp (disch := first | with_reducible assumption | omega) only [go_sem, Bool.true_and, Bool.and_true, Bool.and_self, Bool.false_and, Bool.and_false, Bool.true_or, Bool.or_true, Bool.false_or, Bool.or_false, ↓reduceIte, Nat.reduceEqDiff, Nat.reduceAdd, Nat.reduceMul, Nat.reduceSub, Nat.reduceBEq, Nat.reduceLeDiff, Nat.reduceLT, Nat.reduceMod, Nat.reduceDiv, Int.reduceToNat, Int.reducePow, Int.reduceMul, Int.reduceAdd, Int.reduceSub, Int.reduceLE, Int.reduceLT, Int.reduceNeg, Int.reduceDiv, Int.reduceMod, Int.reduceEq, Int.reduceBEq, Int.reduceBNe]
                simp; omega
              · simp (disch := first | with_reducible assumption | omega) only [go_sem, Bool.true_and, Bool.and_true, Bool.and_self, Bool.false_and, Bool.and_false, Bool.true_or, Bool.or_true, Bool.false_or, Bool.or_false, ↓reduceIte, Nat.reduceEqDiff, Nat.reduceAdd, Nat.reduceMul, Nat.reduceSub, Nat.reduceBEq, Nat.reduceLeDiff, Nat.reduceLT, Nat.reduceMod, Nat.reduceDiv, Int.reduceToNat, Int.reducePow, Int.reduceMul, Int.reduceAdd, Int.reduceSub, Int.reduceLE, Int.reduceLT, Int.reduceNeg, Int.reduceDiv, Int.reduceMod, Int.reduceEq, Int.reduceBEq, Int.reduceBNe]
                exact ⟨i + 1, g' + 1, xa, ⟨since, false, next, many⟩, out ++ [false], rfl, by rw [← bools_app]; rfl, by omega, rfl, by simp; omega, hi', hn⟩
          | true =>
            clear d
            by_cases c3 : next ≤ xa
            · have hst : step tg iv ⟨since, true, next, many⟩ ⟨xa, xw⟩ = (⟨since, true, next + gap iv (many + 1), many + 1⟩, true) := by unfold step; rw [if_neg c1, if_neg c2, if_pos (.inr ⟨rfl, c3⟩)]; rfl
              have hg := gap_range h3 (show 1 ≤ many + 1 by omega)
              repeat' first | simp (disch := first | with_reducible assumption | omega) only [go_sem, Bool.true_and, Bool.and_true, Bool.and_self, Bool.false_and, Bool.and_false, Bool.true_or, Bool.or_true, Bool.false_or, Bool.or_false, ↓reduceIte, Nat.reduceEqDiff, Nat.reduceAdd, Nat.reduceMul, Nat.reduceSub, Nat.reduceBEq, Nat.reduceLeDiff, Nat.reduceLT, Nat.reduceMod, Nat.reduceDiv, Int.reduceToNat, Int.reducePow, Int.reduceMul, Int.reduceAdd, Int.reduceSub, Int.reduceLE, Int.reduceLT, Int.reduceNeg, Int.reduceDiv, Int.reduceMod, Int.reduceEq, Int.reduceBEq, Int.reduceBNe, f8, f8b, f8r0, f8r1, f8r2, f8r3, f8r4, f8r5, f8r6, f8r7, f8r8, f8r9, f8r10, f8r11, f8r12, f8r13, f8r14, f8r15, f8r16, f8r17, f8r18, f8r19, f8r20, f8r21, f8r22, f8r23, f8r24, f8r25, f8r26, f8r28, f8l0, hk, get_old hk, e0, e1, il, hni, htk, St.cells, St.zero] | (refine BrW.of (fun hb => ?_) (fun hb => ?_) <;> (have hb' := hb; try simp only [decide_eq_true_eq, decide_eq_false_iff_not, beq_iff_eq, bne_iff_ne, beq_eq_false_iff_ne, bne_eq_false_iff_eq, Bool.not_eq_true', Bool.not_eq_false', Bool.not_eq_true, Bool.not_eq_false, Bool.and_eq_true, Bool.or_eq_true, Bool.and_eq_false_iff, Bool.or_eq_false_iff, Int.not_lt, Int.not_le, ne_eq, gt_iff_lt, ge_iff_le] at hb') <;> (try (exfalso; omega))) | (refine .of ((Gap_spec iv (many + 1) _ ⟨h3, h4⟩ (by omega)).mono ?_); rintro v _ ⟨rfl, rfl⟩)
              have hn := hinv.trans (run_next (l.drop (i + 1)) out hok hst)
              have hi' := Inv.after (tg := tg) ⟨h3, h4⟩ hI hok
              rw [hst] at hi'
              refine RdW.cut2 [0, 1, 8, 9, 10, 37, 38, 39] (l.length - (i + 1)) ?_ ?_ ?_ ?_ ?_
              · omega
              · rfl
              · rw [bools_snoc]; exact abnd_bools' _ _ _ _ _
              · simp (disch := first | with_reducible assumption | omega) only [go_sem, Bool.true_and, Bool.and_true, Bool.and_self, Bool.false_and, Bool.and_false, Bool.true_or, Bool.or_true, Bool.false_or, Bool.or_false, ↓reduceIte, Nat.reduceEqDiff, Nat.reduceAdd, Nat.reduceMul, Nat.reduceSub, Nat.reduceBEq, Nat.reduceLeDiff, Nat.reduceLT, Nat.reduceMod, Nat.reduceDiv, Int.reduceToNat, Int.reducePow, Int.reduceMul, Int.reduceAdd, Int.reduceSub, Int.reduceLE, Int.reduceLT, Int.reduceNeg, Int.reduceDiv, Int.reduceMod, Int.reduceEq, Int.reduceBEq, Int.reduceBNe]
                simp; omega
              · simp (disch := first | with_reducible assumption | omega) only [go_sem, Bool.true_and, Bool.and_true, Bool.and_self, Bool.false_and, Bool.and_false, Bool.true_or, Bool.or_true, Bool.false_or, Bool.or_false, ↓reduceIte, Nat.reduceEqDiff, Nat.reduceAdd, Nat.reduceMul, Nat.reduceSub, Nat.reduceBEq, Nat.reduceLeDiff, Nat.reduceLT, Nat.reduceMod, Nat.reduceDiv, Int.reduceToNat, Int.reducePow, Int.reduceMul, Int.reduceAdd, Int.reduceSub, Int.reduceLE, Int.reduceLT, Int.reduceNeg, Int.reduceDiv, Int.reduceMod, Int.reduceEq, Int.reduceBEq, Int.reduceBNe]
                exact ⟨i + 1, g' + 1, xa, ⟨since, true, next + gap iv (many + 1), many + 1⟩, out ++ [true], rfl, by rw [← bools_app]; rfl, by omega, rfl, by simp; omega, hi', hn⟩
            · have hst : step tg iv ⟨since, true, next, many⟩ ⟨xa, xw⟩ = (⟨since, true, next, many⟩, false) := by unfold step; rw [if_neg c1, if_neg c2, if_neg (fun h => by rcases h with ⟨h, _⟩ | ⟨_, h⟩; cases h; exact c3 h)]
              repeat' first | simp (disch := first | with_reducible assumption | omega) only [go_sem, Bool.true_and, Bool.and_true, Bool.and_self, Bool.false_and, Bool.and_false, Bool.true_or, Bool.or_true, Bool.false_or, Bool.or_false, ↓reduceIte, Nat.reduceEqDiff, Nat.reduceAdd, Nat.reduceMul, Nat.reduceSub, Nat.reduceBEq, Nat.reduceLeDiff, Nat.reduceLT, Nat.reduceMod, Nat.reduceDiv, Int.reduceToNat, Int.reducePow, Int.reduceMul, Int.reduceAdd, Int.reduceSub, Int.reduceLE, Int.reduceLT, Int.reduceNeg, Int.reduceDiv, Int.reduceMod, Int.reduceEq, Int.reduceBEq, Int.reduceBNe, f8, f8b, f8r0, f8r1, f8r2, f8r3, f8r4, f8r5, f8r6, f8r7, f8r8, f8r9, f8r10, f8r11, f8r12, f8r13, f8r14, f8r15, f8r16, f8r17, f8r18, f8r19, f8r20, f8r21, f8r22, f8r23, f8r24, f8r25, f8r26, f8r28, f8l0, hk, get_old hk, e0, e1, il, hni, htk, St.cells, St.zero] | (refine BrW.of (fun hb => ?_) (fun hb => ?_) <;> (have hb' := hb; try simp only [decide_eq_true_eq, decide_eq_false_iff_not, beq_iff_eq, bne_iff_ne, beq_eq_false_iff_ne, bne_eq_false_iff_eq, Bool.not_eq_true', Bool.not_eq_false', Bool.not_eq_true, Bool.not_eq_false, Bool.and_eq_true, Bool.or_eq_true, Bool.and_eq_false_iff, Bool.or_eq_false_iff, Int.not_lt, Int.not_le, ne_eq, gt_iff_lt, ge_iff_le] at hb') <;> (try (exfalso; omega)))
              have hn := hinv.trans (run_next (l.drop (i + 1)) out hok hst)
              have hi' := Inv.after (tg := tg) ⟨h3, h4⟩ hI hok
              rw [hst] at hi'
              refine RdW.cut2 [0, 1, 8, 9, 10, 37, 38, 39] (l.length - (i + 1)) ?_ ?_ ?_ ?_ ?_
              · omega
              · rfl
              · rw [bools_snoc]; exact abnd_bools' _ _ _ _ _
              · simp (disch := first | with_reducible assumption | omega) only [go_sem, Bool.true_and, Bool.and_true, Bool.and_self, Bool.false_and, Bool.and_false, Bool.true_or, Bool.or_true, Bool.false_or, Bool.or_false, ↓reduceIte, Nat.reduceEqDiff, Nat.reduceAdd, Nat.reduceMul, Nat.reduceSub, Nat.reduceBEq, Nat.reduceLeDiff, Nat.reduceLT, Nat.reduceMod, Nat.reduceDiv, Int.reduceToNat, Int.reducePow, Int.reduceMul, Int.reduceAdd, Int.reduceSub, Int.reduceLE, Int.reduceLT, Int.reduceNeg, Int.reduceDiv, Int.reduceMod, Int.reduceEq, Int.reduceBEq, Int.reduceBNe]
                simp; omega
              · simp (disch := first | with_reducible assumption | omega) only [go_sem, Bool.true_and, Bool.and_true, Bool.and_self, Bool.false_and, Bool.and_false, Bool.true_or, Bool.or_true, Bool.false_or, Bool.or_false, ↓reduceIte, Nat.reduceEqDiff, Nat.reduceAdd, Nat.reduceMul, Nat.reduceSub, Nat.reduceBEq, Nat.reduceLeDiff, Nat.reduceLT, Nat.reduceMod, Nat.reduceDiv, Int.reduceToNat, Int.reducePow, Int.reduceMul, Int.reduceAdd, Int.reduceSub, Int.reduceLE, Int.reduceLT, Int.reduceNeg, Int.reduceDiv, Int.reduceMod, Int.reduceEq, Int.reduceBEq, Int.reduceBNe]
                exact ⟨i + 1, g' + 1, xa, ⟨since, true, next, many⟩, out ++ [false], rfl, by rw [← bools_app]; rfl, by omega, rfl, by simp; omega, hi', hn⟩
    · rw [run_cons, if_neg hok] at hinv
      clear d
      by_cases k0 : last ≤ xa
      · by_cases k1 : xa ≤ 1099511627776
        · by_cases k2 : 0 ≤ xw
          · have k3 : ¬ xw ≤ 1099511627776 := fun k3 => hok ⟨k0, k1, k2, k3⟩
            clear hok
            repeat' first | simp (disch := first | with_reducible assumption | omega) only [go_sem, Bool.true_and, Bool.and_true, Bool.and_self, Bool.false_and, Bool.and_false, Bool.true_or, Bool.or_true, Bool.false_or, Bool.or_false, ↓reduceIte, Nat.reduceEqDiff, Nat.reduceAdd, Nat.reduceMul, Nat.reduceSub, Nat.reduceBEq, Nat.reduceLeDiff, Nat.reduceLT, Nat.reduceMod, Nat.reduceDiv, Int.reduceToNat, Int.reducePow, Int.reduceMul, Int.reduceAdd, Int.reduceSub, Int.reduceLE, Int.reduceLT, Int.reduceNeg, Int.reduceDiv, Int.reduceMod, Int.reduceEq, Int.reduceBEq, Int.reduceBNe, f8, f8b, f8r0, f8r1, f8r2, f8r3, f8r4, f8r5, f8r6, f8r7, f8r8, f8r9, f8r10, f8r11, f8r12, f8r13, f8r14, f8r15, f8r16, f8r17, f8r18, f8r19, f8r20, f8r21, f8r22, f8r23, f8r24, f8r25, f8r26, f8r28, f8l0, f8, f8b, f8r0, f8r1, f8r2, f8r3, f8r4, f8r5, f8r6, f8r7, f8r8, f8r9, f8r10, f8r11, f8r12, f8r13, f8r14, f8r15, f8r16, f8r17, f8r18, f8r19, f8r20, f8r21, f8r22, f8r23, f8r24, f8r25, f8r26, f8r28, hk, get_old hk, e0, e1] | (refine BrW.of (fun hb => ?_) (fun hb => ?_) <;> (have hb' := hb; try simp only [decide_eq_true_eq, decide_eq_false_iff_not, beq_iff_eq, bne_iff_ne, beq_eq_false_iff_ne, bne_eq_false_iff_eq, Bool.not_eq_true', Bool.not_eq_false', Bool.not_eq_true, Bool.not_eq_false, Bool.and_eq_true, Bool.or_eq_true, Bool.and_eq_false_iff, Bool.or_eq_false_iff, Int.not_lt, Int.not_le, ne_eq, gt_iff_lt, ge_iff_le] at hb') <;> (try (exfalso; omega)))
            all_goals exact .here (.inl ⟨hinv, rfl, _, rfl⟩)
          · clear hok
            repeat' first | simp (disch := first | with_reducible assumption | omega) only [go_sem, Bool.true_and, Bool.and_true, Bool.and_self, Bool.false_and, Bool.and_false, Bool.true_or, Bool.or_true, Bool.false_or, Bool.or_false, ↓reduceIte, Nat.reduceEqDiff, Nat.reduceAdd, Nat.reduceMul, Nat.reduceSub, Nat.reduceBEq, Nat.reduceLeDiff, Nat.reduceLT, Nat.reduceMod, Nat.reduceDiv, Int.reduceToNat, Int.reducePow, Int.reduceMul, Int.reduceAdd, Int.reduceSub, Int.reduceLE, Int.reduceLT, Int.reduceNeg, Int.reduceDiv, Int.reduceMod, Int.reduceEq, Int.reduceBEq, Int.reduceBNe, f8, f8b, f8r0, f8r1, f8r2, f8r3, f8r4, f8r5, f8r6, f8r7, f8r8, f8r9, f8r10, f8r11, f8r12, f8r13, f8r14, f8r15, f8r16, f8r17, f8r18, f8r19, f8r20, f8r21, f8r22, f8r23, f8r24, f8r25, f8r26, f8r28, f8l0, f8, f8b, f8r0, f8r1, f8r2, f8r3, f8r4, f8r5, f8r6, f8r7, f8r8, f8r9, f8r10, f8r11, f8r12, f8r13, f8r14, f8r15, f8r16, f8r17, f8r18, f8r19, f8r20, f8r21, f8r22, f8r23, f8r24, f8r25, f8r26, f8r28, hk, get_old hk, e0, e1] | (refine BrW.of (fun hb => ?_) (fun hb => ?_) <;> (have hb' := hb; try simp only [decide_eq_true_eq, decide_eq_false_iff_not, beq_iff_eq, bne_iff_ne, beq_eq_false_iff_ne, bne_eq_false_iff_eq, Bool.not_eq_true', Bool.not_eq_false', Bool.not_eq_true, Bool.not_eq_false, Bool.and_eq_true, Bool.or_eq_true, Bool.and_eq_false_iff, Bool.or_eq_false_iff, Int.not_lt, Int.not_le, ne_eq, gt_iff_lt, ge_iff_le] at hb') <;> (try (exfalso; omega)))
            all_goals exact .here (.inl ⟨hinv, rfl, _, rfl⟩)
        · clear hok
          repeat' first | simp (disch := first | with_reducible assumption | omega) only [go_sem, Bool.true_and, Bool.and_true, Bool.and_self, Bool.false_and, Bool.and_false, Bool.true_or, Bool.or_true, Bool.false_or, Bool.or_false, ↓reduceIte, Nat.reduceEqDiff, Nat.reduceAdd, Nat.reduceMul, Nat.reduceSub, Nat.reduceBEq, Nat.reduceLeDiff, Nat.reduceLT, Nat.reduceMod, Nat.reduceDiv, Int.reduceToNat, Int.reducePow, Int.reduceMul, Int.reduceAdd, Int.reduceSub, Int.reduceLE, Int.reduceLT, Int.reduceNeg, Int.reduceDiv, Int.reduceMod, Int.reduceEq, Int.reduceBEq, Int.reduceBNe, f8, f8b, f8r0, f8r1, f8r2, f8r3, f8r4, f8r5, f8r6, f8r7, f8r8, f8r9, f8r10, f8r11, f8r12, f8r13, f8r14, f8r15, f8r16, f8r17, f8r18, f8r19, f8r20, f8r21, f8r22, f8r23, f8r24, f8r25, f8r26, f8r28, f8l0, f8, f8b, f8r0, f8r1, f8r2, f8r3, f8r4, f8r5, f8r6, f8r7, f8r8, f8r9, f8r10, f8r11, f8r12, f8r13, f8r14, f8r15, f8r16, f8r17, f8r18, f8r19, f8r20, f8r21, f8r22, f8r23, f8r24, f8r25, f8r26, f8r28, hk, get_old hk, e0, e1] | (refine BrW.of (fun hb => ?_) (fun hb => ?_) <;> (have hb' := hb; try simp only [decide_eq_true_eq, decide_eq_false_iff_not, beq_iff_eq, bne_iff_ne, beq_eq_false_iff_ne, bne_eq_false_iff_eq, Bool.not_eq_true', Bool.not_eq_false', Bool.not_eq_true, Bool.not_eq_false, Bool.and_eq_true, Bool.or_eq_true, Bool.and_eq_false_iff, Bool.or_eq_false_iff, Int.not_lt, Int.not_le, ne_eq, gt_iff_lt, ge_iff_le] at hb') <;> (try (exfalso; omega)))
          all_goals exact .here (.inl ⟨hinv, rfl, _, rfl⟩)
      · clear hok
        repeat' first | simp (disch := first | with_reducible assumption | omega) only [go_sem, Bool.true_and, Bool.and_true, Bool.and_self, Bool.false_and, Bool.and_false, Bool.true_or, Bool.or_true, Bool.false_or, Bool.or_false, ↓reduceIte, Nat.reduceEqDiff, Nat.reduceAdd, Nat.reduceMul, Nat.reduceSub, Nat.reduceBEq, Nat.reduceLeDiff, Nat.reduceLT, Nat.reduceMod, Nat.reduceDiv, Int.reduceToNat, Int.reducePow, Int.reduceMul, Int.reduceAdd, Int.reduceSub, Int.reduceLE, Int.reduceLT, Int.reduceNeg, Int.reduceDiv, Int.reduceMod, Int.reduceEq, Int.reduceBEq, Int.reduceBNe, f8, f8b, f8r0, f8r1, f8r2, f8r3, f8r4, f8r5, f8r6, f8r7, f8r8, f8r9, f8r10, f8r11, f8r12, f8r13, f8r14, f8r15, f8r16, f8r17, f8r18, f8r19, f8r20, f8r21, f8r22, f8r23, f8r24, f8r25, f8r26, f8r28, f8l0, f8, f8b, f8r0, f8r1, f8r2, f8r3, f8r4, f8r5, f8r6, f8r7, f8r8, f8r9, f8r10, f8r11, f8r12, f8r13, f8r14, f8r15, f8r16, f8r17, f8r18, f8r19, f8r20, f8r21, f8r22, f8r23, f8r24, f8r25, f8r26, f8r28, hk, get_old hk, e0, e1] | (refine BrW.of (fun hb => ?_) (fun hb => ?_) <;> (have hb' := hb; try simp only [decide_eq_true_eq, decide_eq_false_iff_not, beq_iff_eq, bne_iff_ne, beq_eq_false_iff_ne, bne_eq_false_iff_eq, Bool.not_eq_true', Bool.not_eq_false', Bool.not_eq_true, Bool.not_eq_false, Bool.and_eq_true, Bool.or_eq_true, Bool.and_eq_false_iff, Bool.or_eq_false_iff, Int.not_lt, Int.not_le, ne_eq, gt_iff_lt, ge_iff_le] at hb') <;> (try (exfalso; omega)))
        all_goals exact .here (.inl ⟨hinv, rfl, _, rfl⟩)
  · obtain rfl : i = l.length := by omega
    rw [List.drop_eq_nil_of_le (by omega)] at hinv
    have hr : run tg iv 0 .zero l = some out := by rw [hinv]; simp [run]
    repeat' first | simp (disch := first | with_reducible assumption | omega) only [go_sem, Bool.true_and, Bool.and_true, Bool.and_self, Bool.false_and, Bool.and_false, Bool.true_or, Bool.or_true, Bool.false_or, Bool.or_false, ↓reduceIte, Nat.reduceEqDiff, Nat.reduceAdd, Nat.reduceMul, Nat.reduceSub, Nat.reduceBEq, Nat.reduceLeDiff, Nat.reduceLT, Nat.reduceMod, Nat.reduceDiv, Int.reduceToNat, Int.reducePow, Int.reduceMul, Int.reduceAdd, Int.reduceSub, Int.reduceLE, Int.reduceLT, Int.reduceNeg, Int.reduceDiv, Int.reduceMod, Int.reduceEq, Int.reduceBEq, Int.reduceBNe, f8, f8b, f8r0, f8r1, f8r2, f8r3, f8r4, f8r5, f8r6, f8r7, f8r8, f8r9, f8r10, f8r11, f8r12, f8r13, f8r14, f8r15, f8r16, f8r17, f8r18, f8r19, f8r20, f8r21, f8r22, f8r23, f8r24, f8r25, f8r26, f8r28, f8l0, f8, f8b, f8r0, f8r1, f8r2, f8r3, f8r4, f8r5, f8r6, f8r7, f8r8, f8r9, f8r10, f8r11, f8r12, f8r13, f8r14, f8r15, f8r16, f8r17, f8r18, f8r19, f8r20, f8r21, f8r22, f8r23, f8r24, f8r25, f8r26, f8r28, hk, get_old hk, St.cells] | (refine BrW.of (fun hb => ?_) (fun hb => ?_) <;> (have hb' := hb; try simp only [decide_eq_true_eq, decide_eq_false_iff_not, beq_iff_eq, bne_iff_ne, beq_eq_false_iff_ne, bne_eq_false_iff_eq, Bool.not_eq_true', Bool.not_eq_false', Bool.not_eq_true, Bool.not_eq_false, Bool.and_eq_true, Bool.or_eq_true, Bool.and_eq_false_iff, Bool.or_eq_false_iff, Int.not_lt, Int.not_le, ne_eq, gt_iff_lt, ge_iff_le] at hb') <;> (try (exfalso; omega)))
    exact .here (.inr ⟨out, g', _, hr, rfl, rfl⟩)
end Go.Proofs.Ytmdlieinanjnaaa
