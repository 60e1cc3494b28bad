import Derived.Test.YtandagipamhmgaaLaws
set_option linter.unusedSimpArgs false
set_option linter.unusedVariables false
set_option maxHeartbeats 1000000
set_option maxRecDepth 10000
namespace Go.Proofs.Ytandagipamhmgaa
open Go Go.Am

theorem same_ok (a : F) : sameS [false, false] [.int .i64 a.num, .int .i64 a.den] [.int .i64 a.num, .int .i64 a.den] = some true := by simp [sameS]

theorem FracField_args (H : Heap) (vals : List Value) (h : ArgsOk maxLen H FracFieldSh vals) : ACallK Try.prog 5 vals H fun v _ => v = .bool true := by
  obtain ⟨a, b, c, rfl⟩ := three h
  refine .walkW f5_ok (by simp; decide) (by decide) ?_
  by_cases ht : Tiny a 60 ∧ Tiny b 60 ∧ Tiny c 60
  · obtain ⟨ha, hb, hc⟩ := ht
    have rA : (!decide a.right) = false := by simp [ha.right (by decide)]
    have rB : (!decide b.right) = false := by simp [hb.right (by decide)]
    have rC : (!decide c.right) = false := by simp [hc.right (by decide)]
    have h1 := addF_tiny ha hb (by decide) (by decide)
    have h2 := addF_tiny hb ha (by decide) (by decide)
    rw [Rat.add_comm] at h2
    have t1 := ha.add hb (by decide) (by decide)
    have h3 := mulF_tiny t1 hc (by decide) (by decide)
    have h4 := mulF_tiny ha hc (by decide) (by decide)
    have h5 := mulF_tiny hb hc (by decide) (by decide)
    have h6 := addF_tiny (ha.mul hc) (hb.mul hc) (by decide) (by decide)
    have h7 := mulF_tiny hc ha (by decide) (by decide)
    rw [Rat.mul_comm] at h7
    rw [F.q_of, Rat.add_mul] at h3
    rw [F.q_of, F.q_of] at h6
    generalize F.of (a.q + b.q) = x1 at *
    generalize F.of (a.q * c.q) = x2 at *
    generalize F.of (b.q * c.q) = x3 at *
    generalize F.of (a.q * c.q + b.q * c.q) = x4 at *
    have hx := ha.d2
    have hx := ha.n
    have hx := hb.d2
    have hx := hb.n
    have hx := hc.d2
    have hx := hc.n
    repeat' first | simp (disch := first | with_reducible assumption | omega) only [go_sem, Bool.true_and, Bool.and_true, Bool.and_self, Bool.false_and, Bool.and_false, Bool.true_or, Bool.or_true, Bool.false_or, Bool.or_false, ↓reduceIte, Nat.reduceEqDiff, Nat.reduceAdd, Nat.reduceMul, Nat.reduceSub, Nat.reduceBEq, Nat.reduceLeDiff, Nat.reduceLT, Nat.reduceMod, Nat.reduceDiv, Int.reduceToNat, Int.reducePow, Int.reduceMul, Int.reduceAdd, Int.reduceSub, Int.reduceLE, Int.reduceLT, Int.reduceNeg, Int.reduceDiv, Int.reduceMod, Int.reduceEq, Int.reduceBEq, Int.reduceBNe, f5, f5b, f5r0, f5r1, f5r2, f5r3, f5r4, f5r5, f5r6, f5r7, f5r8, f5r9, f5r10, f5r11, f5r12, F.cells, same_ok] | (refine BrW.of (fun hb => ?_) (fun hb => ?_) <;> (have hb' := hb; try simp only [decide_eq_true_eq, decide_eq_false_iff_not, beq_iff_eq, bne_iff_ne, beq_eq_false_iff_ne, bne_eq_false_iff_eq, Bool.not_eq_true', Bool.not_eq_false', Bool.not_eq_true, Bool.not_eq_false, Bool.and_eq_true, Bool.or_eq_true, Bool.and_eq_false_iff, Bool.or_eq_false_iff, Int.not_lt, Int.not_le, ne_eq, gt_iff_lt, ge_iff_le] at hb') <;> (try (exfalso; omega))) | (refine .of ((alive _).mono ?_); rintro v _ ⟨rfl, rfl⟩) | (refine .of ((Right_spec a _).mono ?_); rintro v _ ⟨rfl, rfl⟩) | (refine .of ((Right_spec b _).mono ?_); rintro v _ ⟨rfl, rfl⟩) | (refine .of ((Right_spec c _).mono ?_); rintro v _ ⟨rfl, rfl⟩) | (refine .of ((Add_spec a b _).mono ?_); rintro v _ ⟨rfl, rfl⟩; rw [h1]; simp only [ansF, F.val]) | (refine .of ((Add_spec b a _).mono ?_); rintro v _ ⟨rfl, rfl⟩; rw [h2]; simp only [ansF, F.val]) | (refine .of ((Mul_spec x1 c _).mono ?_); rintro v _ ⟨rfl, rfl⟩; rw [h3]; simp only [ansF, F.val]) | (refine .of ((Mul_spec a c _).mono ?_); rintro v _ ⟨rfl, rfl⟩; rw [h4]; simp only [ansF, F.val]) | (refine .of ((Mul_spec b c _).mono ?_); rintro v _ ⟨rfl, rfl⟩; rw [h5]; simp only [ansF, F.val]) | (refine .of ((Add_spec x2 x3 _).mono ?_); rintro v _ ⟨rfl, rfl⟩; rw [h6]; simp only [ansF, F.val]) | (refine .of ((Mul_spec c a _).mono ?_); rintro v _ ⟨rfl, rfl⟩; rw [h7]; simp only [ansF, F.val])
    all_goals exact .back rfl rfl
  · have hneg : a.right → b.right → c.right → max (max (max (max (max a.num b.num) c.num) a.den) b.den) c.den ≤ 60 → -60 ≤ min (min a.num b.num) c.num → False := fun ra rb rc m1 m2 => by
      unfold F.right at ra rb rc
      exact ht ⟨⟨by omega, by omega, by omega⟩, ⟨by omega, by omega, by omega⟩, ⟨by omega, by omega, by omega⟩⟩
    repeat' first | simp (disch := first | with_reducible assumption | omega) only [go_sem, Bool.true_and, Bool.and_true, Bool.and_self, Bool.false_and, Bool.and_false, Bool.true_or, Bool.or_true, Bool.false_or, Bool.or_false, ↓reduceIte, Nat.reduceEqDiff, Nat.reduceAdd, Nat.reduceMul, Nat.reduceSub, Nat.reduceBEq, Nat.reduceLeDiff, Nat.reduceLT, Nat.reduceMod, Nat.reduceDiv, Int.reduceToNat, Int.reducePow, Int.reduceMul, Int.reduceAdd, Int.reduceSub, Int.reduceLE, Int.reduceLT, Int.reduceNeg, Int.reduceDiv, Int.reduceMod, Int.reduceEq, Int.reduceBEq, Int.reduceBNe, f5, f5b, f5r0, f5r1, f5r2, f5r3, f5r4, f5r5, f5r6, f5r7, f5r8, f5r9, f5r10, f5r11, f5r12, F.cells, same_ok] | (refine BrW.of (fun hb => ?_) (fun hb => ?_) <;> (have hb' := hb; try simp only [decide_eq_true_eq, decide_eq_false_iff_not, beq_iff_eq, bne_iff_ne, beq_eq_false_iff_ne, bne_eq_false_iff_eq, Bool.not_eq_true', Bool.not_eq_false', Bool.not_eq_true, Bool.not_eq_false, Bool.and_eq_true, Bool.or_eq_true, Bool.and_eq_false_iff, Bool.or_eq_false_iff, Int.not_lt, Int.not_le, ne_eq, gt_iff_lt, ge_iff_le] at hb') <;> (try (exfalso; omega))) | (refine .of ((alive _).mono ?_); rintro v _ ⟨rfl, rfl⟩) | (refine .of ((Right_spec a _).mono ?_); rintro v _ ⟨rfl, rfl⟩) | (refine .of ((Right_spec b _).mono ?_); rintro v _ ⟨rfl, rfl⟩) | (refine .of ((Right_spec c _).mono ?_); rintro v _ ⟨rfl, rfl⟩)
    all_goals first | exact .back rfl rfl | exact (hneg (by assumption) (by assumption) (by assumption) (by omega) (by omega)).elim

/-! the root -/
theorem len8 : ∀ n : Nat, n < 256 → (n : Int) < 2 ^ (strAt f15r10s0 n).toNat ∧ 0 ≤ strAt f15r10s0 n ∧ strAt f15r10s0 n ≤ 8 := by decide +kernel

theorem strAt_range (s : ByteArray) (n : Nat) : 0 ≤ strAt s n ∧ strAt s n ≤ 255 := by
  unfold strAt
  have := (s.data.toList.getD n 0).toNat_lt
  omega
theorem strSize : f15r10s0.size = 256 := by decide +kernel
theorem conv_str (s : ByteArray) (n : Nat) : iconv .i64 (strAt s n) = strAt s n := iconv_i64 _ (by have := strAt_range s n; omega)
theorem len_leaf (n q : Int) (k : Nat) (hq : 0 ≤ q ∧ q < 256) (hn : n < (q + 1) * 2 ^ k) (hk : k ≤ 56) : ∃ l : Nat, (k : Int) + strAt f15r10s0 q.toNat = l ∧ l ≤ 64 ∧ n < 2 ^ l := by
  have h := len8 q.toNat (by omega)
  obtain ⟨s, hs⟩ := Int.eq_ofNat_of_zero_le h.2.1
  rw [hs] at h ⊢
  refine ⟨k + s, by omega, by omega, ?_⟩
  have h1 : q < 2 ^ s := by have := h.1; simp only [Int.toNat_natCast] at this; omega
  rw [Int.pow_add, Int.mul_comm (2 ^ k)]
  have hp : (0 : Int) ≤ 2 ^ k := Int.le_of_lt (Int.pow_pos (by decide))
  exact Int.lt_of_lt_of_le hn (Int.mul_le_mul_of_nonneg_right (by omega) hp)

theorem Len64_spec (n : Int) (h0 : 0 ≤ n ∧ n < 18446744073709551616) (H : Heap) : ACallK Try.prog 15 [.int .u64 n] H (fun v H' => (∃ l : Nat, v = .int .i64 l ∧ l ≤ 64 ∧ n < 2 ^ l) ∧ H' = H) := by
  refine .walkW f15_ok (by simp; decide) (by decide) ?_
  have s0 := strAt_range f15r10s0 (n / 4294967296 / 65536 / 256).toNat
  have s1 := strAt_range f15r10s0 (n / 4294967296 / 65536).toNat
  have s2 := strAt_range f15r10s0 (n / 4294967296 / 256).toNat
  have s3 := strAt_range f15r10s0 (n / 4294967296).toNat
  have s4 := strAt_range f15r10s0 (n / 65536 / 256).toNat
  have s5 := strAt_range f15r10s0 (n / 65536).toNat
  have s6 := strAt_range f15r10s0 (n / 256).toNat
  have s7 := strAt_range f15r10s0 (n).toNat
  repeat' first | simp (disch := first | with_reducible assumption | omega) only [go_sem, Bool.true_and, Bool.and_true, Bool.and_self, Bool.false_and, Bool.and_false, Bool.true_or, Bool.or_true, Bool.false_or, Bool.or_false, ↓reduceIte, Nat.reduceEqDiff, Nat.reduceAdd, Nat.reduceMul, Nat.reduceSub, Nat.reduceBEq, Nat.reduceLeDiff, Nat.reduceLT, Nat.reduceMod, Nat.reduceDiv, Int.reduceToNat, Int.reducePow, Int.reduceMul, Int.reduceAdd, Int.reduceSub, Int.reduceLE, Int.reduceLT, Int.reduceNeg, Int.reduceDiv, Int.reduceMod, Int.reduceEq, Int.reduceBEq, Int.reduceBNe, f15, f15b, f15r0, f15r1, f15r2, f15r3, f15r4, f15r5, f15r6, f15r7, f15r8, f15r9, f15r10, strSize, conv_str] | (refine BrW.of (fun hb => ?_) (fun hb => ?_) <;> (have hb' := hb; try simp only [decide_eq_true_eq, decide_eq_false_iff_not, beq_iff_eq, bne_iff_ne, beq_eq_false_iff_ne, bne_eq_false_iff_eq, Bool.not_eq_true', Bool.not_eq_false', Bool.not_eq_true, Bool.not_eq_false, Bool.and_eq_true, Bool.or_eq_true, Bool.and_eq_false_iff, Bool.or_eq_false_iff, Int.not_lt, Int.not_le, ne_eq, gt_iff_lt, ge_iff_le] at hb') <;> (try (exfalso; omega)))
  · obtain ⟨l, h1, h2, h3⟩ := len_leaf n (n / 4294967296 / 65536 / 256) 56 (by omega) (by simp only [Int.reducePow]; omega) (by omega)
    exact .here ⟨⟨l, by rw [← h1]; (first | with_reducible rfl | ((try simp (disch := first | with_reducible assumption | omega) only [if_pos, if_neg]) <;> repeat' first | with_reducible rfl | omega | congr 1)), h2, h3⟩, rfl⟩
  · obtain ⟨l, h1, h2, h3⟩ := len_leaf n (n / 4294967296 / 65536) 48 (by omega) (by simp only [Int.reducePow]; omega) (by omega)
    exact .here ⟨⟨l, by rw [← h1]; (first | with_reducible rfl | ((try simp (disch := first | with_reducible assumption | omega) only [if_pos, if_neg]) <;> repeat' first | with_reducible rfl | omega | congr 1)), h2, h3⟩, rfl⟩
  · obtain ⟨l, h1, h2, h3⟩ := len_leaf n (n / 4294967296 / 256) 40 (by omega) (by simp only [Int.reducePow]; omega) (by omega)
    exact .here ⟨⟨l, by rw [← h1]; (first | with_reducible rfl | ((try simp (disch := first | with_reducible assumption | omega) only [if_pos, if_neg]) <;> repeat' first | with_reducible rfl | omega | congr 1)), h2, h3⟩, rfl⟩
  · obtain ⟨l, h1, h2, h3⟩ := len_leaf n (n / 4294967296) 32 (by omega) (by simp only [Int.reducePow]; omega) (by omega)
    exact .here ⟨⟨l, by rw [← h1]; (first | with_reducible rfl | ((try simp (disch := first | with_reducible assumption | omega) only [if_pos, if_neg]) <;> repeat' first | with_reducible rfl | omega | congr 1)), h2, h3⟩, rfl⟩
  · obtain ⟨l, h1, h2, h3⟩ := len_leaf n (n / 65536 / 256) 24 (by omega) (by simp only [Int.reducePow]; omega) (by omega)
    exact .here ⟨⟨l, by rw [← h1]; (first | with_reducible rfl | ((try simp (disch := first | with_reducible assumption | omega) only [if_pos, if_neg]) <;> repeat' first | with_reducible rfl | omega | congr 1)), h2, h3⟩, rfl⟩
  · obtain ⟨l, h1, h2, h3⟩ := len_leaf n (n / 65536) 16 (by omega) (by simp only [Int.reducePow]; omega) (by omega)
    exact .here ⟨⟨l, by rw [← h1]; (first | with_reducible rfl | ((try simp (disch := first | with_reducible assumption | omega) only [if_pos, if_neg]) <;> repeat' first | with_reducible rfl | omega | congr 1)), h2, h3⟩, rfl⟩
  · obtain ⟨l, h1, h2, h3⟩ := len_leaf n (n / 256) 8 (by omega) (by simp only [Int.reducePow]; omega) (by omega)
    exact .here ⟨⟨l, by rw [← h1]; (first | with_reducible rfl | ((try simp (disch := first | with_reducible assumption | omega) only [if_pos, if_neg]) <;> repeat' first | with_reducible rfl | omega | congr 1)), h2, h3⟩, rfl⟩
  · obtain ⟨l, h1, h2, h3⟩ := len_leaf n (n) 0 (by omega) (by simp only [Int.reducePow]; omega) (by omega)
    exact .here ⟨⟨l, by rw [← h1]; (first | with_reducible rfl | ((try simp (disch := first | with_reducible assumption | omega) only [if_pos, if_neg]) <;> repeat' first | with_reducible rfl | omega | congr 1)), h2, h3⟩, rfl⟩

theorem or_add (r : Int) (i : Nat) (k : Nat) (hr : r = 2 ^ (i + 1) * k) (hi : i ≤ 32) (hs : r + 2 ^ i < 18446744073709551616) : ior .u64 r (2 ^ i) = r + 2 ^ i := by
  unfold ior
  have e : IntKind.u64.bits = 64 := rfl
  have hp : (2 : Int) ^ i = ((2 ^ i : Nat) : Int) := by simp
  have hr' : r = ((2 ^ (i + 1) * k : Nat) : Int) := by rw [hr]; simp
  have hlt : 2 ^ (i + 1) * k + 2 ^ i < 2 ^ 64 := by
    rw [hr', hp] at hs
    generalize 2 ^ (i + 1) * k = a at hs ⊢
    generalize 2 ^ i = b at hs ⊢
    omega
  rw [e, hr', hp]
  simp only [BitVec.ofInt_natCast, BitVec.toNat_or, BitVec.toNat_ofNat]
  rw [Nat.mod_eq_of_lt (Nat.lt_of_le_of_lt (Nat.le_add_right _ _) hlt), Nat.mod_eq_of_lt (Nat.lt_of_le_of_lt (Nat.le_add_left _ _) hlt)]
  have h2 : 2 ^ i < 2 ^ (i + 1) := Nat.pow_lt_pow_right (by decide) (by omega)
  rw [← Nat.two_pow_add_eq_or_of_lt h2]
  generalize 2 ^ (i + 1) * k = a at hlt ⊢
  generalize 2 ^ i = b at hlt ⊢
  rw [wrap_u64 _ (by omega)]
  omega

theorem Root_spec (n : Int) (h0 : 0 ≤ n ∧ n < 18446744073709551616) (H : Heap) : ACallK Try.prog 10 [.int .u64 n] H (fun v H' => (∃ r, v = .int .u64 r ∧ isRoot r n) ∧ H' = H) := by
  refine .walkW f10_ok (by simp; decide) (by decide) ?_
  simp (disch := first | with_reducible assumption | omega) only [go_sem, Bool.true_and, Bool.and_true, Bool.and_self, Bool.false_and, Bool.and_false, Bool.true_or, Bool.or_true, Bool.false_or, Bool.or_false, ↓reduceIte, Nat.reduceEqDiff, Nat.reduceAdd, Nat.reduceMul, Nat.reduceSub, Nat.reduceBEq, Nat.reduceLeDiff, Nat.reduceLT, Nat.reduceMod, Nat.reduceDiv, Int.reduceToNat, Int.reducePow, Int.reduceMul, Int.reduceAdd, Int.reduceSub, Int.reduceLE, Int.reduceLT, Int.reduceNeg, Int.reduceDiv, Int.reduceMod, Int.reduceEq, Int.reduceBEq, Int.reduceBNe, f10, f10b, f10r0, f10r1, f10r2, f10r3, f10r4, f10r5, f10r6, f10r7, f10r9]
  refine .of ((Len64_spec n h0 H).mono ?_)
  rintro v H' ⟨⟨l, rfl, hl, hn⟩, rfl⟩
  simp (disch := first | with_reducible assumption | omega) only [go_sem, Bool.true_and, Bool.and_true, Bool.and_self, Bool.false_and, Bool.and_false, Bool.true_or, Bool.or_true, Bool.false_or, Bool.or_false, ↓reduceIte, Nat.reduceEqDiff, Nat.reduceAdd, Nat.reduceMul, Nat.reduceSub, Nat.reduceBEq, Nat.reduceLeDiff, Nat.reduceLT, Nat.reduceMod, Nat.reduceDiv, Int.reduceToNat, Int.reducePow, Int.reduceMul, Int.reduceAdd, Int.reduceSub, Int.reduceLE, Int.reduceLT, Int.reduceNeg, Int.reduceDiv, Int.reduceMod, Int.reduceEq, Int.reduceBEq, Int.reduceBNe, f10, f10b, f10r0, f10r1, f10r2, f10r3, f10r4, f10r5, f10r6, f10r7, f10r9]
  refine loopW.of (by decide) (fun m e H'' => ∃ (j k : Nat) (r : Int), e = [(0, .int .u64 n), (3, .int .u64 r), (4, .int .i64 ((j : Int) - 1))] ∧ H'' = H' ∧ j ≤ 33 ∧ r = 2 ^ j * k ∧ r < 4294967296 ∧ r * r ≤ n ∧ n < (r + 2 ^ j) * (r + 2 ^ j) ∧ m = j) ((l + 1) / 2 + 1) ⟨(l + 1) / 2 + 1, 0, 0, ?_, rfl, by omega, by simp, by omega, by omega, ?_, rfl⟩ ?_
  · have : ((l : Int) + 1) / 2 = (((l + 1) / 2 + 1 : Nat) : Int) - 1 := by omega
    rw [this]
  · have h1 : (2 : Int) ^ l ≤ 2 ^ ((l + 1) / 2 + 1 + ((l + 1) / 2 + 1)) := by
      have := Nat.pow_le_pow_right (n := 2) (by decide) (show l ≤ (l + 1) / 2 + 1 + ((l + 1) / 2 + 1) by omega)
      exact_mod_cast this
    rw [Int.pow_add] at h1
    rw [Int.zero_add]
    omega
  rintro m e H'' ⟨j, k, r, rfl, rfl, hj, hr, hr2, hle, hlt, rfl⟩
  cases m with
  | zero =>
    simp (disch := first | with_reducible assumption | omega) only [go_sem, Bool.true_and, Bool.and_true, Bool.and_self, Bool.false_and, Bool.and_false, Bool.true_or, Bool.or_true, Bool.false_or, Bool.or_false, ↓reduceIte, Nat.reduceEqDiff, Nat.reduceAdd, Nat.reduceMul, Nat.reduceSub, Nat.reduceBEq, Nat.reduceLeDiff, Nat.reduceLT, Nat.reduceMod, Nat.reduceDiv, Int.reduceToNat, Int.reducePow, Int.reduceMul, Int.reduceAdd, Int.reduceSub, Int.reduceLE, Int.reduceLT, Int.reduceNeg, Int.reduceDiv, Int.reduceMod, Int.reduceEq, Int.reduceBEq, Int.reduceBNe, f10, f10b, f10r0, f10r1, f10r2, f10r3, f10r4, f10r5, f10r6, f10r7, f10r9, f10l0]
    refine .here ⟨⟨r, rfl, ?_⟩, rfl⟩
    have e1 : (2 : Int) ^ 0 = 1 := rfl
    rw [e1] at hlt hr
    exact ⟨by omega, hle, hlt⟩
  | succ i =>
    have e1 : ((i + 1 : Nat) : Int) - 1 = i := by omega
    rw [e1]
    have hp : (1 : Int) ≤ 2 ^ i ∧ (2 : Int) ^ i ≤ 4294967296 := by
      have h1 := Nat.one_le_two_pow (n := i)
      have h2 := Nat.pow_le_pow_right (n := 2) (by decide) (show i ≤ 32 by omega)
      have h3 : ((2 ^ i : Nat) : Int) = 2 ^ i := by simp
      omega
    have hsh : ishl .u64 1 (i : Int) = 2 ^ i := by
      rw [ishl_u64 1 i (by omega), Int.toNat_natCast, imul_u64 _ _ (by omega), Int.one_mul]
    have hd : (2 : Int) ^ (i + 1) = 2 * 2 ^ i := by rw [Int.pow_succ, Int.mul_comm]
    have hor := or_add r i k hr (by omega) (by omega)
    have hmul : r = 2 ^ i * ((2 * k : Nat) : Int) := by rw [hr, hd]; push_cast; rw [Int.mul_assoc, Int.mul_left_comm]
    have hmul2 : r + 2 ^ i = 2 ^ i * ((2 * k + 1 : Nat) : Int) := by
      rw [hmul]; push_cast; rw [Int.mul_add, Int.mul_one]
    have hsq : ¬ r + 2 ^ i < 4294967296 → n < (r + 2 ^ i) * (r + 2 ^ i) := fun h => by
      have := sq_le (show (0 : Int) ≤ 4294967296 by omega) (show 4294967296 ≤ r + 2 ^ i by omega)
      omega
    have hr0 : 0 ≤ r := by rw [hmul]; exact Int.mul_nonneg (by omega) (by omega)
    have hsq2 : r + 2 ^ i < 4294967296 → 0 ≤ (r + 2 ^ i) * (r + 2 ^ i) ∧ (r + 2 ^ i) * (r + 2 ^ i) ≤ 18446744073709551615 := fun h => by
      have := sq_le (show 0 ≤ r + 2 ^ i by omega) (show r + 2 ^ i ≤ 4294967295 by omega)
      have := Int.mul_nonneg (show 0 ≤ r + 2 ^ i by omega) (show 0 ≤ r + 2 ^ i by omega)
      omega
    have hnext : n < (r + 2 ^ i + 2 ^ i) * (r + 2 ^ i + 2 ^ i) := by
      have : r + 2 ^ i + 2 ^ i = r + 2 ^ (i + 1) := by omega
      rw [this]; exact hlt
    generalize hP : (2 : Int) ^ i = P at *
    have hP' := hP
    clear hr hlt hd hP
    have hi0 : (0 : Int) ≤ (i : Int) := by omega
    repeat' first | simp (disch := first | with_reducible assumption | omega) only [go_sem, Bool.true_and, Bool.and_true, Bool.and_self, Bool.false_and, Bool.and_false, Bool.true_or, Bool.or_true, Bool.false_or, Bool.or_false, ↓reduceIte, Nat.reduceEqDiff, Nat.reduceAdd, Nat.reduceMul, Nat.reduceSub, Nat.reduceBEq, Nat.reduceLeDiff, Nat.reduceLT, Nat.reduceMod, Nat.reduceDiv, Int.reduceToNat, Int.reducePow, Int.reduceMul, Int.reduceAdd, Int.reduceSub, Int.reduceLE, Int.reduceLT, Int.reduceNeg, Int.reduceDiv, Int.reduceMod, Int.reduceEq, Int.reduceBEq, Int.reduceBNe, f10, f10b, f10r0, f10r1, f10r2, f10r3, f10r4, f10r5, f10r6, f10r7, f10r9, f10l0, hsh, hor, hi0] | (refine BrW.of (fun hb => ?_) (fun hb => ?_) <;> (have hb' := hb; try simp only [decide_eq_true_eq, decide_eq_false_iff_not, beq_iff_eq, bne_iff_ne, beq_eq_false_iff_ne, bne_eq_false_iff_eq, Bool.not_eq_true', Bool.not_eq_false', Bool.not_eq_true, Bool.not_eq_false, Bool.and_eq_true, Bool.or_eq_true, Bool.and_eq_false_iff, Bool.or_eq_false_iff, Int.not_lt, Int.not_le, ne_eq, gt_iff_lt, ge_iff_le] at hb') <;> (try (exfalso; omega)))
    · refine RdW.keep [0, 3, 4] i (by omega) ?_
      simp (disch := first | with_reducible assumption | omega) only [go_sem, Bool.true_and, Bool.and_true, Bool.and_self, Bool.false_and, Bool.and_false, Bool.true_or, Bool.or_true, Bool.false_or, Bool.or_false, ↓reduceIte, Nat.reduceEqDiff, Nat.reduceAdd, Nat.reduceMul, Nat.reduceSub, Nat.reduceBEq, Nat.reduceLeDiff, Nat.reduceLT, Nat.reduceMod, Nat.reduceDiv, Int.reduceToNat, Int.reducePow, Int.reduceMul, Int.reduceAdd, Int.reduceSub, Int.reduceLE, Int.reduceLT, Int.reduceNeg, Int.reduceDiv, Int.reduceMod, Int.reduceEq, Int.reduceBEq, Int.reduceBNe, f10, f10b, f10r0, f10r1, f10r2, f10r3, f10r4, f10r5, f10r6, f10r7, f10r9]
      exact ⟨i, 2 * k + 1, r + P, rfl, by omega, by rw [hP']; exact hmul2, by omega, hb', by rw [hP']; exact hnext, rfl⟩
    · refine RdW.keep [0, 3, 4] i (by omega) ?_
      simp (disch := first | with_reducible assumption | omega) only [go_sem, Bool.true_and, Bool.and_true, Bool.and_self, Bool.false_and, Bool.and_false, Bool.true_or, Bool.or_true, Bool.false_or, Bool.or_false, ↓reduceIte, Nat.reduceEqDiff, Nat.reduceAdd, Nat.reduceMul, Nat.reduceSub, Nat.reduceBEq, Nat.reduceLeDiff, Nat.reduceLT, Nat.reduceMod, Nat.reduceDiv, Int.reduceToNat, Int.reducePow, Int.reduceMul, Int.reduceAdd, Int.reduceSub, Int.reduceLE, Int.reduceLT, Int.reduceNeg, Int.reduceDiv, Int.reduceMod, Int.reduceEq, Int.reduceBEq, Int.reduceBNe, f10, f10b, f10r0, f10r1, f10r2, f10r3, f10r4, f10r5, f10r6, f10r7, f10r9]
      exact ⟨i, 2 * k, r, rfl, by omega, by rw [hP']; exact hmul, hr2, hle, by rw [hP']; exact hb', rfl⟩
    · refine RdW.keep [0, 3, 4] i (by omega) ?_
      simp (disch := first | with_reducible assumption | omega) only [go_sem, Bool.true_and, Bool.and_true, Bool.and_self, Bool.false_and, Bool.and_false, Bool.true_or, Bool.or_true, Bool.false_or, Bool.or_false, ↓reduceIte, Nat.reduceEqDiff, Nat.reduceAdd, Nat.reduceMul, Nat.reduceSub, Nat.reduceBEq, Nat.reduceLeDiff, Nat.reduceLT, Nat.reduceMod, Nat.reduceDiv, Int.reduceToNat, Int.reducePow, Int.reduceMul, Int.reduceAdd, Int.reduceSub, Int.reduceLE, Int.reduceLT, Int.reduceNeg, Int.reduceDiv, Int.reduceMod, Int.reduceEq, Int.reduceBEq, Int.reduceBNe, f10, f10b, f10r0, f10r1, f10r2, f10r3, f10r4, f10r5, f10r6, f10r7, f10r9]
      exact ⟨i, 2 * k, r, rfl, by omega, by rw [hP']; exact hmul, hr2, hle, by rw [hP']; exact hsq (by omega), rfl⟩

theorem wrap_u64_mod (n : Int) : IntKind.u64.wrap n = n % 18446744073709551616 := by
  unfold IntKind.wrap; simp only [IntKind.bits, IntKind.signed]; simp
theorem FracRoot_args (H : Heap) (vals : List Value) (h : ArgsOk maxLen H FracRootSh vals) : ACallK Try.prog 4 vals H fun v _ => v = .bool true := by
  obtain ⟨_, _, rfl, a1, h⟩ := h.cons
  obtain ⟨_, _, rfl, a2, h⟩ := h.cons
  obtain rfl := h.nil
  obtain ⟨n, rfl, h1⟩ := a1.cell.int_inv
  obtain ⟨x, rfl, h2⟩ := a2.cell.int_inv
  have h1' : 0 ≤ n ∧ n ≤ 18446744073709551615 := h1
  have h2' : 0 ≤ x ∧ x ≤ 18446744073709551615 := h2
  refine .walkW f4_ok (by simp; decide) (by decide) ?_
  simp (disch := first | with_reducible assumption | omega) only [go_sem, Bool.true_and, Bool.and_true, Bool.and_self, Bool.false_and, Bool.and_false, Bool.true_or, Bool.or_true, Bool.false_or, Bool.or_false, ↓reduceIte, Nat.reduceEqDiff, Nat.reduceAdd, Nat.reduceMul, Nat.reduceSub, Nat.reduceBEq, Nat.reduceLeDiff, Nat.reduceLT, Nat.reduceMod, Nat.reduceDiv, Int.reduceToNat, Int.reducePow, Int.reduceMul, Int.reduceAdd, Int.reduceSub, Int.reduceLE, Int.reduceLT, Int.reduceNeg, Int.reduceDiv, Int.reduceMod, Int.reduceEq, Int.reduceBEq, Int.reduceBNe, f4, f4b, f4r0, f4r1, f4r2, f4r3, f4r4, f4r5, f4r6]
  refine .of ((alive H).mono ?_)
  rintro v H' ⟨rfl, rfl⟩
  simp (disch := first | with_reducible assumption | omega) only [go_sem, Bool.true_and, Bool.and_true, Bool.and_self, Bool.false_and, Bool.and_false, Bool.true_or, Bool.or_true, Bool.false_or, Bool.or_false, ↓reduceIte, Nat.reduceEqDiff, Nat.reduceAdd, Nat.reduceMul, Nat.reduceSub, Nat.reduceBEq, Nat.reduceLeDiff, Nat.reduceLT, Nat.reduceMod, Nat.reduceDiv, Int.reduceToNat, Int.reducePow, Int.reduceMul, Int.reduceAdd, Int.reduceSub, Int.reduceLE, Int.reduceLT, Int.reduceNeg, Int.reduceDiv, Int.reduceMod, Int.reduceEq, Int.reduceBEq, Int.reduceBNe, f4, f4b, f4r0, f4r1, f4r2, f4r3, f4r4, f4r5, f4r6]
  refine .of ((Root_spec n (by omega) H').mono ?_)
  rintro v H ⟨⟨r, rfl, hr⟩, rfl⟩
  have hs := hr.small (by omega)
  obtain ⟨r0, r1, r2⟩ := hr
  have rr : 0 ≤ r * r := Int.mul_nonneg r0 r0
  have e1 : (r + 1) * (r + 1) = r * r + 2 * r + 1 := by rw [Int.add_mul, Int.mul_add, Int.mul_one, Int.one_mul]; omega
  have hq : r + 1 < 4294967296 → (r + 1) * (r + 1) ≤ 18446744073709551615 := fun h => by
    have := sq_le (show 0 ≤ r + 1 by omega) (show r + 1 ≤ 4294967295 by omega)
    omega
  have hsum : 0 ≤ iadd .u64 n x ∧ iadd .u64 n x ≤ 18446744073709551615 ∧ (n + x ≤ 18446744073709551615 → iadd .u64 n x = n + x) ∧ (18446744073709551616 ≤ n + x → iadd .u64 n x = n + x - 18446744073709551616) := by
    unfold iadd
    rw [wrap_u64_mod]
    omega
  by_cases ho : n + x ≤ 18446744073709551615
  · repeat' first | simp (disch := first | with_reducible assumption | omega) only [go_sem, Bool.true_and, Bool.and_true, Bool.and_self, Bool.false_and, Bool.and_false, Bool.true_or, Bool.or_true, Bool.false_or, Bool.or_false, ↓reduceIte, Nat.reduceEqDiff, Nat.reduceAdd, Nat.reduceMul, Nat.reduceSub, Nat.reduceBEq, Nat.reduceLeDiff, Nat.reduceLT, Nat.reduceMod, Nat.reduceDiv, Int.reduceToNat, Int.reducePow, Int.reduceMul, Int.reduceAdd, Int.reduceSub, Int.reduceLE, Int.reduceLT, Int.reduceNeg, Int.reduceDiv, Int.reduceMod, Int.reduceEq, Int.reduceBEq, Int.reduceBNe, f4, f4b, f4r0, f4r1, f4r2, f4r3, f4r4, f4r5, f4r6] | (refine BrW.of (fun hb => ?_) (fun hb => ?_) <;> (have hb' := hb; try simp only [decide_eq_true_eq, decide_eq_false_iff_not, beq_iff_eq, bne_iff_ne, beq_eq_false_iff_ne, bne_eq_false_iff_eq, Bool.not_eq_true', Bool.not_eq_false', Bool.not_eq_true, Bool.not_eq_false, Bool.and_eq_true, Bool.or_eq_true, Bool.and_eq_false_iff, Bool.or_eq_false_iff, Int.not_lt, Int.not_le, ne_eq, gt_iff_lt, ge_iff_le] at hb') <;> (try (exfalso; omega))) | (refine .of ((Root_spec (n + x) (by omega) _).mono ?_); rintro v H ⟨⟨s, rfl, hs⟩, rfl⟩; have hmono := isRoot.mono ⟨r0, r1, r2⟩ hs (by omega))
    all_goals exact .here (by (first | with_reducible rfl | (congr 1; first | with_reducible rfl | omega | (rw [Bool.eq_iff_iff]; simp only [decide_eq_true_eq, decide_eq_false_iff_not, beq_iff_eq, bne_iff_ne, beq_eq_false_iff_ne, bne_eq_false_iff_eq, Bool.not_eq_true', Bool.not_eq_false', Bool.not_eq_true, Bool.not_eq_false, Bool.and_eq_true, Bool.or_eq_true, Bool.and_eq_false_iff, Bool.or_eq_false_iff, Int.not_lt, Int.not_le, ne_eq, gt_iff_lt, ge_iff_le, Bool.and_false, Bool.false_and, Bool.or_true, Bool.true_or, Bool.false_eq_true, true_iff, iff_true, false_iff, iff_false, eq_self, not_true_eq_false, not_false_eq_true]; try omega))))
  · have e2 : iadd .u64 n x = n + x - 18446744073709551616 := hsum.2.2.2 (by omega)
    repeat' first | simp (disch := first | with_reducible assumption | omega) only [go_sem, Bool.true_and, Bool.and_true, Bool.and_self, Bool.false_and, Bool.and_false, Bool.true_or, Bool.or_true, Bool.false_or, Bool.or_false, ↓reduceIte, Nat.reduceEqDiff, Nat.reduceAdd, Nat.reduceMul, Nat.reduceSub, Nat.reduceBEq, Nat.reduceLeDiff, Nat.reduceLT, Nat.reduceMod, Nat.reduceDiv, Int.reduceToNat, Int.reducePow, Int.reduceMul, Int.reduceAdd, Int.reduceSub, Int.reduceLE, Int.reduceLT, Int.reduceNeg, Int.reduceDiv, Int.reduceMod, Int.reduceEq, Int.reduceBEq, Int.reduceBNe, f4, f4b, f4r0, f4r1, f4r2, f4r3, f4r4, f4r5, f4r6, e2] | (refine BrW.of (fun hb => ?_) (fun hb => ?_) <;> (have hb' := hb; try simp only [decide_eq_true_eq, decide_eq_false_iff_not, beq_iff_eq, bne_iff_ne, beq_eq_false_iff_ne, bne_eq_false_iff_eq, Bool.not_eq_true', Bool.not_eq_false', Bool.not_eq_true, Bool.not_eq_false, Bool.and_eq_true, Bool.or_eq_true, Bool.and_eq_false_iff, Bool.or_eq_false_iff, Int.not_lt, Int.not_le, ne_eq, gt_iff_lt, ge_iff_le] at hb') <;> (try (exfalso; omega)))
    all_goals exact .here (by (first | with_reducible rfl | (congr 1; first | with_reducible rfl | omega | (rw [Bool.eq_iff_iff]; simp only [decide_eq_true_eq, decide_eq_false_iff_not, beq_iff_eq, bne_iff_ne, beq_eq_false_iff_ne, bne_eq_false_iff_eq, Bool.not_eq_true', Bool.not_eq_false', Bool.not_eq_true, Bool.not_eq_false, Bool.and_eq_true, Bool.or_eq_true, Bool.and_eq_false_iff, Bool.or_eq_false_iff, Int.not_lt, Int.not_le, ne_eq, gt_iff_lt, ge_iff_le, Bool.and_false, Bool.false_and, Bool.or_true, Bool.true_or, Bool.false_eq_true, true_iff, iff_true, false_iff, iff_false, eq_self, not_true_eq_false, not_false_eq_true]; try omega))))
end Go.Proofs.Ytandagipamhmgaa
