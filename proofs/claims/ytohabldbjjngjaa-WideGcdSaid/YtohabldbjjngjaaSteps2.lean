import Derived.Test.YtohabldbjjngjaaSteps
import Derived.Test.YtohabldbjjngjaaPlain2
set_option linter.unusedSimpArgs false
set_option linter.unusedVariables false
set_option maxHeartbeats 1000000
set_option maxRecDepth 20000
namespace Go.Proofs.Ytohabldbjjngjaa
open Go Go.Am
attribute [local irreducible] opsW Ww loopW callW drawW outW outDW gW cW BrW bothW vW resW DropW RdW dcallW altW Later.run

theorem wrap64 (n : Int) : IntKind.u64.wrap n = n % 18446744073709551616 := by
  unfold IntKind.wrap; simp [IntKind.bits, IntKind.signed]
theorem mask32 (a : Int) (h : 0 ≤ a ∧ a ≤ 18446744073709551615) : iand .u64 a 4294967295 = a % 4294967296 := by
  have := iand_mask (k := .u64) (b := 64) rfl a 32 h.1 (by omega) (by decide)
  rw [show (2 : Int) ^ 32 - 1 = 4294967295 from rfl, show (2 : Int) ^ 32 = 4294967296 from rfl] at this
  rw [this]
  exact wrap_u64 _ (by omega)
theorem low64 (a b : Int) (h : ¬ (0 ≤ a * b ∧ a * b ≤ 18446744073709551615)) : imul .u64 a b = (a * b) % 18446744073709551616 := wrap64 _
theorem digit64 (a c q y : Int) : isub .u64 (iadd .u64 (imul .u64 a 4294967296) c) (imul .u64 q y) = (a * 4294967296 + c - q * y) % 18446744073709551616 := by
  unfold isub iadd imul
  simp only [wrap64]
  omega
def lenTab (k : Nat) : Bool := let t := strAt f24r10s0 k; decide (0 ≤ t ∧ t ≤ 8 ∧ (k = 0 → t = 0) ∧ (0 < k → 1 ≤ t ∧ 2 ^ (t.toNat - 1) ≤ k ∧ k < 2 ^ t.toNat))
theorem lenTab_all : ((List.range 256).all lenTab) = true := by decide +kernel
theorem lenTab_of {k : Nat} (hk : k < 256) : ∃ t : Nat, strAt f24r10s0 k = t ∧ t ≤ 8 ∧ (k = 0 → t = 0) ∧ (0 < k → 1 ≤ t ∧ 2 ^ (t - 1) ≤ k ∧ k < 2 ^ t) := by
  have h := List.all_eq_true.1 lenTab_all k (by simpa using hk)
  simp only [lenTab, decide_eq_true_eq] at h
  obtain ⟨h1, h2, h3, h4⟩ := h
  obtain ⟨t, ht⟩ := Int.eq_ofNat_of_zero_le h1
  rw [ht] at h2 h3 h4
  exact ⟨t, ht, by omega, fun h => by have := h3 h; omega, fun h => by have := h4 h; simp only [Int.toNat_natCast] at this; exact ⟨by omega, by exact_mod_cast this.2.1, by exact_mod_cast this.2.2⟩⟩
theorem tabSize : f24r10s0.size = 256 := by decide +kernel
/-- How many bits a number has. -/
def isLen (y : Int) (n : Nat) : Prop := n ≤ 64 ∧ (0 < y → 1 ≤ n ∧ 2 ^ (n - 1) ≤ y ∧ y < 2 ^ n)
theorem isLen_of {y x : Int} (j : Nat) (hj : j ≤ 56) (hx : x = y / 2 ^ j) (h0 : 0 ≤ x ∧ x < 256) (hp : 0 < y → 0 < x) : ∃ t : Nat, strAt f24r10s0 x.toNat = t ∧ t ≤ 8 ∧ isLen y (j + t) := by
  obtain ⟨t, h1, h2, h3, h4⟩ := lenTab_of (k := x.toNat) (by omega)
  refine ⟨t, h1, h2, by omega, fun hy => ?_⟩
  obtain ⟨a, b, c⟩ := h4 (by have := hp hy; omega)
  have e : ((x.toNat : Nat) : Int) = x := by omega
  have b' : (2 : Int) ^ (t - 1) ≤ x := by rw [← e]; exact_mod_cast b
  have c' : x < (2 : Int) ^ t := by rw [← e]; exact_mod_cast c
  obtain ⟨d, f⟩ := len_shift hx a b' c'
  exact ⟨by omega, d, f⟩
theorem Len64_spec (y : Int) (H : Heap) (hy : 0 ≤ y ∧ y ≤ 18446744073709551615) : ACallK Try.prog 24 [.int .u64 y] H (fun v H' => ∃ n : Nat, v = .int .i64 n ∧ H' = H ∧ isLen y n) := by
  refine .walkW f24_ok (by simp; decide) (by decide) ?_
  have fin : ∀ (x : Int) (j : Nat) (c : Int), c = j → j ≤ 56 → x = y / 2 ^ j → 0 ≤ x ∧ x < 256 → (0 < y → 0 < x) → @DropW H (.int .i64 (c + strAt f24r10s0 x.toNat)) H ⟨fun v H' => ∃ n : Nat, v = .int .i64 n ∧ H' = H ∧ isLen y n⟩ := by
    intro x j c hc hj hx h0 hp
    obtain ⟨t, h1, h2, h3⟩ := isLen_of j hj hx h0 hp
    exact .here ⟨j + t, by rw [h1, hc]; simp, rfl, h3⟩
  have rng : ∀ x : Int, 0 ≤ x ∧ x < 256 → 0 ≤ strAt f24r10s0 x.toNat ∧ strAt f24r10s0 x.toNat ≤ 8 := fun x hx => by
    obtain ⟨t, h1, h2, -⟩ := lenTab_of (k := x.toNat) (by omega)
    rw [h1]; omega
  by_cases b1 : 4294967296 ≤ y
  · by_cases b2 : 65536 ≤ y / 4294967296
    · by_cases b3 : 256 ≤ y / 4294967296 / 65536
      · have r := rng (y / 4294967296 / 65536 / 256) (by omega)
        repeat' first | simp (disch := first | with_reducible assumption | omega) only [go_sem, Bool.true_and, Bool.and_true, Bool.and_self, Bool.false_and, Bool.and_false, Bool.true_or, Bool.or_true, Bool.false_or, Bool.or_false, ↓reduceIte, Nat.reduceEqDiff, Nat.reduceAdd, Nat.reduceMul, Nat.reduceSub, Nat.reduceBEq, Nat.reduceLeDiff, Nat.reduceLT, Nat.reduceMod, Nat.reduceDiv, Int.reduceToNat, Int.reducePow, Int.reduceMul, Int.reduceAdd, Int.reduceSub, Int.reduceLE, Int.reduceLT, Int.reduceNeg, Int.reduceDiv, Int.reduceMod, Int.reduceEq, Int.reduceBEq, Int.reduceBNe, f24, f24b, f24r0, f24r1, f24r2, f24r3, f24r4, f24r5, f24r6, f24r7, f24r8, f24r9, f24r10, tabSize] | (refine BrW.of (fun hb => ?_) (fun hb => ?_) <;> (have hb' := hb; try simp only [decide_eq_true_eq, decide_eq_false_iff_not, beq_iff_eq, bne_iff_ne, beq_eq_false_iff_ne, bne_eq_false_iff_eq, Bool.not_eq_true', Bool.not_eq_false', Bool.not_eq_true, Bool.not_eq_false, Bool.and_eq_true, Bool.or_eq_true, Bool.and_eq_false_iff, Bool.or_eq_false_iff, Int.not_lt, Int.not_le, ne_eq, gt_iff_lt, ge_iff_le] at hb') <;> (try (exfalso; omega))) | (refine altW.of ?_ ?_)
        exact fin _ 56 56 rfl (by decide) (by omega) (by omega) (by omega)
      · have r := rng (y / 4294967296 / 65536) (by omega)
        repeat' first | simp (disch := first | with_reducible assumption | omega) only [go_sem, Bool.true_and, Bool.and_true, Bool.and_self, Bool.false_and, Bool.and_false, Bool.true_or, Bool.or_true, Bool.false_or, Bool.or_false, ↓reduceIte, Nat.reduceEqDiff, Nat.reduceAdd, Nat.reduceMul, Nat.reduceSub, Nat.reduceBEq, Nat.reduceLeDiff, Nat.reduceLT, Nat.reduceMod, Nat.reduceDiv, Int.reduceToNat, Int.reducePow, Int.reduceMul, Int.reduceAdd, Int.reduceSub, Int.reduceLE, Int.reduceLT, Int.reduceNeg, Int.reduceDiv, Int.reduceMod, Int.reduceEq, Int.reduceBEq, Int.reduceBNe, f24, f24b, f24r0, f24r1, f24r2, f24r3, f24r4, f24r5, f24r6, f24r7, f24r8, f24r9, f24r10, tabSize] | (refine BrW.of (fun hb => ?_) (fun hb => ?_) <;> (have hb' := hb; try simp only [decide_eq_true_eq, decide_eq_false_iff_not, beq_iff_eq, bne_iff_ne, beq_eq_false_iff_ne, bne_eq_false_iff_eq, Bool.not_eq_true', Bool.not_eq_false', Bool.not_eq_true, Bool.not_eq_false, Bool.and_eq_true, Bool.or_eq_true, Bool.and_eq_false_iff, Bool.or_eq_false_iff, Int.not_lt, Int.not_le, ne_eq, gt_iff_lt, ge_iff_le] at hb') <;> (try (exfalso; omega))) | (refine altW.of ?_ ?_)
        exact fin _ 48 48 rfl (by decide) (by omega) (by omega) (by omega)
    · by_cases b3 : 256 ≤ y / 4294967296
      · have r := rng (y / 4294967296 / 256) (by omega)
        repeat' first | simp (disch := first | with_reducible assumption | omega) only [go_sem, Bool.true_and, Bool.and_true, Bool.and_self, Bool.false_and, Bool.and_false, Bool.true_or, Bool.or_true, Bool.false_or, Bool.or_false, ↓reduceIte, Nat.reduceEqDiff, Nat.reduceAdd, Nat.reduceMul, Nat.reduceSub, Nat.reduceBEq, Nat.reduceLeDiff, Nat.reduceLT, Nat.reduceMod, Nat.reduceDiv, Int.reduceToNat, Int.reducePow, Int.reduceMul, Int.reduceAdd, Int.reduceSub, Int.reduceLE, Int.reduceLT, Int.reduceNeg, Int.reduceDiv, Int.reduceMod, Int.reduceEq, Int.reduceBEq, Int.reduceBNe, f24, f24b, f24r0, f24r1, f24r2, f24r3, f24r4, f24r5, f24r6, f24r7, f24r8, f24r9, f24r10, tabSize] | (refine BrW.of (fun hb => ?_) (fun hb => ?_) <;> (have hb' := hb; try simp only [decide_eq_true_eq, decide_eq_false_iff_not, beq_iff_eq, bne_iff_ne, beq_eq_false_iff_ne, bne_eq_false_iff_eq, Bool.not_eq_true', Bool.not_eq_false', Bool.not_eq_true, Bool.not_eq_false, Bool.and_eq_true, Bool.or_eq_true, Bool.and_eq_false_iff, Bool.or_eq_false_iff, Int.not_lt, Int.not_le, ne_eq, gt_iff_lt, ge_iff_le] at hb') <;> (try (exfalso; omega))) | (refine altW.of ?_ ?_)
        exact fin _ 40 40 rfl (by decide) (by omega) (by omega) (by omega)
      · have r := rng (y / 4294967296) (by omega)
        repeat' first | simp (disch := first | with_reducible assumption | omega) only [go_sem, Bool.true_and, Bool.and_true, Bool.and_self, Bool.false_and, Bool.and_false, Bool.true_or, Bool.or_true, Bool.false_or, Bool.or_false, ↓reduceIte, Nat.reduceEqDiff, Nat.reduceAdd, Nat.reduceMul, Nat.reduceSub, Nat.reduceBEq, Nat.reduceLeDiff, Nat.reduceLT, Nat.reduceMod, Nat.reduceDiv, Int.reduceToNat, Int.reducePow, Int.reduceMul, Int.reduceAdd, Int.reduceSub, Int.reduceLE, Int.reduceLT, Int.reduceNeg, Int.reduceDiv, Int.reduceMod, Int.reduceEq, Int.reduceBEq, Int.reduceBNe, f24, f24b, f24r0, f24r1, f24r2, f24r3, f24r4, f24r5, f24r6, f24r7, f24r8, f24r9, f24r10, tabSize] | (refine BrW.of (fun hb => ?_) (fun hb => ?_) <;> (have hb' := hb; try simp only [decide_eq_true_eq, decide_eq_false_iff_not, beq_iff_eq, bne_iff_ne, beq_eq_false_iff_ne, bne_eq_false_iff_eq, Bool.not_eq_true', Bool.not_eq_false', Bool.not_eq_true, Bool.not_eq_false, Bool.and_eq_true, Bool.or_eq_true, Bool.and_eq_false_iff, Bool.or_eq_false_iff, Int.not_lt, Int.not_le, ne_eq, gt_iff_lt, ge_iff_le] at hb') <;> (try (exfalso; omega))) | (refine altW.of ?_ ?_)
        exact fin _ 32 32 rfl (by decide) (by omega) (by omega) (by omega)
  · by_cases b2 : 65536 ≤ y
    · by_cases b3 : 256 ≤ y / 65536
      · have r := rng (y / 65536 / 256) (by omega)
        repeat' first | simp (disch := first | with_reducible assumption | omega) only [go_sem, Bool.true_and, Bool.and_true, Bool.and_self, Bool.false_and, Bool.and_false, Bool.true_or, Bool.or_true, Bool.false_or, Bool.or_false, ↓reduceIte, Nat.reduceEqDiff, Nat.reduceAdd, Nat.reduceMul, Nat.reduceSub, Nat.reduceBEq, Nat.reduceLeDiff, Nat.reduceLT, Nat.reduceMod, Nat.reduceDiv, Int.reduceToNat, Int.reducePow, Int.reduceMul, Int.reduceAdd, Int.reduceSub, Int.reduceLE, Int.reduceLT, Int.reduceNeg, Int.reduceDiv, Int.reduceMod, Int.reduceEq, Int.reduceBEq, Int.reduceBNe, f24, f24b, f24r0, f24r1, f24r2, f24r3, f24r4, f24r5, f24r6, f24r7, f24r8, f24r9, f24r10, tabSize] | (refine BrW.of (fun hb => ?_) (fun hb => ?_) <;> (have hb' := hb; try simp only [decide_eq_true_eq, decide_eq_false_iff_not, beq_iff_eq, bne_iff_ne, beq_eq_false_iff_ne, bne_eq_false_iff_eq, Bool.not_eq_true', Bool.not_eq_false', Bool.not_eq_true, Bool.not_eq_false, Bool.and_eq_true, Bool.or_eq_true, Bool.and_eq_false_iff, Bool.or_eq_false_iff, Int.not_lt, Int.not_le, ne_eq, gt_iff_lt, ge_iff_le] at hb') <;> (try (exfalso; omega))) | (refine altW.of ?_ ?_)
        exact fin _ 24 24 rfl (by decide) (by omega) (by omega) (by omega)
      · have r := rng (y / 65536) (by omega)
        repeat' first | simp (disch := first | with_reducible assumption | omega) only [go_sem, Bool.true_and, Bool.and_true, Bool.and_self, Bool.false_and, Bool.and_false, Bool.true_or, Bool.or_true, Bool.false_or, Bool.or_false, ↓reduceIte, Nat.reduceEqDiff, Nat.reduceAdd, Nat.reduceMul, Nat.reduceSub, Nat.reduceBEq, Nat.reduceLeDiff, Nat.reduceLT, Nat.reduceMod, Nat.reduceDiv, Int.reduceToNat, Int.reducePow, Int.reduceMul, Int.reduceAdd, Int.reduceSub, Int.reduceLE, Int.reduceLT, Int.reduceNeg, Int.reduceDiv, Int.reduceMod, Int.reduceEq, Int.reduceBEq, Int.reduceBNe, f24, f24b, f24r0, f24r1, f24r2, f24r3, f24r4, f24r5, f24r6, f24r7, f24r8, f24r9, f24r10, tabSize] | (refine BrW.of (fun hb => ?_) (fun hb => ?_) <;> (have hb' := hb; try simp only [decide_eq_true_eq, decide_eq_false_iff_not, beq_iff_eq, bne_iff_ne, beq_eq_false_iff_ne, bne_eq_false_iff_eq, Bool.not_eq_true', Bool.not_eq_false', Bool.not_eq_true, Bool.not_eq_false, Bool.and_eq_true, Bool.or_eq_true, Bool.and_eq_false_iff, Bool.or_eq_false_iff, Int.not_lt, Int.not_le, ne_eq, gt_iff_lt, ge_iff_le] at hb') <;> (try (exfalso; omega))) | (refine altW.of ?_ ?_)
        exact fin _ 16 16 rfl (by decide) (by omega) (by omega) (by omega)
    · by_cases b3 : 256 ≤ y
      · have r := rng (y / 256) (by omega)
        repeat' first | simp (disch := first | with_reducible assumption | omega) only [go_sem, Bool.true_and, Bool.and_true, Bool.and_self, Bool.false_and, Bool.and_false, Bool.true_or, Bool.or_true, Bool.false_or, Bool.or_false, ↓reduceIte, Nat.reduceEqDiff, Nat.reduceAdd, Nat.reduceMul, Nat.reduceSub, Nat.reduceBEq, Nat.reduceLeDiff, Nat.reduceLT, Nat.reduceMod, Nat.reduceDiv, Int.reduceToNat, Int.reducePow, Int.reduceMul, Int.reduceAdd, Int.reduceSub, Int.reduceLE, Int.reduceLT, Int.reduceNeg, Int.reduceDiv, Int.reduceMod, Int.reduceEq, Int.reduceBEq, Int.reduceBNe, f24, f24b, f24r0, f24r1, f24r2, f24r3, f24r4, f24r5, f24r6, f24r7, f24r8, f24r9, f24r10, tabSize] | (refine BrW.of (fun hb => ?_) (fun hb => ?_) <;> (have hb' := hb; try simp only [decide_eq_true_eq, decide_eq_false_iff_not, beq_iff_eq, bne_iff_ne, beq_eq_false_iff_ne, bne_eq_false_iff_eq, Bool.not_eq_true', Bool.not_eq_false', Bool.not_eq_true, Bool.not_eq_false, Bool.and_eq_true, Bool.or_eq_true, Bool.and_eq_false_iff, Bool.or_eq_false_iff, Int.not_lt, Int.not_le, ne_eq, gt_iff_lt, ge_iff_le] at hb') <;> (try (exfalso; omega))) | (refine altW.of ?_ ?_)
        exact fin _ 8 8 rfl (by decide) (by omega) (by omega) (by omega)
      · have r := rng y (by omega)
        repeat' first | simp (disch := first | with_reducible assumption | omega) only [go_sem, Bool.true_and, Bool.and_true, Bool.and_self, Bool.false_and, Bool.and_false, Bool.true_or, Bool.or_true, Bool.false_or, Bool.or_false, ↓reduceIte, Nat.reduceEqDiff, Nat.reduceAdd, Nat.reduceMul, Nat.reduceSub, Nat.reduceBEq, Nat.reduceLeDiff, Nat.reduceLT, Nat.reduceMod, Nat.reduceDiv, Int.reduceToNat, Int.reducePow, Int.reduceMul, Int.reduceAdd, Int.reduceSub, Int.reduceLE, Int.reduceLT, Int.reduceNeg, Int.reduceDiv, Int.reduceMod, Int.reduceEq, Int.reduceBEq, Int.reduceBNe, f24, f24b, f24r0, f24r1, f24r2, f24r3, f24r4, f24r5, f24r6, f24r7, f24r8, f24r9, f24r10, tabSize] | (refine BrW.of (fun hb => ?_) (fun hb => ?_) <;> (have hb' := hb; try simp only [decide_eq_true_eq, decide_eq_false_iff_not, beq_iff_eq, bne_iff_ne, beq_eq_false_iff_ne, bne_eq_false_iff_eq, Bool.not_eq_true', Bool.not_eq_false', Bool.not_eq_true, Bool.not_eq_false, Bool.and_eq_true, Bool.or_eq_true, Bool.and_eq_false_iff, Bool.or_eq_false_iff, Int.not_lt, Int.not_le, ne_eq, gt_iff_lt, ge_iff_le] at hb') <;> (try (exfalso; omega))) | (refine altW.of ?_ ?_)
        exact fin _ 0 0 rfl (by decide) (by omega) (by omega) (by omega)
theorem LZ_spec (y : Int) (H : Heap) (hy : 0 ≤ y ∧ y ≤ 18446744073709551615) : ACallK Try.prog 22 [.int .u64 y] H (fun v H' => ∃ n : Nat, v = .int .i64 (64 - n) ∧ H' = H ∧ isLen y n) := by
  refine .walkW f22_ok (by simp; decide) (by decide) ?_
  repeat' first | simp (disch := first | with_reducible assumption | omega) only [go_sem, Bool.true_and, Bool.and_true, Bool.and_self, Bool.false_and, Bool.and_false, Bool.true_or, Bool.or_true, Bool.false_or, Bool.or_false, ↓reduceIte, Nat.reduceEqDiff, Nat.reduceAdd, Nat.reduceMul, Nat.reduceSub, Nat.reduceBEq, Nat.reduceLeDiff, Nat.reduceLT, Nat.reduceMod, Nat.reduceDiv, Int.reduceToNat, Int.reducePow, Int.reduceMul, Int.reduceAdd, Int.reduceSub, Int.reduceLE, Int.reduceLT, Int.reduceNeg, Int.reduceDiv, Int.reduceMod, Int.reduceEq, Int.reduceBEq, Int.reduceBNe, f22, f22b, f22r0, f22r1] | (refine BrW.of (fun hb => ?_) (fun hb => ?_) <;> (have hb' := hb; try simp only [decide_eq_true_eq, decide_eq_false_iff_not, beq_iff_eq, bne_iff_ne, beq_eq_false_iff_ne, bne_eq_false_iff_eq, Bool.not_eq_true', Bool.not_eq_false', Bool.not_eq_true, Bool.not_eq_false, Bool.and_eq_true, Bool.or_eq_true, Bool.and_eq_false_iff, Bool.or_eq_false_iff, Int.not_lt, Int.not_le, ne_eq, gt_iff_lt, ge_iff_le] at hb') <;> (try (exfalso; omega))) | (refine altW.of ?_ ?_)
  refine .of ((Len64_spec y _ hy).mono ?_)
  rintro v _ ⟨n, rfl, rfl, hn⟩
  have := hn.1
  repeat' first | simp (disch := first | with_reducible assumption | omega) only [go_sem, Bool.true_and, Bool.and_true, Bool.and_self, Bool.false_and, Bool.and_false, Bool.true_or, Bool.or_true, Bool.false_or, Bool.or_false, ↓reduceIte, Nat.reduceEqDiff, Nat.reduceAdd, Nat.reduceMul, Nat.reduceSub, Nat.reduceBEq, Nat.reduceLeDiff, Nat.reduceLT, Nat.reduceMod, Nat.reduceDiv, Int.reduceToNat, Int.reducePow, Int.reduceMul, Int.reduceAdd, Int.reduceSub, Int.reduceLE, Int.reduceLT, Int.reduceNeg, Int.reduceDiv, Int.reduceMod, Int.reduceEq, Int.reduceBEq, Int.reduceBNe, f22, f22b, f22r0, f22r1] | (refine BrW.of (fun hb => ?_) (fun hb => ?_) <;> (have hb' := hb; try simp only [decide_eq_true_eq, decide_eq_false_iff_not, beq_iff_eq, bne_iff_ne, beq_eq_false_iff_ne, bne_eq_false_iff_eq, Bool.not_eq_true', Bool.not_eq_false', Bool.not_eq_true, Bool.not_eq_false, Bool.and_eq_true, Bool.or_eq_true, Bool.and_eq_false_iff, Bool.or_eq_false_iff, Int.not_lt, Int.not_le, ne_eq, gt_iff_lt, ge_iff_le] at hb') <;> (try (exfalso; omega))) | (refine altW.of ?_ ?_)
  exact .here ⟨n, rfl, rfl, hn⟩
theorem Mul64_spec (a b : Int) (H : Heap) (ha : 0 ≤ a ∧ a ≤ 18446744073709551615) (hb0 : 0 ≤ b ∧ b ≤ 18446744073709551615) : ACallK Try.prog 17 [.int .u64 a, .int .u64 b] H (fun v H' => v = .tuple #[.int .u64 (mulW a b).hi, .int .u64 (mulW a b).lo] ∧ H' = H) := by
  refine .walkW f17_ok (by simp; decide) (by decide) ?_
  have ha1 : 0 ≤ a / 4294967296 ∧ a / 4294967296 ≤ 4294967295 := by omega
  have ha0 : 0 ≤ a % 4294967296 ∧ a % 4294967296 ≤ 4294967295 := by omega
  have hb1 : 0 ≤ b / 4294967296 ∧ b / 4294967296 ≤ 4294967295 := by omega
  have hb2 : 0 ≤ b % 4294967296 ∧ b % 4294967296 ≤ 4294967295 := by omega
  have ea : a = a / 4294967296 * 4294967296 + a % 4294967296 := by omega
  have eb : b = b / 4294967296 * 4294967296 + b % 4294967296 := by omega
  have hab : a * b = (a / 4294967296 * (b / 4294967296)) * 18446744073709551616 + (a / 4294967296 * (b % 4294967296) + a % 4294967296 * (b / 4294967296)) * 4294967296 + a % 4294967296 * (b % 4294967296) := by
    conv => lhs; rw [ea, eb]
    generalize a / 4294967296 = x1; generalize a % 4294967296 = x0; generalize b / 4294967296 = y1; generalize b % 4294967296 = y0
    have e1 : x1 * 4294967296 * (y1 * 4294967296) = x1 * y1 * 18446744073709551616 := by rw [Int.mul_assoc, Int.mul_left_comm 4294967296, ← Int.mul_assoc]; rfl
    have e2 : x1 * 4294967296 * y0 = x1 * y0 * 4294967296 := Int.mul_right_comm ..
    have e3 : x0 * (y1 * 4294967296) = x0 * y1 * 4294967296 := (Int.mul_assoc ..).symm
    rw [Int.add_mul, Int.mul_add, Int.mul_add, e1, e2, e3]
    omega
  have hl : imul .u64 a b = (mulW a b).lo := wrap64 _
  have hm : (mulW a b).hi = a * b / 18446744073709551616 := rfl
  have m1 := mask32 a ha
  have m2 := mask32 b hb0
  generalize hx1 : a / 4294967296 = x1 at *
  generalize a % 4294967296 = x0 at *
  generalize hy1 : b / 4294967296 = y1 at *
  generalize b % 4294967296 = y0 at *
  have bd : ∀ p q : Int, 0 ≤ p ∧ p ≤ 4294967295 → 0 ≤ q ∧ q ≤ 4294967295 → 0 ≤ p * q ∧ p * q ≤ 18446744065119617025 := fun p q hp hq => ⟨Int.mul_nonneg hp.1 hq.1, Int.mul_le_mul hp.2 hq.2 hq.1 (by decide)⟩
  have p11 := bd x1 y1 ha1 hb1
  have p10 := bd x1 y0 ha1 hb2
  have p01 := bd x0 y1 ha0 hb1
  have p00 := bd x0 y0 ha0 hb2
  clear bd ea eb
  generalize h11 : x1 * y1 = P11 at *
  generalize h10 : x1 * y0 = P10 at *
  generalize h01 : x0 * y1 = P01 at *
  generalize h00 : x0 * y0 = P00 at *
  have k1 : iand .u64 (P10 + P00 / 4294967296) 4294967295 = (P10 + P00 / 4294967296) % 4294967296 := mask32 _ (by omega)
  clear ha hb0
  have fin : P11 + (P10 + P00 / 4294967296) / 4294967296 + ((P10 + P00 / 4294967296) % 4294967296 + P01) / 4294967296 = (mulW a b).hi := by rw [hm, hab]; omega
  have hr : (mulW a b).hi ≤ 18446744073709551615 := by rw [hm]; omega
  clear hab hm
  repeat' first | simp (disch := first | with_reducible assumption | omega) only [go_sem, Bool.true_and, Bool.and_true, Bool.and_self, Bool.false_and, Bool.and_false, Bool.true_or, Bool.or_true, Bool.false_or, Bool.or_false, ↓reduceIte, Nat.reduceEqDiff, Nat.reduceAdd, Nat.reduceMul, Nat.reduceSub, Nat.reduceBEq, Nat.reduceLeDiff, Nat.reduceLT, Nat.reduceMod, Nat.reduceDiv, Int.reduceToNat, Int.reducePow, Int.reduceMul, Int.reduceAdd, Int.reduceSub, Int.reduceLE, Int.reduceLT, Int.reduceNeg, Int.reduceDiv, Int.reduceMod, Int.reduceEq, Int.reduceBEq, Int.reduceBNe, f17, f17b, f17r0, f17r1, f17r2, f17r3, f17r4, f17r5, f17r6, f17r7, f17r8, f17r9, f17r10, f17r11, hx1, hy1, m1, m2, h11, h10, h01, h00, k1, hl] | (refine BrW.of (fun hb => ?_) (fun hb => ?_) <;> (have hb' := hb; try simp only [decide_eq_true_eq, decide_eq_false_iff_not, beq_iff_eq, bne_iff_ne, beq_eq_false_iff_ne, bne_eq_false_iff_eq, Bool.not_eq_true', Bool.not_eq_false', Bool.not_eq_true, Bool.not_eq_false, Bool.and_eq_true, Bool.or_eq_true, Bool.and_eq_false_iff, Bool.or_eq_false_iff, Int.not_lt, Int.not_le, ne_eq, gt_iff_lt, ge_iff_le] at hb') <;> (try (exfalso; omega))) | (refine altW.of ?_ ?_)
  rw [fin]
  exact .here ⟨rfl, rfl⟩
theorem or_add {p hp l : Int} {k : Nat} (hk : k ≤ 64) (hpk : p = 2 ^ k) {x : Int} (hx : hp = x * p) (h0 : 0 ≤ hp) (hl : 0 ≤ l ∧ l < p) (hs : hp + l < 18446744073709551616) : ior .u64 hp l = hp + l := by
  unfold ior
  have e : IntKind.u64.bits = 64 := rfl
  rw [e]
  have hpp : (0 : Int) < p := by omega
  have hx0 : 0 ≤ x := by
    refine Classical.byContradiction fun hn => ?_
    have : x * p ≤ (-1) * p := Int.mul_le_mul_of_nonneg_right (by omega) (by omega)
    omega
  obtain ⟨n, rfl⟩ := Int.eq_ofNat_of_zero_le hx0
  obtain ⟨m, rfl⟩ := Int.eq_ofNat_of_zero_le hl.1
  have hq : hp = ((2 ^ k * n : Nat) : Int) := by rw [hx, hpk, Int.mul_comm]; simp
  rw [hq] at hs ⊢
  have hm : m < 2 ^ k := by have := hl.2; rw [hpk] at this; exact_mod_cast this
  have h1 : 2 ^ k * n < 2 ^ 64 := by
    refine Nat.lt_of_lt_of_le (m := 18446744073709551616) ?_ (by decide)
    generalize 2 ^ k * n = N at hs ⊢; omega
  have h2 : m < 2 ^ 64 := by
    refine Nat.lt_of_lt_of_le (m := 18446744073709551616) ?_ (by decide)
    generalize 2 ^ k * n = N at hs ⊢; omega
  simp only [BitVec.toNat_or, BitVec.ofInt_natCast, BitVec.toNat_ofNat]
  rw [Nat.mod_eq_of_lt h1, Nat.mod_eq_of_lt h2, ← Nat.two_pow_add_eq_or_of_lt hm]
  rw [wrap_u64 _ (by omega)]
  simp
theorem Div64_spec (hi lo y : Int) (H : Heap) (hh : 0 ≤ hi ∧ hi < y) (hy : 1 ≤ y ∧ y ≤ 18446744073709551615) (hl : 0 ≤ lo ∧ lo ≤ 18446744073709551615) : ACallK Try.prog 16 [.int .u64 hi, .int .u64 lo, .int .u64 y] H (fun v H' => v = .tuple #[.int .u64 ((hi * 18446744073709551616 + lo) / y), .int .u64 ((hi * 18446744073709551616 + lo) % y)] ∧ H' = H) := by
  refine .walkW f16_ok (by simp; decide) (by decide) ?_
  have hy0 : (y == 0) = false := by simp; omega
  by_cases h0 : hi = 0
  · subst h0
    repeat' first | simp (disch := first | with_reducible assumption | omega) only [go_sem, Bool.true_and, Bool.and_true, Bool.and_self, Bool.false_and, Bool.and_false, Bool.true_or, Bool.or_true, Bool.false_or, Bool.or_false, ↓reduceIte, Nat.reduceEqDiff, Nat.reduceAdd, Nat.reduceMul, Nat.reduceSub, Nat.reduceBEq, Nat.reduceLeDiff, Nat.reduceLT, Nat.reduceMod, Nat.reduceDiv, Int.reduceToNat, Int.reducePow, Int.reduceMul, Int.reduceAdd, Int.reduceSub, Int.reduceLE, Int.reduceLT, Int.reduceNeg, Int.reduceDiv, Int.reduceMod, Int.reduceEq, Int.reduceBEq, Int.reduceBNe, f16, f16b, f16r0, f16r1, f16r2, f16r3, f16r4, f16r5, f16r6, f16r7, f16r8, f16r9, f16r10, f16r11, f16r12, f16r13, f16r14, f16r15, f16r16, f16r17, f16r18, f16r19, f16r20, f16r22, f16r23, f16r24, f16r25, f16r26, f16r27, f16r28, f16r30] | (refine BrW.of (fun hb => ?_) (fun hb => ?_) <;> (have hb' := hb; try simp only [decide_eq_true_eq, decide_eq_false_iff_not, beq_iff_eq, bne_iff_ne, beq_eq_false_iff_ne, bne_eq_false_iff_eq, Bool.not_eq_true', Bool.not_eq_false', Bool.not_eq_true, Bool.not_eq_false, Bool.and_eq_true, Bool.or_eq_true, Bool.and_eq_false_iff, Bool.or_eq_false_iff, Int.not_lt, Int.not_le, ne_eq, gt_iff_lt, ge_iff_le] at hb') <;> (try (exfalso; omega))) | (refine altW.of ?_ ?_)
    exact .here ⟨by simp, rfl⟩
  · repeat' first | simp (disch := first | with_reducible assumption | omega) only [go_sem, Bool.true_and, Bool.and_true, Bool.and_self, Bool.false_and, Bool.and_false, Bool.true_or, Bool.or_true, Bool.false_or, Bool.or_false, ↓reduceIte, Nat.reduceEqDiff, Nat.reduceAdd, Nat.reduceMul, Nat.reduceSub, Nat.reduceBEq, Nat.reduceLeDiff, Nat.reduceLT, Nat.reduceMod, Nat.reduceDiv, Int.reduceToNat, Int.reducePow, Int.reduceMul, Int.reduceAdd, Int.reduceSub, Int.reduceLE, Int.reduceLT, Int.reduceNeg, Int.reduceDiv, Int.reduceMod, Int.reduceEq, Int.reduceBEq, Int.reduceBNe, f16, f16b, f16r0, f16r1, f16r2, f16r3, f16r4, f16r5, f16r6, f16r7, f16r8, f16r9, f16r10, f16r11, f16r12, f16r13, f16r14, f16r15, f16r16, f16r17, f16r18, f16r19, f16r20, f16r22, f16r23, f16r24, f16r25, f16r26, f16r27, f16r28, f16r30] | (refine BrW.of (fun hb => ?_) (fun hb => ?_) <;> (have hb' := hb; try simp only [decide_eq_true_eq, decide_eq_false_iff_not, beq_iff_eq, bne_iff_ne, beq_eq_false_iff_ne, bne_eq_false_iff_eq, Bool.not_eq_true', Bool.not_eq_false', Bool.not_eq_true, Bool.not_eq_false, Bool.and_eq_true, Bool.or_eq_true, Bool.and_eq_false_iff, Bool.or_eq_false_iff, Int.not_lt, Int.not_le, ne_eq, gt_iff_lt, ge_iff_le] at hb') <;> (try (exfalso; omega))) | (refine altW.of ?_ ?_)
    refine .of ((LZ_spec y _ ⟨by omega, hy.2⟩).mono ?_)
    rintro v H' ⟨n, rfl, rfl, hn⟩
    obtain ⟨n64, hn⟩ := hn
    obtain ⟨n1, n2, n3⟩ := hn (by omega)
    have hsh := Sh.of ⟨n1, n64⟩ n2 n3 hh ⟨hl.1, by omega⟩
    have t1 : (64 - (n : Int)).toNat = 64 - n := by omega
    have t2 : (64 - (64 - (n : Int))).toNat = n := by omega
    have hor := fun (h1 : 0 ≤ lo / 2 ^ n ∧ lo / 2 ^ n < 2 ^ (64 - n)) (h2 : hi * 2 ^ (64 - n) + lo / 2 ^ n < 18446744073709551616) => or_add (k := 64 - n) (by omega) rfl (x := hi) rfl hsh.hp.1 h1 h2
    generalize hp : (2 : Int) ^ (64 - n) = p at *
    generalize he : (2 : Int) ^ n = e at *
    have hq := hsh.q
    have hhp := hsh.hp
    have hor := hor hq (by have := hsh.y2; omega)
    have d1 := hsh.dg1
    have hy1 := hsh.y1
    have hy2 := hsh.y2
    have hm1 := mask32 (y * p) (by omega)
    have hm2 := mask32 (lo * p % 18446744073709551616) (by omega)
    have hlp : imul .u64 lo p = lo * p % 18446744073709551616 := wrap64 _
    have hp1 := hsh.p1
    have hd2 := fun r hr => hsh.dg2 (r := r) hr
    have hfin := fun {q1 q0 r1 r0 : Int} (h1 : (hi * p + lo / e) * 4294967296 + lo * p % 18446744073709551616 / 4294967296 - q1 * (y * p) = r1) h2 h3 => hsh.fin (q1 := q1) (q0 := q0) (r1 := r1) (r0 := r0) rfl rfl h1 h2 h3
    clear n2 n3 hn hsh
    generalize (hi * 18446744073709551616 + lo) / y = QQ at *
    generalize (hi * 18446744073709551616 + lo) % y = RR at *
    generalize hY : y * p = Y at *
    generalize hHP : hi * p = HP at *
    generalize hLE : lo / e = LE at *
    generalize hLP : lo * p % 18446744073709551616 = LP at *
    have lp : 0 ≤ LP ∧ LP ≤ 18446744073709551615 := by omega
    generalize hY1 : Y / 4294967296 = y1 at *
    generalize hY0 : Y % 4294967296 = y0 at *
    generalize hL1 : LP / 4294967296 = l1 at *
    generalize hL0 : LP % 4294967296 = l0 at *
    have u := d1.eu
    have eh1 := d1.h1
    have eh0 := d1.h0
    have ed := d1.ed
    generalize hU : HP + LE = U at *
    have i1 := d1.start
    have i1r := i1.r0
    have i1q := i1.q
    have hqm : 0 ≤ U / y1 * y1 := Int.mul_nonneg i1q.1 (by omega)
    repeat' first | simp (disch := first | with_reducible assumption | omega) only [go_sem, Bool.true_and, Bool.and_true, Bool.and_self, Bool.false_and, Bool.and_false, Bool.true_or, Bool.or_true, Bool.false_or, Bool.or_false, ↓reduceIte, Nat.reduceEqDiff, Nat.reduceAdd, Nat.reduceMul, Nat.reduceSub, Nat.reduceBEq, Nat.reduceLeDiff, Nat.reduceLT, Nat.reduceMod, Nat.reduceDiv, Int.reduceToNat, Int.reducePow, Int.reduceMul, Int.reduceAdd, Int.reduceSub, Int.reduceLE, Int.reduceLT, Int.reduceNeg, Int.reduceDiv, Int.reduceMod, Int.reduceEq, Int.reduceBEq, Int.reduceBNe, f16, f16b, f16r0, f16r1, f16r2, f16r3, f16r4, f16r5, f16r6, f16r7, f16r8, f16r9, f16r10, f16r11, f16r12, f16r13, f16r14, f16r15, f16r16, f16r17, f16r18, f16r19, f16r20, f16r22, f16r23, f16r24, f16r25, f16r26, f16r27, f16r28, f16r30, t1, t2, hp, he, hlp, hm1, hm2, hor, hY, hHP, hLE, hLP, hY1, hY0, hL1, hL0, hU] | (refine BrW.of (fun hb => ?_) (fun hb => ?_) <;> (have hb' := hb; try simp only [decide_eq_true_eq, decide_eq_false_iff_not, beq_iff_eq, bne_iff_ne, beq_eq_false_iff_ne, bne_eq_false_iff_eq, Bool.not_eq_true', Bool.not_eq_false', Bool.not_eq_true, Bool.not_eq_false, Bool.and_eq_true, Bool.or_eq_true, Bool.and_eq_false_iff, Bool.or_eq_false_iff, Int.not_lt, Int.not_le, ne_eq, gt_iff_lt, ge_iff_le] at hb') <;> (try (exfalso; omega))) | (refine altW.of ?_ ?_)
    clear hlp hm1 hm2 hor hHP hLE hLP hU
    refine loopW.of (by decide) (fun m e J => ∃ qh rh : Int, e = [(2, .int .u64 Y), (8, .int .u64 (64 - n)), (9, .int .u64 y1), (10, .int .u64 y0), (11, .int .u64 U), (13, .int .u64 l1), (14, .int .u64 l0), (15, .int .u64 qh), (16, .int .u64 rh)] ∧ J = H' ∧ DgI Y y1 y0 U l1 qh rh ∧ m = qh.toNat) (U / y1).toNat ⟨_, _, rfl, rfl, i1, rfl⟩ ?_
    rintro m e J ⟨qh, rh, rfl, rfl, i2, rfl⟩
    have q2 := i2.q
    have r2 := i2.r0
    have dl := d1.dq_lt
    have dr := d1.rest_range
    by_cases hbig : 4294967296 ≤ qh
    · have hm := i2.more d1 (.inl hbig)
      by_cases hbk : 4294967296 ≤ rh + y1
      · have hst := i2.brk d1 (.inl hbig) hbk
        generalize hQ1 : qh - 1 = q1 at *
        rw [← hst] at dr dl
        have hdg : isub .u64 (iadd .u64 (imul .u64 U 4294967296) l1) (imul .u64 q1 Y) = U * 4294967296 + l1 - q1 * Y := by rw [digit64]; exact Int.emod_eq_of_lt dr.1 (by omega)
        generalize hR1 : U * 4294967296 + l1 - q1 * Y = R1 at *
        have d2 := hd2 R1 dr
        have i3 := d2.start
        have i3r := i3.r0
        have i3q := i3.q
        have hqm2 : 0 ≤ R1 / y1 * y1 := Int.mul_nonneg i3q.1 (by omega)
        repeat' first | simp (disch := first | with_reducible assumption | omega) only [go_sem, Bool.true_and, Bool.and_true, Bool.and_self, Bool.false_and, Bool.and_false, Bool.true_or, Bool.or_true, Bool.false_or, Bool.or_false, ↓reduceIte, Nat.reduceEqDiff, Nat.reduceAdd, Nat.reduceMul, Nat.reduceSub, Nat.reduceBEq, Nat.reduceLeDiff, Nat.reduceLT, Nat.reduceMod, Nat.reduceDiv, Int.reduceToNat, Int.reducePow, Int.reduceMul, Int.reduceAdd, Int.reduceSub, Int.reduceLE, Int.reduceLT, Int.reduceNeg, Int.reduceDiv, Int.reduceMod, Int.reduceEq, Int.reduceBEq, Int.reduceBNe, f16, f16b, f16r0, f16r1, f16r2, f16r3, f16r4, f16r5, f16r6, f16r7, f16r8, f16r9, f16r10, f16r11, f16r12, f16r13, f16r14, f16r15, f16r16, f16r17, f16r18, f16r19, f16r20, f16r22, f16r23, f16r24, f16r25, f16r26, f16r27, f16r28, f16r30, f16l0, f16, f16b, f16r0, f16r1, f16r2, f16r3, f16r4, f16r5, f16r6, f16r7, f16r8, f16r9, f16r10, f16r11, f16r12, f16r13, f16r14, f16r15, f16r16, f16r17, f16r18, f16r19, f16r20, f16r22, f16r23, f16r24, f16r25, f16r26, f16r27, f16r28, f16r30, hQ1, hdg] | (refine BrW.of (fun hb => ?_) (fun hb => ?_) <;> (have hb' := hb; try simp only [decide_eq_true_eq, decide_eq_false_iff_not, beq_iff_eq, bne_iff_ne, beq_eq_false_iff_ne, bne_eq_false_iff_eq, Bool.not_eq_true', Bool.not_eq_false', Bool.not_eq_true, Bool.not_eq_false, Bool.and_eq_true, Bool.or_eq_true, Bool.and_eq_false_iff, Bool.or_eq_false_iff, Int.not_lt, Int.not_le, ne_eq, gt_iff_lt, ge_iff_le] at hb') <;> (try (exfalso; omega))) | (refine altW.of ?_ ?_)
        refine loopW.of (by decide) (fun m e J2 => ∃ qh2 rh2 : Int, e = [(2, .int .u64 Y), (8, .int .u64 (64 - n)), (9, .int .u64 y1), (10, .int .u64 y0), (14, .int .u64 l0), (15, .int .u64 q1), (16, .int .u64 rh2), (17, .int .u64 R1), (18, .int .u64 qh2)] ∧ J2 = J ∧ DgI Y y1 y0 R1 l0 qh2 rh2 ∧ m = qh2.toNat) (R1 / y1).toNat ⟨_, _, rfl, rfl, i3, rfl⟩ ?_
        rintro m e J2 ⟨qh2, rh2, rfl, rfl, i4, rfl⟩
        have q4 := i4.q
        have r4 := i4.r0
        have dl2 := d2.dq_lt
        have dr2 := d2.rest_range
        by_cases hbig2 : 4294967296 ≤ qh2
        · have hm := i4.more d2 (.inl hbig2)
          by_cases hbk : 4294967296 ≤ rh2 + y1
          · have hst2 := i4.brk d2 (.inl hbig2) hbk
            generalize hQ2 : qh2 - 1 = q0 at *
            rw [← hst2] at dr2 dl2
            have hdg2 : isub .u64 (iadd .u64 (imul .u64 R1 4294967296) l0) (imul .u64 q0 Y) = R1 * 4294967296 + l0 - q0 * Y := by rw [digit64]; exact Int.emod_eq_of_lt dr2.1 (by omega)
            have hf := hfin hR1 rfl dr2
            generalize hR0 : R1 * 4294967296 + l0 - q0 * Y = R0 at *
            repeat' first | simp (disch := first | with_reducible assumption | omega) only [go_sem, Bool.true_and, Bool.and_true, Bool.and_self, Bool.false_and, Bool.and_false, Bool.true_or, Bool.or_true, Bool.false_or, Bool.or_false, ↓reduceIte, Nat.reduceEqDiff, Nat.reduceAdd, Nat.reduceMul, Nat.reduceSub, Nat.reduceBEq, Nat.reduceLeDiff, Nat.reduceLT, Nat.reduceMod, Nat.reduceDiv, Int.reduceToNat, Int.reducePow, Int.reduceMul, Int.reduceAdd, Int.reduceSub, Int.reduceLE, Int.reduceLT, Int.reduceNeg, Int.reduceDiv, Int.reduceMod, Int.reduceEq, Int.reduceBEq, Int.reduceBNe, f16, f16b, f16r0, f16r1, f16r2, f16r3, f16r4, f16r5, f16r6, f16r7, f16r8, f16r9, f16r10, f16r11, f16r12, f16r13, f16r14, f16r15, f16r16, f16r17, f16r18, f16r19, f16r20, f16r22, f16r23, f16r24, f16r25, f16r26, f16r27, f16r28, f16r30, f16l1, f16, f16b, f16r0, f16r1, f16r2, f16r3, f16r4, f16r5, f16r6, f16r7, f16r8, f16r9, f16r10, f16r11, f16r12, f16r13, f16r14, f16r15, f16r16, f16r17, f16r18, f16r19, f16r20, f16r22, f16r23, f16r24, f16r25, f16r26, f16r27, f16r28, f16r30, hQ2, hdg2, t1, hp, hf.1, hf.2] | (refine BrW.of (fun hb => ?_) (fun hb => ?_) <;> (have hb' := hb; try simp only [decide_eq_true_eq, decide_eq_false_iff_not, beq_iff_eq, bne_iff_ne, beq_eq_false_iff_ne, bne_eq_false_iff_eq, Bool.not_eq_true', Bool.not_eq_false', Bool.not_eq_true, Bool.not_eq_false, Bool.and_eq_true, Bool.or_eq_true, Bool.and_eq_false_iff, Bool.or_eq_false_iff, Int.not_lt, Int.not_le, ne_eq, gt_iff_lt, ge_iff_le] at hb') <;> (try (exfalso; omega))) | (refine altW.of ?_ ?_)
            exact .here ⟨rfl, rfl⟩
          · have nx := i4.next d2 (.inl hbig2) hbk
            repeat' first | simp (disch := first | with_reducible assumption | omega) only [go_sem, Bool.true_and, Bool.and_true, Bool.and_self, Bool.false_and, Bool.and_false, Bool.true_or, Bool.or_true, Bool.false_or, Bool.or_false, ↓reduceIte, Nat.reduceEqDiff, Nat.reduceAdd, Nat.reduceMul, Nat.reduceSub, Nat.reduceBEq, Nat.reduceLeDiff, Nat.reduceLT, Nat.reduceMod, Nat.reduceDiv, Int.reduceToNat, Int.reducePow, Int.reduceMul, Int.reduceAdd, Int.reduceSub, Int.reduceLE, Int.reduceLT, Int.reduceNeg, Int.reduceDiv, Int.reduceMod, Int.reduceEq, Int.reduceBEq, Int.reduceBNe, f16, f16b, f16r0, f16r1, f16r2, f16r3, f16r4, f16r5, f16r6, f16r7, f16r8, f16r9, f16r10, f16r11, f16r12, f16r13, f16r14, f16r15, f16r16, f16r17, f16r18, f16r19, f16r20, f16r22, f16r23, f16r24, f16r25, f16r26, f16r27, f16r28, f16r30, f16l1, f16, f16b, f16r0, f16r1, f16r2, f16r3, f16r4, f16r5, f16r6, f16r7, f16r8, f16r9, f16r10, f16r11, f16r12, f16r13, f16r14, f16r15, f16r16, f16r17, f16r18, f16r19, f16r20, f16r22, f16r23, f16r24, f16r25, f16r26, f16r27, f16r28, f16r30] | (refine BrW.of (fun hb => ?_) (fun hb => ?_) <;> (have hb' := hb; try simp only [decide_eq_true_eq, decide_eq_false_iff_not, beq_iff_eq, bne_iff_ne, beq_eq_false_iff_ne, bne_eq_false_iff_eq, Bool.not_eq_true', Bool.not_eq_false', Bool.not_eq_true, Bool.not_eq_false, Bool.and_eq_true, Bool.or_eq_true, Bool.and_eq_false_iff, Bool.or_eq_false_iff, Int.not_lt, Int.not_le, ne_eq, gt_iff_lt, ge_iff_le] at hb') <;> (try (exfalso; omega))) | (refine altW.of ?_ ?_)
            refine RdW.keep [2, 8, 9, 10, 14, 15, 16, 17, 18] (qh2 - 1).toNat (by omega) ?_
            simp (disch := first | with_reducible assumption | omega) only [go_sem, Bool.true_and, Bool.and_true, Bool.and_self, Bool.false_and, Bool.and_false, Bool.true_or, Bool.or_true, Bool.false_or, Bool.or_false, ↓reduceIte, Nat.reduceEqDiff, Nat.reduceAdd, Nat.reduceMul, Nat.reduceSub, Nat.reduceBEq, Nat.reduceLeDiff, Nat.reduceLT, Nat.reduceMod, Nat.reduceDiv, Int.reduceToNat, Int.reducePow, Int.reduceMul, Int.reduceAdd, Int.reduceSub, Int.reduceLE, Int.reduceLT, Int.reduceNeg, Int.reduceDiv, Int.reduceMod, Int.reduceEq, Int.reduceBEq, Int.reduceBNe]
            exact ⟨_, _, rfl, nx, rfl⟩
        · have hqy2 : 0 ≤ qh2 * y0 ∧ qh2 * y0 ≤ 18446744065119617025 := ⟨Int.mul_nonneg q4.1 eh0.1, Int.mul_le_mul (show qh2 ≤ 4294967295 by omega) (show y0 ≤ 4294967295 by omega) eh0.1 (by decide)⟩
          by_cases ht2 : 4294967296 * rh2 + l0 < qh2 * y0
          · have hm := i4.more d2 (.inr ht2)
            by_cases hbk : 4294967296 ≤ rh2 + y1
            · have hst2 := i4.brk d2 (.inr ht2) hbk
              generalize hQ2 : qh2 - 1 = q0 at *
              rw [← hst2] at dr2 dl2
              have hdg2 : isub .u64 (iadd .u64 (imul .u64 R1 4294967296) l0) (imul .u64 q0 Y) = R1 * 4294967296 + l0 - q0 * Y := by rw [digit64]; exact Int.emod_eq_of_lt dr2.1 (by omega)
              have hf := hfin hR1 rfl dr2
              generalize hR0 : R1 * 4294967296 + l0 - q0 * Y = R0 at *
              repeat' first | simp (disch := first | with_reducible assumption | omega) only [go_sem, Bool.true_and, Bool.and_true, Bool.and_self, Bool.false_and, Bool.and_false, Bool.true_or, Bool.or_true, Bool.false_or, Bool.or_false, ↓reduceIte, Nat.reduceEqDiff, Nat.reduceAdd, Nat.reduceMul, Nat.reduceSub, Nat.reduceBEq, Nat.reduceLeDiff, Nat.reduceLT, Nat.reduceMod, Nat.reduceDiv, Int.reduceToNat, Int.reducePow, Int.reduceMul, Int.reduceAdd, Int.reduceSub, Int.reduceLE, Int.reduceLT, Int.reduceNeg, Int.reduceDiv, Int.reduceMod, Int.reduceEq, Int.reduceBEq, Int.reduceBNe, f16, f16b, f16r0, f16r1, f16r2, f16r3, f16r4, f16r5, f16r6, f16r7, f16r8, f16r9, f16r10, f16r11, f16r12, f16r13, f16r14, f16r15, f16r16, f16r17, f16r18, f16r19, f16r20, f16r22, f16r23, f16r24, f16r25, f16r26, f16r27, f16r28, f16r30, f16l1, f16, f16b, f16r0, f16r1, f16r2, f16r3, f16r4, f16r5, f16r6, f16r7, f16r8, f16r9, f16r10, f16r11, f16r12, f16r13, f16r14, f16r15, f16r16, f16r17, f16r18, f16r19, f16r20, f16r22, f16r23, f16r24, f16r25, f16r26, f16r27, f16r28, f16r30, hQ2, hdg2, t1, hp, hf.1, hf.2] | (refine BrW.of (fun hb => ?_) (fun hb => ?_) <;> (have hb' := hb; try simp only [decide_eq_true_eq, decide_eq_false_iff_not, beq_iff_eq, bne_iff_ne, beq_eq_false_iff_ne, bne_eq_false_iff_eq, Bool.not_eq_true', Bool.not_eq_false', Bool.not_eq_true, Bool.not_eq_false, Bool.and_eq_true, Bool.or_eq_true, Bool.and_eq_false_iff, Bool.or_eq_false_iff, Int.not_lt, Int.not_le, ne_eq, gt_iff_lt, ge_iff_le] at hb') <;> (try (exfalso; omega))) | (refine altW.of ?_ ?_)
              exact .here ⟨rfl, rfl⟩
            · have nx := i4.next d2 (.inr ht2) hbk
              repeat' first | simp (disch := first | with_reducible assumption | omega) only [go_sem, Bool.true_and, Bool.and_true, Bool.and_self, Bool.false_and, Bool.and_false, Bool.true_or, Bool.or_true, Bool.false_or, Bool.or_false, ↓reduceIte, Nat.reduceEqDiff, Nat.reduceAdd, Nat.reduceMul, Nat.reduceSub, Nat.reduceBEq, Nat.reduceLeDiff, Nat.reduceLT, Nat.reduceMod, Nat.reduceDiv, Int.reduceToNat, Int.reducePow, Int.reduceMul, Int.reduceAdd, Int.reduceSub, Int.reduceLE, Int.reduceLT, Int.reduceNeg, Int.reduceDiv, Int.reduceMod, Int.reduceEq, Int.reduceBEq, Int.reduceBNe, f16, f16b, f16r0, f16r1, f16r2, f16r3, f16r4, f16r5, f16r6, f16r7, f16r8, f16r9, f16r10, f16r11, f16r12, f16r13, f16r14, f16r15, f16r16, f16r17, f16r18, f16r19, f16r20, f16r22, f16r23, f16r24, f16r25, f16r26, f16r27, f16r28, f16r30, f16l1, f16, f16b, f16r0, f16r1, f16r2, f16r3, f16r4, f16r5, f16r6, f16r7, f16r8, f16r9, f16r10, f16r11, f16r12, f16r13, f16r14, f16r15, f16r16, f16r17, f16r18, f16r19, f16r20, f16r22, f16r23, f16r24, f16r25, f16r26, f16r27, f16r28, f16r30] | (refine BrW.of (fun hb => ?_) (fun hb => ?_) <;> (have hb' := hb; try simp only [decide_eq_true_eq, decide_eq_false_iff_not, beq_iff_eq, bne_iff_ne, beq_eq_false_iff_ne, bne_eq_false_iff_eq, Bool.not_eq_true', Bool.not_eq_false', Bool.not_eq_true, Bool.not_eq_false, Bool.and_eq_true, Bool.or_eq_true, Bool.and_eq_false_iff, Bool.or_eq_false_iff, Int.not_lt, Int.not_le, ne_eq, gt_iff_lt, ge_iff_le] at hb') <;> (try (exfalso; omega))) | (refine altW.of ?_ ?_)
              refine RdW.keep [2, 8, 9, 10, 14, 15, 16, 17, 18] (qh2 - 1).toNat (by omega) ?_
              simp (disch := first | with_reducible assumption | omega) only [go_sem, Bool.true_and, Bool.and_true, Bool.and_self, Bool.false_and, Bool.and_false, Bool.true_or, Bool.or_true, Bool.false_or, Bool.or_false, ↓reduceIte, Nat.reduceEqDiff, Nat.reduceAdd, Nat.reduceMul, Nat.reduceSub, Nat.reduceBEq, Nat.reduceLeDiff, Nat.reduceLT, Nat.reduceMod, Nat.reduceDiv, Int.reduceToNat, Int.reducePow, Int.reduceMul, Int.reduceAdd, Int.reduceSub, Int.reduceLE, Int.reduceLT, Int.reduceNeg, Int.reduceDiv, Int.reduceMod, Int.reduceEq, Int.reduceBEq, Int.reduceBNe]
              exact ⟨_, _, rfl, nx, rfl⟩
          · have hst2 := i4.stop d2 ht2
            generalize hQ2 : qh2 = q0 at *
            rw [← hst2] at dr2 dl2
            have hdg2 : isub .u64 (iadd .u64 (imul .u64 R1 4294967296) l0) (imul .u64 q0 Y) = R1 * 4294967296 + l0 - q0 * Y := by rw [digit64]; exact Int.emod_eq_of_lt dr2.1 (by omega)
            have hf := hfin hR1 rfl dr2
            generalize hR0 : R1 * 4294967296 + l0 - q0 * Y = R0 at *
            repeat' first | simp (disch := first | with_reducible assumption | omega) only [go_sem, Bool.true_and, Bool.and_true, Bool.and_self, Bool.false_and, Bool.and_false, Bool.true_or, Bool.or_true, Bool.false_or, Bool.or_false, ↓reduceIte, Nat.reduceEqDiff, Nat.reduceAdd, Nat.reduceMul, Nat.reduceSub, Nat.reduceBEq, Nat.reduceLeDiff, Nat.reduceLT, Nat.reduceMod, Nat.reduceDiv, Int.reduceToNat, Int.reducePow, Int.reduceMul, Int.reduceAdd, Int.reduceSub, Int.reduceLE, Int.reduceLT, Int.reduceNeg, Int.reduceDiv, Int.reduceMod, Int.reduceEq, Int.reduceBEq, Int.reduceBNe, f16, f16b, f16r0, f16r1, f16r2, f16r3, f16r4, f16r5, f16r6, f16r7, f16r8, f16r9, f16r10, f16r11, f16r12, f16r13, f16r14, f16r15, f16r16, f16r17, f16r18, f16r19, f16r20, f16r22, f16r23, f16r24, f16r25, f16r26, f16r27, f16r28, f16r30, f16l1, f16, f16b, f16r0, f16r1, f16r2, f16r3, f16r4, f16r5, f16r6, f16r7, f16r8, f16r9, f16r10, f16r11, f16r12, f16r13, f16r14, f16r15, f16r16, f16r17, f16r18, f16r19, f16r20, f16r22, f16r23, f16r24, f16r25, f16r26, f16r27, f16r28, f16r30, hQ2, hdg2, t1, hp, hf.1, hf.2] | (refine BrW.of (fun hb => ?_) (fun hb => ?_) <;> (have hb' := hb; try simp only [decide_eq_true_eq, decide_eq_false_iff_not, beq_iff_eq, bne_iff_ne, beq_eq_false_iff_ne, bne_eq_false_iff_eq, Bool.not_eq_true', Bool.not_eq_false', Bool.not_eq_true, Bool.not_eq_false, Bool.and_eq_true, Bool.or_eq_true, Bool.and_eq_false_iff, Bool.or_eq_false_iff, Int.not_lt, Int.not_le, ne_eq, gt_iff_lt, ge_iff_le] at hb') <;> (try (exfalso; omega))) | (refine altW.of ?_ ?_)
            exact .here ⟨rfl, rfl⟩
      · have nx := i2.next d1 (.inl hbig) hbk
        repeat' first | simp (disch := first | with_reducible assumption | omega) only [go_sem, Bool.true_and, Bool.and_true, Bool.and_self, Bool.false_and, Bool.and_false, Bool.true_or, Bool.or_true, Bool.false_or, Bool.or_false, ↓reduceIte, Nat.reduceEqDiff, Nat.reduceAdd, Nat.reduceMul, Nat.reduceSub, Nat.reduceBEq, Nat.reduceLeDiff, Nat.reduceLT, Nat.reduceMod, Nat.reduceDiv, Int.reduceToNat, Int.reducePow, Int.reduceMul, Int.reduceAdd, Int.reduceSub, Int.reduceLE, Int.reduceLT, Int.reduceNeg, Int.reduceDiv, Int.reduceMod, Int.reduceEq, Int.reduceBEq, Int.reduceBNe, f16, f16b, f16r0, f16r1, f16r2, f16r3, f16r4, f16r5, f16r6, f16r7, f16r8, f16r9, f16r10, f16r11, f16r12, f16r13, f16r14, f16r15, f16r16, f16r17, f16r18, f16r19, f16r20, f16r22, f16r23, f16r24, f16r25, f16r26, f16r27, f16r28, f16r30, f16l0, f16, f16b, f16r0, f16r1, f16r2, f16r3, f16r4, f16r5, f16r6, f16r7, f16r8, f16r9, f16r10, f16r11, f16r12, f16r13, f16r14, f16r15, f16r16, f16r17, f16r18, f16r19, f16r20, f16r22, f16r23, f16r24, f16r25, f16r26, f16r27, f16r28, f16r30] | (refine BrW.of (fun hb => ?_) (fun hb => ?_) <;> (have hb' := hb; try simp only [decide_eq_true_eq, decide_eq_false_iff_not, beq_iff_eq, bne_iff_ne, beq_eq_false_iff_ne, bne_eq_false_iff_eq, Bool.not_eq_true', Bool.not_eq_false', Bool.not_eq_true, Bool.not_eq_false, Bool.and_eq_true, Bool.or_eq_true, Bool.and_eq_false_iff, Bool.or_eq_false_iff, Int.not_lt, Int.not_le, ne_eq, gt_iff_lt, ge_iff_le] at hb') <;> (try (exfalso; omega))) | (refine altW.of ?_ ?_)
        refine RdW.keep [2, 8, 9, 10, 11, 13, 14, 15, 16] (qh - 1).toNat (by omega) ?_
        simp (disch := first | with_reducible assumption | omega) only [go_sem, Bool.true_and, Bool.and_true, Bool.and_self, Bool.false_and, Bool.and_false, Bool.true_or, Bool.or_true, Bool.false_or, Bool.or_false, ↓reduceIte, Nat.reduceEqDiff, Nat.reduceAdd, Nat.reduceMul, Nat.reduceSub, Nat.reduceBEq, Nat.reduceLeDiff, Nat.reduceLT, Nat.reduceMod, Nat.reduceDiv, Int.reduceToNat, Int.reducePow, Int.reduceMul, Int.reduceAdd, Int.reduceSub, Int.reduceLE, Int.reduceLT, Int.reduceNeg, Int.reduceDiv, Int.reduceMod, Int.reduceEq, Int.reduceBEq, Int.reduceBNe]
        exact ⟨_, _, rfl, nx, rfl⟩
    · have hqy : 0 ≤ qh * y0 ∧ qh * y0 ≤ 18446744065119617025 := ⟨Int.mul_nonneg q2.1 eh0.1, Int.mul_le_mul (show qh ≤ 4294967295 by omega) (show y0 ≤ 4294967295 by omega) eh0.1 (by decide)⟩
      by_cases ht : 4294967296 * rh + l1 < qh * y0
      · have hm := i2.more d1 (.inr ht)
        by_cases hbk : 4294967296 ≤ rh + y1
        · have hst := i2.brk d1 (.inr ht) hbk
          generalize hQ1 : qh - 1 = q1 at *
          rw [← hst] at dr dl
          have hdg : isub .u64 (iadd .u64 (imul .u64 U 4294967296) l1) (imul .u64 q1 Y) = U * 4294967296 + l1 - q1 * Y := by rw [digit64]; exact Int.emod_eq_of_lt dr.1 (by omega)
          generalize hR1 : U * 4294967296 + l1 - q1 * Y = R1 at *
          have d2 := hd2 R1 dr
          have i3 := d2.start
          have i3r := i3.r0
          have i3q := i3.q
          have hqm2 : 0 ≤ R1 / y1 * y1 := Int.mul_nonneg i3q.1 (by omega)
          repeat' first | simp (disch := first | with_reducible assumption | omega) only [go_sem, Bool.true_and, Bool.and_true, Bool.and_self, Bool.false_and, Bool.and_false, Bool.true_or, Bool.or_true, Bool.false_or, Bool.or_false, ↓reduceIte, Nat.reduceEqDiff, Nat.reduceAdd, Nat.reduceMul, Nat.reduceSub, Nat.reduceBEq, Nat.reduceLeDiff, Nat.reduceLT, Nat.reduceMod, Nat.reduceDiv, Int.reduceToNat, Int.reducePow, Int.reduceMul, Int.reduceAdd, Int.reduceSub, Int.reduceLE, Int.reduceLT, Int.reduceNeg, Int.reduceDiv, Int.reduceMod, Int.reduceEq, Int.reduceBEq, Int.reduceBNe, f16, f16b, f16r0, f16r1, f16r2, f16r3, f16r4, f16r5, f16r6, f16r7, f16r8, f16r9, f16r10, f16r11, f16r12, f16r13, f16r14, f16r15, f16r16, f16r17, f16r18, f16r19, f16r20, f16r22, f16r23, f16r24, f16r25, f16r26, f16r27, f16r28, f16r30, f16l0, f16, f16b, f16r0, f16r1, f16r2, f16r3, f16r4, f16r5, f16r6, f16r7, f16r8, f16r9, f16r10, f16r11, f16r12, f16r13, f16r14, f16r15, f16r16, f16r17, f16r18, f16r19, f16r20, f16r22, f16r23, f16r24, f16r25, f16r26, f16r27, f16r28, f16r30, hQ1, hdg] | (refine BrW.of (fun hb => ?_) (fun hb => ?_) <;> (have hb' := hb; try simp only [decide_eq_true_eq, decide_eq_false_iff_not, beq_iff_eq, bne_iff_ne, beq_eq_false_iff_ne, bne_eq_false_iff_eq, Bool.not_eq_true', Bool.not_eq_false', Bool.not_eq_true, Bool.not_eq_false, Bool.and_eq_true, Bool.or_eq_true, Bool.and_eq_false_iff, Bool.or_eq_false_iff, Int.not_lt, Int.not_le, ne_eq, gt_iff_lt, ge_iff_le] at hb') <;> (try (exfalso; omega))) | (refine altW.of ?_ ?_)
          refine loopW.of (by decide) (fun m e J2 => ∃ qh2 rh2 : Int, e = [(2, .int .u64 Y), (8, .int .u64 (64 - n)), (9, .int .u64 y1), (10, .int .u64 y0), (14, .int .u64 l0), (15, .int .u64 q1), (16, .int .u64 rh2), (17, .int .u64 R1), (18, .int .u64 qh2)] ∧ J2 = J ∧ DgI Y y1 y0 R1 l0 qh2 rh2 ∧ m = qh2.toNat) (R1 / y1).toNat ⟨_, _, rfl, rfl, i3, rfl⟩ ?_
          rintro m e J2 ⟨qh2, rh2, rfl, rfl, i4, rfl⟩
          have q4 := i4.q
          have r4 := i4.r0
          have dl2 := d2.dq_lt
          have dr2 := d2.rest_range
          by_cases hbig2 : 4294967296 ≤ qh2
          · have hm := i4.more d2 (.inl hbig2)
            by_cases hbk : 4294967296 ≤ rh2 + y1
            · have hst2 := i4.brk d2 (.inl hbig2) hbk
              generalize hQ2 : qh2 - 1 = q0 at *
              rw [← hst2] at dr2 dl2
              have hdg2 : isub .u64 (iadd .u64 (imul .u64 R1 4294967296) l0) (imul .u64 q0 Y) = R1 * 4294967296 + l0 - q0 * Y := by rw [digit64]; exact Int.emod_eq_of_lt dr2.1 (by omega)
              have hf := hfin hR1 rfl dr2
              generalize hR0 : R1 * 4294967296 + l0 - q0 * Y = R0 at *
              repeat' first | simp (disch := first | with_reducible assumption | omega) only [go_sem, Bool.true_and, Bool.and_true, Bool.and_self, Bool.false_and, Bool.and_false, Bool.true_or, Bool.or_true, Bool.false_or, Bool.or_false, ↓reduceIte, Nat.reduceEqDiff, Nat.reduceAdd, Nat.reduceMul, Nat.reduceSub, Nat.reduceBEq, Nat.reduceLeDiff, Nat.reduceLT, Nat.reduceMod, Nat.reduceDiv, Int.reduceToNat, Int.reducePow, Int.reduceMul, Int.reduceAdd, Int.reduceSub, Int.reduceLE, Int.reduceLT, Int.reduceNeg, Int.reduceDiv, Int.reduceMod, Int.reduceEq, Int.reduceBEq, Int.reduceBNe, f16, f16b, f16r0, f16r1, f16r2, f16r3, f16r4, f16r5, f16r6, f16r7, f16r8, f16r9, f16r10, f16r11, f16r12, f16r13, f16r14, f16r15, f16r16, f16r17, f16r18, f16r19, f16r20, f16r22, f16r23, f16r24, f16r25, f16r26, f16r27, f16r28, f16r30, f16l1, f16, f16b, f16r0, f16r1, f16r2, f16r3, f16r4, f16r5, f16r6, f16r7, f16r8, f16r9, f16r10, f16r11, f16r12, f16r13, f16r14, f16r15, f16r16, f16r17, f16r18, f16r19, f16r20, f16r22, f16r23, f16r24, f16r25, f16r26, f16r27, f16r28, f16r30, hQ2, hdg2, t1, hp, hf.1, hf.2] | (refine BrW.of (fun hb => ?_) (fun hb => ?_) <;> (have hb' := hb; try simp only [decide_eq_true_eq, decide_eq_false_iff_not, beq_iff_eq, bne_iff_ne, beq_eq_false_iff_ne, bne_eq_false_iff_eq, Bool.not_eq_true', Bool.not_eq_false', Bool.not_eq_true, Bool.not_eq_false, Bool.and_eq_true, Bool.or_eq_true, Bool.and_eq_false_iff, Bool.or_eq_false_iff, Int.not_lt, Int.not_le, ne_eq, gt_iff_lt, ge_iff_le] at hb') <;> (try (exfalso; omega))) | (refine altW.of ?_ ?_)
              exact .here ⟨rfl, rfl⟩
            · have nx := i4.next d2 (.inl hbig2) hbk
              repeat' first | simp (disch := first | with_reducible assumption | omega) only [go_sem, Bool.true_and, Bool.and_true, Bool.and_self, Bool.false_and, Bool.and_false, Bool.true_or, Bool.or_true, Bool.false_or, Bool.or_false, ↓reduceIte, Nat.reduceEqDiff, Nat.reduceAdd, Nat.reduceMul, Nat.reduceSub, Nat.reduceBEq, Nat.reduceLeDiff, Nat.reduceLT, Nat.reduceMod, Nat.reduceDiv, Int.reduceToNat, Int.reducePow, Int.reduceMul, Int.reduceAdd, Int.reduceSub, Int.reduceLE, Int.reduceLT, Int.reduceNeg, Int.reduceDiv, Int.reduceMod, Int.reduceEq, Int.reduceBEq, Int.reduceBNe, f16, f16b, f16r0, f16r1, f16r2, f16r3, f16r4, f16r5, f16r6, f16r7, f16r8, f16r9, f16r10, f16r11, f16r12, f16r13, f16r14, f16r15, f16r16, f16r17, f16r18, f16r19, f16r20, f16r22, f16r23, f16r24, f16r25, f16r26, f16r27, f16r28, f16r30, f16l1, f16, f16b, f16r0, f16r1, f16r2, f16r3, f16r4, f16r5, f16r6, f16r7, f16r8, f16r9, f16r10, f16r11, f16r12, f16r13, f16r14, f16r15, f16r16, f16r17, f16r18, f16r19, f16r20, f16r22, f16r23, f16r24, f16r25, f16r26, f16r27, f16r28, f16r30] | (refine BrW.of (fun hb => ?_) (fun hb => ?_) <;> (have hb' := hb; try simp only [decide_eq_true_eq, decide_eq_false_iff_not, beq_iff_eq, bne_iff_ne, beq_eq_false_iff_ne, bne_eq_false_iff_eq, Bool.not_eq_true', Bool.not_eq_false', Bool.not_eq_true, Bool.not_eq_false, Bool.and_eq_true, Bool.or_eq_true, Bool.and_eq_false_iff, Bool.or_eq_false_iff, Int.not_lt, Int.not_le, ne_eq, gt_iff_lt, ge_iff_le] at hb') <;> (try (exfalso; omega))) | (refine altW.of ?_ ?_)
              refine RdW.keep [2, 8, 9, 10, 14, 15, 16, 17, 18] (qh2 - 1).toNat (by omega) ?_
              simp (disch := first | with_reducible assumption | omega) only [go_sem, Bool.true_and, Bool.and_true, Bool.and_self, Bool.false_and, Bool.and_false, Bool.true_or, Bool.or_true, Bool.false_or, Bool.or_false, ↓reduceIte, Nat.reduceEqDiff, Nat.reduceAdd, Nat.reduceMul, Nat.reduceSub, Nat.reduceBEq, Nat.reduceLeDiff, Nat.reduceLT, Nat.reduceMod, Nat.reduceDiv, Int.reduceToNat, Int.reducePow, Int.reduceMul, Int.reduceAdd, Int.reduceSub, Int.reduceLE, Int.reduceLT, Int.reduceNeg, Int.reduceDiv, Int.reduceMod, Int.reduceEq, Int.reduceBEq, Int.reduceBNe]
              exact ⟨_, _, rfl, nx, rfl⟩
          · have hqy2 : 0 ≤ qh2 * y0 ∧ qh2 * y0 ≤ 18446744065119617025 := ⟨Int.mul_nonneg q4.1 eh0.1, Int.mul_le_mul (show qh2 ≤ 4294967295 by omega) (show y0 ≤ 4294967295 by omega) eh0.1 (by decide)⟩
            by_cases ht2 : 4294967296 * rh2 + l0 < qh2 * y0
            · have hm := i4.more d2 (.inr ht2)
              by_cases hbk : 4294967296 ≤ rh2 + y1
              · have hst2 := i4.brk d2 (.inr ht2) hbk
                generalize hQ2 : qh2 - 1 = q0 at *
                rw [← hst2] at dr2 dl2
                have hdg2 : isub .u64 (iadd .u64 (imul .u64 R1 4294967296) l0) (imul .u64 q0 Y) = R1 * 4294967296 + l0 - q0 * Y := by rw [digit64]; exact Int.emod_eq_of_lt dr2.1 (by omega)
                have hf := hfin hR1 rfl dr2
                generalize hR0 : R1 * 4294967296 + l0 - q0 * Y = R0 at *
                repeat' first | simp (disch := first | with_reducible assumption | omega) only [go_sem, Bool.true_and, Bool.and_true, Bool.and_self, Bool.false_and, Bool.and_false, Bool.true_or, Bool.or_true, Bool.false_or, Bool.or_false, ↓reduceIte, Nat.reduceEqDiff, Nat.reduceAdd, Nat.reduceMul, Nat.reduceSub, Nat.reduceBEq, Nat.reduceLeDiff, Nat.reduceLT, Nat.reduceMod, Nat.reduceDiv, Int.reduceToNat, Int.reducePow, Int.reduceMul, Int.reduceAdd, Int.reduceSub, Int.reduceLE, Int.reduceLT, Int.reduceNeg, Int.reduceDiv, Int.reduceMod, Int.reduceEq, Int.reduceBEq, Int.reduceBNe, f16, f16b, f16r0, f16r1, f16r2, f16r3, f16r4, f16r5, f16r6, f16r7, f16r8, f16r9, f16r10, f16r11, f16r12, f16r13, f16r14, f16r15, f16r16, f16r17, f16r18, f16r19, f16r20, f16r22, f16r23, f16r24, f16r25, f16r26, f16r27, f16r28, f16r30, f16l1, f16, f16b, f16r0, f16r1, f16r2, f16r3, f16r4, f16r5, f16r6, f16r7, f16r8, f16r9, f16r10, f16r11, f16r12, f16r13, f16r14, f16r15, f16r16, f16r17, f16r18, f16r19, f16r20, f16r22, f16r23, f16r24, f16r25, f16r26, f16r27, f16r28, f16r30, hQ2, hdg2, t1, hp, hf.1, hf.2] | (refine BrW.of (fun hb => ?_) (fun hb => ?_) <;> (have hb' := hb; try simp only [decide_eq_true_eq, decide_eq_false_iff_not, beq_iff_eq, bne_iff_ne, beq_eq_false_iff_ne, bne_eq_false_iff_eq, Bool.not_eq_true', Bool.not_eq_false', Bool.not_eq_true, Bool.not_eq_false, Bool.and_eq_true, Bool.or_eq_true, Bool.and_eq_false_iff, Bool.or_eq_false_iff, Int.not_lt, Int.not_le, ne_eq, gt_iff_lt, ge_iff_le] at hb') <;> (try (exfalso; omega))) | (refine altW.of ?_ ?_)
                exact .here ⟨rfl, rfl⟩
              · have nx := i4.next d2 (.inr ht2) hbk
                repeat' first | simp (disch := first | with_reducible assumption | omega) only [go_sem, Bool.true_and, Bool.and_true, Bool.and_self, Bool.false_and, Bool.and_false, Bool.true_or, Bool.or_true, Bool.false_or, Bool.or_false, ↓reduceIte, Nat.reduceEqDiff, Nat.reduceAdd, Nat.reduceMul, Nat.reduceSub, Nat.reduceBEq, Nat.reduceLeDiff, Nat.reduceLT, Nat.reduceMod, Nat.reduceDiv, Int.reduceToNat, Int.reducePow, Int.reduceMul, Int.reduceAdd, Int.reduceSub, Int.reduceLE, Int.reduceLT, Int.reduceNeg, Int.reduceDiv, Int.reduceMod, Int.reduceEq, Int.reduceBEq, Int.reduceBNe, f16, f16b, f16r0, f16r1, f16r2, f16r3, f16r4, f16r5, f16r6, f16r7, f16r8, f16r9, f16r10, f16r11, f16r12, f16r13, f16r14, f16r15, f16r16, f16r17, f16r18, f16r19, f16r20, f16r22, f16r23, f16r24, f16r25, f16r26, f16r27, f16r28, f16r30, f16l1, f16, f16b, f16r0, f16r1, f16r2, f16r3, f16r4, f16r5, f16r6, f16r7, f16r8, f16r9, f16r10, f16r11, f16r12, f16r13, f16r14, f16r15, f16r16, f16r17, f16r18, f16r19, f16r20, f16r22, f16r23, f16r24, f16r25, f16r26, f16r27, f16r28, f16r30] | (refine BrW.of (fun hb => ?_) (fun hb => ?_) <;> (have hb' := hb; try simp only [decide_eq_true_eq, decide_eq_false_iff_not, beq_iff_eq, bne_iff_ne, beq_eq_false_iff_ne, bne_eq_false_iff_eq, Bool.not_eq_true', Bool.not_eq_false', Bool.not_eq_true, Bool.not_eq_false, Bool.and_eq_true, Bool.or_eq_true, Bool.and_eq_false_iff, Bool.or_eq_false_iff, Int.not_lt, Int.not_le, ne_eq, gt_iff_lt, ge_iff_le] at hb') <;> (try (exfalso; omega))) | (refine altW.of ?_ ?_)
                refine RdW.keep [2, 8, 9, 10, 14, 15, 16, 17, 18] (qh2 - 1).toNat (by omega) ?_
                simp (disch := first | with_reducible assumption | omega) only [go_sem, Bool.true_and, Bool.and_true, Bool.and_self, Bool.false_and, Bool.and_false, Bool.true_or, Bool.or_true, Bool.false_or, Bool.or_false, ↓reduceIte, Nat.reduceEqDiff, Nat.reduceAdd, Nat.reduceMul, Nat.reduceSub, Nat.reduceBEq, Nat.reduceLeDiff, Nat.reduceLT, Nat.reduceMod, Nat.reduceDiv, Int.reduceToNat, Int.reducePow, Int.reduceMul, Int.reduceAdd, Int.reduceSub, Int.reduceLE, Int.reduceLT, Int.reduceNeg, Int.reduceDiv, Int.reduceMod, Int.reduceEq, Int.reduceBEq, Int.reduceBNe]
                exact ⟨_, _, rfl, nx, rfl⟩
            · have hst2 := i4.stop d2 ht2
              generalize hQ2 : qh2 = q0 at *
              rw [← hst2] at dr2 dl2
              have hdg2 : isub .u64 (iadd .u64 (imul .u64 R1 4294967296) l0) (imul .u64 q0 Y) = R1 * 4294967296 + l0 - q0 * Y := by rw [digit64]; exact Int.emod_eq_of_lt dr2.1 (by omega)
              have hf := hfin hR1 rfl dr2
              generalize hR0 : R1 * 4294967296 + l0 - q0 * Y = R0 at *
              repeat' first | simp (disch := first | with_reducible assumption | omega) only [go_sem, Bool.true_and, Bool.and_true, Bool.and_self, Bool.false_and, Bool.and_false, Bool.true_or, Bool.or_true, Bool.false_or, Bool.or_false, ↓reduceIte, Nat.reduceEqDiff, Nat.reduceAdd, Nat.reduceMul, Nat.reduceSub, Nat.reduceBEq, Nat.reduceLeDiff, Nat.reduceLT, Nat.reduceMod, Nat.reduceDiv, Int.reduceToNat, Int.reducePow, Int.reduceMul, Int.reduceAdd, Int.reduceSub, Int.reduceLE, Int.reduceLT, Int.reduceNeg, Int.reduceDiv, Int.reduceMod, Int.reduceEq, Int.reduceBEq, Int.reduceBNe, f16, f16b, f16r0, f16r1, f16r2, f16r3, f16r4, f16r5, f16r6, f16r7, f16r8, f16r9, f16r10, f16r11, f16r12, f16r13, f16r14, f16r15, f16r16, f16r17, f16r18, f16r19, f16r20, f16r22, f16r23, f16r24, f16r25, f16r26, f16r27, f16r28, f16r30, f16l1, f16, f16b, f16r0, f16r1, f16r2, f16r3, f16r4, f16r5, f16r6, f16r7, f16r8, f16r9, f16r10, f16r11, f16r12, f16r13, f16r14, f16r15, f16r16, f16r17, f16r18, f16r19, f16r20, f16r22, f16r23, f16r24, f16r25, f16r26, f16r27, f16r28, f16r30, hQ2, hdg2, t1, hp, hf.1, hf.2] | (refine BrW.of (fun hb => ?_) (fun hb => ?_) <;> (have hb' := hb; try simp only [decide_eq_true_eq, decide_eq_false_iff_not, beq_iff_eq, bne_iff_ne, beq_eq_false_iff_ne, bne_eq_false_iff_eq, Bool.not_eq_true', Bool.not_eq_false', Bool.not_eq_true, Bool.not_eq_false, Bool.and_eq_true, Bool.or_eq_true, Bool.and_eq_false_iff, Bool.or_eq_false_iff, Int.not_lt, Int.not_le, ne_eq, gt_iff_lt, ge_iff_le] at hb') <;> (try (exfalso; omega))) | (refine altW.of ?_ ?_)
              exact .here ⟨rfl, rfl⟩
        · have nx := i2.next d1 (.inr ht) hbk
          repeat' first | simp (disch := first | with_reducible assumption | omega) only [go_sem, Bool.true_and, Bool.and_true, Bool.and_self, Bool.false_and, Bool.and_false, Bool.true_or, Bool.or_true, Bool.false_or, Bool.or_false, ↓reduceIte, Nat.reduceEqDiff, Nat.reduceAdd, Nat.reduceMul, Nat.reduceSub, Nat.reduceBEq, Nat.reduceLeDiff, Nat.reduceLT, Nat.reduceMod, Nat.reduceDiv, Int.reduceToNat, Int.reducePow, Int.reduceMul, Int.reduceAdd, Int.reduceSub, Int.reduceLE, Int.reduceLT, Int.reduceNeg, Int.reduceDiv, Int.reduceMod, Int.reduceEq, Int.reduceBEq, Int.reduceBNe, f16, f16b, f16r0, f16r1, f16r2, f16r3, f16r4, f16r5, f16r6, f16r7, f16r8, f16r9, f16r10, f16r11, f16r12, f16r13, f16r14, f16r15, f16r16, f16r17, f16r18, f16r19, f16r20, f16r22, f16r23, f16r24, f16r25, f16r26, f16r27, f16r28, f16r30, f16l0, f16, f16b, f16r0, f16r1, f16r2, f16r3, f16r4, f16r5, f16r6, f16r7, f16r8, f16r9, f16r10, f16r11, f16r12, f16r13, f16r14, f16r15, f16r16, f16r17, f16r18, f16r19, f16r20, f16r22, f16r23, f16r24, f16r25, f16r26, f16r27, f16r28, f16r30] | (refine BrW.of (fun hb => ?_) (fun hb => ?_) <;> (have hb' := hb; try simp only [decide_eq_true_eq, decide_eq_false_iff_not, beq_iff_eq, bne_iff_ne, beq_eq_false_iff_ne, bne_eq_false_iff_eq, Bool.not_eq_true', Bool.not_eq_false', Bool.not_eq_true, Bool.not_eq_false, Bool.and_eq_true, Bool.or_eq_true, Bool.and_eq_false_iff, Bool.or_eq_false_iff, Int.not_lt, Int.not_le, ne_eq, gt_iff_lt, ge_iff_le] at hb') <;> (try (exfalso; omega))) | (refine altW.of ?_ ?_)
          refine RdW.keep [2, 8, 9, 10, 11, 13, 14, 15, 16] (qh - 1).toNat (by omega) ?_
          simp (disch := first | with_reducible assumption | omega) only [go_sem, Bool.true_and, Bool.and_true, Bool.and_self, Bool.false_and, Bool.and_false, Bool.true_or, Bool.or_true, Bool.false_or, Bool.or_false, ↓reduceIte, Nat.reduceEqDiff, Nat.reduceAdd, Nat.reduceMul, Nat.reduceSub, Nat.reduceBEq, Nat.reduceLeDiff, Nat.reduceLT, Nat.reduceMod, Nat.reduceDiv, Int.reduceToNat, Int.reducePow, Int.reduceMul, Int.reduceAdd, Int.reduceSub, Int.reduceLE, Int.reduceLT, Int.reduceNeg, Int.reduceDiv, Int.reduceMod, Int.reduceEq, Int.reduceBEq, Int.reduceBNe]
          exact ⟨_, _, rfl, nx, rfl⟩
      · have hst := i2.stop d1 ht
        generalize hQ1 : qh = q1 at *
        rw [← hst] at dr dl
        have hdg : isub .u64 (iadd .u64 (imul .u64 U 4294967296) l1) (imul .u64 q1 Y) = U * 4294967296 + l1 - q1 * Y := by rw [digit64]; exact Int.emod_eq_of_lt dr.1 (by omega)
        generalize hR1 : U * 4294967296 + l1 - q1 * Y = R1 at *
        have d2 := hd2 R1 dr
        have i3 := d2.start
        have i3r := i3.r0
        have i3q := i3.q
        have hqm2 : 0 ≤ R1 / y1 * y1 := Int.mul_nonneg i3q.1 (by omega)
        repeat' first | simp (disch := first | with_reducible assumption | omega) only [go_sem, Bool.true_and, Bool.and_true, Bool.and_self, Bool.false_and, Bool.and_false, Bool.true_or, Bool.or_true, Bool.false_or, Bool.or_false, ↓reduceIte, Nat.reduceEqDiff, Nat.reduceAdd, Nat.reduceMul, Nat.reduceSub, Nat.reduceBEq, Nat.reduceLeDiff, Nat.reduceLT, Nat.reduceMod, Nat.reduceDiv, Int.reduceToNat, Int.reducePow, Int.reduceMul, Int.reduceAdd, Int.reduceSub, Int.reduceLE, Int.reduceLT, Int.reduceNeg, Int.reduceDiv, Int.reduceMod, Int.reduceEq, Int.reduceBEq, Int.reduceBNe, f16, f16b, f16r0, f16r1, f16r2, f16r3, f16r4, f16r5, f16r6, f16r7, f16r8, f16r9, f16r10, f16r11, f16r12, f16r13, f16r14, f16r15, f16r16, f16r17, f16r18, f16r19, f16r20, f16r22, f16r23, f16r24, f16r25, f16r26, f16r27, f16r28, f16r30, f16l0, f16, f16b, f16r0, f16r1, f16r2, f16r3, f16r4, f16r5, f16r6, f16r7, f16r8, f16r9, f16r10, f16r11, f16r12, f16r13, f16r14, f16r15, f16r16, f16r17, f16r18, f16r19, f16r20, f16r22, f16r23, f16r24, f16r25, f16r26, f16r27, f16r28, f16r30, hQ1, hdg] | (refine BrW.of (fun hb => ?_) (fun hb => ?_) <;> (have hb' := hb; try simp only [decide_eq_true_eq, decide_eq_false_iff_not, beq_iff_eq, bne_iff_ne, beq_eq_false_iff_ne, bne_eq_false_iff_eq, Bool.not_eq_true', Bool.not_eq_false', Bool.not_eq_true, Bool.not_eq_false, Bool.and_eq_true, Bool.or_eq_true, Bool.and_eq_false_iff, Bool.or_eq_false_iff, Int.not_lt, Int.not_le, ne_eq, gt_iff_lt, ge_iff_le] at hb') <;> (try (exfalso; omega))) | (refine altW.of ?_ ?_)
        refine loopW.of (by decide) (fun m e J2 => ∃ qh2 rh2 : Int, e = [(2, .int .u64 Y), (8, .int .u64 (64 - n)), (9, .int .u64 y1), (10, .int .u64 y0), (14, .int .u64 l0), (15, .int .u64 q1), (16, .int .u64 rh2), (17, .int .u64 R1), (18, .int .u64 qh2)] ∧ J2 = J ∧ DgI Y y1 y0 R1 l0 qh2 rh2 ∧ m = qh2.toNat) (R1 / y1).toNat ⟨_, _, rfl, rfl, i3, rfl⟩ ?_
        rintro m e J2 ⟨qh2, rh2, rfl, rfl, i4, rfl⟩
        have q4 := i4.q
        have r4 := i4.r0
        have dl2 := d2.dq_lt
        have dr2 := d2.rest_range
        by_cases hbig2 : 4294967296 ≤ qh2
        · have hm := i4.more d2 (.inl hbig2)
          by_cases hbk : 4294967296 ≤ rh2 + y1
          · have hst2 := i4.brk d2 (.inl hbig2) hbk
            generalize hQ2 : qh2 - 1 = q0 at *
            rw [← hst2] at dr2 dl2
            have hdg2 : isub .u64 (iadd .u64 (imul .u64 R1 4294967296) l0) (imul .u64 q0 Y) = R1 * 4294967296 + l0 - q0 * Y := by rw [digit64]; exact Int.emod_eq_of_lt dr2.1 (by omega)
            have hf := hfin hR1 rfl dr2
            generalize hR0 : R1 * 4294967296 + l0 - q0 * Y = R0 at *
            repeat' first | simp (disch := first | with_reducible assumption | omega) only [go_sem, Bool.true_and, Bool.and_true, Bool.and_self, Bool.false_and, Bool.and_false, Bool.true_or, Bool.or_true, Bool.false_or, Bool.or_false, ↓reduceIte, Nat.reduceEqDiff, Nat.reduceAdd, Nat.reduceMul, Nat.reduceSub, Nat.reduceBEq, Nat.reduceLeDiff, Nat.reduceLT, Nat.reduceMod, Nat.reduceDiv, Int.reduceToNat, Int.reducePow, Int.reduceMul, Int.reduceAdd, Int.reduceSub, Int.reduceLE, Int.reduceLT, Int.reduceNeg, Int.reduceDiv, Int.reduceMod, Int.reduceEq, Int.reduceBEq, Int.reduceBNe, f16, f16b, f16r0, f16r1, f16r2, f16r3, f16r4, f16r5, f16r6, f16r7, f16r8, f16r9, f16r10, f16r11, f16r12, f16r13, f16r14, f16r15, f16r16, f16r17, f16r18, f16r19, f16r20, f16r22, f16r23, f16r24, f16r25, f16r26, f16r27, f16r28, f16r30, f16l1, f16, f16b, f16r0, f16r1, f16r2, f16r3, f16r4, f16r5, f16r6, f16r7, f16r8, f16r9, f16r10, f16r11, f16r12, f16r13, f16r14, f16r15, f16r16, f16r17, f16r18, f16r19, f16r20, f16r22, f16r23, f16r24, f16r25, f16r26, f16r27, f16r28, f16r30, hQ2, hdg2, t1, hp, hf.1, hf.2] | (refine BrW.of (fun hb => ?_) (fun hb => ?_) <;> (have hb' := hb; try simp only [decide_eq_true_eq, decide_eq_false_iff_not, beq_iff_eq, bne_iff_ne, beq_eq_false_iff_ne, bne_eq_false_iff_eq, Bool.not_eq_true', Bool.not_eq_false', Bool.not_eq_true, Bool.not_eq_false, Bool.and_eq_true, Bool.or_eq_true, Bool.and_eq_false_iff, Bool.or_eq_false_iff, Int.not_lt, Int.not_le, ne_eq, gt_iff_lt, ge_iff_le] at hb') <;> (try (exfalso; omega))) | (refine altW.of ?_ ?_)
            exact .here ⟨rfl, rfl⟩
          · have nx := i4.next d2 (.inl hbig2) hbk
            repeat' first | simp (disch := first | with_reducible assumption | omega) only [go_sem, Bool.true_and, Bool.and_true, Bool.and_self, Bool.false_and, Bool.and_false, Bool.true_or, Bool.or_true, Bool.false_or, Bool.or_false, ↓reduceIte, Nat.reduceEqDiff, Nat.reduceAdd, Nat.reduceMul, Nat.reduceSub, Nat.reduceBEq, Nat.reduceLeDiff, Nat.reduceLT, Nat.reduceMod, Nat.reduceDiv, Int.reduceToNat, Int.reducePow, Int.reduceMul, Int.reduceAdd, Int.reduceSub, Int.reduceLE, Int.reduceLT, Int.reduceNeg, Int.reduceDiv, Int.reduceMod, Int.reduceEq, Int.reduceBEq, Int.reduceBNe, f16, f16b, f16r0, f16r1, f16r2, f16r3, f16r4, f16r5, f16r6, f16r7, f16r8, f16r9, f16r10, f16r11, f16r12, f16r13, f16r14, f16r15, f16r16, f16r17, f16r18, f16r19, f16r20, f16r22, f16r23, f16r24, f16r25, f16r26, f16r27, f16r28, f16r30, f16l1, f16, f16b, f16r0, f16r1, f16r2, f16r3, f16r4, f16r5, f16r6, f16r7, f16r8, f16r9, f16r10, f16r11, f16r12, f16r13, f16r14, f16r15, f16r16, f16r17, f16r18, f16r19, f16r20, f16r22, f16r23, f16r24, f16r25, f16r26, f16r27, f16r28, f16r30] | (refine BrW.of (fun hb => ?_) (fun hb => ?_) <;> (have hb' := hb; try simp only [decide_eq_true_eq, decide_eq_false_iff_not, beq_iff_eq, bne_iff_ne, beq_eq_false_iff_ne, bne_eq_false_iff_eq, Bool.not_eq_true', Bool.not_eq_false', Bool.not_eq_true, Bool.not_eq_false, Bool.and_eq_true, Bool.or_eq_true, Bool.and_eq_false_iff, Bool.or_eq_false_iff, Int.not_lt, Int.not_le, ne_eq, gt_iff_lt, ge_iff_le] at hb') <;> (try (exfalso; omega))) | (refine altW.of ?_ ?_)
            refine RdW.keep [2, 8, 9, 10, 14, 15, 16, 17, 18] (qh2 - 1).toNat (by omega) ?_
            simp (disch := first | with_reducible assumption | omega) only [go_sem, Bool.true_and, Bool.and_true, Bool.and_self, Bool.false_and, Bool.and_false, Bool.true_or, Bool.or_true, Bool.false_or, Bool.or_false, ↓reduceIte, Nat.reduceEqDiff, Nat.reduceAdd, Nat.reduceMul, Nat.reduceSub, Nat.reduceBEq, Nat.reduceLeDiff, Nat.reduceLT, Nat.reduceMod, Nat.reduceDiv, Int.reduceToNat, Int.reducePow, Int.reduceMul, Int.reduceAdd, Int.reduceSub, Int.reduceLE, Int.reduceLT, Int.reduceNeg, Int.reduceDiv, Int.reduceMod, Int.reduceEq, Int.reduceBEq, Int.reduceBNe]
            exact ⟨_, _, rfl, nx, rfl⟩
        · have hqy2 : 0 ≤ qh2 * y0 ∧ qh2 * y0 ≤ 18446744065119617025 := ⟨Int.mul_nonneg q4.1 eh0.1, Int.mul_le_mul (show qh2 ≤ 4294967295 by omega) (show y0 ≤ 4294967295 by omega) eh0.1 (by decide)⟩
          by_cases ht2 : 4294967296 * rh2 + l0 < qh2 * y0
          · have hm := i4.more d2 (.inr ht2)
            by_cases hbk : 4294967296 ≤ rh2 + y1
            · have hst2 := i4.brk d2 (.inr ht2) hbk
              generalize hQ2 : qh2 - 1 = q0 at *
              rw [← hst2] at dr2 dl2
              have hdg2 : isub .u64 (iadd .u64 (imul .u64 R1 4294967296) l0) (imul .u64 q0 Y) = R1 * 4294967296 + l0 - q0 * Y := by rw [digit64]; exact Int.emod_eq_of_lt dr2.1 (by omega)
              have hf := hfin hR1 rfl dr2
              generalize hR0 : R1 * 4294967296 + l0 - q0 * Y = R0 at *
              repeat' first | simp (disch := first | with_reducible assumption | omega) only [go_sem, Bool.true_and, Bool.and_true, Bool.and_self, Bool.false_and, Bool.and_false, Bool.true_or, Bool.or_true, Bool.false_or, Bool.or_false, ↓reduceIte, Nat.reduceEqDiff, Nat.reduceAdd, Nat.reduceMul, Nat.reduceSub, Nat.reduceBEq, Nat.reduceLeDiff, Nat.reduceLT, Nat.reduceMod, Nat.reduceDiv, Int.reduceToNat, Int.reducePow, Int.reduceMul, Int.reduceAdd, Int.reduceSub, Int.reduceLE, Int.reduceLT, Int.reduceNeg, Int.reduceDiv, Int.reduceMod, Int.reduceEq, Int.reduceBEq, Int.reduceBNe, f16, f16b, f16r0, f16r1, f16r2, f16r3, f16r4, f16r5, f16r6, f16r7, f16r8, f16r9, f16r10, f16r11, f16r12, f16r13, f16r14, f16r15, f16r16, f16r17, f16r18, f16r19, f16r20, f16r22, f16r23, f16r24, f16r25, f16r26, f16r27, f16r28, f16r30, f16l1, f16, f16b, f16r0, f16r1, f16r2, f16r3, f16r4, f16r5, f16r6, f16r7, f16r8, f16r9, f16r10, f16r11, f16r12, f16r13, f16r14, f16r15, f16r16, f16r17, f16r18, f16r19, f16r20, f16r22, f16r23, f16r24, f16r25, f16r26, f16r27, f16r28, f16r30, hQ2, hdg2, t1, hp, hf.1, hf.2] | (refine BrW.of (fun hb => ?_) (fun hb => ?_) <;> (have hb' := hb; try simp only [decide_eq_true_eq, decide_eq_false_iff_not, beq_iff_eq, bne_iff_ne, beq_eq_false_iff_ne, bne_eq_false_iff_eq, Bool.not_eq_true', Bool.not_eq_false', Bool.not_eq_true, Bool.not_eq_false, Bool.and_eq_true, Bool.or_eq_true, Bool.and_eq_false_iff, Bool.or_eq_false_iff, Int.not_lt, Int.not_le, ne_eq, gt_iff_lt, ge_iff_le] at hb') <;> (try (exfalso; omega))) | (refine altW.of ?_ ?_)
              exact .here ⟨rfl, rfl⟩
            · have nx := i4.next d2 (.inr ht2) hbk
              repeat' first | simp (disch := first | with_reducible assumption | omega) only [go_sem, Bool.true_and, Bool.and_true, Bool.and_self, Bool.false_and, Bool.and_false, Bool.true_or, Bool.or_true, Bool.false_or, Bool.or_false, ↓reduceIte, Nat.reduceEqDiff, Nat.reduceAdd, Nat.reduceMul, Nat.reduceSub, Nat.reduceBEq, Nat.reduceLeDiff, Nat.reduceLT, Nat.reduceMod, Nat.reduceDiv, Int.reduceToNat, Int.reducePow, Int.reduceMul, Int.reduceAdd, Int.reduceSub, Int.reduceLE, Int.reduceLT, Int.reduceNeg, Int.reduceDiv, Int.reduceMod, Int.reduceEq, Int.reduceBEq, Int.reduceBNe, f16, f16b, f16r0, f16r1, f16r2, f16r3, f16r4, f16r5, f16r6, f16r7, f16r8, f16r9, f16r10, f16r11, f16r12, f16r13, f16r14, f16r15, f16r16, f16r17, f16r18, f16r19, f16r20, f16r22, f16r23, f16r24, f16r25, f16r26, f16r27, f16r28, f16r30, f16l1, f16, f16b, f16r0, f16r1, f16r2, f16r3, f16r4, f16r5, f16r6, f16r7, f16r8, f16r9, f16r10, f16r11, f16r12, f16r13, f16r14, f16r15, f16r16, f16r17, f16r18, f16r19, f16r20, f16r22, f16r23, f16r24, f16r25, f16r26, f16r27, f16r28, f16r30] | (refine BrW.of (fun hb => ?_) (fun hb => ?_) <;> (have hb' := hb; try simp only [decide_eq_true_eq, decide_eq_false_iff_not, beq_iff_eq, bne_iff_ne, beq_eq_false_iff_ne, bne_eq_false_iff_eq, Bool.not_eq_true', Bool.not_eq_false', Bool.not_eq_true, Bool.not_eq_false, Bool.and_eq_true, Bool.or_eq_true, Bool.and_eq_false_iff, Bool.or_eq_false_iff, Int.not_lt, Int.not_le, ne_eq, gt_iff_lt, ge_iff_le] at hb') <;> (try (exfalso; omega))) | (refine altW.of ?_ ?_)
              refine RdW.keep [2, 8, 9, 10, 14, 15, 16, 17, 18] (qh2 - 1).toNat (by omega) ?_
              simp (disch := first | with_reducible assumption | omega) only [go_sem, Bool.true_and, Bool.and_true, Bool.and_self, Bool.false_and, Bool.and_false, Bool.true_or, Bool.or_true, Bool.false_or, Bool.or_false, ↓reduceIte, Nat.reduceEqDiff, Nat.reduceAdd, Nat.reduceMul, Nat.reduceSub, Nat.reduceBEq, Nat.reduceLeDiff, Nat.reduceLT, Nat.reduceMod, Nat.reduceDiv, Int.reduceToNat, Int.reducePow, Int.reduceMul, Int.reduceAdd, Int.reduceSub, Int.reduceLE, Int.reduceLT, Int.reduceNeg, Int.reduceDiv, Int.reduceMod, Int.reduceEq, Int.reduceBEq, Int.reduceBNe]
              exact ⟨_, _, rfl, nx, rfl⟩
          · have hst2 := i4.stop d2 ht2
            generalize hQ2 : qh2 = q0 at *
            rw [← hst2] at dr2 dl2
            have hdg2 : isub .u64 (iadd .u64 (imul .u64 R1 4294967296) l0) (imul .u64 q0 Y) = R1 * 4294967296 + l0 - q0 * Y := by rw [digit64]; exact Int.emod_eq_of_lt dr2.1 (by omega)
            have hf := hfin hR1 rfl dr2
            generalize hR0 : R1 * 4294967296 + l0 - q0 * Y = R0 at *
            repeat' first | simp (disch := first | with_reducible assumption | omega) only [go_sem, Bool.true_and, Bool.and_true, Bool.and_self, Bool.false_and, Bool.and_false, Bool.true_or, Bool.or_true, Bool.false_or, Bool.or_false, ↓reduceIte, Nat.reduceEqDiff, Nat.reduceAdd, Nat.reduceMul, Nat.reduceSub, Nat.reduceBEq, Nat.reduceLeDiff, Nat.reduceLT, Nat.reduceMod, Nat.reduceDiv, Int.reduceToNat, Int.reducePow, Int.reduceMul, Int.reduceAdd, Int.reduceSub, Int.reduceLE, Int.reduceLT, Int.reduceNeg, Int.reduceDiv, Int.reduceMod, Int.reduceEq, Int.reduceBEq, Int.reduceBNe, f16, f16b, f16r0, f16r1, f16r2, f16r3, f16r4, f16r5, f16r6, f16r7, f16r8, f16r9, f16r10, f16r11, f16r12, f16r13, f16r14, f16r15, f16r16, f16r17, f16r18, f16r19, f16r20, f16r22, f16r23, f16r24, f16r25, f16r26, f16r27, f16r28, f16r30, f16l1, f16, f16b, f16r0, f16r1, f16r2, f16r3, f16r4, f16r5, f16r6, f16r7, f16r8, f16r9, f16r10, f16r11, f16r12, f16r13, f16r14, f16r15, f16r16, f16r17, f16r18, f16r19, f16r20, f16r22, f16r23, f16r24, f16r25, f16r26, f16r27, f16r28, f16r30, hQ2, hdg2, t1, hp, hf.1, hf.2] | (refine BrW.of (fun hb => ?_) (fun hb => ?_) <;> (have hb' := hb; try simp only [decide_eq_true_eq, decide_eq_false_iff_not, beq_iff_eq, bne_iff_ne, beq_eq_false_iff_ne, bne_eq_false_iff_eq, Bool.not_eq_true', Bool.not_eq_false', Bool.not_eq_true, Bool.not_eq_false, Bool.and_eq_true, Bool.or_eq_true, Bool.and_eq_false_iff, Bool.or_eq_false_iff, Int.not_lt, Int.not_le, ne_eq, gt_iff_lt, ge_iff_le] at hb') <;> (try (exfalso; omega))) | (refine altW.of ?_ ?_)
            exact .here ⟨rfl, rfl⟩
end Go.Proofs.Ytohabldbjjngjaa
