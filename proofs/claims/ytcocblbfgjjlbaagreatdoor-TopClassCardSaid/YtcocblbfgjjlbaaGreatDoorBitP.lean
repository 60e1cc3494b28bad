import Derived.Test.YtcocblbfgjjlbaaGreatDoorFns
import Derived.Test.YtcocblbfgjjlbaaGreatDoorLib
set_option linter.unusedSimpArgs false
set_option linter.unusedVariables false
set_option maxHeartbeats 1000000
set_option maxRecDepth 20000
namespace Go.Proofs.YtcocblbfgjjlbaaGreatDoor
open Go Go.Am
attribute [local irreducible] opsW Ww loopW callW drawW outW outDW gW cW BrW bothW vW resW DropW RdW dcallW altW forkW splitW Later.run

/-- An address. -/
structure A where
  b0 : Int
  b1 : Int
  b2 : Int
  b3 : Int
  deriving DecidableEq
def A.byte (a : A) (k : Nat) : Int := match k with | 0 => a.b0 | 1 => a.b1 | 2 => a.b2 | _ => a.b3
def A.ok (a : A) : Prop := (0 ≤ a.b0 ∧ a.b0 ≤ 255) ∧ (0 ≤ a.b1 ∧ a.b1 ≤ 255) ∧ (0 ≤ a.b2 ∧ a.b2 ≤ 255) ∧ (0 ≤ a.b3 ∧ a.b3 ≤ 255)
theorem A.ok.byte {a : A} (h : a.ok) (k : Nat) : 0 ≤ a.byte k ∧ a.byte k ≤ 255 := by
  unfold A.byte; unfold A.ok at h; split <;> omega
def bit (a : A) (k : Nat) : Int := a.byte (k / 8) / 2 ^ (7 - k % 8) % 2
theorem bit_range (a : A) (k : Nat) : 0 ≤ bit a k ∧ bit a k ≤ 1 := by unfold bit; omega
/-- Does an address begin as a prefix does? -/
def within (a p : A) (bits : Int) : Prop := 0 ≤ bits ∧ bits ≤ 32 ∧ ∀ k, k < bits.toNat → bit a k = bit p k
instance (a p : A) (bits : Int) : Decidable (within a p bits) := by unfold within; infer_instance
theorem within.trans {a p q : A} {m n : Int} (h : within a p m) (h' : within p q n) (hn : n ≤ m) : within a q n :=
  ⟨h'.1, h'.2.1, fun k hk => (h.2.2 k (by omega)).trans (h'.2.2 k hk)⟩
theorem within.zero (a p : A) : within a p 0 := ⟨by omega, by omega, fun k hk => by simp at hk⟩

def A.cells (a : A) : List Value := [.int .u8 a.b0, .int .u8 a.b1, .int .u8 a.b2, .int .u8 a.b3]
abbrev A.val (a : A) : Value := .agg #[.int .u8 a.b0, .int .u8 a.b1, .int .u8 a.b2, .int .u8 a.b3]
abbrev pval (a : A) (bits to : Int) : Value := .agg #[.int .u8 a.b0, .int .u8 a.b1, .int .u8 a.b2, .int .u8 a.b3, .int .i64 bits, .int .i64 to]
theorem A.cell (a : A) (k : Nat) (h : k < 4) : A.cells a = [.int .u8 a.b0, .int .u8 a.b1, .int .u8 a.b2, .int .u8 a.b3] ∧ [Value.int .u8 a.b0, .int .u8 a.b1, .int .u8 a.b2, .int .u8 a.b3][k]? = some (.int .u8 (a.byte k)) := by
  refine ⟨rfl, ?_⟩
  match k, h with
  | 0, _ => rfl
  | 1, _ => rfl
  | 2, _ => rfl
  | 3, _ => rfl
theorem iand1 (x : Int) (h : 0 ≤ x ∧ x ≤ 255) : iand .u8 x 1 = x % 2 := by
  have := iand_mask (k := .u8) (b := 8) rfl x 1 h.1 (by omega) (by decide)
  simp only [Int.pow_one] at this
  rw [show (2 : Int) - 1 = 1 from rfl] at this
  rw [this]
  exact wrap_u8 _ (by omega)
theorem bit_spec (a : A) (k : Nat) (H : Heap) (ha : a.ok) (hk : k < 32) : ACallK Tryz.prog 18 [a.val, .int .i64 k] H (fun v H' => v = .int .u8 (bit a k) ∧ H' = H) := by
  refine .walkW f18_ok (by simp; decide) (by decide) ?_
  have hb := ha.byte (k / 8)
  have he := (A.cell a (k / 8) (by omega)).2
  have ht : ((k : Int) / 8).toNat = k / 8 := by omega
  have hs : (7 - (k : Int) % 8).toNat = 7 - k % 8 := by omega
  have hq0 : 0 ≤ a.byte (k / 8) / 2 ^ (7 - k % 8) := Int.ediv_nonneg hb.1 (Int.le_of_lt (Int.pow_pos (by decide)))
  have hq1 : a.byte (k / 8) / 2 ^ (7 - k % 8) ≤ 255 := Int.le_trans (Int.ediv_le_self _ hb.1) hb.2
  have hbit : bit a k = a.byte (k / 8) / 2 ^ (7 - k % 8) % 2 := rfl
  generalize hQ : a.byte (k / 8) / 2 ^ (7 - k % 8) = Q at *
  repeat' first | simp (disch := first | with_reducible assumption | omega) only [go_sem, Bool.true_and, Bool.and_true, Bool.and_self, Bool.false_and, Bool.and_false, Bool.true_or, Bool.or_true, Bool.false_or, Bool.or_false, ↓reduceIte, Nat.reduceEqDiff, Nat.reduceAdd, Nat.reduceMul, Nat.reduceSub, Nat.reduceBEq, Nat.reduceLeDiff, Nat.reduceLT, Nat.reduceMod, Nat.reduceDiv, Int.reduceToNat, Int.reducePow, Int.reduceMul, Int.reduceAdd, Int.reduceSub, Int.reduceLE, Int.reduceLT, Int.reduceNeg, Int.reduceDiv, Int.reduceMod, Int.reduceEq, Int.reduceBEq, Int.reduceBNe, f18, f18b, f18r0, f18r1, he, ht, hs, hQ, iand1] | (refine BrW.of (fun hb => ?_) (fun hb => ?_) <;> (have hb' := hb; try simp only [decide_eq_true_eq, decide_eq_false_iff_not, beq_iff_eq, bne_iff_ne, beq_eq_false_iff_ne, bne_eq_false_iff_eq, Bool.not_eq_true', Bool.not_eq_false', Bool.not_eq_true, Bool.not_eq_false, Bool.and_eq_true, Bool.or_eq_true, Bool.and_eq_false_iff, Bool.or_eq_false_iff, Int.not_lt, Int.not_le, ne_eq, gt_iff_lt, ge_iff_le] at hb') <;> (try (exfalso; omega))) | (refine altW.of ?_ ?_)
  exact .back rfl ⟨by rw [hbit], rfl⟩
theorem Within_spec (a p : A) (bits to : Int) (H : Heap) (ha : a.ok) (hp : p.ok) : ACallK Tryz.prog 38 [a.val, pval p bits to] H (fun v H' => v = .bool (decide (within a p bits)) ∧ H' = H) := by
  refine .walkW f38_ok (by simp; decide) (by decide) ?_
  by_cases h : 0 ≤ bits ∧ bits ≤ 32
  · obtain ⟨h0, h1⟩ := h
    obtain ⟨n, rfl⟩ := Int.eq_ofNat_of_zero_le h0
    repeat' first | simp (disch := first | with_reducible assumption | omega) only [go_sem, Bool.true_and, Bool.and_true, Bool.and_self, Bool.false_and, Bool.and_false, Bool.true_or, Bool.or_true, Bool.false_or, Bool.or_false, ↓reduceIte, Nat.reduceEqDiff, Nat.reduceAdd, Nat.reduceMul, Nat.reduceSub, Nat.reduceBEq, Nat.reduceLeDiff, Nat.reduceLT, Nat.reduceMod, Nat.reduceDiv, Int.reduceToNat, Int.reducePow, Int.reduceMul, Int.reduceAdd, Int.reduceSub, Int.reduceLE, Int.reduceLT, Int.reduceNeg, Int.reduceDiv, Int.reduceMod, Int.reduceEq, Int.reduceBEq, Int.reduceBNe, f38, f38b, f38r0, f38r1, f38r2, f38r3, f38r4, f38r5, f38r6, f38r7, f38r8, f38r10] | (refine BrW.of (fun hb => ?_) (fun hb => ?_) <;> (have hb' := hb; try simp only [decide_eq_true_eq, decide_eq_false_iff_not, beq_iff_eq, bne_iff_ne, beq_eq_false_iff_ne, bne_eq_false_iff_eq, Bool.not_eq_true', Bool.not_eq_false', Bool.not_eq_true, Bool.not_eq_false, Bool.and_eq_true, Bool.or_eq_true, Bool.and_eq_false_iff, Bool.or_eq_false_iff, Int.not_lt, Int.not_le, ne_eq, gt_iff_lt, ge_iff_le] at hb') <;> (try (exfalso; omega))) | (refine altW.of ?_ ?_)
    refine loopW.of (by decide) (fun m e H'' => ∃ i : Nat, e = [(2, .pointer (some ⟨H.length, 0, some 1⟩)), (3, .pointer (some ⟨H.length + 1, 0, some 1⟩)), (15, .int .i64 n), (16, .int .i64 i)] ∧ H'' = H ++ [.cells 0 0 false [.int .u8 a.b0, .int .u8 a.b1, .int .u8 a.b2, .int .u8 a.b3], .cells 0 0 false [.int .u8 p.b0, .int .u8 p.b1, .int .u8 p.b2, .int .u8 p.b3, .int .i64 n, .int .i64 to]] ∧ i ≤ n ∧ m = n - i ∧ ∀ j, j < i → bit a j = bit p j) n ⟨0, rfl, rfl, by omega, rfl, fun j hj => by omega⟩ ?_
    rintro m e H'' ⟨i, rfl, rfl, hi, rfl, hinv⟩
    by_cases hlt : i < n
    · have s1 := fun H' => bit_spec a i H' ha (by omega)
      have s2 := fun H' => bit_spec p i H' hp (by omega)
      by_cases hb : bit a i = bit p i
      · have hb' : (bit a i != bit p i) = false := by rw [hb]; simp
        have hnext : ∀ j, j < i + 1 → bit a j = bit p j := fun j hj => by
          by_cases e : j = i
          · rw [e]; exact hb
          · exact hinv j (by omega)
        clear hinv hb
        generalize bit a i = x at *
        generalize bit p i = y at *
        repeat' first | simp (disch := first | with_reducible assumption | omega) only [go_sem, Bool.true_and, Bool.and_true, Bool.and_self, Bool.false_and, Bool.and_false, Bool.true_or, Bool.or_true, Bool.false_or, Bool.or_false, ↓reduceIte, Nat.reduceEqDiff, Nat.reduceAdd, Nat.reduceMul, Nat.reduceSub, Nat.reduceBEq, Nat.reduceLeDiff, Nat.reduceLT, Nat.reduceMod, Nat.reduceDiv, Int.reduceToNat, Int.reducePow, Int.reduceMul, Int.reduceAdd, Int.reduceSub, Int.reduceLE, Int.reduceLT, Int.reduceNeg, Int.reduceDiv, Int.reduceMod, Int.reduceEq, Int.reduceBEq, Int.reduceBNe, f38, f38b, f38r0, f38r1, f38r2, f38r3, f38r4, f38r5, f38r6, f38r7, f38r8, f38r10, f38l0, hb'] | (refine BrW.of (fun hb => ?_) (fun hb => ?_) <;> (have hb' := hb; try simp only [decide_eq_true_eq, decide_eq_false_iff_not, beq_iff_eq, bne_iff_ne, beq_eq_false_iff_ne, bne_eq_false_iff_eq, Bool.not_eq_true', Bool.not_eq_false', Bool.not_eq_true, Bool.not_eq_false, Bool.and_eq_true, Bool.or_eq_true, Bool.and_eq_false_iff, Bool.or_eq_false_iff, Int.not_lt, Int.not_le, ne_eq, gt_iff_lt, ge_iff_le] at hb') <;> (try (exfalso; omega))) | (refine altW.of ?_ ?_) | (refine dcallW.of _ _ (s1 _) ?_) | (refine callW.ex _ _ (s1 _) ?_) | (refine dcallW.of _ _ (s2 _) ?_) | (refine callW.ex _ _ (s2 _) ?_)
        refine RdW.cut2 [2, 3, 15, 16] (n - (i + 1)) (by omega) rfl rfl ?_ ?_
        · simp (disch := first | with_reducible assumption | omega) only [go_sem, Bool.true_and, Bool.and_true, Bool.and_self, Bool.false_and, Bool.and_false, Bool.true_or, Bool.or_true, Bool.false_or, Bool.or_false, ↓reduceIte, Nat.reduceEqDiff, Nat.reduceAdd, Nat.reduceMul, Nat.reduceSub, Nat.reduceBEq, Nat.reduceLeDiff, Nat.reduceLT, Nat.reduceMod, Nat.reduceDiv, Int.reduceToNat, Int.reducePow, Int.reduceMul, Int.reduceAdd, Int.reduceSub, Int.reduceLE, Int.reduceLT, Int.reduceNeg, Int.reduceDiv, Int.reduceMod, Int.reduceEq, Int.reduceBEq, Int.reduceBNe]
          simp
        · simp (disch := first | with_reducible assumption | omega) only [go_sem, Bool.true_and, Bool.and_true, Bool.and_self, Bool.false_and, Bool.and_false, Bool.true_or, Bool.or_true, Bool.false_or, Bool.or_false, ↓reduceIte, Nat.reduceEqDiff, Nat.reduceAdd, Nat.reduceMul, Nat.reduceSub, Nat.reduceBEq, Nat.reduceLeDiff, Nat.reduceLT, Nat.reduceMod, Nat.reduceDiv, Int.reduceToNat, Int.reducePow, Int.reduceMul, Int.reduceAdd, Int.reduceSub, Int.reduceLE, Int.reduceLT, Int.reduceNeg, Int.reduceDiv, Int.reduceMod, Int.reduceEq, Int.reduceBEq, Int.reduceBNe]
          exact ⟨i + 1, rfl, by omega, rfl, hnext⟩
      · have hb' : (bit a i != bit p i) = true := by simpa using hb
        have hw : decide (within a p n) = false := by simp only [decide_eq_false_iff_not]; exact fun h => hb (h.2.2 i (by omega))
        clear hinv hb
        generalize bit a i = x at *
        generalize bit p i = y at *
        repeat' first | simp (disch := first | with_reducible assumption | omega) only [go_sem, Bool.true_and, Bool.and_true, Bool.and_self, Bool.false_and, Bool.and_false, Bool.true_or, Bool.or_true, Bool.false_or, Bool.or_false, ↓reduceIte, Nat.reduceEqDiff, Nat.reduceAdd, Nat.reduceMul, Nat.reduceSub, Nat.reduceBEq, Nat.reduceLeDiff, Nat.reduceLT, Nat.reduceMod, Nat.reduceDiv, Int.reduceToNat, Int.reducePow, Int.reduceMul, Int.reduceAdd, Int.reduceSub, Int.reduceLE, Int.reduceLT, Int.reduceNeg, Int.reduceDiv, Int.reduceMod, Int.reduceEq, Int.reduceBEq, Int.reduceBNe, f38, f38b, f38r0, f38r1, f38r2, f38r3, f38r4, f38r5, f38r6, f38r7, f38r8, f38r10, f38l0, f38, f38b, f38r0, f38r1, f38r2, f38r3, f38r4, f38r5, f38r6, f38r7, f38r8, f38r10, hb'] | (refine BrW.of (fun hb => ?_) (fun hb => ?_) <;> (have hb' := hb; try simp only [decide_eq_true_eq, decide_eq_false_iff_not, beq_iff_eq, bne_iff_ne, beq_eq_false_iff_ne, bne_eq_false_iff_eq, Bool.not_eq_true', Bool.not_eq_false', Bool.not_eq_true, Bool.not_eq_false, Bool.and_eq_true, Bool.or_eq_true, Bool.and_eq_false_iff, Bool.or_eq_false_iff, Int.not_lt, Int.not_le, ne_eq, gt_iff_lt, ge_iff_le] at hb') <;> (try (exfalso; omega))) | (refine altW.of ?_ ?_) | (refine dcallW.of _ _ (s1 _) ?_) | (refine callW.ex _ _ (s1 _) ?_) | (refine dcallW.of _ _ (s2 _) ?_) | (refine callW.ex _ _ (s2 _) ?_)
        exact .back rfl ⟨by rw [hw], rfl⟩
    · obtain rfl : i = n := by omega
      have hw : decide (within a p i) = true := by simp only [decide_eq_true_eq]; exact ⟨h0, h1, fun k hk => hinv k (by omega)⟩
      repeat' first | simp (disch := first | with_reducible assumption | omega) only [go_sem, Bool.true_and, Bool.and_true, Bool.and_self, Bool.false_and, Bool.and_false, Bool.true_or, Bool.or_true, Bool.false_or, Bool.or_false, ↓reduceIte, Nat.reduceEqDiff, Nat.reduceAdd, Nat.reduceMul, Nat.reduceSub, Nat.reduceBEq, Nat.reduceLeDiff, Nat.reduceLT, Nat.reduceMod, Nat.reduceDiv, Int.reduceToNat, Int.reducePow, Int.reduceMul, Int.reduceAdd, Int.reduceSub, Int.reduceLE, Int.reduceLT, Int.reduceNeg, Int.reduceDiv, Int.reduceMod, Int.reduceEq, Int.reduceBEq, Int.reduceBNe, f38, f38b, f38r0, f38r1, f38r2, f38r3, f38r4, f38r5, f38r6, f38r7, f38r8, f38r10, f38l0, f38, f38b, f38r0, f38r1, f38r2, f38r3, f38r4, f38r5, f38r6, f38r7, f38r8, f38r10] | (refine BrW.of (fun hb => ?_) (fun hb => ?_) <;> (have hb' := hb; try simp only [decide_eq_true_eq, decide_eq_false_iff_not, beq_iff_eq, bne_iff_ne, beq_eq_false_iff_ne, bne_eq_false_iff_eq, Bool.not_eq_true', Bool.not_eq_false', Bool.not_eq_true, Bool.not_eq_false, Bool.and_eq_true, Bool.or_eq_true, Bool.and_eq_false_iff, Bool.or_eq_false_iff, Int.not_lt, Int.not_le, ne_eq, gt_iff_lt, ge_iff_le] at hb') <;> (try (exfalso; omega))) | (refine altW.of ?_ ?_)
      exact .back rfl ⟨by rw [hw], rfl⟩
  · have hw : decide (within a p bits) = false := by simp only [decide_eq_false_iff_not]; exact fun hw => h ⟨hw.1, hw.2.1⟩
    by_cases h0 : bits < 0
    · clear h
      repeat' first | simp (disch := first | with_reducible assumption | omega) only [go_sem, Bool.true_and, Bool.and_true, Bool.and_self, Bool.false_and, Bool.and_false, Bool.true_or, Bool.or_true, Bool.false_or, Bool.or_false, ↓reduceIte, Nat.reduceEqDiff, Nat.reduceAdd, Nat.reduceMul, Nat.reduceSub, Nat.reduceBEq, Nat.reduceLeDiff, Nat.reduceLT, Nat.reduceMod, Nat.reduceDiv, Int.reduceToNat, Int.reducePow, Int.reduceMul, Int.reduceAdd, Int.reduceSub, Int.reduceLE, Int.reduceLT, Int.reduceNeg, Int.reduceDiv, Int.reduceMod, Int.reduceEq, Int.reduceBEq, Int.reduceBNe, f38, f38b, f38r0, f38r1, f38r2, f38r3, f38r4, f38r5, f38r6, f38r7, f38r8, f38r10] | (refine BrW.of (fun hb => ?_) (fun hb => ?_) <;> (have hb' := hb; try simp only [decide_eq_true_eq, decide_eq_false_iff_not, beq_iff_eq, bne_iff_ne, beq_eq_false_iff_ne, bne_eq_false_iff_eq, Bool.not_eq_true', Bool.not_eq_false', Bool.not_eq_true, Bool.not_eq_false, Bool.and_eq_true, Bool.or_eq_true, Bool.and_eq_false_iff, Bool.or_eq_false_iff, Int.not_lt, Int.not_le, ne_eq, gt_iff_lt, ge_iff_le] at hb') <;> (try (exfalso; omega))) | (refine altW.of ?_ ?_)
      all_goals exact .back rfl ⟨by rw [hw], rfl⟩
    · have h1 : 32 < bits := by omega
      clear h
      repeat' first | simp (disch := first | with_reducible assumption | omega) only [go_sem, Bool.true_and, Bool.and_true, Bool.and_self, Bool.false_and, Bool.and_false, Bool.true_or, Bool.or_true, Bool.false_or, Bool.or_false, ↓reduceIte, Nat.reduceEqDiff, Nat.reduceAdd, Nat.reduceMul, Nat.reduceSub, Nat.reduceBEq, Nat.reduceLeDiff, Nat.reduceLT, Nat.reduceMod, Nat.reduceDiv, Int.reduceToNat, Int.reducePow, Int.reduceMul, Int.reduceAdd, Int.reduceSub, Int.reduceLE, Int.reduceLT, Int.reduceNeg, Int.reduceDiv, Int.reduceMod, Int.reduceEq, Int.reduceBEq, Int.reduceBNe, f38, f38b, f38r0, f38r1, f38r2, f38r3, f38r4, f38r5, f38r6, f38r7, f38r8, f38r10] | (refine BrW.of (fun hb => ?_) (fun hb => ?_) <;> (have hb' := hb; try simp only [decide_eq_true_eq, decide_eq_false_iff_not, beq_iff_eq, bne_iff_ne, beq_eq_false_iff_ne, bne_eq_false_iff_eq, Bool.not_eq_true', Bool.not_eq_false', Bool.not_eq_true, Bool.not_eq_false, Bool.and_eq_true, Bool.or_eq_true, Bool.and_eq_false_iff, Bool.or_eq_false_iff, Int.not_lt, Int.not_le, ne_eq, gt_iff_lt, ge_iff_le] at hb') <;> (try (exfalso; omega))) | (refine altW.of ?_ ?_)
      all_goals exact .back rfl ⟨by rw [hw], rfl⟩

end Go.Proofs.YtcocblbfgjjlbaaGreatDoor
