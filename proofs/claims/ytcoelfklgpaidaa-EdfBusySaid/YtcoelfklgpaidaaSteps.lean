import Derived.Test.YtcoelfklgpaidaaBase
import Derived.Test.YtcoelfklgpaidaaFns
import Derived.Test.YtcoelfklgpaidaaLib
import Derived.Test.YtcoelfklgpaidaaPlain
set_option linter.unusedSimpArgs false
set_option linter.unusedVariables false
set_option maxHeartbeats 2000000
set_option maxRecDepth 20000
namespace Go.Proofs.Ytcoelfklgpaidaa
open Go Go.Am
attribute [local irreducible] opsW Ww loopW callW drawW outW outDW gW cW BrW bothW vW resW DropW RdW dcallW altW Later.run

def S.cells (s : S) : List Value := [.int .i64 s.fr, .int .i64 s.by']
abbrev Jobs (H : Heap) (k o g : Nat) (l : List S) : Prop := Tbl S S.cells 2 j0 H k o g l
theorem Jobs.cell {H : Heap} {k o g : Nat} {l : List S} (h : Jobs H k o g l) : ∃ ro cs, H[k]? = some (.cells g 2 ro cs) ∧ ∀ i, i < l.length → cs[o + i * 2]? = some (.int .i64 (F l i)) ∧ cs[o + i * 2 + 1]? = some (.int .i64 (T l i)) := by
  obtain ⟨ro, cs, h1, h2, h3⟩ := h.at'
  exact ⟨ro, cs, h1, fun i hi => ⟨h3 i hi 0 (by omega), h3 i hi 1 (by omega)⟩⟩

theorem Wrong_spec (l : List S) (k o g c : Nat) (H : Heap) (hs : Jobs H k o g l) (hl : l.length ≤ 9223372036854775807) : ACallK Try.prog 15 [slv k o g l.length c] H (fun v H' => v = .int .i64 (wrongL l) ∧ H' = H) := by
  obtain ⟨ro, cs, hk, hcs⟩ := hs.cell
  refine .walkW f15_ok (by simp; decide) (by decide) ?_
  by_cases h4 : 400 < l.length
  · rw [show wrongL l = 2 from if_pos h4]
    repeat' first | simp (disch := first | with_reducible assumption | omega) only [go_sem, Bool.true_and, Bool.and_true, Bool.and_self, Bool.false_and, Bool.and_false, Bool.true_or, Bool.or_true, Bool.false_or, Bool.or_false, ↓reduceIte, Nat.reduceEqDiff, Nat.reduceAdd, Nat.reduceMul, Nat.reduceSub, Nat.reduceBEq, Nat.reduceLeDiff, Nat.reduceLT, Nat.reduceMod, Nat.reduceDiv, Int.reduceToNat, Int.reducePow, Int.reduceMul, Int.reduceAdd, Int.reduceSub, Int.reduceLE, Int.reduceLT, Int.reduceNeg, Int.reduceDiv, Int.reduceMod, Int.reduceEq, Int.reduceBEq, Int.reduceBNe, f15, f15b, f15r0, f15r1, f15r2, f15r3, f15r4, f15r5, f15r6, f15r7, f15r8, f15r10, hk] | (refine BrW.of (fun hb => ?_) (fun hb => ?_) <;> (have hb' := hb; try simp only [decide_eq_true_eq, decide_eq_false_iff_not, beq_iff_eq, bne_iff_ne, beq_eq_false_iff_ne, bne_eq_false_iff_eq, Bool.not_eq_true', Bool.not_eq_false', Bool.not_eq_true, Bool.not_eq_false, Bool.and_eq_true, Bool.or_eq_true, Bool.and_eq_false_iff, Bool.or_eq_false_iff, Int.not_lt, Int.not_le, ne_eq, gt_iff_lt, ge_iff_le] at hb') <;> (try (exfalso; omega))) | (refine altW.of ?_ ?_)
    all_goals exact .here ⟨rfl, rfl⟩
  rw [show wrongL l = wrongGo l from if_neg h4]
  generalize hW : wrongGo l = W
  repeat' first | simp (disch := first | with_reducible assumption | omega) only [go_sem, Bool.true_and, Bool.and_true, Bool.and_self, Bool.false_and, Bool.and_false, Bool.true_or, Bool.or_true, Bool.false_or, Bool.or_false, ↓reduceIte, Nat.reduceEqDiff, Nat.reduceAdd, Nat.reduceMul, Nat.reduceSub, Nat.reduceBEq, Nat.reduceLeDiff, Nat.reduceLT, Nat.reduceMod, Nat.reduceDiv, Int.reduceToNat, Int.reducePow, Int.reduceMul, Int.reduceAdd, Int.reduceSub, Int.reduceLE, Int.reduceLT, Int.reduceNeg, Int.reduceDiv, Int.reduceMod, Int.reduceEq, Int.reduceBEq, Int.reduceBNe, f15, f15b, f15r0, f15r1, f15r2, f15r3, f15r4, f15r5, f15r6, f15r7, f15r8, f15r10, hk] | (refine BrW.of (fun hb => ?_) (fun hb => ?_) <;> (have hb' := hb; try simp only [decide_eq_true_eq, decide_eq_false_iff_not, beq_iff_eq, bne_iff_ne, beq_eq_false_iff_ne, bne_eq_false_iff_eq, Bool.not_eq_true', Bool.not_eq_false', Bool.not_eq_true, Bool.not_eq_false, Bool.and_eq_true, Bool.or_eq_true, Bool.and_eq_false_iff, Bool.or_eq_false_iff, Int.not_lt, Int.not_le, ne_eq, gt_iff_lt, ge_iff_le] at hb') <;> (try (exfalso; omega))) | (refine altW.of ?_ ?_)
  refine loopW.of (by decide) (fun m e H' => ∃ (i : Nat), e = [(8, slv k o g l.length c), (9, .int .i64 l.length), (10, .int .i64 i)] ∧ H' = H ∧ i ≤ l.length ∧ m = l.length - i ∧ wrongGo (l.drop i) = W) l.length ⟨0, rfl, rfl, by omega, rfl, hW⟩ ?_
  rintro m e H' ⟨i, rfl, rfl, hi, rfl, hinv⟩
  by_cases hlt : i < l.length
  · obtain ⟨e0, e1⟩ := hcs i hlt
    rw [drop_cons j0 l i hlt] at hinv
    unfold wrongGo S.bad at hinv
    change (if F l i < 0 ∨ 1000 < T l i ∨ T l i < F l i then 2 else _) = W at hinv
    generalize F l i = a at *
    generalize T l i = b at *
    by_cases hb : a < 0 ∨ 1000 < b ∨ b < a
    · rw [if_pos hb] at hinv
      rw [← hinv]
      repeat' first | simp (disch := first | with_reducible assumption | omega) only [go_sem, Bool.true_and, Bool.and_true, Bool.and_self, Bool.false_and, Bool.and_false, Bool.true_or, Bool.or_true, Bool.false_or, Bool.or_false, ↓reduceIte, Nat.reduceEqDiff, Nat.reduceAdd, Nat.reduceMul, Nat.reduceSub, Nat.reduceBEq, Nat.reduceLeDiff, Nat.reduceLT, Nat.reduceMod, Nat.reduceDiv, Int.reduceToNat, Int.reducePow, Int.reduceMul, Int.reduceAdd, Int.reduceSub, Int.reduceLE, Int.reduceLT, Int.reduceNeg, Int.reduceDiv, Int.reduceMod, Int.reduceEq, Int.reduceBEq, Int.reduceBNe, f15, f15b, f15r0, f15r1, f15r2, f15r3, f15r4, f15r5, f15r6, f15r7, f15r8, f15r10, f15l0, hk, get_old hk, e0, e1] | (refine BrW.of (fun hb => ?_) (fun hb => ?_) <;> (have hb' := hb; try simp only [decide_eq_true_eq, decide_eq_false_iff_not, beq_iff_eq, bne_iff_ne, beq_eq_false_iff_ne, bne_eq_false_iff_eq, Bool.not_eq_true', Bool.not_eq_false', Bool.not_eq_true, Bool.not_eq_false, Bool.and_eq_true, Bool.or_eq_true, Bool.and_eq_false_iff, Bool.or_eq_false_iff, Int.not_lt, Int.not_le, ne_eq, gt_iff_lt, ge_iff_le] at hb') <;> (try (exfalso; omega))) | (refine altW.of ?_ ?_)
      all_goals exact .back rfl ⟨rfl, rfl⟩
    · rw [if_neg hb] at hinv
      have hb1 : 0 ≤ a ∧ a ≤ b ∧ b ≤ 1000 := by omega
      clear hb
      repeat' first | simp (disch := first | with_reducible assumption | omega) only [go_sem, Bool.true_and, Bool.and_true, Bool.and_self, Bool.false_and, Bool.and_false, Bool.true_or, Bool.or_true, Bool.false_or, Bool.or_false, ↓reduceIte, Nat.reduceEqDiff, Nat.reduceAdd, Nat.reduceMul, Nat.reduceSub, Nat.reduceBEq, Nat.reduceLeDiff, Nat.reduceLT, Nat.reduceMod, Nat.reduceDiv, Int.reduceToNat, Int.reducePow, Int.reduceMul, Int.reduceAdd, Int.reduceSub, Int.reduceLE, Int.reduceLT, Int.reduceNeg, Int.reduceDiv, Int.reduceMod, Int.reduceEq, Int.reduceBEq, Int.reduceBNe, f15, f15b, f15r0, f15r1, f15r2, f15r3, f15r4, f15r5, f15r6, f15r7, f15r8, f15r10, f15l0, hk, get_old hk, e0, e1] | (refine BrW.of (fun hb => ?_) (fun hb => ?_) <;> (have hb' := hb; try simp only [decide_eq_true_eq, decide_eq_false_iff_not, beq_iff_eq, bne_iff_ne, beq_eq_false_iff_ne, bne_eq_false_iff_eq, Bool.not_eq_true', Bool.not_eq_false', Bool.not_eq_true, Bool.not_eq_false, Bool.and_eq_true, Bool.or_eq_true, Bool.and_eq_false_iff, Bool.or_eq_false_iff, Int.not_lt, Int.not_le, ne_eq, gt_iff_lt, ge_iff_le] at hb') <;> (try (exfalso; omega))) | (refine altW.of ?_ ?_)
      refine RdW.cut0 [8, 9, 10] (l.length - (i + 1)) ?_ ?_ ?_
      · omega
      · simp (disch := first | with_reducible assumption | omega) only [go_sem, Bool.true_and, Bool.and_true, Bool.and_self, Bool.false_and, Bool.and_false, Bool.true_or, Bool.or_true, Bool.false_or, Bool.or_false, ↓reduceIte, Nat.reduceEqDiff, Nat.reduceAdd, Nat.reduceMul, Nat.reduceSub, Nat.reduceBEq, Nat.reduceLeDiff, Nat.reduceLT, Nat.reduceMod, Nat.reduceDiv, Int.reduceToNat, Int.reducePow, Int.reduceMul, Int.reduceAdd, Int.reduceSub, Int.reduceLE, Int.reduceLT, Int.reduceNeg, Int.reduceDiv, Int.reduceMod, Int.reduceEq, Int.reduceBEq, Int.reduceBNe]
        exact decide_eq_true hs.lt
      · simp (disch := first | with_reducible assumption | omega) only [go_sem, Bool.true_and, Bool.and_true, Bool.and_self, Bool.false_and, Bool.and_false, Bool.true_or, Bool.or_true, Bool.false_or, Bool.or_false, ↓reduceIte, Nat.reduceEqDiff, Nat.reduceAdd, Nat.reduceMul, Nat.reduceSub, Nat.reduceBEq, Nat.reduceLeDiff, Nat.reduceLT, Nat.reduceMod, Nat.reduceDiv, Int.reduceToNat, Int.reducePow, Int.reduceMul, Int.reduceAdd, Int.reduceSub, Int.reduceLE, Int.reduceLT, Int.reduceNeg, Int.reduceDiv, Int.reduceMod, Int.reduceEq, Int.reduceBEq, Int.reduceBNe]
        exact ⟨i + 1, rfl, by omega, rfl, hinv⟩
  · rw [List.drop_eq_nil_of_le (by omega)] at hinv
    unfold wrongGo at hinv
    repeat' first | simp (disch := first | with_reducible assumption | omega) only [go_sem, Bool.true_and, Bool.and_true, Bool.and_self, Bool.false_and, Bool.and_false, Bool.true_or, Bool.or_true, Bool.false_or, Bool.or_false, ↓reduceIte, Nat.reduceEqDiff, Nat.reduceAdd, Nat.reduceMul, Nat.reduceSub, Nat.reduceBEq, Nat.reduceLeDiff, Nat.reduceLT, Nat.reduceMod, Nat.reduceDiv, Int.reduceToNat, Int.reducePow, Int.reduceMul, Int.reduceAdd, Int.reduceSub, Int.reduceLE, Int.reduceLT, Int.reduceNeg, Int.reduceDiv, Int.reduceMod, Int.reduceEq, Int.reduceBEq, Int.reduceBNe, f15, f15b, f15r0, f15r1, f15r2, f15r3, f15r4, f15r5, f15r6, f15r7, f15r8, f15r10, f15l0, f15, f15b, f15r0, f15r1, f15r2, f15r3, f15r4, f15r5, f15r6, f15r7, f15r8, f15r10, hk] | (refine BrW.of (fun hb => ?_) (fun hb => ?_) <;> (have hb' := hb; try simp only [decide_eq_true_eq, decide_eq_false_iff_not, beq_iff_eq, bne_iff_ne, beq_eq_false_iff_ne, bne_eq_false_iff_eq, Bool.not_eq_true', Bool.not_eq_false', Bool.not_eq_true, Bool.not_eq_false, Bool.and_eq_true, Bool.or_eq_true, Bool.and_eq_false_iff, Bool.or_eq_false_iff, Int.not_lt, Int.not_le, ne_eq, gt_iff_lt, ge_iff_le] at hb') <;> (try (exfalso; omega))) | (refine altW.of ?_ ?_)
    all_goals exact .here ⟨by rw [← hinv], rfl⟩
theorem iandS (a : Int) (h : 0 ≤ a ∧ a < 4294967296) : iand .u64 a 4294967295 = a := by
  have := iand_mask (k := .u64) (b := 64) rfl a 32 h.1 (by omega) (by decide)
  rw [show (2 : Int) ^ 32 - 1 = 4294967295 by decide] at this
  rw [this, show (2 : Int) ^ 32 = 4294967296 by decide, show a % 4294967296 = a by omega]
  exact wrap_u64 _ (by omega)
theorem Mul64_one (n : Nat) (H : Heap) (hn : n ≤ 1048576) : ACallK Try.prog 20 [.int .u64 1, .int .u64 n] H (fun v H' => v = .tuple #[.int .u64 0, .int .u64 n] ∧ H' = H) := by
  refine .walkW f20_ok (by simp; decide) (by decide) ?_
  have i1 := iandS 1 (by omega)
  have i2 := iandS (n : Int) (by omega)
  have i3 := iandS 0 (by omega)
  have q1 : (n : Int) / 4294967296 = 0 := by omega
  repeat' first | simp (disch := first | with_reducible assumption | omega) only [go_sem, Bool.true_and, Bool.and_true, Bool.and_self, Bool.false_and, Bool.and_false, Bool.true_or, Bool.or_true, Bool.false_or, Bool.or_false, ↓reduceIte, Nat.reduceEqDiff, Nat.reduceAdd, Nat.reduceMul, Nat.reduceSub, Nat.reduceBEq, Nat.reduceLeDiff, Nat.reduceLT, Nat.reduceMod, Nat.reduceDiv, Int.reduceToNat, Int.reducePow, Int.reduceMul, Int.reduceAdd, Int.reduceSub, Int.reduceLE, Int.reduceLT, Int.reduceNeg, Int.reduceDiv, Int.reduceMod, Int.reduceEq, Int.reduceBEq, Int.reduceBNe, f20, f20b, f20r0, f20r1, f20r2, f20r3, f20r4, f20r5, f20r6, f20r7, f20r8, f20r9, f20r10, f20r11, i1, i2, i3, q1, Int.zero_mul, Int.one_mul, Int.zero_add, Int.add_zero, Int.zero_ediv, Int.mul_zero] | (refine BrW.of (fun hb => ?_) (fun hb => ?_) <;> (have hb' := hb; try simp only [decide_eq_true_eq, decide_eq_false_iff_not, beq_iff_eq, bne_iff_ne, beq_eq_false_iff_ne, bne_eq_false_iff_eq, Bool.not_eq_true', Bool.not_eq_false', Bool.not_eq_true, Bool.not_eq_false, Bool.and_eq_true, Bool.or_eq_true, Bool.and_eq_false_iff, Bool.or_eq_false_iff, Int.not_lt, Int.not_le, ne_eq, gt_iff_lt, ge_iff_le] at hb') <;> (try (exfalso; omega))) | (refine altW.of ?_ ?_)
  all_goals exact .here ⟨rfl, rfl⟩
theorem Mul_one (n : Nat) (H : Heap) (hn : n ≤ 1048576) : ACallK Try.prog 18 [.int .u64 1, .int .u64 n] H (fun v H' => v = .tuple #[.int .u64 0, .int .u64 n] ∧ H' = H) := by
  refine .walkW f18_ok (by simp; decide) (by decide) ?_
  repeat' first | simp (disch := first | with_reducible assumption | omega) only [go_sem, Bool.true_and, Bool.and_true, Bool.and_self, Bool.false_and, Bool.and_false, Bool.true_or, Bool.or_true, Bool.false_or, Bool.or_false, ↓reduceIte, Nat.reduceEqDiff, Nat.reduceAdd, Nat.reduceMul, Nat.reduceSub, Nat.reduceBEq, Nat.reduceLeDiff, Nat.reduceLT, Nat.reduceMod, Nat.reduceDiv, Int.reduceToNat, Int.reducePow, Int.reduceMul, Int.reduceAdd, Int.reduceSub, Int.reduceLE, Int.reduceLT, Int.reduceNeg, Int.reduceDiv, Int.reduceMod, Int.reduceEq, Int.reduceBEq, Int.reduceBNe, f18, f18b, f18r0, f18r1, f18r2, f18r3, f18r4] | (refine BrW.of (fun hb => ?_) (fun hb => ?_) <;> (have hb' := hb; try simp only [decide_eq_true_eq, decide_eq_false_iff_not, beq_iff_eq, bne_iff_ne, beq_eq_false_iff_ne, bne_eq_false_iff_eq, Bool.not_eq_true', Bool.not_eq_false', Bool.not_eq_true, Bool.not_eq_false, Bool.and_eq_true, Bool.or_eq_true, Bool.and_eq_false_iff, Bool.or_eq_false_iff, Int.not_lt, Int.not_le, ne_eq, gt_iff_lt, ge_iff_le] at hb') <;> (try (exfalso; omega))) | (refine altW.of ?_ ?_) | (refine .of ((Mul64_one n _ hn).mono ?_); rintro v _ ⟨rfl, rfl⟩)
  all_goals exact .here ⟨rfl, rfl⟩
theorem wr_mid (C : List Value) : ∀ (D A B : List Value), B.length = D.length → wr (A ++ (B ++ C)) A.length D = A ++ (D ++ C)
  | [], A, B, h => by rw [List.length_eq_zero_iff.1 h]; rfl
  | d :: D, A, [], h => by simp at h
  | d :: D, A, b :: B, h => by
    have := wr_mid C D (A ++ [d]) B (by simpa using h)
    simp only [wr]
    rw [show (A ++ (b :: B ++ C)).set A.length d = (A ++ [d]) ++ (B ++ C) by simp, show A.length + 1 = (A ++ [d]).length by simp, this]
    simp
/-- The first m of n are x. -/
def Rp (x : Int) (n m : Nat) : List Value := ints (List.replicate m x ++ List.replicate (n - m) 0)
theorem Rp_length {x : Int} {n m : Nat} (h : m ≤ n) : (Rp x n m).length = n := by simp [Rp, ints_length]; omega
theorem Rp_zero (x : Int) (n : Nat) : (List.replicate n [Value.int .i64 0]).flatten = Rp x n 0 := by simp [Rp, ints]
theorem Rp_all (x : Int) (n : Nat) : Rp x n n = ints (List.replicate n x) := by simp [Rp]
theorem Rp_wr {x : Int} {n m t : Nat} (D : List Value) (hD : D = ints (List.replicate t x)) (h : m + t ≤ n) : wr (Rp x n m) m D = Rp x n (m + t) := by
  have e : Rp x n m = ints (List.replicate m x) ++ (ints (List.replicate t 0) ++ ints (List.replicate (n - m - t) 0)) := by
    rw [ints_app, ints_app, List.replicate_append_replicate, show t + (n - m - t) = n - m by omega]; rfl
  have := wr_mid (ints (List.replicate (n - m - t) 0)) (ints (List.replicate t x)) (ints (List.replicate m x)) (ints (List.replicate t 0)) (by simp [ints_length])
  rw [← e, ints_length, List.length_replicate] at this
  rw [hD, this, ints_app, ints_app, ← List.append_assoc, List.replicate_append_replicate, show n - m - t = n - (m + t) by omega]; rfl
theorem Rp_take {x : Int} {n m t : Nat} (h : t ≤ m) : (Rp x n m).take t = ints (List.replicate t x) := by
  unfold Rp
  rw [← ints_app, List.take_append_of_le_length (by rw [ints_length, List.length_replicate]; exact h), ints, List.map_replicate, List.take_replicate, Nat.min_eq_left h, ints, List.map_replicate]
theorem Repeat_spec (x : Int) (n k : Nat) (H : Heap) (hn : n ≤ 1048576) (hk : H[k]? = some (.cells 0 1 false [.int .i64 x])) :
    ACallK Try.prog 16 [slv k 0 0 1 1, .int .i64 n] H (fun v H' => v = slv H.length 0 0 n n ∧ H' = H ++ [.cells 0 1 false (ints (List.replicate n x))]) := by
  refine .walkW f16_ok (by simp; decide) (by decide) ?_
  have hz := Rp_zero x n
  by_cases h0 : n = 0
  · have hm : min 1 n = 0 := by omega
    repeat' first | simp (disch := first | with_reducible assumption | omega) only [go_sem, Bool.true_and, Bool.and_true, Bool.and_self, Bool.false_and, Bool.and_false, Bool.true_or, Bool.or_true, Bool.false_or, Bool.or_false, ↓reduceIte, Nat.reduceEqDiff, Nat.reduceAdd, Nat.reduceMul, Nat.reduceSub, Nat.reduceBEq, Nat.reduceLeDiff, Nat.reduceLT, Nat.reduceMod, Nat.reduceDiv, Int.reduceToNat, Int.reducePow, Int.reduceMul, Int.reduceAdd, Int.reduceSub, Int.reduceLE, Int.reduceLT, Int.reduceNeg, Int.reduceDiv, Int.reduceMod, Int.reduceEq, Int.reduceBEq, Int.reduceBNe, f16, f16b, f16r0, f16r1, f16r2, f16r3, f16r4, f16r5, f16r6, f16r7, f16r8, f16r9, f16r11, hk, get_old hk, hm, hz] | (refine BrW.of (fun hb => ?_) (fun hb => ?_) <;> (have hb' := hb; try simp only [decide_eq_true_eq, decide_eq_false_iff_not, beq_iff_eq, bne_iff_ne, beq_eq_false_iff_ne, bne_eq_false_iff_eq, Bool.not_eq_true', Bool.not_eq_false', Bool.not_eq_true, Bool.not_eq_false, Bool.and_eq_true, Bool.or_eq_true, Bool.and_eq_false_iff, Bool.or_eq_false_iff, Int.not_lt, Int.not_le, ne_eq, gt_iff_lt, ge_iff_le] at hb') <;> (try (exfalso; omega))) | (refine altW.of ?_ ?_) | (refine .of ((Mul_one n _ hn).mono ?_); rintro v H ⟨rfl, rfl⟩)
    refine loopW.of (by decide) (fun m e J => e = [(7, slv H.length 0 0 n n), (8, .int .i64 0)] ∧ J = H ++ [.cells 0 1 false (Rp x n 0)]) 0 ⟨rfl, rfl⟩ ?_
    rintro m e J ⟨rfl, rfl⟩
    repeat' first | simp (disch := first | with_reducible assumption | omega) only [go_sem, Bool.true_and, Bool.and_true, Bool.and_self, Bool.false_and, Bool.and_false, Bool.true_or, Bool.or_true, Bool.false_or, Bool.or_false, ↓reduceIte, Nat.reduceEqDiff, Nat.reduceAdd, Nat.reduceMul, Nat.reduceSub, Nat.reduceBEq, Nat.reduceLeDiff, Nat.reduceLT, Nat.reduceMod, Nat.reduceDiv, Int.reduceToNat, Int.reducePow, Int.reduceMul, Int.reduceAdd, Int.reduceSub, Int.reduceLE, Int.reduceLT, Int.reduceNeg, Int.reduceDiv, Int.reduceMod, Int.reduceEq, Int.reduceBEq, Int.reduceBNe, f16, f16b, f16r0, f16r1, f16r2, f16r3, f16r4, f16r5, f16r6, f16r7, f16r8, f16r9, f16r11, f16l0, f16, f16b, f16r0, f16r1, f16r2, f16r3, f16r4, f16r5, f16r6, f16r7, f16r8, f16r9, f16r11] | (refine BrW.of (fun hb => ?_) (fun hb => ?_) <;> (have hb' := hb; try simp only [decide_eq_true_eq, decide_eq_false_iff_not, beq_iff_eq, bne_iff_ne, beq_eq_false_iff_ne, bne_eq_false_iff_eq, Bool.not_eq_true', Bool.not_eq_false', Bool.not_eq_true, Bool.not_eq_false, Bool.and_eq_true, Bool.or_eq_true, Bool.and_eq_false_iff, Bool.or_eq_false_iff, Int.not_lt, Int.not_le, ne_eq, gt_iff_lt, ge_iff_le] at hb') <;> (try (exfalso; omega))) | (refine altW.of ?_ ?_)
    exact .here ⟨rfl, by rw [← Rp_all, h0]⟩
  · have hm : min 1 n = 1 := by omega
    have hL := Rp_length (x := x) (n := n) (m := 0) (by omega)
    have hw := Rp_wr (x := x) (n := n) (m := 0) (t := 1) [.int .i64 x] rfl (by omega)
    have h1 : 1 ≤ n := by omega
    repeat' first | simp (disch := first | with_reducible assumption | omega) only [go_sem, Bool.true_and, Bool.and_true, Bool.and_self, Bool.false_and, Bool.and_false, Bool.true_or, Bool.or_true, Bool.false_or, Bool.or_false, ↓reduceIte, Nat.reduceEqDiff, Nat.reduceAdd, Nat.reduceMul, Nat.reduceSub, Nat.reduceBEq, Nat.reduceLeDiff, Nat.reduceLT, Nat.reduceMod, Nat.reduceDiv, Int.reduceToNat, Int.reducePow, Int.reduceMul, Int.reduceAdd, Int.reduceSub, Int.reduceLE, Int.reduceLT, Int.reduceNeg, Int.reduceDiv, Int.reduceMod, Int.reduceEq, Int.reduceBEq, Int.reduceBNe, f16, f16b, f16r0, f16r1, f16r2, f16r3, f16r4, f16r5, f16r6, f16r7, f16r8, f16r9, f16r11, hk, get_old hk, hm, hz, hL, hw] | (refine BrW.of (fun hb => ?_) (fun hb => ?_) <;> (have hb' := hb; try simp only [decide_eq_true_eq, decide_eq_false_iff_not, beq_iff_eq, bne_iff_ne, beq_eq_false_iff_ne, bne_eq_false_iff_eq, Bool.not_eq_true', Bool.not_eq_false', Bool.not_eq_true, Bool.not_eq_false, Bool.and_eq_true, Bool.or_eq_true, Bool.and_eq_false_iff, Bool.or_eq_false_iff, Int.not_lt, Int.not_le, ne_eq, gt_iff_lt, ge_iff_le] at hb') <;> (try (exfalso; omega))) | (refine altW.of ?_ ?_) | (refine .of ((Mul_one n _ hn).mono ?_); rintro v H ⟨rfl, rfl⟩)
    refine loopW.of (by decide) (fun M e J => ∃ m : Nat, e = [(7, slv H.length 0 0 n n), (8, .int .i64 m)] ∧ J = H ++ [.cells 0 1 false (Rp x n m)] ∧ 1 ≤ m ∧ m ≤ n ∧ M = n - m) (n - 1) ⟨1, rfl, rfl, by omega, by omega, rfl⟩ ?_
    rintro M e J ⟨m, rfl, rfl, hm1, hmn, rfl⟩
    by_cases hlt : m < n
    · obtain ⟨t, ht⟩ : ∃ t, t = min m (n - m) := ⟨_, rfl⟩
      have ht1 : ¬ t = 0 := by omega
      have hL := Rp_length (x := x) hmn
      have hw := Rp_wr (x := x) (n := n) (m := m) (t := t) ((Rp x n m).take t) (Rp_take (by omega)) (by omega)
      have htm : t ≤ n := by omega
      have htm2 : m + t ≤ n := by omega
      have hmt : min m (n - m) = t := ht.symm
      repeat' first | simp (disch := first | with_reducible assumption | omega) only [go_sem, Bool.true_and, Bool.and_true, Bool.and_self, Bool.false_and, Bool.and_false, Bool.true_or, Bool.or_true, Bool.false_or, Bool.or_false, ↓reduceIte, Nat.reduceEqDiff, Nat.reduceAdd, Nat.reduceMul, Nat.reduceSub, Nat.reduceBEq, Nat.reduceLeDiff, Nat.reduceLT, Nat.reduceMod, Nat.reduceDiv, Int.reduceToNat, Int.reducePow, Int.reduceMul, Int.reduceAdd, Int.reduceSub, Int.reduceLE, Int.reduceLT, Int.reduceNeg, Int.reduceDiv, Int.reduceMod, Int.reduceEq, Int.reduceBEq, Int.reduceBNe, f16, f16b, f16r0, f16r1, f16r2, f16r3, f16r4, f16r5, f16r6, f16r7, f16r8, f16r9, f16r11, f16l0, hL, hw, hmt, ht1] | (refine BrW.of (fun hb => ?_) (fun hb => ?_) <;> (have hb' := hb; try simp only [decide_eq_true_eq, decide_eq_false_iff_not, beq_iff_eq, bne_iff_ne, beq_eq_false_iff_ne, bne_eq_false_iff_eq, Bool.not_eq_true', Bool.not_eq_false', Bool.not_eq_true, Bool.not_eq_false, Bool.and_eq_true, Bool.or_eq_true, Bool.and_eq_false_iff, Bool.or_eq_false_iff, Int.not_lt, Int.not_le, ne_eq, gt_iff_lt, ge_iff_le] at hb') <;> (try (exfalso; omega))) | (refine altW.of ?_ ?_)
      refine RdW.keep [7, 8] (n - (m + t)) (by omega) ?_
      simp (disch := first | with_reducible assumption | omega) only [go_sem, Bool.true_and, Bool.and_true, Bool.and_self, Bool.false_and, Bool.and_false, Bool.true_or, Bool.or_true, Bool.false_or, Bool.or_false, ↓reduceIte, Nat.reduceEqDiff, Nat.reduceAdd, Nat.reduceMul, Nat.reduceSub, Nat.reduceBEq, Nat.reduceLeDiff, Nat.reduceLT, Nat.reduceMod, Nat.reduceDiv, Int.reduceToNat, Int.reducePow, Int.reduceMul, Int.reduceAdd, Int.reduceSub, Int.reduceLE, Int.reduceLT, Int.reduceNeg, Int.reduceDiv, Int.reduceMod, Int.reduceEq, Int.reduceBEq, Int.reduceBNe]
      exact ⟨m + t, rfl, rfl, by omega, by omega, rfl⟩
    · obtain rfl : m = n := by omega
      repeat' first | simp (disch := first | with_reducible assumption | omega) only [go_sem, Bool.true_and, Bool.and_true, Bool.and_self, Bool.false_and, Bool.and_false, Bool.true_or, Bool.or_true, Bool.false_or, Bool.or_false, ↓reduceIte, Nat.reduceEqDiff, Nat.reduceAdd, Nat.reduceMul, Nat.reduceSub, Nat.reduceBEq, Nat.reduceLeDiff, Nat.reduceLT, Nat.reduceMod, Nat.reduceDiv, Int.reduceToNat, Int.reducePow, Int.reduceMul, Int.reduceAdd, Int.reduceSub, Int.reduceLE, Int.reduceLT, Int.reduceNeg, Int.reduceDiv, Int.reduceMod, Int.reduceEq, Int.reduceBEq, Int.reduceBNe, f16, f16b, f16r0, f16r1, f16r2, f16r3, f16r4, f16r5, f16r6, f16r7, f16r8, f16r9, f16r11, f16l0, f16, f16b, f16r0, f16r1, f16r2, f16r3, f16r4, f16r5, f16r6, f16r7, f16r8, f16r9, f16r11] | (refine BrW.of (fun hb => ?_) (fun hb => ?_) <;> (have hb' := hb; try simp only [decide_eq_true_eq, decide_eq_false_iff_not, beq_iff_eq, bne_iff_ne, beq_eq_false_iff_ne, bne_eq_false_iff_eq, Bool.not_eq_true', Bool.not_eq_false', Bool.not_eq_true, Bool.not_eq_false, Bool.and_eq_true, Bool.or_eq_true, Bool.and_eq_false_iff, Bool.or_eq_false_iff, Int.not_lt, Int.not_le, ne_eq, gt_iff_lt, ge_iff_le] at hb') <;> (try (exfalso; omega))) | (refine altW.of ?_ ?_)
      exact .here ⟨rfl, by rw [← Rp_all]⟩
end Go.Proofs.Ytcoelfklgpaidaa
