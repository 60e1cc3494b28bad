import Derived.Test.YtabcjhpgamhpoaaSteps6
set_option linter.unusedSimpArgs false
set_option linter.unusedVariables false
set_option maxHeartbeats 2000000
set_option maxRecDepth 20000
namespace Go.Proofs.Ytabcjhpgamhpoaa
open Go Go.Am
attribute [local irreducible] opsW Ww loopW callW drawW outW outDW gW cW BrW bothW vW resW DropW RdW dcallW altW forkW splitW Later.run

def IsSCatC (H : Heap) (v : Value) (l : List Ct) : Prop := (v = .slice none 0 0 ∧ l = []) ∨ ∃ k o g c, v = slv k o g l.length c ∧ Tbl Ct cenc 2 c0 H k o g l ∧ l.length ≤ c
def zCatC (n : Nat) : List Value := (List.replicate n ([Value.int .i64 0,Value.int .i64 0] : List Value)).flatten
theorem zCatC_length (n : Nat) : (zCatC n).length = n * 2 := by
  induction n with
  | zero => rfl
  | succ n ih =>
    have : zCatC (n + 1) = [Value.int .i64 0,Value.int .i64 0] ++ zCatC n := by simp [zCatC, List.replicate_succ]
    rw [this, List.length_append, ih, Nat.succ_mul, Nat.add_comm]; rfl
theorem zCatC_add (a b : Nat) : zCatC (a + b) = zCatC a ++ zCatC b := by unfold zCatC; rw [← List.flatten_append, List.replicate_append_replicate]
theorem CatC_grow (n : Nat) (H : Heap) (h0 : 0 < n) (h1 : n ≤ 4194304) : ACallK Try.prog 29 [.slice none 0 0, .int .i64 n] H (fun v H' => v = slv H.length 0 0 0 n ∧ H' = H ++ [.cells 0 2 false (zCatC n)]) := by
  refine .walkW f29_ok (by simp; decide) (by decide) ?_
  have e0 : ((n : Int) - 0).toNat = n := by omega
  repeat' first | simp (disch := first | with_reducible assumption | omega) only [go_sem, Bool.true_and, Bool.and_true, Bool.and_self, Bool.false_and, Bool.and_false, Bool.true_or, Bool.or_true, Bool.false_or, Bool.or_false, ↓reduceIte, Nat.reduceEqDiff, Nat.reduceAdd, Nat.reduceMul, Nat.reduceSub, Nat.reduceBEq, Nat.reduceLeDiff, Nat.reduceLT, Nat.reduceMod, Nat.reduceDiv, Int.reduceToNat, Int.reducePow, Int.reduceMul, Int.reduceAdd, Int.reduceSub, Int.reduceLE, Int.reduceLT, Int.reduceNeg, Int.reduceDiv, Int.reduceMod, Int.reduceEq, Int.reduceBEq, Int.reduceBNe, f29, f29b, f29r0, f29r1, f29r2, f29r3, f29r4, f29r5, f29r6, h0] | (refine BrW.of (fun hb => ?_) (fun hb => ?_) <;> (have hb' := hb; try simp only [decide_eq_true_eq, decide_eq_false_iff_not, beq_iff_eq, bne_iff_ne, beq_eq_false_iff_ne, bne_eq_false_iff_eq, Bool.not_eq_true', Bool.not_eq_false', Bool.not_eq_true, Bool.not_eq_false, Bool.and_eq_true, Bool.or_eq_true, Bool.and_eq_false_iff, Bool.or_eq_false_iff, Int.not_lt, Int.not_le, ne_eq, gt_iff_lt, ge_iff_le] at hb') <;> (try (exfalso; omega))) | (refine altW.of ?_ ?_)
  all_goals (rw [e0]; exact .here ⟨rfl, rfl⟩)
theorem CatC_grow0 (H : Heap) : ACallK Try.prog 29 [.slice none 0 0, .int .i64 0] H (fun v H' => v = .slice none 0 0 ∧ H' = H) := by
  refine .walkW f29_ok (by simp; decide) (by decide) ?_
  repeat' first | simp (disch := first | with_reducible assumption | omega) only [go_sem, Bool.true_and, Bool.and_true, Bool.and_self, Bool.false_and, Bool.and_false, Bool.true_or, Bool.or_true, Bool.false_or, Bool.or_false, ↓reduceIte, Nat.reduceEqDiff, Nat.reduceAdd, Nat.reduceMul, Nat.reduceSub, Nat.reduceBEq, Nat.reduceLeDiff, Nat.reduceLT, Nat.reduceMod, Nat.reduceDiv, Int.reduceToNat, Int.reducePow, Int.reduceMul, Int.reduceAdd, Int.reduceSub, Int.reduceLE, Int.reduceLT, Int.reduceNeg, Int.reduceDiv, Int.reduceMod, Int.reduceEq, Int.reduceBEq, Int.reduceBNe, f29, f29b, f29r0, f29r1, f29r2, f29r3, f29r4, f29r5, f29r6] | (refine BrW.of (fun hb => ?_) (fun hb => ?_) <;> (have hb' := hb; try simp only [decide_eq_true_eq, decide_eq_false_iff_not, beq_iff_eq, bne_iff_ne, beq_eq_false_iff_ne, bne_eq_false_iff_eq, Bool.not_eq_true', Bool.not_eq_false', Bool.not_eq_true, Bool.not_eq_false, Bool.and_eq_true, Bool.or_eq_true, Bool.and_eq_false_iff, Bool.or_eq_false_iff, Int.not_lt, Int.not_le, ne_eq, gt_iff_lt, ge_iff_le] at hb') <;> (try (exfalso; omega))) | (refine altW.of ?_ ?_)
  exact .here ⟨rfl, rfl⟩
def totCatC (p q : Nat) : Nat → Nat
  | 0 => 0
  | 1 => p
  | _ => p + q
def hpCatC (x y : List Ct) : Nat → List Value
  | 0 => zCatC (x.length + y.length)
  | 1 => flat' cenc x ++ zCatC y.length
  | _ => flat' cenc (x ++ y)
theorem wr_midCatC (C : List Value) : ∀ (D A B : List Value), B.length = D.length → wr (A ++ (B ++ C)) A.length D = A ++ (D ++ C)
  | [], A, B, h => by rw [List.length_eq_zero_iff.1 h]; rfl
  | d :: D, A, [], h => by simp at h
  | d :: D, A, b :: B, h => by
    have := wr_midCatC C D (A ++ [d]) B (by simpa using h)
    simp only [wr]
    rw [show (A ++ (b :: B ++ C)).set A.length d = (A ++ [d]) ++ (B ++ C) by simp, show A.length + 1 = (A ++ [d]).length by simp, this]
    simp
theorem CatC_ex (x y : List Ct) (v w : Value) (k : Nat) (H : Heap) (hk : H[k]? = some (.cells 0 1 false [v, w])) (hx : IsSCatC H v x) (hy : IsSCatC H w y) (hlx : x.length ≤ 1048576) (hly : y.length ≤ 1048576) :
    ACallK Try.prog 18 [slv k 0 0 2 2] H (fun u H' => (0 < x.length + y.length → u = slv H.length 0 0 (x.length + y.length) (x.length + y.length) ∧ H' = H ++ [.cells 0 2 false (flat' cenc (x ++ y))]) ∧ (x.length + y.length = 0 → u = .slice none 0 0 ∧ H' = H)) := by
  refine .walkW f18_ok (by simp; decide) (by decide) ?_
  have hkn := get_old hk
  have ng1 : ¬ ((0 : Int) + (x.length : Int) < 0) := by omega
  have ng2 : ¬ ((x.length : Int) + (y.length : Int) < 0) := by omega
  have ng3 : x.length ≤ x.length + y.length := by omega
  have lx := flat'_length (enc := cenc) (s := 2) (fun _ => rfl) x
  have ly := flat'_length (enc := cenc) (s := 2) (fun _ => rfl) y
  have zx := zCatC_length x.length
  have zy := zCatC_length y.length
  have zxy := zCatC_length (x.length + y.length)
  have w1 := wr_midCatC (zCatC y.length) (flat' cenc x) [] (zCatC x.length) (by rw [zx, lx])
  simp only [List.nil_append, List.length_nil, ← zCatC_add] at w1
  have w2 := wr_midCatC [] (flat' cenc y) (flat' cenc x) (zCatC y.length) (by rw [zy, ly])
  simp only [List.append_nil, flat'_app] at w2
  rw [lx] at w2
  have l2 : (flat' cenc x ++ zCatC y.length).length = (x.length + y.length) * 2 := by rw [List.length_append, lx, zy, Nat.add_mul]
  try simp only [Nat.mul_one] at w1 w2 lx ly zx zy zxy l2
  have z0 : ((0 : Nat) : Int) = 0 := rfl
  have z1 : ((0 + 1 : Nat) : Int) = 1 := rfl
  have z2 : ((0 + 1 + 1 : Nat) : Int) = 2 := rfl
  repeat' first | simp (disch := first | with_reducible assumption | omega) only [go_sem, Bool.true_and, Bool.and_true, Bool.and_self, Bool.false_and, Bool.and_false, Bool.true_or, Bool.or_true, Bool.false_or, Bool.or_false, ↓reduceIte, Nat.reduceEqDiff, Nat.reduceAdd, Nat.reduceMul, Nat.reduceSub, Nat.reduceBEq, Nat.reduceLeDiff, Nat.reduceLT, Nat.reduceMod, Nat.reduceDiv, Int.reduceToNat, Int.reducePow, Int.reduceMul, Int.reduceAdd, Int.reduceSub, Int.reduceLE, Int.reduceLT, Int.reduceNeg, Int.reduceDiv, Int.reduceMod, Int.reduceEq, Int.reduceBEq, Int.reduceBNe, f18, f18b, f18r0, f18r1, f18r2, f18r3, f18r4, f18r5, f18r6, f18r7, f18r8, f18r10, f18r11, f18r12, f18r13, f18r14, f18r15, f18r17, hk] | (refine BrW.of (fun hb => ?_) (fun hb => ?_) <;> (have hb' := hb; try simp only [decide_eq_true_eq, decide_eq_false_iff_not, beq_iff_eq, bne_iff_ne, beq_eq_false_iff_ne, bne_eq_false_iff_eq, Bool.not_eq_true', Bool.not_eq_false', Bool.not_eq_true, Bool.not_eq_false, Bool.and_eq_true, Bool.or_eq_true, Bool.and_eq_false_iff, Bool.or_eq_false_iff, Int.not_lt, Int.not_le, ne_eq, gt_iff_lt, ge_iff_le] at hb') <;> (try (exfalso; omega))) | (refine altW.of ?_ ?_)
  refine loopW.of (by decide) (fun m e H' => ∃ i : Nat, i ≤ 2 ∧ e = [(0, slv k 0 0 2 2), (3, .int .i64 (totCatC x.length y.length i : Nat)), (9, slv k 0 0 2 2), (10, .int .i64 2), (11, .int .i64 i)] ∧ H' = H ∧ m = 3 - i) 3 ⟨0, by omega, rfl, rfl, rfl⟩ ?_
  rintro m e H' ⟨i, hi, rfl, rfl, rfl⟩
  rcases i with _ | _ | _ | i
  · simp only [totCatC]
    rcases hx with ⟨rfl, rfl⟩ | ⟨k1, o1, g1, c1, rfl, hx, hc1⟩
    · repeat' first | simp (disch := first | with_reducible assumption | omega) only [go_sem, Bool.true_and, Bool.and_true, Bool.and_self, Bool.false_and, Bool.and_false, Bool.true_or, Bool.or_true, Bool.false_or, Bool.or_false, ↓reduceIte, Nat.reduceEqDiff, Nat.reduceAdd, Nat.reduceMul, Nat.reduceSub, Nat.reduceBEq, Nat.reduceLeDiff, Nat.reduceLT, Nat.reduceMod, Nat.reduceDiv, Int.reduceToNat, Int.reducePow, Int.reduceMul, Int.reduceAdd, Int.reduceSub, Int.reduceLE, Int.reduceLT, Int.reduceNeg, Int.reduceDiv, Int.reduceMod, Int.reduceEq, Int.reduceBEq, Int.reduceBNe, f18, f18b, f18r0, f18r1, f18r2, f18r3, f18r4, f18r5, f18r6, f18r7, f18r8, f18r10, f18r11, f18r12, f18r13, f18r14, f18r15, f18r17, f18l0, hk, z0, z1, z2] | (refine BrW.of (fun hb => ?_) (fun hb => ?_) <;> (have hb' := hb; try simp only [decide_eq_true_eq, decide_eq_false_iff_not, beq_iff_eq, bne_iff_ne, beq_eq_false_iff_ne, bne_eq_false_iff_eq, Bool.not_eq_true', Bool.not_eq_false', Bool.not_eq_true, Bool.not_eq_false, Bool.and_eq_true, Bool.or_eq_true, Bool.and_eq_false_iff, Bool.or_eq_false_iff, Int.not_lt, Int.not_le, ne_eq, gt_iff_lt, ge_iff_le] at hb') <;> (try (exfalso; omega))) | (refine altW.of ?_ ?_)
      refine RdW.keep [0, 3, 9, 10, 11] 2 (by omega) ?_
      simp (disch := first | with_reducible assumption | omega) only [go_sem, Bool.true_and, Bool.and_true, Bool.and_self, Bool.false_and, Bool.and_false, Bool.true_or, Bool.or_true, Bool.false_or, Bool.or_false, ↓reduceIte, Nat.reduceEqDiff, Nat.reduceAdd, Nat.reduceMul, Nat.reduceSub, Nat.reduceBEq, Nat.reduceLeDiff, Nat.reduceLT, Nat.reduceMod, Nat.reduceDiv, Int.reduceToNat, Int.reducePow, Int.reduceMul, Int.reduceAdd, Int.reduceSub, Int.reduceLE, Int.reduceLT, Int.reduceNeg, Int.reduceDiv, Int.reduceMod, Int.reduceEq, Int.reduceBEq, Int.reduceBNe]
      exact ⟨1, by decide, rfl, rfl⟩
    · obtain ⟨ro1, cs1, hk1, hle1, hcs1⟩ := hx.at'
      repeat' first | simp (disch := first | with_reducible assumption | omega) only [go_sem, Bool.true_and, Bool.and_true, Bool.and_self, Bool.false_and, Bool.and_false, Bool.true_or, Bool.or_true, Bool.false_or, Bool.or_false, ↓reduceIte, Nat.reduceEqDiff, Nat.reduceAdd, Nat.reduceMul, Nat.reduceSub, Nat.reduceBEq, Nat.reduceLeDiff, Nat.reduceLT, Nat.reduceMod, Nat.reduceDiv, Int.reduceToNat, Int.reducePow, Int.reduceMul, Int.reduceAdd, Int.reduceSub, Int.reduceLE, Int.reduceLT, Int.reduceNeg, Int.reduceDiv, Int.reduceMod, Int.reduceEq, Int.reduceBEq, Int.reduceBNe, f18, f18b, f18r0, f18r1, f18r2, f18r3, f18r4, f18r5, f18r6, f18r7, f18r8, f18r10, f18r11, f18r12, f18r13, f18r14, f18r15, f18r17, f18l0, ng1, ng2, hk, hk1, z0, z1, z2] | (refine BrW.of (fun hb => ?_) (fun hb => ?_) <;> (have hb' := hb; try simp only [decide_eq_true_eq, decide_eq_false_iff_not, beq_iff_eq, bne_iff_ne, beq_eq_false_iff_ne, bne_eq_false_iff_eq, Bool.not_eq_true', Bool.not_eq_false', Bool.not_eq_true, Bool.not_eq_false, Bool.and_eq_true, Bool.or_eq_true, Bool.and_eq_false_iff, Bool.or_eq_false_iff, Int.not_lt, Int.not_le, ne_eq, gt_iff_lt, ge_iff_le] at hb') <;> (try (exfalso; omega))) | (refine altW.of ?_ ?_)
      refine RdW.keep [0, 3, 9, 10, 11] 2 (by omega) ?_
      simp (disch := first | with_reducible assumption | omega) only [go_sem, Bool.true_and, Bool.and_true, Bool.and_self, Bool.false_and, Bool.and_false, Bool.true_or, Bool.or_true, Bool.false_or, Bool.or_false, ↓reduceIte, Nat.reduceEqDiff, Nat.reduceAdd, Nat.reduceMul, Nat.reduceSub, Nat.reduceBEq, Nat.reduceLeDiff, Nat.reduceLT, Nat.reduceMod, Nat.reduceDiv, Int.reduceToNat, Int.reducePow, Int.reduceMul, Int.reduceAdd, Int.reduceSub, Int.reduceLE, Int.reduceLT, Int.reduceNeg, Int.reduceDiv, Int.reduceMod, Int.reduceEq, Int.reduceBEq, Int.reduceBNe]
      exact ⟨1, by decide, by simp [totCatC], rfl⟩
  · simp only [totCatC]
    rcases hy with ⟨rfl, rfl⟩ | ⟨k1, o1, g1, c1, rfl, hy, hc1⟩
    · repeat' first | simp (disch := first | with_reducible assumption | omega) only [go_sem, Bool.true_and, Bool.and_true, Bool.and_self, Bool.false_and, Bool.and_false, Bool.true_or, Bool.or_true, Bool.false_or, Bool.or_false, ↓reduceIte, Nat.reduceEqDiff, Nat.reduceAdd, Nat.reduceMul, Nat.reduceSub, Nat.reduceBEq, Nat.reduceLeDiff, Nat.reduceLT, Nat.reduceMod, Nat.reduceDiv, Int.reduceToNat, Int.reducePow, Int.reduceMul, Int.reduceAdd, Int.reduceSub, Int.reduceLE, Int.reduceLT, Int.reduceNeg, Int.reduceDiv, Int.reduceMod, Int.reduceEq, Int.reduceBEq, Int.reduceBNe, f18, f18b, f18r0, f18r1, f18r2, f18r3, f18r4, f18r5, f18r6, f18r7, f18r8, f18r10, f18r11, f18r12, f18r13, f18r14, f18r15, f18r17, f18l0, hk, z0, z1, z2] | (refine BrW.of (fun hb => ?_) (fun hb => ?_) <;> (have hb' := hb; try simp only [decide_eq_true_eq, decide_eq_false_iff_not, beq_iff_eq, bne_iff_ne, beq_eq_false_iff_ne, bne_eq_false_iff_eq, Bool.not_eq_true', Bool.not_eq_false', Bool.not_eq_true, Bool.not_eq_false, Bool.and_eq_true, Bool.or_eq_true, Bool.and_eq_false_iff, Bool.or_eq_false_iff, Int.not_lt, Int.not_le, ne_eq, gt_iff_lt, ge_iff_le] at hb') <;> (try (exfalso; omega))) | (refine altW.of ?_ ?_)
      refine RdW.keep [0, 3, 9, 10, 11] 1 (by omega) ?_
      simp (disch := first | with_reducible assumption | omega) only [go_sem, Bool.true_and, Bool.and_true, Bool.and_self, Bool.false_and, Bool.and_false, Bool.true_or, Bool.or_true, Bool.false_or, Bool.or_false, ↓reduceIte, Nat.reduceEqDiff, Nat.reduceAdd, Nat.reduceMul, Nat.reduceSub, Nat.reduceBEq, Nat.reduceLeDiff, Nat.reduceLT, Nat.reduceMod, Nat.reduceDiv, Int.reduceToNat, Int.reducePow, Int.reduceMul, Int.reduceAdd, Int.reduceSub, Int.reduceLE, Int.reduceLT, Int.reduceNeg, Int.reduceDiv, Int.reduceMod, Int.reduceEq, Int.reduceBEq, Int.reduceBNe]
      exact ⟨2, by decide, by simp [totCatC], rfl⟩
    · obtain ⟨ro1, cs1, hk1, hle1, hcs1⟩ := hy.at'
      repeat' first | simp (disch := first | with_reducible assumption | omega) only [go_sem, Bool.true_and, Bool.and_true, Bool.and_self, Bool.false_and, Bool.and_false, Bool.true_or, Bool.or_true, Bool.false_or, Bool.or_false, ↓reduceIte, Nat.reduceEqDiff, Nat.reduceAdd, Nat.reduceMul, Nat.reduceSub, Nat.reduceBEq, Nat.reduceLeDiff, Nat.reduceLT, Nat.reduceMod, Nat.reduceDiv, Int.reduceToNat, Int.reducePow, Int.reduceMul, Int.reduceAdd, Int.reduceSub, Int.reduceLE, Int.reduceLT, Int.reduceNeg, Int.reduceDiv, Int.reduceMod, Int.reduceEq, Int.reduceBEq, Int.reduceBNe, f18, f18b, f18r0, f18r1, f18r2, f18r3, f18r4, f18r5, f18r6, f18r7, f18r8, f18r10, f18r11, f18r12, f18r13, f18r14, f18r15, f18r17, f18l0, ng1, ng2, hk, hk1, z0, z1, z2] | (refine BrW.of (fun hb => ?_) (fun hb => ?_) <;> (have hb' := hb; try simp only [decide_eq_true_eq, decide_eq_false_iff_not, beq_iff_eq, bne_iff_ne, beq_eq_false_iff_ne, bne_eq_false_iff_eq, Bool.not_eq_true', Bool.not_eq_false', Bool.not_eq_true, Bool.not_eq_false, Bool.and_eq_true, Bool.or_eq_true, Bool.and_eq_false_iff, Bool.or_eq_false_iff, Int.not_lt, Int.not_le, ne_eq, gt_iff_lt, ge_iff_le] at hb') <;> (try (exfalso; omega))) | (refine altW.of ?_ ?_)
      refine RdW.keep [0, 3, 9, 10, 11] 1 (by omega) ?_
      simp (disch := first | with_reducible assumption | omega) only [go_sem, Bool.true_and, Bool.and_true, Bool.and_self, Bool.false_and, Bool.and_false, Bool.true_or, Bool.or_true, Bool.false_or, Bool.or_false, ↓reduceIte, Nat.reduceEqDiff, Nat.reduceAdd, Nat.reduceMul, Nat.reduceSub, Nat.reduceBEq, Nat.reduceLeDiff, Nat.reduceLT, Nat.reduceMod, Nat.reduceDiv, Int.reduceToNat, Int.reducePow, Int.reduceMul, Int.reduceAdd, Int.reduceSub, Int.reduceLE, Int.reduceLT, Int.reduceNeg, Int.reduceDiv, Int.reduceMod, Int.reduceEq, Int.reduceBEq, Int.reduceBNe]
      exact ⟨2, by decide, by simp [totCatC], rfl⟩
  · simp only [totCatC]
    by_cases hp : 0 < x.length + y.length
    · repeat' first | simp (disch := first | with_reducible assumption | omega) only [go_sem, Bool.true_and, Bool.and_true, Bool.and_self, Bool.false_and, Bool.and_false, Bool.true_or, Bool.or_true, Bool.false_or, Bool.or_false, ↓reduceIte, Nat.reduceEqDiff, Nat.reduceAdd, Nat.reduceMul, Nat.reduceSub, Nat.reduceBEq, Nat.reduceLeDiff, Nat.reduceLT, Nat.reduceMod, Nat.reduceDiv, Int.reduceToNat, Int.reducePow, Int.reduceMul, Int.reduceAdd, Int.reduceSub, Int.reduceLE, Int.reduceLT, Int.reduceNeg, Int.reduceDiv, Int.reduceMod, Int.reduceEq, Int.reduceBEq, Int.reduceBNe, f18, f18b, f18r0, f18r1, f18r2, f18r3, f18r4, f18r5, f18r6, f18r7, f18r8, f18r10, f18r11, f18r12, f18r13, f18r14, f18r15, f18r17, f18l0, ng1, ng2, hk, z0, z1, z2] | (refine BrW.of (fun hb => ?_) (fun hb => ?_) <;> (have hb' := hb; try simp only [decide_eq_true_eq, decide_eq_false_iff_not, beq_iff_eq, bne_iff_ne, beq_eq_false_iff_ne, bne_eq_false_iff_eq, Bool.not_eq_true', Bool.not_eq_false', Bool.not_eq_true, Bool.not_eq_false, Bool.and_eq_true, Bool.or_eq_true, Bool.and_eq_false_iff, Bool.or_eq_false_iff, Int.not_lt, Int.not_le, ne_eq, gt_iff_lt, ge_iff_le] at hb') <;> (try (exfalso; omega))) | (refine altW.of ?_ ?_)
      refine .of ((CatC_grow _ _ hp (by omega)).mono ?_)
      rintro u H1 ⟨rfl, rfl⟩
      repeat' first | simp (disch := first | with_reducible assumption | omega) only [go_sem, Bool.true_and, Bool.and_true, Bool.and_self, Bool.false_and, Bool.and_false, Bool.true_or, Bool.or_true, Bool.false_or, Bool.or_false, ↓reduceIte, Nat.reduceEqDiff, Nat.reduceAdd, Nat.reduceMul, Nat.reduceSub, Nat.reduceBEq, Nat.reduceLeDiff, Nat.reduceLT, Nat.reduceMod, Nat.reduceDiv, Int.reduceToNat, Int.reducePow, Int.reduceMul, Int.reduceAdd, Int.reduceSub, Int.reduceLE, Int.reduceLT, Int.reduceNeg, Int.reduceDiv, Int.reduceMod, Int.reduceEq, Int.reduceBEq, Int.reduceBNe, f18, f18b, f18r0, f18r1, f18r2, f18r3, f18r4, f18r5, f18r6, f18r7, f18r8, f18r10, f18r11, f18r12, f18r13, f18r14, f18r15, f18r17, hk, hkn] | (refine BrW.of (fun hb => ?_) (fun hb => ?_) <;> (have hb' := hb; try simp only [decide_eq_true_eq, decide_eq_false_iff_not, beq_iff_eq, bne_iff_ne, beq_eq_false_iff_ne, bne_eq_false_iff_eq, Bool.not_eq_true', Bool.not_eq_false', Bool.not_eq_true, Bool.not_eq_false, Bool.and_eq_true, Bool.or_eq_true, Bool.and_eq_false_iff, Bool.or_eq_false_iff, Int.not_lt, Int.not_le, ne_eq, gt_iff_lt, ge_iff_le] at hb') <;> (try (exfalso; omega))) | (refine altW.of ?_ ?_)
      refine loopW.of (by decide) (fun m e H1 => ∃ i : Nat, i ≤ 2 ∧ e = [(6, slv H'.length 0 0 (totCatC x.length y.length i) (x.length + y.length)), (25, slv k 0 0 2 2), (26, .int .i64 2), (27, .int .i64 i)] ∧ H1 = H' ++ [.cells 0 2 false (hpCatC x y i)] ∧ m = 3 - i) 3 ⟨0, by decide, rfl, rfl, rfl⟩ ?_
      rintro m e H1 ⟨i, hi, rfl, rfl, rfl⟩
      rcases i with _ | _ | _ | i
      · simp only [totCatC, hpCatC]
        rcases hx with ⟨rfl, rfl⟩ | ⟨k1, o1, g1, c1, rfl, hx, hc1⟩
        · repeat' first | simp (disch := first | with_reducible assumption | omega) only [go_sem, Bool.true_and, Bool.and_true, Bool.and_self, Bool.false_and, Bool.and_false, Bool.true_or, Bool.or_true, Bool.false_or, Bool.or_false, ↓reduceIte, Nat.reduceEqDiff, Nat.reduceAdd, Nat.reduceMul, Nat.reduceSub, Nat.reduceBEq, Nat.reduceLeDiff, Nat.reduceLT, Nat.reduceMod, Nat.reduceDiv, Int.reduceToNat, Int.reducePow, Int.reduceMul, Int.reduceAdd, Int.reduceSub, Int.reduceLE, Int.reduceLT, Int.reduceNeg, Int.reduceDiv, Int.reduceMod, Int.reduceEq, Int.reduceBEq, Int.reduceBNe, f18, f18b, f18r0, f18r1, f18r2, f18r3, f18r4, f18r5, f18r6, f18r7, f18r8, f18r10, f18r11, f18r12, f18r13, f18r14, f18r15, f18r17, f18l1, hkn, z0, z1, z2] | (refine BrW.of (fun hb => ?_) (fun hb => ?_) <;> (have hb' := hb; try simp only [decide_eq_true_eq, decide_eq_false_iff_not, beq_iff_eq, bne_iff_ne, beq_eq_false_iff_ne, bne_eq_false_iff_eq, Bool.not_eq_true', Bool.not_eq_false', Bool.not_eq_true, Bool.not_eq_false, Bool.and_eq_true, Bool.or_eq_true, Bool.and_eq_false_iff, Bool.or_eq_false_iff, Int.not_lt, Int.not_le, ne_eq, gt_iff_lt, ge_iff_le] at hb') <;> (try (exfalso; omega))) | (refine altW.of ?_ ?_)
          refine RdW.keep [6, 25, 26, 27] 2 (by omega) ?_
          simp (disch := first | with_reducible assumption | omega) only [go_sem, Bool.true_and, Bool.and_true, Bool.and_self, Bool.false_and, Bool.and_false, Bool.true_or, Bool.or_true, Bool.false_or, Bool.or_false, ↓reduceIte, Nat.reduceEqDiff, Nat.reduceAdd, Nat.reduceMul, Nat.reduceSub, Nat.reduceBEq, Nat.reduceLeDiff, Nat.reduceLT, Nat.reduceMod, Nat.reduceDiv, Int.reduceToNat, Int.reducePow, Int.reduceMul, Int.reduceAdd, Int.reduceSub, Int.reduceLE, Int.reduceLT, Int.reduceNeg, Int.reduceDiv, Int.reduceMod, Int.reduceEq, Int.reduceBEq, Int.reduceBNe]
          exact ⟨1, by decide, rfl, by simp [hpCatC, flat'], rfl⟩
        · obtain ⟨ro1, cs1, hk1, hle1, hcs1⟩ := hx.at'
          have n1 := get_old hk1
          have ht := Tbl.cells (enc := cenc) (fun _ => rfl) hle1 hcs1
          try simp only [Nat.mul_one] at ht
          by_cases hz : x.length = 0
          · have hxn := List.length_eq_zero_iff.1 hz
            repeat' first | simp (disch := first | with_reducible assumption | omega) only [go_sem, Bool.true_and, Bool.and_true, Bool.and_self, Bool.false_and, Bool.and_false, Bool.true_or, Bool.or_true, Bool.false_or, Bool.or_false, ↓reduceIte, Nat.reduceEqDiff, Nat.reduceAdd, Nat.reduceMul, Nat.reduceSub, Nat.reduceBEq, Nat.reduceLeDiff, Nat.reduceLT, Nat.reduceMod, Nat.reduceDiv, Int.reduceToNat, Int.reducePow, Int.reduceMul, Int.reduceAdd, Int.reduceSub, Int.reduceLE, Int.reduceLT, Int.reduceNeg, Int.reduceDiv, Int.reduceMod, Int.reduceEq, Int.reduceBEq, Int.reduceBNe, f18, f18b, f18r0, f18r1, f18r2, f18r3, f18r4, f18r5, f18r6, f18r7, f18r8, f18r10, f18r11, f18r12, f18r13, f18r14, f18r15, f18r17, f18l1, hkn, n1, z0, z1, z2, hz] | (refine BrW.of (fun hb => ?_) (fun hb => ?_) <;> (have hb' := hb; try simp only [decide_eq_true_eq, decide_eq_false_iff_not, beq_iff_eq, bne_iff_ne, beq_eq_false_iff_ne, bne_eq_false_iff_eq, Bool.not_eq_true', Bool.not_eq_false', Bool.not_eq_true, Bool.not_eq_false, Bool.and_eq_true, Bool.or_eq_true, Bool.and_eq_false_iff, Bool.or_eq_false_iff, Int.not_lt, Int.not_le, ne_eq, gt_iff_lt, ge_iff_le] at hb') <;> (try (exfalso; omega))) | (refine altW.of ?_ ?_)
            refine RdW.keep [6, 25, 26, 27] 2 (by omega) ?_
            simp (disch := first | with_reducible assumption | omega) only [go_sem, Bool.true_and, Bool.and_true, Bool.and_self, Bool.false_and, Bool.and_false, Bool.true_or, Bool.or_true, Bool.false_or, Bool.or_false, ↓reduceIte, Nat.reduceEqDiff, Nat.reduceAdd, Nat.reduceMul, Nat.reduceSub, Nat.reduceBEq, Nat.reduceLeDiff, Nat.reduceLT, Nat.reduceMod, Nat.reduceDiv, Int.reduceToNat, Int.reducePow, Int.reduceMul, Int.reduceAdd, Int.reduceSub, Int.reduceLE, Int.reduceLT, Int.reduceNeg, Int.reduceDiv, Int.reduceMod, Int.reduceEq, Int.reduceBEq, Int.reduceBNe]
            exact ⟨1, by decide, by simp [totCatC, hz], by subst hxn; simp [hpCatC, flat'], rfl⟩
          · repeat' first | simp (disch := first | with_reducible assumption | omega) only [go_sem, Bool.true_and, Bool.and_true, Bool.and_self, Bool.false_and, Bool.and_false, Bool.true_or, Bool.or_true, Bool.false_or, Bool.or_false, ↓reduceIte, Nat.reduceEqDiff, Nat.reduceAdd, Nat.reduceMul, Nat.reduceSub, Nat.reduceBEq, Nat.reduceLeDiff, Nat.reduceLT, Nat.reduceMod, Nat.reduceDiv, Int.reduceToNat, Int.reducePow, Int.reduceMul, Int.reduceAdd, Int.reduceSub, Int.reduceLE, Int.reduceLT, Int.reduceNeg, Int.reduceDiv, Int.reduceMod, Int.reduceEq, Int.reduceBEq, Int.reduceBNe, f18, f18b, f18r0, f18r1, f18r2, f18r3, f18r4, f18r5, f18r6, f18r7, f18r8, f18r10, f18r11, f18r12, f18r13, f18r14, f18r15, f18r17, f18l1, hkn, n1, z0, z1, z2, hz, ng3, zxy, ht] | (refine BrW.of (fun hb => ?_) (fun hb => ?_) <;> (have hb' := hb; try simp only [decide_eq_true_eq, decide_eq_false_iff_not, beq_iff_eq, bne_iff_ne, beq_eq_false_iff_ne, bne_eq_false_iff_eq, Bool.not_eq_true', Bool.not_eq_false', Bool.not_eq_true, Bool.not_eq_false, Bool.and_eq_true, Bool.or_eq_true, Bool.and_eq_false_iff, Bool.or_eq_false_iff, Int.not_lt, Int.not_le, ne_eq, gt_iff_lt, ge_iff_le] at hb') <;> (try (exfalso; omega))) | (refine altW.of ?_ ?_)
            rw [w1]
            refine RdW.keep [6, 25, 26, 27] 2 (by omega) ?_
            simp (disch := first | with_reducible assumption | omega) only [go_sem, Bool.true_and, Bool.and_true, Bool.and_self, Bool.false_and, Bool.and_false, Bool.true_or, Bool.or_true, Bool.false_or, Bool.or_false, ↓reduceIte, Nat.reduceEqDiff, Nat.reduceAdd, Nat.reduceMul, Nat.reduceSub, Nat.reduceBEq, Nat.reduceLeDiff, Nat.reduceLT, Nat.reduceMod, Nat.reduceDiv, Int.reduceToNat, Int.reducePow, Int.reduceMul, Int.reduceAdd, Int.reduceSub, Int.reduceLE, Int.reduceLT, Int.reduceNeg, Int.reduceDiv, Int.reduceMod, Int.reduceEq, Int.reduceBEq, Int.reduceBNe]
            exact ⟨1, by decide, by simp [totCatC], rfl, rfl⟩
      · simp only [totCatC, hpCatC]
        rcases hy with ⟨rfl, rfl⟩ | ⟨k1, o1, g1, c1, rfl, hy, hc1⟩
        · repeat' first | simp (disch := first | with_reducible assumption | omega) only [go_sem, Bool.true_and, Bool.and_true, Bool.and_self, Bool.false_and, Bool.and_false, Bool.true_or, Bool.or_true, Bool.false_or, Bool.or_false, ↓reduceIte, Nat.reduceEqDiff, Nat.reduceAdd, Nat.reduceMul, Nat.reduceSub, Nat.reduceBEq, Nat.reduceLeDiff, Nat.reduceLT, Nat.reduceMod, Nat.reduceDiv, Int.reduceToNat, Int.reducePow, Int.reduceMul, Int.reduceAdd, Int.reduceSub, Int.reduceLE, Int.reduceLT, Int.reduceNeg, Int.reduceDiv, Int.reduceMod, Int.reduceEq, Int.reduceBEq, Int.reduceBNe, f18, f18b, f18r0, f18r1, f18r2, f18r3, f18r4, f18r5, f18r6, f18r7, f18r8, f18r10, f18r11, f18r12, f18r13, f18r14, f18r15, f18r17, f18l1, hkn, z0, z1, z2] | (refine BrW.of (fun hb => ?_) (fun hb => ?_) <;> (have hb' := hb; try simp only [decide_eq_true_eq, decide_eq_false_iff_not, beq_iff_eq, bne_iff_ne, beq_eq_false_iff_ne, bne_eq_false_iff_eq, Bool.not_eq_true', Bool.not_eq_false', Bool.not_eq_true, Bool.not_eq_false, Bool.and_eq_true, Bool.or_eq_true, Bool.and_eq_false_iff, Bool.or_eq_false_iff, Int.not_lt, Int.not_le, ne_eq, gt_iff_lt, ge_iff_le] at hb') <;> (try (exfalso; omega))) | (refine altW.of ?_ ?_)
          refine RdW.keep [6, 25, 26, 27] 1 (by omega) ?_
          simp (disch := first | with_reducible assumption | omega) only [go_sem, Bool.true_and, Bool.and_true, Bool.and_self, Bool.false_and, Bool.and_false, Bool.true_or, Bool.or_true, Bool.false_or, Bool.or_false, ↓reduceIte, Nat.reduceEqDiff, Nat.reduceAdd, Nat.reduceMul, Nat.reduceSub, Nat.reduceBEq, Nat.reduceLeDiff, Nat.reduceLT, Nat.reduceMod, Nat.reduceDiv, Int.reduceToNat, Int.reducePow, Int.reduceMul, Int.reduceAdd, Int.reduceSub, Int.reduceLE, Int.reduceLT, Int.reduceNeg, Int.reduceDiv, Int.reduceMod, Int.reduceEq, Int.reduceBEq, Int.reduceBNe]
          exact ⟨2, by decide, rfl, by simp [hpCatC, zCatC], rfl⟩
        · obtain ⟨ro1, cs1, hk1, hle1, hcs1⟩ := hy.at'
          have n1 := get_old hk1
          have ht := Tbl.cells (enc := cenc) (fun _ => rfl) hle1 hcs1
          try simp only [Nat.mul_one] at ht
          by_cases hz : y.length = 0
          · have hyn := List.length_eq_zero_iff.1 hz
            repeat' first | simp (disch := first | with_reducible assumption | omega) only [go_sem, Bool.true_and, Bool.and_true, Bool.and_self, Bool.false_and, Bool.and_false, Bool.true_or, Bool.or_true, Bool.false_or, Bool.or_false, ↓reduceIte, Nat.reduceEqDiff, Nat.reduceAdd, Nat.reduceMul, Nat.reduceSub, Nat.reduceBEq, Nat.reduceLeDiff, Nat.reduceLT, Nat.reduceMod, Nat.reduceDiv, Int.reduceToNat, Int.reducePow, Int.reduceMul, Int.reduceAdd, Int.reduceSub, Int.reduceLE, Int.reduceLT, Int.reduceNeg, Int.reduceDiv, Int.reduceMod, Int.reduceEq, Int.reduceBEq, Int.reduceBNe, f18, f18b, f18r0, f18r1, f18r2, f18r3, f18r4, f18r5, f18r6, f18r7, f18r8, f18r10, f18r11, f18r12, f18r13, f18r14, f18r15, f18r17, f18l1, hkn, n1, z0, z1, z2, hz] | (refine BrW.of (fun hb => ?_) (fun hb => ?_) <;> (have hb' := hb; try simp only [decide_eq_true_eq, decide_eq_false_iff_not, beq_iff_eq, bne_iff_ne, beq_eq_false_iff_ne, bne_eq_false_iff_eq, Bool.not_eq_true', Bool.not_eq_false', Bool.not_eq_true, Bool.not_eq_false, Bool.and_eq_true, Bool.or_eq_true, Bool.and_eq_false_iff, Bool.or_eq_false_iff, Int.not_lt, Int.not_le, ne_eq, gt_iff_lt, ge_iff_le] at hb') <;> (try (exfalso; omega))) | (refine altW.of ?_ ?_)
            refine RdW.keep [6, 25, 26, 27] 1 (by omega) ?_
            simp (disch := first | with_reducible assumption | omega) only [go_sem, Bool.true_and, Bool.and_true, Bool.and_self, Bool.false_and, Bool.and_false, Bool.true_or, Bool.or_true, Bool.false_or, Bool.or_false, ↓reduceIte, Nat.reduceEqDiff, Nat.reduceAdd, Nat.reduceMul, Nat.reduceSub, Nat.reduceBEq, Nat.reduceLeDiff, Nat.reduceLT, Nat.reduceMod, Nat.reduceDiv, Int.reduceToNat, Int.reducePow, Int.reduceMul, Int.reduceAdd, Int.reduceSub, Int.reduceLE, Int.reduceLT, Int.reduceNeg, Int.reduceDiv, Int.reduceMod, Int.reduceEq, Int.reduceBEq, Int.reduceBNe]
            exact ⟨2, by decide, by simp [totCatC, hz], by subst hyn; simp [hpCatC, zCatC], rfl⟩
          · repeat' first | simp (disch := first | with_reducible assumption | omega) only [go_sem, Bool.true_and, Bool.and_true, Bool.and_self, Bool.false_and, Bool.and_false, Bool.true_or, Bool.or_true, Bool.false_or, Bool.or_false, ↓reduceIte, Nat.reduceEqDiff, Nat.reduceAdd, Nat.reduceMul, Nat.reduceSub, Nat.reduceBEq, Nat.reduceLeDiff, Nat.reduceLT, Nat.reduceMod, Nat.reduceDiv, Int.reduceToNat, Int.reducePow, Int.reduceMul, Int.reduceAdd, Int.reduceSub, Int.reduceLE, Int.reduceLT, Int.reduceNeg, Int.reduceDiv, Int.reduceMod, Int.reduceEq, Int.reduceBEq, Int.reduceBNe, f18, f18b, f18r0, f18r1, f18r2, f18r3, f18r4, f18r5, f18r6, f18r7, f18r8, f18r10, f18r11, f18r12, f18r13, f18r14, f18r15, f18r17, f18l1, hkn, n1, z0, z1, z2, hz, l2, ht] | (refine BrW.of (fun hb => ?_) (fun hb => ?_) <;> (have hb' := hb; try simp only [decide_eq_true_eq, decide_eq_false_iff_not, beq_iff_eq, bne_iff_ne, beq_eq_false_iff_ne, bne_eq_false_iff_eq, Bool.not_eq_true', Bool.not_eq_false', Bool.not_eq_true, Bool.not_eq_false, Bool.and_eq_true, Bool.or_eq_true, Bool.and_eq_false_iff, Bool.or_eq_false_iff, Int.not_lt, Int.not_le, ne_eq, gt_iff_lt, ge_iff_le] at hb') <;> (try (exfalso; omega))) | (refine altW.of ?_ ?_)
            rw [w2]
            refine RdW.keep [6, 25, 26, 27] 1 (by omega) ?_
            simp (disch := first | with_reducible assumption | omega) only [go_sem, Bool.true_and, Bool.and_true, Bool.and_self, Bool.false_and, Bool.and_false, Bool.true_or, Bool.or_true, Bool.false_or, Bool.or_false, ↓reduceIte, Nat.reduceEqDiff, Nat.reduceAdd, Nat.reduceMul, Nat.reduceSub, Nat.reduceBEq, Nat.reduceLeDiff, Nat.reduceLT, Nat.reduceMod, Nat.reduceDiv, Int.reduceToNat, Int.reducePow, Int.reduceMul, Int.reduceAdd, Int.reduceSub, Int.reduceLE, Int.reduceLT, Int.reduceNeg, Int.reduceDiv, Int.reduceMod, Int.reduceEq, Int.reduceBEq, Int.reduceBNe]
            exact ⟨2, by decide, by simp [totCatC], rfl, rfl⟩
      · simp only [totCatC, hpCatC]
        repeat' first | simp (disch := first | with_reducible assumption | omega) only [go_sem, Bool.true_and, Bool.and_true, Bool.and_self, Bool.false_and, Bool.and_false, Bool.true_or, Bool.or_true, Bool.false_or, Bool.or_false, ↓reduceIte, Nat.reduceEqDiff, Nat.reduceAdd, Nat.reduceMul, Nat.reduceSub, Nat.reduceBEq, Nat.reduceLeDiff, Nat.reduceLT, Nat.reduceMod, Nat.reduceDiv, Int.reduceToNat, Int.reducePow, Int.reduceMul, Int.reduceAdd, Int.reduceSub, Int.reduceLE, Int.reduceLT, Int.reduceNeg, Int.reduceDiv, Int.reduceMod, Int.reduceEq, Int.reduceBEq, Int.reduceBNe, f18, f18b, f18r0, f18r1, f18r2, f18r3, f18r4, f18r5, f18r6, f18r7, f18r8, f18r10, f18r11, f18r12, f18r13, f18r14, f18r15, f18r17, f18l1, f18, f18b, f18r0, f18r1, f18r2, f18r3, f18r4, f18r5, f18r6, f18r7, f18r8, f18r10, f18r11, f18r12, f18r13, f18r14, f18r15, f18r17, hkn, z0, z1, z2] | (refine BrW.of (fun hb => ?_) (fun hb => ?_) <;> (have hb' := hb; try simp only [decide_eq_true_eq, decide_eq_false_iff_not, beq_iff_eq, bne_iff_ne, beq_eq_false_iff_ne, bne_eq_false_iff_eq, Bool.not_eq_true', Bool.not_eq_false', Bool.not_eq_true, Bool.not_eq_false, Bool.and_eq_true, Bool.or_eq_true, Bool.and_eq_false_iff, Bool.or_eq_false_iff, Int.not_lt, Int.not_le, ne_eq, gt_iff_lt, ge_iff_le] at hb') <;> (try (exfalso; omega))) | (refine altW.of ?_ ?_)
        exact .here ⟨fun _ => ⟨rfl, rfl⟩, fun h => absurd hp (by omega)⟩
      · omega
    · have hx0 : x = [] := List.eq_nil_of_length_eq_zero (by omega)
      have hy0 : y = [] := List.eq_nil_of_length_eq_zero (by omega)
      subst hx0 hy0
      simp only [List.length_nil] at *
      repeat' first | simp (disch := first | with_reducible assumption | omega) only [go_sem, Bool.true_and, Bool.and_true, Bool.and_self, Bool.false_and, Bool.and_false, Bool.true_or, Bool.or_true, Bool.false_or, Bool.or_false, ↓reduceIte, Nat.reduceEqDiff, Nat.reduceAdd, Nat.reduceMul, Nat.reduceSub, Nat.reduceBEq, Nat.reduceLeDiff, Nat.reduceLT, Nat.reduceMod, Nat.reduceDiv, Int.reduceToNat, Int.reducePow, Int.reduceMul, Int.reduceAdd, Int.reduceSub, Int.reduceLE, Int.reduceLT, Int.reduceNeg, Int.reduceDiv, Int.reduceMod, Int.reduceEq, Int.reduceBEq, Int.reduceBNe, f18, f18b, f18r0, f18r1, f18r2, f18r3, f18r4, f18r5, f18r6, f18r7, f18r8, f18r10, f18r11, f18r12, f18r13, f18r14, f18r15, f18r17, f18l0, hk, z0, z1, z2] | (refine BrW.of (fun hb => ?_) (fun hb => ?_) <;> (have hb' := hb; try simp only [decide_eq_true_eq, decide_eq_false_iff_not, beq_iff_eq, bne_iff_ne, beq_eq_false_iff_ne, bne_eq_false_iff_eq, Bool.not_eq_true', Bool.not_eq_false', Bool.not_eq_true, Bool.not_eq_false, Bool.and_eq_true, Bool.or_eq_true, Bool.and_eq_false_iff, Bool.or_eq_false_iff, Int.not_lt, Int.not_le, ne_eq, gt_iff_lt, ge_iff_le] at hb') <;> (try (exfalso; omega))) | (refine altW.of ?_ ?_)
      refine .of ((CatC_grow0 _).mono ?_)
      rintro u H1 ⟨rfl, rfl⟩
      repeat' first | simp (disch := first | with_reducible assumption | omega) only [go_sem, Bool.true_and, Bool.and_true, Bool.and_self, Bool.false_and, Bool.and_false, Bool.true_or, Bool.or_true, Bool.false_or, Bool.or_false, ↓reduceIte, Nat.reduceEqDiff, Nat.reduceAdd, Nat.reduceMul, Nat.reduceSub, Nat.reduceBEq, Nat.reduceLeDiff, Nat.reduceLT, Nat.reduceMod, Nat.reduceDiv, Int.reduceToNat, Int.reducePow, Int.reduceMul, Int.reduceAdd, Int.reduceSub, Int.reduceLE, Int.reduceLT, Int.reduceNeg, Int.reduceDiv, Int.reduceMod, Int.reduceEq, Int.reduceBEq, Int.reduceBNe, f18, f18b, f18r0, f18r1, f18r2, f18r3, f18r4, f18r5, f18r6, f18r7, f18r8, f18r10, f18r11, f18r12, f18r13, f18r14, f18r15, f18r17, hk] | (refine BrW.of (fun hb => ?_) (fun hb => ?_) <;> (have hb' := hb; try simp only [decide_eq_true_eq, decide_eq_false_iff_not, beq_iff_eq, bne_iff_ne, beq_eq_false_iff_ne, bne_eq_false_iff_eq, Bool.not_eq_true', Bool.not_eq_false', Bool.not_eq_true, Bool.not_eq_false, Bool.and_eq_true, Bool.or_eq_true, Bool.and_eq_false_iff, Bool.or_eq_false_iff, Int.not_lt, Int.not_le, ne_eq, gt_iff_lt, ge_iff_le] at hb') <;> (try (exfalso; omega))) | (refine altW.of ?_ ?_)
      refine loopW.of (by decide) (fun m e H' => ∃ i : Nat, i ≤ 2 ∧ e = [(6, .slice none 0 0), (25, slv k 0 0 2 2), (26, .int .i64 2), (27, .int .i64 i)] ∧ H' = H1 ∧ m = 3 - i) 3 ⟨0, by decide, rfl, rfl, rfl⟩ ?_
      rintro m e H' ⟨i, hi, rfl, rfl, rfl⟩
      rcases i with _ | _ | _ | i
      · rcases hx with ⟨rfl, _⟩ | ⟨k1, o1, g1, c1, rfl, hx, hc1⟩
        · repeat' first | simp (disch := first | with_reducible assumption | omega) only [go_sem, Bool.true_and, Bool.and_true, Bool.and_self, Bool.false_and, Bool.and_false, Bool.true_or, Bool.or_true, Bool.false_or, Bool.or_false, ↓reduceIte, Nat.reduceEqDiff, Nat.reduceAdd, Nat.reduceMul, Nat.reduceSub, Nat.reduceBEq, Nat.reduceLeDiff, Nat.reduceLT, Nat.reduceMod, Nat.reduceDiv, Int.reduceToNat, Int.reducePow, Int.reduceMul, Int.reduceAdd, Int.reduceSub, Int.reduceLE, Int.reduceLT, Int.reduceNeg, Int.reduceDiv, Int.reduceMod, Int.reduceEq, Int.reduceBEq, Int.reduceBNe, f18, f18b, f18r0, f18r1, f18r2, f18r3, f18r4, f18r5, f18r6, f18r7, f18r8, f18r10, f18r11, f18r12, f18r13, f18r14, f18r15, f18r17, f18l1, hk, z0, z1, z2] | (refine BrW.of (fun hb => ?_) (fun hb => ?_) <;> (have hb' := hb; try simp only [decide_eq_true_eq, decide_eq_false_iff_not, beq_iff_eq, bne_iff_ne, beq_eq_false_iff_ne, bne_eq_false_iff_eq, Bool.not_eq_true', Bool.not_eq_false', Bool.not_eq_true, Bool.not_eq_false, Bool.and_eq_true, Bool.or_eq_true, Bool.and_eq_false_iff, Bool.or_eq_false_iff, Int.not_lt, Int.not_le, ne_eq, gt_iff_lt, ge_iff_le] at hb') <;> (try (exfalso; omega))) | (refine altW.of ?_ ?_)
          refine RdW.keep [6, 25, 26, 27] 2 (by omega) ?_
          simp (disch := first | with_reducible assumption | omega) only [go_sem, Bool.true_and, Bool.and_true, Bool.and_self, Bool.false_and, Bool.and_false, Bool.true_or, Bool.or_true, Bool.false_or, Bool.or_false, ↓reduceIte, Nat.reduceEqDiff, Nat.reduceAdd, Nat.reduceMul, Nat.reduceSub, Nat.reduceBEq, Nat.reduceLeDiff, Nat.reduceLT, Nat.reduceMod, Nat.reduceDiv, Int.reduceToNat, Int.reducePow, Int.reduceMul, Int.reduceAdd, Int.reduceSub, Int.reduceLE, Int.reduceLT, Int.reduceNeg, Int.reduceDiv, Int.reduceMod, Int.reduceEq, Int.reduceBEq, Int.reduceBNe]
          exact ⟨1, by decide, rfl, rfl⟩
        · obtain ⟨ro1, cs1, hk1, hle1, hcs1⟩ := hx.at'
          repeat' first | simp (disch := first | with_reducible assumption | omega) only [go_sem, Bool.true_and, Bool.and_true, Bool.and_self, Bool.false_and, Bool.and_false, Bool.true_or, Bool.or_true, Bool.false_or, Bool.or_false, ↓reduceIte, Nat.reduceEqDiff, Nat.reduceAdd, Nat.reduceMul, Nat.reduceSub, Nat.reduceBEq, Nat.reduceLeDiff, Nat.reduceLT, Nat.reduceMod, Nat.reduceDiv, Int.reduceToNat, Int.reducePow, Int.reduceMul, Int.reduceAdd, Int.reduceSub, Int.reduceLE, Int.reduceLT, Int.reduceNeg, Int.reduceDiv, Int.reduceMod, Int.reduceEq, Int.reduceBEq, Int.reduceBNe, f18, f18b, f18r0, f18r1, f18r2, f18r3, f18r4, f18r5, f18r6, f18r7, f18r8, f18r10, f18r11, f18r12, f18r13, f18r14, f18r15, f18r17, f18l1, hk, hk1, z0, z1, z2] | (refine BrW.of (fun hb => ?_) (fun hb => ?_) <;> (have hb' := hb; try simp only [decide_eq_true_eq, decide_eq_false_iff_not, beq_iff_eq, bne_iff_ne, beq_eq_false_iff_ne, bne_eq_false_iff_eq, Bool.not_eq_true', Bool.not_eq_false', Bool.not_eq_true, Bool.not_eq_false, Bool.and_eq_true, Bool.or_eq_true, Bool.and_eq_false_iff, Bool.or_eq_false_iff, Int.not_lt, Int.not_le, ne_eq, gt_iff_lt, ge_iff_le] at hb') <;> (try (exfalso; omega))) | (refine altW.of ?_ ?_)
          refine RdW.keep [6, 25, 26, 27] 2 (by omega) ?_
          simp (disch := first | with_reducible assumption | omega) only [go_sem, Bool.true_and, Bool.and_true, Bool.and_self, Bool.false_and, Bool.and_false, Bool.true_or, Bool.or_true, Bool.false_or, Bool.or_false, ↓reduceIte, Nat.reduceEqDiff, Nat.reduceAdd, Nat.reduceMul, Nat.reduceSub, Nat.reduceBEq, Nat.reduceLeDiff, Nat.reduceLT, Nat.reduceMod, Nat.reduceDiv, Int.reduceToNat, Int.reducePow, Int.reduceMul, Int.reduceAdd, Int.reduceSub, Int.reduceLE, Int.reduceLT, Int.reduceNeg, Int.reduceDiv, Int.reduceMod, Int.reduceEq, Int.reduceBEq, Int.reduceBNe]
          exact ⟨1, by decide, rfl, rfl⟩
      · rcases hy with ⟨rfl, _⟩ | ⟨k1, o1, g1, c1, rfl, hy, hc1⟩
        · repeat' first | simp (disch := first | with_reducible assumption | omega) only [go_sem, Bool.true_and, Bool.and_true, Bool.and_self, Bool.false_and, Bool.and_false, Bool.true_or, Bool.or_true, Bool.false_or, Bool.or_false, ↓reduceIte, Nat.reduceEqDiff, Nat.reduceAdd, Nat.reduceMul, Nat.reduceSub, Nat.reduceBEq, Nat.reduceLeDiff, Nat.reduceLT, Nat.reduceMod, Nat.reduceDiv, Int.reduceToNat, Int.reducePow, Int.reduceMul, Int.reduceAdd, Int.reduceSub, Int.reduceLE, Int.reduceLT, Int.reduceNeg, Int.reduceDiv, Int.reduceMod, Int.reduceEq, Int.reduceBEq, Int.reduceBNe, f18, f18b, f18r0, f18r1, f18r2, f18r3, f18r4, f18r5, f18r6, f18r7, f18r8, f18r10, f18r11, f18r12, f18r13, f18r14, f18r15, f18r17, f18l1, hk, z0, z1, z2] | (refine BrW.of (fun hb => ?_) (fun hb => ?_) <;> (have hb' := hb; try simp only [decide_eq_true_eq, decide_eq_false_iff_not, beq_iff_eq, bne_iff_ne, beq_eq_false_iff_ne, bne_eq_false_iff_eq, Bool.not_eq_true', Bool.not_eq_false', Bool.not_eq_true, Bool.not_eq_false, Bool.and_eq_true, Bool.or_eq_true, Bool.and_eq_false_iff, Bool.or_eq_false_iff, Int.not_lt, Int.not_le, ne_eq, gt_iff_lt, ge_iff_le] at hb') <;> (try (exfalso; omega))) | (refine altW.of ?_ ?_)
          refine RdW.keep [6, 25, 26, 27] 1 (by omega) ?_
          simp (disch := first | with_reducible assumption | omega) only [go_sem, Bool.true_and, Bool.and_true, Bool.and_self, Bool.false_and, Bool.and_false, Bool.true_or, Bool.or_true, Bool.false_or, Bool.or_false, ↓reduceIte, Nat.reduceEqDiff, Nat.reduceAdd, Nat.reduceMul, Nat.reduceSub, Nat.reduceBEq, Nat.reduceLeDiff, Nat.reduceLT, Nat.reduceMod, Nat.reduceDiv, Int.reduceToNat, Int.reducePow, Int.reduceMul, Int.reduceAdd, Int.reduceSub, Int.reduceLE, Int.reduceLT, Int.reduceNeg, Int.reduceDiv, Int.reduceMod, Int.reduceEq, Int.reduceBEq, Int.reduceBNe]
          exact ⟨2, by decide, rfl, rfl⟩
        · obtain ⟨ro1, cs1, hk1, hle1, hcs1⟩ := hy.at'
          repeat' first | simp (disch := first | with_reducible assumption | omega) only [go_sem, Bool.true_and, Bool.and_true, Bool.and_self, Bool.false_and, Bool.and_false, Bool.true_or, Bool.or_true, Bool.false_or, Bool.or_false, ↓reduceIte, Nat.reduceEqDiff, Nat.reduceAdd, Nat.reduceMul, Nat.reduceSub, Nat.reduceBEq, Nat.reduceLeDiff, Nat.reduceLT, Nat.reduceMod, Nat.reduceDiv, Int.reduceToNat, Int.reducePow, Int.reduceMul, Int.reduceAdd, Int.reduceSub, Int.reduceLE, Int.reduceLT, Int.reduceNeg, Int.reduceDiv, Int.reduceMod, Int.reduceEq, Int.reduceBEq, Int.reduceBNe, f18, f18b, f18r0, f18r1, f18r2, f18r3, f18r4, f18r5, f18r6, f18r7, f18r8, f18r10, f18r11, f18r12, f18r13, f18r14, f18r15, f18r17, f18l1, hk, hk1, z0, z1, z2] | (refine BrW.of (fun hb => ?_) (fun hb => ?_) <;> (have hb' := hb; try simp only [decide_eq_true_eq, decide_eq_false_iff_not, beq_iff_eq, bne_iff_ne, beq_eq_false_iff_ne, bne_eq_false_iff_eq, Bool.not_eq_true', Bool.not_eq_false', Bool.not_eq_true, Bool.not_eq_false, Bool.and_eq_true, Bool.or_eq_true, Bool.and_eq_false_iff, Bool.or_eq_false_iff, Int.not_lt, Int.not_le, ne_eq, gt_iff_lt, ge_iff_le] at hb') <;> (try (exfalso; omega))) | (refine altW.of ?_ ?_)
          refine RdW.keep [6, 25, 26, 27] 1 (by omega) ?_
          simp (disch := first | with_reducible assumption | omega) only [go_sem, Bool.true_and, Bool.and_true, Bool.and_self, Bool.false_and, Bool.and_false, Bool.true_or, Bool.or_true, Bool.false_or, Bool.or_false, ↓reduceIte, Nat.reduceEqDiff, Nat.reduceAdd, Nat.reduceMul, Nat.reduceSub, Nat.reduceBEq, Nat.reduceLeDiff, Nat.reduceLT, Nat.reduceMod, Nat.reduceDiv, Int.reduceToNat, Int.reducePow, Int.reduceMul, Int.reduceAdd, Int.reduceSub, Int.reduceLE, Int.reduceLT, Int.reduceNeg, Int.reduceDiv, Int.reduceMod, Int.reduceEq, Int.reduceBEq, Int.reduceBNe]
          exact ⟨2, by decide, rfl, rfl⟩
      · repeat' first | simp (disch := first | with_reducible assumption | omega) only [go_sem, Bool.true_and, Bool.and_true, Bool.and_self, Bool.false_and, Bool.and_false, Bool.true_or, Bool.or_true, Bool.false_or, Bool.or_false, ↓reduceIte, Nat.reduceEqDiff, Nat.reduceAdd, Nat.reduceMul, Nat.reduceSub, Nat.reduceBEq, Nat.reduceLeDiff, Nat.reduceLT, Nat.reduceMod, Nat.reduceDiv, Int.reduceToNat, Int.reducePow, Int.reduceMul, Int.reduceAdd, Int.reduceSub, Int.reduceLE, Int.reduceLT, Int.reduceNeg, Int.reduceDiv, Int.reduceMod, Int.reduceEq, Int.reduceBEq, Int.reduceBNe, f18, f18b, f18r0, f18r1, f18r2, f18r3, f18r4, f18r5, f18r6, f18r7, f18r8, f18r10, f18r11, f18r12, f18r13, f18r14, f18r15, f18r17, f18l1, f18, f18b, f18r0, f18r1, f18r2, f18r3, f18r4, f18r5, f18r6, f18r7, f18r8, f18r10, f18r11, f18r12, f18r13, f18r14, f18r15, f18r17, hk, z0, z1, z2] | (refine BrW.of (fun hb => ?_) (fun hb => ?_) <;> (have hb' := hb; try simp only [decide_eq_true_eq, decide_eq_false_iff_not, beq_iff_eq, bne_iff_ne, beq_eq_false_iff_ne, bne_eq_false_iff_eq, Bool.not_eq_true', Bool.not_eq_false', Bool.not_eq_true, Bool.not_eq_false, Bool.and_eq_true, Bool.or_eq_true, Bool.and_eq_false_iff, Bool.or_eq_false_iff, Int.not_lt, Int.not_le, ne_eq, gt_iff_lt, ge_iff_le] at hb') <;> (try (exfalso; omega))) | (refine altW.of ?_ ?_)
        exact .here ⟨fun h => absurd h (by simp), fun _ => ⟨rfl, rfl⟩⟩
      · omega
  · omega

theorem CatC_full (x y : List Ct) (v w : Value) (k : Nat) (H : Heap) (hk : H[k]? = some (.cells 0 1 false [v, w])) (hx : IsSCatC H v x) (hy : IsSCatC H w y) (hlx : x.length ≤ 1048576) (hly : y.length ≤ 1048576) (hp : 0 < x.length + y.length) :
    ACallK Try.prog 18 [slv k 0 0 2 2] H (fun u H' => u = slv H.length 0 0 (x.length + y.length) (x.length + y.length) ∧ H' = H ++ [.cells 0 2 false (flat' cenc (x ++ y))]) :=
  (CatC_ex x y v w k H hk hx hy hlx hly).mono fun _ _ h => h.1 hp
theorem CatC_none (x y : List Ct) (v w : Value) (k : Nat) (H : Heap) (hk : H[k]? = some (.cells 0 1 false [v, w])) (hx : IsSCatC H v x) (hy : IsSCatC H w y) (hlx : x.length ≤ 1048576) (hly : y.length ≤ 1048576) (hp : x.length + y.length = 0) :
    ACallK Try.prog 18 [slv k 0 0 2 2] H (fun u H' => u = .slice none 0 0 ∧ H' = H) :=
  (CatC_ex x y v w k H hk hx hy hlx hly).mono fun _ _ h => h.2 hp
theorem CatC_spec (x y : List Ct) (v w : Value) (k : Nat) (H : Heap) (hk : H[k]? = some (.cells 0 1 false [v, w])) (hx : IsSCatC H v x) (hy : IsSCatC H w y) (hlx : x.length ≤ 1048576) (hly : y.length ≤ 1048576) :
    ACallK Try.prog 18 [slv k 0 0 2 2] H (fun u H' => Le H H' ∧ IsSCatC H' u (x ++ y)) := by
  refine (CatC_ex x y v w k H hk hx hy hlx hly).mono fun u H' h => ?_
  by_cases hp : 0 < x.length + y.length
  · obtain ⟨rfl, rfl⟩ := h.1 hp
    exact ⟨.app _ _, .inr ⟨_, 0, 0, _, by rw [List.length_append], Tbl.new (enc := cenc) (s := 2) (d := c0) (fun _ => rfl) _ _ _ false _ (get_new0 _ _ _), by rw [List.length_append]; exact Nat.le_refl _⟩⟩
  · obtain ⟨rfl, rfl⟩ := h.2 (by omega)
    have hx0 : x = [] := List.eq_nil_of_length_eq_zero (by omega)
    have hy0 : y = [] := List.eq_nil_of_length_eq_zero (by omega)
    subst hx0 hy0
    exact ⟨.refl _, .inl ⟨rfl, rfl⟩⟩

/-- nil handed back is taken for a slice of a new object without cells. -/
theorem ghostK {P : Program} {f : FuncId} {args : List Value} {H : Heap} {K K' : Value → Heap → Prop} (esz : Nat) (ro : Bool) (h : ACallK P f args H K) (hk : ∀ v H', K v H' → K' v H' ∨ (v = .slice none 0 0 ∧ K' (.slice (some ⟨H'.length, 0, some 1⟩) 0 0) (H' ++ [.cells 0 esz ro []]))) : ACallK P f args H K' :=
  ⟨h.1, fun prot B ι w args' h1 h2 => (h.2 prot B ι w args' h1 h2).mono fun _ _ ⟨v, v', ι', H', a, b, c, d, e⟩ => by
    rcases hk _ _ e with h3 | ⟨rfl, h3⟩
    · exact ⟨v, v', ι', H', a, b, c, d, h3⟩
    · obtain ⟨k1, k2⟩ := b.ghost esz ro
      have hn : v' = .slice none 0 0 := nilS_eq d
      subst hn
      exact ⟨_, _, _, _, a, k1, c.trans k2, .empty (t := ⟨0, esz, ro⟩) (by simp [AObj.tag]) rfl, h3⟩⟩
theorem CatC2_spec (x y : List Ct) (v w : Value) (k : Nat) (H : Heap) (hk : H[k]? = some (.cells 0 1 false [v, w])) (hx : IsSCatC H v x) (hy : IsSCatC H w y) (hlx : x.length ≤ 1048576) (hly : y.length ≤ 1048576) :
    ACallK Try.prog 18 [slv k 0 0 2 2] H (fun u H' => Le H H' ∧ ∃ kc oc gc cc, u = slv kc oc gc (x ++ y).length cc ∧ Cts H' kc oc gc (x ++ y)) := by
  refine ghostK 2 false (CatC_spec x y v w k H hk hx hy hlx hly) ?_
  rintro u H' ⟨hLe, ⟨rfl, e⟩ | ⟨kc, oc, gc, cc, rfl, ht, _⟩⟩
  · refine .inr ⟨rfl, hLe.trans (.app _ _), _, 0, 0, 0, by rw [e]; rfl, ?_⟩
    rw [e]
    exact OkC.tbl (by rw [get_new0]; rfl)
  · exact .inl ⟨hLe, kc, oc, gc, cc, rfl, ht⟩
/-- The old objects are as they were. -/
def Ag (H J : Heap) : Prop := ∀ j, j < H.length → J[j]? = H[j]?
theorem Ag.le {H J : Heap} (h : Le H J) : Ag H J := fun j hj => by
  obtain ⟨X, rfl⟩ := h
  exact List.getElem?_append_left hj
theorem Ag.app {H J : Heap} (h : Ag H J) (hl : H.length ≤ J.length) (X : Heap) : Ag H (J ++ X) := fun j hj => by rw [List.getElem?_append_left (by omega)]; exact h j hj
theorem Ag.set {H J : Heap} (h : Ag H J) {k : Nat} (hk : H.length ≤ k) (o : AObj) : Ag H (J.set k o) := fun j hj => by rw [List.getElem?_set_ne (by omega)]; exact h j hj
theorem Ag.tbl {α : Type} {enc : α → List Value} {s : Nat} {d : α} {H J : Heap} {k o g : Nat} {l : List α} (h : Tbl α enc s d H k o g l) (ha : Ag H J) : Tbl α enc s d J k o g l := by
  have h0 := h.lt
  obtain ⟨ro, cs, h1, h2⟩ := h.at'
  exact ⟨ro, cs, by rw [ha _ h0]; exact h1, h2⟩
theorem MI.nil : MI [] [] 0 := ⟨trivial, fun t ht => (by cases ht), fun x => rfl⟩
/-- All goes into a map. -/
theorem Join_map {kk : Int} {L : List Ct} (hL : ∀ c ∈ L, 1 ≤ c.2 ∧ c.2 ≤ 1099511627776) (htot : ∀ i x, 0 ≤ tot (L.take i) x ∧ tot (L.take i) x ≤ 1099511627776) (hll : L.length ≤ 2097152) {H0 J0 : Heap} {kc oc gc cc km : Nat} (hc : Cts J0 kc oc gc L) (hm : J0[km]? = some (.map [] 0)) (hkm : kc ≠ km) {Q : LQ}
    (hq : ∀ (J : Heap) (m : List T3) (c : Nat), MI L m c → J[km]? = some (.map (m.map E) c) → (∀ j, j < J0.length → j ≠ km → J[j]? = J0[j]?) → J0.length ≤ J.length → Q.run (.exit 0) [(0, .int .i64 kk), (8, .map (some km)), (29, slv kc oc gc L.length cc), (30, .int .i64 L.length), (31, .int .i64 L.length), (32, .bool (decide ((L.length : Int) < L.length)))] J) :
    @loopW (loopK Try.prog f12.n H0) f12l0 Q [(0, .int .i64 kk), (8, .map (some km)), (29, slv kc oc gc L.length cc), (30, .int .i64 L.length), (31, .int .i64 0)] J0 := by
  obtain ⟨ro, cs, hk, hcl, hcs⟩ := hc.at'
  have hkml := (List.getElem?_eq_some_iff.1 hm).1
  have hckl := hc.lt
  refine loopW.of (by decide) (fun mm e J => ∃ (i : Nat) (m : List T3) (c : Nat), e = [(0, .int .i64 kk), (8, .map (some km)), (29, slv kc oc gc L.length cc), (30, .int .i64 L.length), (31, .int .i64 i)] ∧ MI (L.take i) m c ∧ J[km]? = some (.map (m.map E) c) ∧ (∀ j, j < J0.length → j ≠ km → J[j]? = J0[j]?) ∧ J0.length ≤ J.length ∧ i ≤ L.length ∧ mm = L.length - i) L.length
    ⟨0, [], 0, rfl, MI.nil, hm, fun _ _ _ => rfl, Nat.le_refl _, by omega, rfl⟩ ?_
  rintro mm e J ⟨i, m, c, rfl, hI, hmJ, hJ, hJl, hi, rfl⟩
  by_cases hlt : i < L.length
  · have hkJ : J[kc]? = some (.cells gc 2 ro cs) := by rw [hJ _ hckl hkm]; exact hk
    have hld := Tbl.ld (enc := cenc) (fun _ => rfl) hcs i hlt
    have hy := hL (L.getD i c0) (getD_mem hlt)
    have hnx := hI.add (L.getD i c0) hy.1
    rw [← take_snoc c0 L i hlt] at hnx
    have hb0 := htot i (L.getD i c0).1
    have hb1 := htot (i + 1) (L.getD i c0).1
    rw [take_snoc c0 L i hlt, tot_app] at hb1
    simp only [tot, if_true] at hb1
    rw [← hI.tot] at hb0 hb1
    have hlk0 := look_0 m (L.getD i c0).1
    have hput : ∃ m2 c2, addM m c (L.getD i c0) = (m2, c2) ∧ putV (m.map E) c .i64 (L.getD i c0).1 (.int .i64 ((lk m (L.getD i c0).1).getD 0 + (L.getD i c0).2)) = some (m2.map E, c2) := by
      unfold addM
      cases hl : lk m (L.getD i c0).1 with
      | some u => exact ⟨_, _, rfl, put_in m c _ _ u hl⟩
      | none => exact ⟨_, _, rfl, put_E m c _ _ hl⟩
    obtain ⟨m2, c2, e2, hput⟩ := hput
    rw [e2] at hnx
    simp only at hnx
    generalize L.getD i c0 = y at *
    generalize (lk m y.1).getD 0 = old at *
    generalize m.map E = es at *
    generalize hes2 : m2.map E = es2 at *
    have hma : ∀ X, mapAt (J ++ X) (.map (some km)) = some (km, es, c) := fun X => by simp only [mapAt, get_old hmJ X]
    repeat' first | simp (disch := first | with_reducible assumption | omega) only [go_sem, Bool.true_and, Bool.and_true, Bool.and_self, Bool.false_and, Bool.and_false, Bool.true_or, Bool.or_true, Bool.false_or, Bool.or_false, ↓reduceIte, Nat.reduceEqDiff, Nat.reduceAdd, Nat.reduceMul, Nat.reduceSub, Nat.reduceBEq, Nat.reduceLeDiff, Nat.reduceLT, Nat.reduceMod, Nat.reduceDiv, Int.reduceToNat, Int.reducePow, Int.reduceMul, Int.reduceAdd, Int.reduceSub, Int.reduceLE, Int.reduceLT, Int.reduceNeg, Int.reduceDiv, Int.reduceMod, Int.reduceEq, Int.reduceBEq, Int.reduceBNe, f12, f12b, f12r0, f12r1, f12r2, f12r3, f12r4, f12r5, f12r6, f12r7, f12r8, f12r10, f12r11, f12r12, f12r13, f12r14, f12r15, f12r16, f12r17, f12r19, f12r20, f12r21, f12r22, f12r23, f12l0, hkJ, get_old hkJ, ↓hld, cenc, hma, hlk0, hput] | (refine BrW.of (fun hb => ?_) (fun hb => ?_) <;> (have hb' := hb; try simp only [decide_eq_true_eq, decide_eq_false_iff_not, beq_iff_eq, bne_iff_ne, beq_eq_false_iff_ne, bne_eq_false_iff_eq, Bool.not_eq_true', Bool.not_eq_false', Bool.not_eq_true, Bool.not_eq_false, Bool.and_eq_true, Bool.or_eq_true, Bool.and_eq_false_iff, Bool.or_eq_false_iff, Int.not_lt, Int.not_le, ne_eq, gt_iff_lt, ge_iff_le] at hb') <;> (try (exfalso; omega))) | (refine altW.of ?_ ?_)
    refine RdW.keep [0, 8, 29, 30, 31] (L.length - (i + 1)) (by omega) ?_
    simp (disch := first | with_reducible assumption | omega) only [go_sem, Bool.true_and, Bool.and_true, Bool.and_self, Bool.false_and, Bool.and_false, Bool.true_or, Bool.or_true, Bool.false_or, Bool.or_false, ↓reduceIte, Nat.reduceEqDiff, Nat.reduceAdd, Nat.reduceMul, Nat.reduceSub, Nat.reduceBEq, Nat.reduceLeDiff, Nat.reduceLT, Nat.reduceMod, Nat.reduceDiv, Int.reduceToNat, Int.reducePow, Int.reduceMul, Int.reduceAdd, Int.reduceSub, Int.reduceLE, Int.reduceLT, Int.reduceNeg, Int.reduceDiv, Int.reduceMod, Int.reduceEq, Int.reduceBEq, Int.reduceBNe]
    refine ⟨i + 1, m2, c2, rfl, hnx, ?_, fun j h1 h2 => ?_, by simp; omega, by omega, rfl⟩
    · rw [List.getElem?_set_self (by simp; omega), hes2]
    · rw [List.getElem?_set_ne (Ne.symm h2), List.getElem?_append_left (by omega)]; exact hJ j h1 h2
  · obtain rfl : i = L.length := by omega
    rw [List.take_length] at hI
    repeat' first | simp (disch := first | with_reducible assumption | omega) only [go_sem, Bool.true_and, Bool.and_true, Bool.and_self, Bool.false_and, Bool.and_false, Bool.true_or, Bool.or_true, Bool.false_or, Bool.or_false, ↓reduceIte, Nat.reduceEqDiff, Nat.reduceAdd, Nat.reduceMul, Nat.reduceSub, Nat.reduceBEq, Nat.reduceLeDiff, Nat.reduceLT, Nat.reduceMod, Nat.reduceDiv, Int.reduceToNat, Int.reducePow, Int.reduceMul, Int.reduceAdd, Int.reduceSub, Int.reduceLE, Int.reduceLT, Int.reduceNeg, Int.reduceDiv, Int.reduceMod, Int.reduceEq, Int.reduceBEq, Int.reduceBNe, f12, f12b, f12r0, f12r1, f12r2, f12r3, f12r4, f12r5, f12r6, f12r7, f12r8, f12r10, f12r11, f12r12, f12r13, f12r14, f12r15, f12r16, f12r17, f12r19, f12r20, f12r21, f12r22, f12r23, f12l0] | (refine BrW.of (fun hb => ?_) (fun hb => ?_) <;> (have hb' := hb; try simp only [decide_eq_true_eq, decide_eq_false_iff_not, beq_iff_eq, bne_iff_ne, beq_eq_false_iff_ne, bne_eq_false_iff_eq, Bool.not_eq_true', Bool.not_eq_false', Bool.not_eq_true, Bool.not_eq_false, Bool.and_eq_true, Bool.or_eq_true, Bool.and_eq_false_iff, Bool.or_eq_false_iff, Int.not_lt, Int.not_le, ne_eq, gt_iff_lt, ge_iff_le] at hb') <;> (try (exfalso; omega))) | (refine altW.of ?_ ?_)
    exact hq J m c hI hmJ hJ hJl
end Go.Proofs.Ytabcjhpgamhpoaa
