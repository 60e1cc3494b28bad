import Derived.Test.YtdkccpppflnmpaaSteps
set_option linter.unusedSimpArgs false
set_option linter.unusedVariables false
set_option maxHeartbeats 1000000
set_option maxRecDepth 20000
namespace Go.Proofs.Ytdkccpppflnmpaa
open Go Go.Am
attribute [local irreducible] opsW Ww loopW callW drawW outW outDW gW cW BrW bothW vW resW DropW RdW dcallW altW forkW splitW Later.run

/-- A row of plain data in an object of whatever element size. -/
structure TblZ (α : Type) (enc : α → List Value) (s : Nat) (d : α) (H : Heap) (k o g : Nat) (l : List α) : Prop where
  at' : ∃ esz ro cs, H[k]? = some (.cells g esz ro cs) ∧ o + l.length * s ≤ cs.length ∧ ∀ i, i < l.length → ∀ j, j < s → cs[o + i * s + j]? = (enc (l.getD i d))[j]?
def IsSCatB (H : Heap) (v : Value) (l : List Int) : Prop := (v = .slice none 0 0 ∧ l = []) ∨ ∃ k o g c, v = slv k o g l.length c ∧ TblZ Int uenc 1 0 H k o g l ∧ l.length ≤ c
def zCatB (n : Nat) : List Value := (List.replicate n ([Value.int .u8 0] : List Value)).flatten
theorem zCatB_length (n : Nat) : (zCatB n).length = n * 1 := by
  induction n with
  | zero => rfl
  | succ n ih =>
    have : zCatB (n + 1) = [Value.int .u8 0] ++ zCatB n := by simp [zCatB, List.replicate_succ]
    rw [this, List.length_append, ih, Nat.succ_mul, Nat.add_comm]; rfl
theorem zCatB_add (a b : Nat) : zCatB (a + b) = zCatB a ++ zCatB b := by unfold zCatB; rw [← List.flatten_append, List.replicate_append_replicate]
theorem CatB_grow (n : Nat) (H : Heap) (h0 : 0 < n) (h1 : n ≤ 4194304) : ACallK Try.prog 17 [.slice none 0 0, .int .i64 n] H (fun v H' => v = slv H.length 0 0 0 n ∧ H' = H ++ [.cells 0 1 false (zCatB n)]) := by
  refine .walkW f17_ok (by simp; decide) (by decide) ?_
  have e0 : ((n : Int) - 0).toNat = n := by omega
  repeat' first | simp (disch := first | with_reducible assumption | omega) only [go_sem, Bool.true_and, Bool.and_true, Bool.and_self, Bool.false_and, Bool.and_false, Bool.true_or, Bool.or_true, Bool.false_or, Bool.or_false, ↓reduceIte, Nat.reduceEqDiff, Nat.reduceAdd, Nat.reduceMul, Nat.reduceSub, Nat.reduceBEq, Nat.reduceLeDiff, Nat.reduceLT, Nat.reduceMod, Nat.reduceDiv, Int.reduceToNat, Int.reducePow, Int.reduceMul, Int.reduceAdd, Int.reduceSub, Int.reduceLE, Int.reduceLT, Int.reduceNeg, Int.reduceDiv, Int.reduceMod, Int.reduceEq, Int.reduceBEq, Int.reduceBNe, f17, f17b, f17r0, f17r1, f17r2, f17r3, f17r4, f17r5, f17r6, h0] | (refine BrW.of (fun hb => ?_) (fun hb => ?_) <;> (have hb' := hb; try simp only [decide_eq_true_eq, decide_eq_false_iff_not, beq_iff_eq, bne_iff_ne, beq_eq_false_iff_ne, bne_eq_false_iff_eq, Bool.not_eq_true', Bool.not_eq_false', Bool.not_eq_true, Bool.not_eq_false, Bool.and_eq_true, Bool.or_eq_true, Bool.and_eq_false_iff, Bool.or_eq_false_iff, Int.not_lt, Int.not_le, ne_eq, gt_iff_lt, ge_iff_le] at hb') <;> (try (exfalso; omega))) | (refine altW.of ?_ ?_)
  all_goals (rw [e0]; exact .here ⟨rfl, rfl⟩)
theorem CatB_grow0 (H : Heap) : ACallK Try.prog 17 [.slice none 0 0, .int .i64 0] H (fun v H' => v = .slice none 0 0 ∧ H' = H) := by
  refine .walkW f17_ok (by simp; decide) (by decide) ?_
  repeat' first | simp (disch := first | with_reducible assumption | omega) only [go_sem, Bool.true_and, Bool.and_true, Bool.and_self, Bool.false_and, Bool.and_false, Bool.true_or, Bool.or_true, Bool.false_or, Bool.or_false, ↓reduceIte, Nat.reduceEqDiff, Nat.reduceAdd, Nat.reduceMul, Nat.reduceSub, Nat.reduceBEq, Nat.reduceLeDiff, Nat.reduceLT, Nat.reduceMod, Nat.reduceDiv, Int.reduceToNat, Int.reducePow, Int.reduceMul, Int.reduceAdd, Int.reduceSub, Int.reduceLE, Int.reduceLT, Int.reduceNeg, Int.reduceDiv, Int.reduceMod, Int.reduceEq, Int.reduceBEq, Int.reduceBNe, f17, f17b, f17r0, f17r1, f17r2, f17r3, f17r4, f17r5, f17r6] | (refine BrW.of (fun hb => ?_) (fun hb => ?_) <;> (have hb' := hb; try simp only [decide_eq_true_eq, decide_eq_false_iff_not, beq_iff_eq, bne_iff_ne, beq_eq_false_iff_ne, bne_eq_false_iff_eq, Bool.not_eq_true', Bool.not_eq_false', Bool.not_eq_true, Bool.not_eq_false, Bool.and_eq_true, Bool.or_eq_true, Bool.and_eq_false_iff, Bool.or_eq_false_iff, Int.not_lt, Int.not_le, ne_eq, gt_iff_lt, ge_iff_le] at hb') <;> (try (exfalso; omega))) | (refine altW.of ?_ ?_)
  exact .here ⟨rfl, rfl⟩
def totCatB (p q : Nat) : Nat → Nat
  | 0 => 0
  | 1 => p
  | _ => p + q
def hpCatB (x y : List Int) : Nat → List Value
  | 0 => zCatB (x.length + y.length)
  | 1 => flat' uenc x ++ zCatB y.length
  | _ => flat' uenc (x ++ y)
theorem wr_midCatB (C : List Value) : ∀ (D A B : List Value), B.length = D.length → wr (A ++ (B ++ C)) A.length D = A ++ (D ++ C)
  | [], A, B, h => by rw [List.length_eq_zero_iff.1 h]; rfl
  | d :: D, A, [], h => by simp at h
  | d :: D, A, b :: B, h => by
    have := wr_midCatB C D (A ++ [d]) B (by simpa using h)
    simp only [wr]
    rw [show (A ++ (b :: B ++ C)).set A.length d = (A ++ [d]) ++ (B ++ C) by simp, show A.length + 1 = (A ++ [d]).length by simp, this]
    simp
theorem CatB_ex (x y : List Int) (v w : Value) (k : Nat) (H : Heap) (hk : H[k]? = some (.cells 0 1 false [v, w])) (hx : IsSCatB H v x) (hy : IsSCatB H w y) (hlx : x.length ≤ 1048576) (hly : y.length ≤ 1048576) :
    ACallK Try.prog 11 [slv k 0 0 2 2] H (fun u H' => (0 < x.length + y.length → u = slv H.length 0 0 (x.length + y.length) (x.length + y.length) ∧ H' = H ++ [.cells 0 1 false (flat' uenc (x ++ y))]) ∧ (x.length + y.length = 0 → u = .slice none 0 0 ∧ H' = H)) := by
  refine .walkW f11_ok (by simp; decide) (by decide) ?_
  have hkn := get_old hk
  have ng1 : ¬ ((0 : Int) + (x.length : Int) < 0) := by omega
  have ng2 : ¬ ((x.length : Int) + (y.length : Int) < 0) := by omega
  have ng3 : x.length ≤ x.length + y.length := by omega
  have lx := flat'_length (enc := uenc) (s := 1) (fun _ => rfl) x
  have ly := flat'_length (enc := uenc) (s := 1) (fun _ => rfl) y
  have zx := zCatB_length x.length
  have zy := zCatB_length y.length
  have zxy := zCatB_length (x.length + y.length)
  have w1 := wr_midCatB (zCatB y.length) (flat' uenc x) [] (zCatB x.length) (by rw [zx, lx])
  simp only [List.nil_append, List.length_nil, ← zCatB_add] at w1
  have w2 := wr_midCatB [] (flat' uenc y) (flat' uenc x) (zCatB y.length) (by rw [zy, ly])
  simp only [List.append_nil, flat'_app] at w2
  rw [lx] at w2
  have l2 : (flat' uenc x ++ zCatB y.length).length = (x.length + y.length) * 1 := by rw [List.length_append, lx, zy, Nat.add_mul]
  try simp only [Nat.mul_one] at w1 w2 lx ly zx zy zxy l2
  have z0 : ((0 : Nat) : Int) = 0 := rfl
  have z1 : ((0 + 1 : Nat) : Int) = 1 := rfl
  have z2 : ((0 + 1 + 1 : Nat) : Int) = 2 := rfl
  repeat' first | simp (disch := first | with_reducible assumption | omega) only [go_sem, Bool.true_and, Bool.and_true, Bool.and_self, Bool.false_and, Bool.and_false, Bool.true_or, Bool.or_true, Bool.false_or, Bool.or_false, ↓reduceIte, Nat.reduceEqDiff, Nat.reduceAdd, Nat.reduceMul, Nat.reduceSub, Nat.reduceBEq, Nat.reduceLeDiff, Nat.reduceLT, Nat.reduceMod, Nat.reduceDiv, Int.reduceToNat, Int.reducePow, Int.reduceMul, Int.reduceAdd, Int.reduceSub, Int.reduceLE, Int.reduceLT, Int.reduceNeg, Int.reduceDiv, Int.reduceMod, Int.reduceEq, Int.reduceBEq, Int.reduceBNe, f11, f11b, f11r0, f11r1, f11r2, f11r3, f11r4, f11r5, f11r6, f11r7, f11r8, f11r10, f11r11, f11r12, f11r13, f11r14, f11r15, f11r17, hk] | (refine BrW.of (fun hb => ?_) (fun hb => ?_) <;> (have hb' := hb; try simp only [decide_eq_true_eq, decide_eq_false_iff_not, beq_iff_eq, bne_iff_ne, beq_eq_false_iff_ne, bne_eq_false_iff_eq, Bool.not_eq_true', Bool.not_eq_false', Bool.not_eq_true, Bool.not_eq_false, Bool.and_eq_true, Bool.or_eq_true, Bool.and_eq_false_iff, Bool.or_eq_false_iff, Int.not_lt, Int.not_le, ne_eq, gt_iff_lt, ge_iff_le] at hb') <;> (try (exfalso; omega))) | (refine altW.of ?_ ?_)
  refine loopW.of (by decide) (fun m e H' => ∃ i : Nat, i ≤ 2 ∧ e = [(0, slv k 0 0 2 2), (3, .int .i64 (totCatB x.length y.length i : Nat)), (9, slv k 0 0 2 2), (10, .int .i64 2), (11, .int .i64 i)] ∧ H' = H ∧ m = 3 - i) 3 ⟨0, by omega, rfl, rfl, rfl⟩ ?_
  rintro m e H' ⟨i, hi, rfl, rfl, rfl⟩
  rcases i with _ | _ | _ | i
  · simp only [totCatB]
    rcases hx with ⟨rfl, rfl⟩ | ⟨k1, o1, g1, c1, rfl, hx, hc1⟩
    · repeat' first | simp (disch := first | with_reducible assumption | omega) only [go_sem, Bool.true_and, Bool.and_true, Bool.and_self, Bool.false_and, Bool.and_false, Bool.true_or, Bool.or_true, Bool.false_or, Bool.or_false, ↓reduceIte, Nat.reduceEqDiff, Nat.reduceAdd, Nat.reduceMul, Nat.reduceSub, Nat.reduceBEq, Nat.reduceLeDiff, Nat.reduceLT, Nat.reduceMod, Nat.reduceDiv, Int.reduceToNat, Int.reducePow, Int.reduceMul, Int.reduceAdd, Int.reduceSub, Int.reduceLE, Int.reduceLT, Int.reduceNeg, Int.reduceDiv, Int.reduceMod, Int.reduceEq, Int.reduceBEq, Int.reduceBNe, f11, f11b, f11r0, f11r1, f11r2, f11r3, f11r4, f11r5, f11r6, f11r7, f11r8, f11r10, f11r11, f11r12, f11r13, f11r14, f11r15, f11r17, f11l0, hk, z0, z1, z2] | (refine BrW.of (fun hb => ?_) (fun hb => ?_) <;> (have hb' := hb; try simp only [decide_eq_true_eq, decide_eq_false_iff_not, beq_iff_eq, bne_iff_ne, beq_eq_false_iff_ne, bne_eq_false_iff_eq, Bool.not_eq_true', Bool.not_eq_false', Bool.not_eq_true, Bool.not_eq_false, Bool.and_eq_true, Bool.or_eq_true, Bool.and_eq_false_iff, Bool.or_eq_false_iff, Int.not_lt, Int.not_le, ne_eq, gt_iff_lt, ge_iff_le] at hb') <;> (try (exfalso; omega))) | (refine altW.of ?_ ?_)
      refine RdW.keep [0, 3, 9, 10, 11] 2 (by omega) ?_
      simp (disch := first | with_reducible assumption | omega) only [go_sem, Bool.true_and, Bool.and_true, Bool.and_self, Bool.false_and, Bool.and_false, Bool.true_or, Bool.or_true, Bool.false_or, Bool.or_false, ↓reduceIte, Nat.reduceEqDiff, Nat.reduceAdd, Nat.reduceMul, Nat.reduceSub, Nat.reduceBEq, Nat.reduceLeDiff, Nat.reduceLT, Nat.reduceMod, Nat.reduceDiv, Int.reduceToNat, Int.reducePow, Int.reduceMul, Int.reduceAdd, Int.reduceSub, Int.reduceLE, Int.reduceLT, Int.reduceNeg, Int.reduceDiv, Int.reduceMod, Int.reduceEq, Int.reduceBEq, Int.reduceBNe]
      exact ⟨1, by decide, rfl, rfl⟩
    · obtain ⟨_, ro1, cs1, hk1, hle1, hcs1⟩ := hx.at'
      repeat' first | simp (disch := first | with_reducible assumption | omega) only [go_sem, Bool.true_and, Bool.and_true, Bool.and_self, Bool.false_and, Bool.and_false, Bool.true_or, Bool.or_true, Bool.false_or, Bool.or_false, ↓reduceIte, Nat.reduceEqDiff, Nat.reduceAdd, Nat.reduceMul, Nat.reduceSub, Nat.reduceBEq, Nat.reduceLeDiff, Nat.reduceLT, Nat.reduceMod, Nat.reduceDiv, Int.reduceToNat, Int.reducePow, Int.reduceMul, Int.reduceAdd, Int.reduceSub, Int.reduceLE, Int.reduceLT, Int.reduceNeg, Int.reduceDiv, Int.reduceMod, Int.reduceEq, Int.reduceBEq, Int.reduceBNe, f11, f11b, f11r0, f11r1, f11r2, f11r3, f11r4, f11r5, f11r6, f11r7, f11r8, f11r10, f11r11, f11r12, f11r13, f11r14, f11r15, f11r17, f11l0, ng1, ng2, hk, hk1, z0, z1, z2] | (refine BrW.of (fun hb => ?_) (fun hb => ?_) <;> (have hb' := hb; try simp only [decide_eq_true_eq, decide_eq_false_iff_not, beq_iff_eq, bne_iff_ne, beq_eq_false_iff_ne, bne_eq_false_iff_eq, Bool.not_eq_true', Bool.not_eq_false', Bool.not_eq_true, Bool.not_eq_false, Bool.and_eq_true, Bool.or_eq_true, Bool.and_eq_false_iff, Bool.or_eq_false_iff, Int.not_lt, Int.not_le, ne_eq, gt_iff_lt, ge_iff_le] at hb') <;> (try (exfalso; omega))) | (refine altW.of ?_ ?_)
      refine RdW.keep [0, 3, 9, 10, 11] 2 (by omega) ?_
      simp (disch := first | with_reducible assumption | omega) only [go_sem, Bool.true_and, Bool.and_true, Bool.and_self, Bool.false_and, Bool.and_false, Bool.true_or, Bool.or_true, Bool.false_or, Bool.or_false, ↓reduceIte, Nat.reduceEqDiff, Nat.reduceAdd, Nat.reduceMul, Nat.reduceSub, Nat.reduceBEq, Nat.reduceLeDiff, Nat.reduceLT, Nat.reduceMod, Nat.reduceDiv, Int.reduceToNat, Int.reducePow, Int.reduceMul, Int.reduceAdd, Int.reduceSub, Int.reduceLE, Int.reduceLT, Int.reduceNeg, Int.reduceDiv, Int.reduceMod, Int.reduceEq, Int.reduceBEq, Int.reduceBNe]
      exact ⟨1, by decide, by simp [totCatB], rfl⟩
  · simp only [totCatB]
    rcases hy with ⟨rfl, rfl⟩ | ⟨k1, o1, g1, c1, rfl, hy, hc1⟩
    · repeat' first | simp (disch := first | with_reducible assumption | omega) only [go_sem, Bool.true_and, Bool.and_true, Bool.and_self, Bool.false_and, Bool.and_false, Bool.true_or, Bool.or_true, Bool.false_or, Bool.or_false, ↓reduceIte, Nat.reduceEqDiff, Nat.reduceAdd, Nat.reduceMul, Nat.reduceSub, Nat.reduceBEq, Nat.reduceLeDiff, Nat.reduceLT, Nat.reduceMod, Nat.reduceDiv, Int.reduceToNat, Int.reducePow, Int.reduceMul, Int.reduceAdd, Int.reduceSub, Int.reduceLE, Int.reduceLT, Int.reduceNeg, Int.reduceDiv, Int.reduceMod, Int.reduceEq, Int.reduceBEq, Int.reduceBNe, f11, f11b, f11r0, f11r1, f11r2, f11r3, f11r4, f11r5, f11r6, f11r7, f11r8, f11r10, f11r11, f11r12, f11r13, f11r14, f11r15, f11r17, f11l0, hk, z0, z1, z2] | (refine BrW.of (fun hb => ?_) (fun hb => ?_) <;> (have hb' := hb; try simp only [decide_eq_true_eq, decide_eq_false_iff_not, beq_iff_eq, bne_iff_ne, beq_eq_false_iff_ne, bne_eq_false_iff_eq, Bool.not_eq_true', Bool.not_eq_false', Bool.not_eq_true, Bool.not_eq_false, Bool.and_eq_true, Bool.or_eq_true, Bool.and_eq_false_iff, Bool.or_eq_false_iff, Int.not_lt, Int.not_le, ne_eq, gt_iff_lt, ge_iff_le] at hb') <;> (try (exfalso; omega))) | (refine altW.of ?_ ?_)
      refine RdW.keep [0, 3, 9, 10, 11] 1 (by omega) ?_
      simp (disch := first | with_reducible assumption | omega) only [go_sem, Bool.true_and, Bool.and_true, Bool.and_self, Bool.false_and, Bool.and_false, Bool.true_or, Bool.or_true, Bool.false_or, Bool.or_false, ↓reduceIte, Nat.reduceEqDiff, Nat.reduceAdd, Nat.reduceMul, Nat.reduceSub, Nat.reduceBEq, Nat.reduceLeDiff, Nat.reduceLT, Nat.reduceMod, Nat.reduceDiv, Int.reduceToNat, Int.reducePow, Int.reduceMul, Int.reduceAdd, Int.reduceSub, Int.reduceLE, Int.reduceLT, Int.reduceNeg, Int.reduceDiv, Int.reduceMod, Int.reduceEq, Int.reduceBEq, Int.reduceBNe]
      exact ⟨2, by decide, by simp [totCatB], rfl⟩
    · obtain ⟨_, ro1, cs1, hk1, hle1, hcs1⟩ := hy.at'
      repeat' first | simp (disch := first | with_reducible assumption | omega) only [go_sem, Bool.true_and, Bool.and_true, Bool.and_self, Bool.false_and, Bool.and_false, Bool.true_or, Bool.or_true, Bool.false_or, Bool.or_false, ↓reduceIte, Nat.reduceEqDiff, Nat.reduceAdd, Nat.reduceMul, Nat.reduceSub, Nat.reduceBEq, Nat.reduceLeDiff, Nat.reduceLT, Nat.reduceMod, Nat.reduceDiv, Int.reduceToNat, Int.reducePow, Int.reduceMul, Int.reduceAdd, Int.reduceSub, Int.reduceLE, Int.reduceLT, Int.reduceNeg, Int.reduceDiv, Int.reduceMod, Int.reduceEq, Int.reduceBEq, Int.reduceBNe, f11, f11b, f11r0, f11r1, f11r2, f11r3, f11r4, f11r5, f11r6, f11r7, f11r8, f11r10, f11r11, f11r12, f11r13, f11r14, f11r15, f11r17, f11l0, ng1, ng2, hk, hk1, z0, z1, z2] | (refine BrW.of (fun hb => ?_) (fun hb => ?_) <;> (have hb' := hb; try simp only [decide_eq_true_eq, decide_eq_false_iff_not, beq_iff_eq, bne_iff_ne, beq_eq_false_iff_ne, bne_eq_false_iff_eq, Bool.not_eq_true', Bool.not_eq_false', Bool.not_eq_true, Bool.not_eq_false, Bool.and_eq_true, Bool.or_eq_true, Bool.and_eq_false_iff, Bool.or_eq_false_iff, Int.not_lt, Int.not_le, ne_eq, gt_iff_lt, ge_iff_le] at hb') <;> (try (exfalso; omega))) | (refine altW.of ?_ ?_)
      refine RdW.keep [0, 3, 9, 10, 11] 1 (by omega) ?_
      simp (disch := first | with_reducible assumption | omega) only [go_sem, Bool.true_and, Bool.and_true, Bool.and_self, Bool.false_and, Bool.and_false, Bool.true_or, Bool.or_true, Bool.false_or, Bool.or_false, ↓reduceIte, Nat.reduceEqDiff, Nat.reduceAdd, Nat.reduceMul, Nat.reduceSub, Nat.reduceBEq, Nat.reduceLeDiff, Nat.reduceLT, Nat.reduceMod, Nat.reduceDiv, Int.reduceToNat, Int.reducePow, Int.reduceMul, Int.reduceAdd, Int.reduceSub, Int.reduceLE, Int.reduceLT, Int.reduceNeg, Int.reduceDiv, Int.reduceMod, Int.reduceEq, Int.reduceBEq, Int.reduceBNe]
      exact ⟨2, by decide, by simp [totCatB], rfl⟩
  · simp only [totCatB]
    by_cases hp : 0 < x.length + y.length
    · repeat' first | simp (disch := first | with_reducible assumption | omega) only [go_sem, Bool.true_and, Bool.and_true, Bool.and_self, Bool.false_and, Bool.and_false, Bool.true_or, Bool.or_true, Bool.false_or, Bool.or_false, ↓reduceIte, Nat.reduceEqDiff, Nat.reduceAdd, Nat.reduceMul, Nat.reduceSub, Nat.reduceBEq, Nat.reduceLeDiff, Nat.reduceLT, Nat.reduceMod, Nat.reduceDiv, Int.reduceToNat, Int.reducePow, Int.reduceMul, Int.reduceAdd, Int.reduceSub, Int.reduceLE, Int.reduceLT, Int.reduceNeg, Int.reduceDiv, Int.reduceMod, Int.reduceEq, Int.reduceBEq, Int.reduceBNe, f11, f11b, f11r0, f11r1, f11r2, f11r3, f11r4, f11r5, f11r6, f11r7, f11r8, f11r10, f11r11, f11r12, f11r13, f11r14, f11r15, f11r17, f11l0, ng1, ng2, hk, z0, z1, z2] | (refine BrW.of (fun hb => ?_) (fun hb => ?_) <;> (have hb' := hb; try simp only [decide_eq_true_eq, decide_eq_false_iff_not, beq_iff_eq, bne_iff_ne, beq_eq_false_iff_ne, bne_eq_false_iff_eq, Bool.not_eq_true', Bool.not_eq_false', Bool.not_eq_true, Bool.not_eq_false, Bool.and_eq_true, Bool.or_eq_true, Bool.and_eq_false_iff, Bool.or_eq_false_iff, Int.not_lt, Int.not_le, ne_eq, gt_iff_lt, ge_iff_le] at hb') <;> (try (exfalso; omega))) | (refine altW.of ?_ ?_)
      refine .of ((CatB_grow _ _ hp (by omega)).mono ?_)
      rintro u H1 ⟨rfl, rfl⟩
      repeat' first | simp (disch := first | with_reducible assumption | omega) only [go_sem, Bool.true_and, Bool.and_true, Bool.and_self, Bool.false_and, Bool.and_false, Bool.true_or, Bool.or_true, Bool.false_or, Bool.or_false, ↓reduceIte, Nat.reduceEqDiff, Nat.reduceAdd, Nat.reduceMul, Nat.reduceSub, Nat.reduceBEq, Nat.reduceLeDiff, Nat.reduceLT, Nat.reduceMod, Nat.reduceDiv, Int.reduceToNat, Int.reducePow, Int.reduceMul, Int.reduceAdd, Int.reduceSub, Int.reduceLE, Int.reduceLT, Int.reduceNeg, Int.reduceDiv, Int.reduceMod, Int.reduceEq, Int.reduceBEq, Int.reduceBNe, f11, f11b, f11r0, f11r1, f11r2, f11r3, f11r4, f11r5, f11r6, f11r7, f11r8, f11r10, f11r11, f11r12, f11r13, f11r14, f11r15, f11r17, hk, hkn] | (refine BrW.of (fun hb => ?_) (fun hb => ?_) <;> (have hb' := hb; try simp only [decide_eq_true_eq, decide_eq_false_iff_not, beq_iff_eq, bne_iff_ne, beq_eq_false_iff_ne, bne_eq_false_iff_eq, Bool.not_eq_true', Bool.not_eq_false', Bool.not_eq_true, Bool.not_eq_false, Bool.and_eq_true, Bool.or_eq_true, Bool.and_eq_false_iff, Bool.or_eq_false_iff, Int.not_lt, Int.not_le, ne_eq, gt_iff_lt, ge_iff_le] at hb') <;> (try (exfalso; omega))) | (refine altW.of ?_ ?_)
      refine loopW.of (by decide) (fun m e H1 => ∃ i : Nat, i ≤ 2 ∧ e = [(6, slv H'.length 0 0 (totCatB x.length y.length i) (x.length + y.length)), (25, slv k 0 0 2 2), (26, .int .i64 2), (27, .int .i64 i)] ∧ H1 = H' ++ [.cells 0 1 false (hpCatB x y i)] ∧ m = 3 - i) 3 ⟨0, by decide, rfl, rfl, rfl⟩ ?_
      rintro m e H1 ⟨i, hi, rfl, rfl, rfl⟩
      rcases i with _ | _ | _ | i
      · simp only [totCatB, hpCatB]
        rcases hx with ⟨rfl, rfl⟩ | ⟨k1, o1, g1, c1, rfl, hx, hc1⟩
        · repeat' first | simp (disch := first | with_reducible assumption | omega) only [go_sem, Bool.true_and, Bool.and_true, Bool.and_self, Bool.false_and, Bool.and_false, Bool.true_or, Bool.or_true, Bool.false_or, Bool.or_false, ↓reduceIte, Nat.reduceEqDiff, Nat.reduceAdd, Nat.reduceMul, Nat.reduceSub, Nat.reduceBEq, Nat.reduceLeDiff, Nat.reduceLT, Nat.reduceMod, Nat.reduceDiv, Int.reduceToNat, Int.reducePow, Int.reduceMul, Int.reduceAdd, Int.reduceSub, Int.reduceLE, Int.reduceLT, Int.reduceNeg, Int.reduceDiv, Int.reduceMod, Int.reduceEq, Int.reduceBEq, Int.reduceBNe, f11, f11b, f11r0, f11r1, f11r2, f11r3, f11r4, f11r5, f11r6, f11r7, f11r8, f11r10, f11r11, f11r12, f11r13, f11r14, f11r15, f11r17, f11l1, hkn, z0, z1, z2] | (refine BrW.of (fun hb => ?_) (fun hb => ?_) <;> (have hb' := hb; try simp only [decide_eq_true_eq, decide_eq_false_iff_not, beq_iff_eq, bne_iff_ne, beq_eq_false_iff_ne, bne_eq_false_iff_eq, Bool.not_eq_true', Bool.not_eq_false', Bool.not_eq_true, Bool.not_eq_false, Bool.and_eq_true, Bool.or_eq_true, Bool.and_eq_false_iff, Bool.or_eq_false_iff, Int.not_lt, Int.not_le, ne_eq, gt_iff_lt, ge_iff_le] at hb') <;> (try (exfalso; omega))) | (refine altW.of ?_ ?_)
          refine RdW.keep [6, 25, 26, 27] 2 (by omega) ?_
          simp (disch := first | with_reducible assumption | omega) only [go_sem, Bool.true_and, Bool.and_true, Bool.and_self, Bool.false_and, Bool.and_false, Bool.true_or, Bool.or_true, Bool.false_or, Bool.or_false, ↓reduceIte, Nat.reduceEqDiff, Nat.reduceAdd, Nat.reduceMul, Nat.reduceSub, Nat.reduceBEq, Nat.reduceLeDiff, Nat.reduceLT, Nat.reduceMod, Nat.reduceDiv, Int.reduceToNat, Int.reducePow, Int.reduceMul, Int.reduceAdd, Int.reduceSub, Int.reduceLE, Int.reduceLT, Int.reduceNeg, Int.reduceDiv, Int.reduceMod, Int.reduceEq, Int.reduceBEq, Int.reduceBNe]
          exact ⟨1, by decide, rfl, by simp [hpCatB, flat'], rfl⟩
        · obtain ⟨_, ro1, cs1, hk1, hle1, hcs1⟩ := hx.at'
          have n1 := get_old hk1
          have ht := Tbl.cells (enc := uenc) (fun _ => rfl) hle1 hcs1
          try simp only [Nat.mul_one] at ht
          by_cases hz : x.length = 0
          · have hxn := List.length_eq_zero_iff.1 hz
            repeat' first | simp (disch := first | with_reducible assumption | omega) only [go_sem, Bool.true_and, Bool.and_true, Bool.and_self, Bool.false_and, Bool.and_false, Bool.true_or, Bool.or_true, Bool.false_or, Bool.or_false, ↓reduceIte, Nat.reduceEqDiff, Nat.reduceAdd, Nat.reduceMul, Nat.reduceSub, Nat.reduceBEq, Nat.reduceLeDiff, Nat.reduceLT, Nat.reduceMod, Nat.reduceDiv, Int.reduceToNat, Int.reducePow, Int.reduceMul, Int.reduceAdd, Int.reduceSub, Int.reduceLE, Int.reduceLT, Int.reduceNeg, Int.reduceDiv, Int.reduceMod, Int.reduceEq, Int.reduceBEq, Int.reduceBNe, f11, f11b, f11r0, f11r1, f11r2, f11r3, f11r4, f11r5, f11r6, f11r7, f11r8, f11r10, f11r11, f11r12, f11r13, f11r14, f11r15, f11r17, f11l1, hkn, n1, z0, z1, z2, hz] | (refine BrW.of (fun hb => ?_) (fun hb => ?_) <;> (have hb' := hb; try simp only [decide_eq_true_eq, decide_eq_false_iff_not, beq_iff_eq, bne_iff_ne, beq_eq_false_iff_ne, bne_eq_false_iff_eq, Bool.not_eq_true', Bool.not_eq_false', Bool.not_eq_true, Bool.not_eq_false, Bool.and_eq_true, Bool.or_eq_true, Bool.and_eq_false_iff, Bool.or_eq_false_iff, Int.not_lt, Int.not_le, ne_eq, gt_iff_lt, ge_iff_le] at hb') <;> (try (exfalso; omega))) | (refine altW.of ?_ ?_)
            refine RdW.keep [6, 25, 26, 27] 2 (by omega) ?_
            simp (disch := first | with_reducible assumption | omega) only [go_sem, Bool.true_and, Bool.and_true, Bool.and_self, Bool.false_and, Bool.and_false, Bool.true_or, Bool.or_true, Bool.false_or, Bool.or_false, ↓reduceIte, Nat.reduceEqDiff, Nat.reduceAdd, Nat.reduceMul, Nat.reduceSub, Nat.reduceBEq, Nat.reduceLeDiff, Nat.reduceLT, Nat.reduceMod, Nat.reduceDiv, Int.reduceToNat, Int.reducePow, Int.reduceMul, Int.reduceAdd, Int.reduceSub, Int.reduceLE, Int.reduceLT, Int.reduceNeg, Int.reduceDiv, Int.reduceMod, Int.reduceEq, Int.reduceBEq, Int.reduceBNe]
            exact ⟨1, by decide, by simp [totCatB, hz], by subst hxn; simp [hpCatB, flat'], rfl⟩
          · repeat' first | simp (disch := first | with_reducible assumption | omega) only [go_sem, Bool.true_and, Bool.and_true, Bool.and_self, Bool.false_and, Bool.and_false, Bool.true_or, Bool.or_true, Bool.false_or, Bool.or_false, ↓reduceIte, Nat.reduceEqDiff, Nat.reduceAdd, Nat.reduceMul, Nat.reduceSub, Nat.reduceBEq, Nat.reduceLeDiff, Nat.reduceLT, Nat.reduceMod, Nat.reduceDiv, Int.reduceToNat, Int.reducePow, Int.reduceMul, Int.reduceAdd, Int.reduceSub, Int.reduceLE, Int.reduceLT, Int.reduceNeg, Int.reduceDiv, Int.reduceMod, Int.reduceEq, Int.reduceBEq, Int.reduceBNe, f11, f11b, f11r0, f11r1, f11r2, f11r3, f11r4, f11r5, f11r6, f11r7, f11r8, f11r10, f11r11, f11r12, f11r13, f11r14, f11r15, f11r17, f11l1, hkn, n1, z0, z1, z2, hz, ng3, zxy, ht] | (refine BrW.of (fun hb => ?_) (fun hb => ?_) <;> (have hb' := hb; try simp only [decide_eq_true_eq, decide_eq_false_iff_not, beq_iff_eq, bne_iff_ne, beq_eq_false_iff_ne, bne_eq_false_iff_eq, Bool.not_eq_true', Bool.not_eq_false', Bool.not_eq_true, Bool.not_eq_false, Bool.and_eq_true, Bool.or_eq_true, Bool.and_eq_false_iff, Bool.or_eq_false_iff, Int.not_lt, Int.not_le, ne_eq, gt_iff_lt, ge_iff_le] at hb') <;> (try (exfalso; omega))) | (refine altW.of ?_ ?_)
            rw [w1]
            refine RdW.keep [6, 25, 26, 27] 2 (by omega) ?_
            simp (disch := first | with_reducible assumption | omega) only [go_sem, Bool.true_and, Bool.and_true, Bool.and_self, Bool.false_and, Bool.and_false, Bool.true_or, Bool.or_true, Bool.false_or, Bool.or_false, ↓reduceIte, Nat.reduceEqDiff, Nat.reduceAdd, Nat.reduceMul, Nat.reduceSub, Nat.reduceBEq, Nat.reduceLeDiff, Nat.reduceLT, Nat.reduceMod, Nat.reduceDiv, Int.reduceToNat, Int.reducePow, Int.reduceMul, Int.reduceAdd, Int.reduceSub, Int.reduceLE, Int.reduceLT, Int.reduceNeg, Int.reduceDiv, Int.reduceMod, Int.reduceEq, Int.reduceBEq, Int.reduceBNe]
            exact ⟨1, by decide, by simp [totCatB], rfl, rfl⟩
      · simp only [totCatB, hpCatB]
        rcases hy with ⟨rfl, rfl⟩ | ⟨k1, o1, g1, c1, rfl, hy, hc1⟩
        · repeat' first | simp (disch := first | with_reducible assumption | omega) only [go_sem, Bool.true_and, Bool.and_true, Bool.and_self, Bool.false_and, Bool.and_false, Bool.true_or, Bool.or_true, Bool.false_or, Bool.or_false, ↓reduceIte, Nat.reduceEqDiff, Nat.reduceAdd, Nat.reduceMul, Nat.reduceSub, Nat.reduceBEq, Nat.reduceLeDiff, Nat.reduceLT, Nat.reduceMod, Nat.reduceDiv, Int.reduceToNat, Int.reducePow, Int.reduceMul, Int.reduceAdd, Int.reduceSub, Int.reduceLE, Int.reduceLT, Int.reduceNeg, Int.reduceDiv, Int.reduceMod, Int.reduceEq, Int.reduceBEq, Int.reduceBNe, f11, f11b, f11r0, f11r1, f11r2, f11r3, f11r4, f11r5, f11r6, f11r7, f11r8, f11r10, f11r11, f11r12, f11r13, f11r14, f11r15, f11r17, f11l1, hkn, z0, z1, z2] | (refine BrW.of (fun hb => ?_) (fun hb => ?_) <;> (have hb' := hb; try simp only [decide_eq_true_eq, decide_eq_false_iff_not, beq_iff_eq, bne_iff_ne, beq_eq_false_iff_ne, bne_eq_false_iff_eq, Bool.not_eq_true', Bool.not_eq_false', Bool.not_eq_true, Bool.not_eq_false, Bool.and_eq_true, Bool.or_eq_true, Bool.and_eq_false_iff, Bool.or_eq_false_iff, Int.not_lt, Int.not_le, ne_eq, gt_iff_lt, ge_iff_le] at hb') <;> (try (exfalso; omega))) | (refine altW.of ?_ ?_)
          refine RdW.keep [6, 25, 26, 27] 1 (by omega) ?_
          simp (disch := first | with_reducible assumption | omega) only [go_sem, Bool.true_and, Bool.and_true, Bool.and_self, Bool.false_and, Bool.and_false, Bool.true_or, Bool.or_true, Bool.false_or, Bool.or_false, ↓reduceIte, Nat.reduceEqDiff, Nat.reduceAdd, Nat.reduceMul, Nat.reduceSub, Nat.reduceBEq, Nat.reduceLeDiff, Nat.reduceLT, Nat.reduceMod, Nat.reduceDiv, Int.reduceToNat, Int.reducePow, Int.reduceMul, Int.reduceAdd, Int.reduceSub, Int.reduceLE, Int.reduceLT, Int.reduceNeg, Int.reduceDiv, Int.reduceMod, Int.reduceEq, Int.reduceBEq, Int.reduceBNe]
          exact ⟨2, by decide, rfl, by simp [hpCatB, zCatB], rfl⟩
        · obtain ⟨_, ro1, cs1, hk1, hle1, hcs1⟩ := hy.at'
          have n1 := get_old hk1
          have ht := Tbl.cells (enc := uenc) (fun _ => rfl) hle1 hcs1
          try simp only [Nat.mul_one] at ht
          by_cases hz : y.length = 0
          · have hyn := List.length_eq_zero_iff.1 hz
            repeat' first | simp (disch := first | with_reducible assumption | omega) only [go_sem, Bool.true_and, Bool.and_true, Bool.and_self, Bool.false_and, Bool.and_false, Bool.true_or, Bool.or_true, Bool.false_or, Bool.or_false, ↓reduceIte, Nat.reduceEqDiff, Nat.reduceAdd, Nat.reduceMul, Nat.reduceSub, Nat.reduceBEq, Nat.reduceLeDiff, Nat.reduceLT, Nat.reduceMod, Nat.reduceDiv, Int.reduceToNat, Int.reducePow, Int.reduceMul, Int.reduceAdd, Int.reduceSub, Int.reduceLE, Int.reduceLT, Int.reduceNeg, Int.reduceDiv, Int.reduceMod, Int.reduceEq, Int.reduceBEq, Int.reduceBNe, f11, f11b, f11r0, f11r1, f11r2, f11r3, f11r4, f11r5, f11r6, f11r7, f11r8, f11r10, f11r11, f11r12, f11r13, f11r14, f11r15, f11r17, f11l1, hkn, n1, z0, z1, z2, hz] | (refine BrW.of (fun hb => ?_) (fun hb => ?_) <;> (have hb' := hb; try simp only [decide_eq_true_eq, decide_eq_false_iff_not, beq_iff_eq, bne_iff_ne, beq_eq_false_iff_ne, bne_eq_false_iff_eq, Bool.not_eq_true', Bool.not_eq_false', Bool.not_eq_true, Bool.not_eq_false, Bool.and_eq_true, Bool.or_eq_true, Bool.and_eq_false_iff, Bool.or_eq_false_iff, Int.not_lt, Int.not_le, ne_eq, gt_iff_lt, ge_iff_le] at hb') <;> (try (exfalso; omega))) | (refine altW.of ?_ ?_)
            refine RdW.keep [6, 25, 26, 27] 1 (by omega) ?_
            simp (disch := first | with_reducible assumption | omega) only [go_sem, Bool.true_and, Bool.and_true, Bool.and_self, Bool.false_and, Bool.and_false, Bool.true_or, Bool.or_true, Bool.false_or, Bool.or_false, ↓reduceIte, Nat.reduceEqDiff, Nat.reduceAdd, Nat.reduceMul, Nat.reduceSub, Nat.reduceBEq, Nat.reduceLeDiff, Nat.reduceLT, Nat.reduceMod, Nat.reduceDiv, Int.reduceToNat, Int.reducePow, Int.reduceMul, Int.reduceAdd, Int.reduceSub, Int.reduceLE, Int.reduceLT, Int.reduceNeg, Int.reduceDiv, Int.reduceMod, Int.reduceEq, Int.reduceBEq, Int.reduceBNe]
            exact ⟨2, by decide, by simp [totCatB, hz], by subst hyn; simp [hpCatB, zCatB], rfl⟩
          · repeat' first | simp (disch := first | with_reducible assumption | omega) only [go_sem, Bool.true_and, Bool.and_true, Bool.and_self, Bool.false_and, Bool.and_false, Bool.true_or, Bool.or_true, Bool.false_or, Bool.or_false, ↓reduceIte, Nat.reduceEqDiff, Nat.reduceAdd, Nat.reduceMul, Nat.reduceSub, Nat.reduceBEq, Nat.reduceLeDiff, Nat.reduceLT, Nat.reduceMod, Nat.reduceDiv, Int.reduceToNat, Int.reducePow, Int.reduceMul, Int.reduceAdd, Int.reduceSub, Int.reduceLE, Int.reduceLT, Int.reduceNeg, Int.reduceDiv, Int.reduceMod, Int.reduceEq, Int.reduceBEq, Int.reduceBNe, f11, f11b, f11r0, f11r1, f11r2, f11r3, f11r4, f11r5, f11r6, f11r7, f11r8, f11r10, f11r11, f11r12, f11r13, f11r14, f11r15, f11r17, f11l1, hkn, n1, z0, z1, z2, hz, l2, ht] | (refine BrW.of (fun hb => ?_) (fun hb => ?_) <;> (have hb' := hb; try simp only [decide_eq_true_eq, decide_eq_false_iff_not, beq_iff_eq, bne_iff_ne, beq_eq_false_iff_ne, bne_eq_false_iff_eq, Bool.not_eq_true', Bool.not_eq_false', Bool.not_eq_true, Bool.not_eq_false, Bool.and_eq_true, Bool.or_eq_true, Bool.and_eq_false_iff, Bool.or_eq_false_iff, Int.not_lt, Int.not_le, ne_eq, gt_iff_lt, ge_iff_le] at hb') <;> (try (exfalso; omega))) | (refine altW.of ?_ ?_)
            rw [w2]
            refine RdW.keep [6, 25, 26, 27] 1 (by omega) ?_
            simp (disch := first | with_reducible assumption | omega) only [go_sem, Bool.true_and, Bool.and_true, Bool.and_self, Bool.false_and, Bool.and_false, Bool.true_or, Bool.or_true, Bool.false_or, Bool.or_false, ↓reduceIte, Nat.reduceEqDiff, Nat.reduceAdd, Nat.reduceMul, Nat.reduceSub, Nat.reduceBEq, Nat.reduceLeDiff, Nat.reduceLT, Nat.reduceMod, Nat.reduceDiv, Int.reduceToNat, Int.reducePow, Int.reduceMul, Int.reduceAdd, Int.reduceSub, Int.reduceLE, Int.reduceLT, Int.reduceNeg, Int.reduceDiv, Int.reduceMod, Int.reduceEq, Int.reduceBEq, Int.reduceBNe]
            exact ⟨2, by decide, by simp [totCatB], rfl, rfl⟩
      · simp only [totCatB, hpCatB]
        repeat' first | simp (disch := first | with_reducible assumption | omega) only [go_sem, Bool.true_and, Bool.and_true, Bool.and_self, Bool.false_and, Bool.and_false, Bool.true_or, Bool.or_true, Bool.false_or, Bool.or_false, ↓reduceIte, Nat.reduceEqDiff, Nat.reduceAdd, Nat.reduceMul, Nat.reduceSub, Nat.reduceBEq, Nat.reduceLeDiff, Nat.reduceLT, Nat.reduceMod, Nat.reduceDiv, Int.reduceToNat, Int.reducePow, Int.reduceMul, Int.reduceAdd, Int.reduceSub, Int.reduceLE, Int.reduceLT, Int.reduceNeg, Int.reduceDiv, Int.reduceMod, Int.reduceEq, Int.reduceBEq, Int.reduceBNe, f11, f11b, f11r0, f11r1, f11r2, f11r3, f11r4, f11r5, f11r6, f11r7, f11r8, f11r10, f11r11, f11r12, f11r13, f11r14, f11r15, f11r17, f11l1, f11, f11b, f11r0, f11r1, f11r2, f11r3, f11r4, f11r5, f11r6, f11r7, f11r8, f11r10, f11r11, f11r12, f11r13, f11r14, f11r15, f11r17, hkn, z0, z1, z2] | (refine BrW.of (fun hb => ?_) (fun hb => ?_) <;> (have hb' := hb; try simp only [decide_eq_true_eq, decide_eq_false_iff_not, beq_iff_eq, bne_iff_ne, beq_eq_false_iff_ne, bne_eq_false_iff_eq, Bool.not_eq_true', Bool.not_eq_false', Bool.not_eq_true, Bool.not_eq_false, Bool.and_eq_true, Bool.or_eq_true, Bool.and_eq_false_iff, Bool.or_eq_false_iff, Int.not_lt, Int.not_le, ne_eq, gt_iff_lt, ge_iff_le] at hb') <;> (try (exfalso; omega))) | (refine altW.of ?_ ?_)
        exact .here ⟨fun _ => ⟨rfl, rfl⟩, fun h => absurd hp (by omega)⟩
      · omega
    · have hx0 : x = [] := List.eq_nil_of_length_eq_zero (by omega)
      have hy0 : y = [] := List.eq_nil_of_length_eq_zero (by omega)
      subst hx0 hy0
      simp only [List.length_nil] at *
      repeat' first | simp (disch := first | with_reducible assumption | omega) only [go_sem, Bool.true_and, Bool.and_true, Bool.and_self, Bool.false_and, Bool.and_false, Bool.true_or, Bool.or_true, Bool.false_or, Bool.or_false, ↓reduceIte, Nat.reduceEqDiff, Nat.reduceAdd, Nat.reduceMul, Nat.reduceSub, Nat.reduceBEq, Nat.reduceLeDiff, Nat.reduceLT, Nat.reduceMod, Nat.reduceDiv, Int.reduceToNat, Int.reducePow, Int.reduceMul, Int.reduceAdd, Int.reduceSub, Int.reduceLE, Int.reduceLT, Int.reduceNeg, Int.reduceDiv, Int.reduceMod, Int.reduceEq, Int.reduceBEq, Int.reduceBNe, f11, f11b, f11r0, f11r1, f11r2, f11r3, f11r4, f11r5, f11r6, f11r7, f11r8, f11r10, f11r11, f11r12, f11r13, f11r14, f11r15, f11r17, f11l0, hk, z0, z1, z2] | (refine BrW.of (fun hb => ?_) (fun hb => ?_) <;> (have hb' := hb; try simp only [decide_eq_true_eq, decide_eq_false_iff_not, beq_iff_eq, bne_iff_ne, beq_eq_false_iff_ne, bne_eq_false_iff_eq, Bool.not_eq_true', Bool.not_eq_false', Bool.not_eq_true, Bool.not_eq_false, Bool.and_eq_true, Bool.or_eq_true, Bool.and_eq_false_iff, Bool.or_eq_false_iff, Int.not_lt, Int.not_le, ne_eq, gt_iff_lt, ge_iff_le] at hb') <;> (try (exfalso; omega))) | (refine altW.of ?_ ?_)
      refine .of ((CatB_grow0 _).mono ?_)
      rintro u H1 ⟨rfl, rfl⟩
      repeat' first | simp (disch := first | with_reducible assumption | omega) only [go_sem, Bool.true_and, Bool.and_true, Bool.and_self, Bool.false_and, Bool.and_false, Bool.true_or, Bool.or_true, Bool.false_or, Bool.or_false, ↓reduceIte, Nat.reduceEqDiff, Nat.reduceAdd, Nat.reduceMul, Nat.reduceSub, Nat.reduceBEq, Nat.reduceLeDiff, Nat.reduceLT, Nat.reduceMod, Nat.reduceDiv, Int.reduceToNat, Int.reducePow, Int.reduceMul, Int.reduceAdd, Int.reduceSub, Int.reduceLE, Int.reduceLT, Int.reduceNeg, Int.reduceDiv, Int.reduceMod, Int.reduceEq, Int.reduceBEq, Int.reduceBNe, f11, f11b, f11r0, f11r1, f11r2, f11r3, f11r4, f11r5, f11r6, f11r7, f11r8, f11r10, f11r11, f11r12, f11r13, f11r14, f11r15, f11r17, hk] | (refine BrW.of (fun hb => ?_) (fun hb => ?_) <;> (have hb' := hb; try simp only [decide_eq_true_eq, decide_eq_false_iff_not, beq_iff_eq, bne_iff_ne, beq_eq_false_iff_ne, bne_eq_false_iff_eq, Bool.not_eq_true', Bool.not_eq_false', Bool.not_eq_true, Bool.not_eq_false, Bool.and_eq_true, Bool.or_eq_true, Bool.and_eq_false_iff, Bool.or_eq_false_iff, Int.not_lt, Int.not_le, ne_eq, gt_iff_lt, ge_iff_le] at hb') <;> (try (exfalso; omega))) | (refine altW.of ?_ ?_)
      refine loopW.of (by decide) (fun m e H' => ∃ i : Nat, i ≤ 2 ∧ e = [(6, .slice none 0 0), (25, slv k 0 0 2 2), (26, .int .i64 2), (27, .int .i64 i)] ∧ H' = H1 ∧ m = 3 - i) 3 ⟨0, by decide, rfl, rfl, rfl⟩ ?_
      rintro m e H' ⟨i, hi, rfl, rfl, rfl⟩
      rcases i with _ | _ | _ | i
      · rcases hx with ⟨rfl, _⟩ | ⟨k1, o1, g1, c1, rfl, hx, hc1⟩
        · repeat' first | simp (disch := first | with_reducible assumption | omega) only [go_sem, Bool.true_and, Bool.and_true, Bool.and_self, Bool.false_and, Bool.and_false, Bool.true_or, Bool.or_true, Bool.false_or, Bool.or_false, ↓reduceIte, Nat.reduceEqDiff, Nat.reduceAdd, Nat.reduceMul, Nat.reduceSub, Nat.reduceBEq, Nat.reduceLeDiff, Nat.reduceLT, Nat.reduceMod, Nat.reduceDiv, Int.reduceToNat, Int.reducePow, Int.reduceMul, Int.reduceAdd, Int.reduceSub, Int.reduceLE, Int.reduceLT, Int.reduceNeg, Int.reduceDiv, Int.reduceMod, Int.reduceEq, Int.reduceBEq, Int.reduceBNe, f11, f11b, f11r0, f11r1, f11r2, f11r3, f11r4, f11r5, f11r6, f11r7, f11r8, f11r10, f11r11, f11r12, f11r13, f11r14, f11r15, f11r17, f11l1, hk, z0, z1, z2] | (refine BrW.of (fun hb => ?_) (fun hb => ?_) <;> (have hb' := hb; try simp only [decide_eq_true_eq, decide_eq_false_iff_not, beq_iff_eq, bne_iff_ne, beq_eq_false_iff_ne, bne_eq_false_iff_eq, Bool.not_eq_true', Bool.not_eq_false', Bool.not_eq_true, Bool.not_eq_false, Bool.and_eq_true, Bool.or_eq_true, Bool.and_eq_false_iff, Bool.or_eq_false_iff, Int.not_lt, Int.not_le, ne_eq, gt_iff_lt, ge_iff_le] at hb') <;> (try (exfalso; omega))) | (refine altW.of ?_ ?_)
          refine RdW.keep [6, 25, 26, 27] 2 (by omega) ?_
          simp (disch := first | with_reducible assumption | omega) only [go_sem, Bool.true_and, Bool.and_true, Bool.and_self, Bool.false_and, Bool.and_false, Bool.true_or, Bool.or_true, Bool.false_or, Bool.or_false, ↓reduceIte, Nat.reduceEqDiff, Nat.reduceAdd, Nat.reduceMul, Nat.reduceSub, Nat.reduceBEq, Nat.reduceLeDiff, Nat.reduceLT, Nat.reduceMod, Nat.reduceDiv, Int.reduceToNat, Int.reducePow, Int.reduceMul, Int.reduceAdd, Int.reduceSub, Int.reduceLE, Int.reduceLT, Int.reduceNeg, Int.reduceDiv, Int.reduceMod, Int.reduceEq, Int.reduceBEq, Int.reduceBNe]
          exact ⟨1, by decide, rfl, rfl⟩
        · obtain ⟨_, ro1, cs1, hk1, hle1, hcs1⟩ := hx.at'
          repeat' first | simp (disch := first | with_reducible assumption | omega) only [go_sem, Bool.true_and, Bool.and_true, Bool.and_self, Bool.false_and, Bool.and_false, Bool.true_or, Bool.or_true, Bool.false_or, Bool.or_false, ↓reduceIte, Nat.reduceEqDiff, Nat.reduceAdd, Nat.reduceMul, Nat.reduceSub, Nat.reduceBEq, Nat.reduceLeDiff, Nat.reduceLT, Nat.reduceMod, Nat.reduceDiv, Int.reduceToNat, Int.reducePow, Int.reduceMul, Int.reduceAdd, Int.reduceSub, Int.reduceLE, Int.reduceLT, Int.reduceNeg, Int.reduceDiv, Int.reduceMod, Int.reduceEq, Int.reduceBEq, Int.reduceBNe, f11, f11b, f11r0, f11r1, f11r2, f11r3, f11r4, f11r5, f11r6, f11r7, f11r8, f11r10, f11r11, f11r12, f11r13, f11r14, f11r15, f11r17, f11l1, hk, hk1, z0, z1, z2] | (refine BrW.of (fun hb => ?_) (fun hb => ?_) <;> (have hb' := hb; try simp only [decide_eq_true_eq, decide_eq_false_iff_not, beq_iff_eq, bne_iff_ne, beq_eq_false_iff_ne, bne_eq_false_iff_eq, Bool.not_eq_true', Bool.not_eq_false', Bool.not_eq_true, Bool.not_eq_false, Bool.and_eq_true, Bool.or_eq_true, Bool.and_eq_false_iff, Bool.or_eq_false_iff, Int.not_lt, Int.not_le, ne_eq, gt_iff_lt, ge_iff_le] at hb') <;> (try (exfalso; omega))) | (refine altW.of ?_ ?_)
          refine RdW.keep [6, 25, 26, 27] 2 (by omega) ?_
          simp (disch := first | with_reducible assumption | omega) only [go_sem, Bool.true_and, Bool.and_true, Bool.and_self, Bool.false_and, Bool.and_false, Bool.true_or, Bool.or_true, Bool.false_or, Bool.or_false, ↓reduceIte, Nat.reduceEqDiff, Nat.reduceAdd, Nat.reduceMul, Nat.reduceSub, Nat.reduceBEq, Nat.reduceLeDiff, Nat.reduceLT, Nat.reduceMod, Nat.reduceDiv, Int.reduceToNat, Int.reducePow, Int.reduceMul, Int.reduceAdd, Int.reduceSub, Int.reduceLE, Int.reduceLT, Int.reduceNeg, Int.reduceDiv, Int.reduceMod, Int.reduceEq, Int.reduceBEq, Int.reduceBNe]
          exact ⟨1, by decide, rfl, rfl⟩
      · rcases hy with ⟨rfl, _⟩ | ⟨k1, o1, g1, c1, rfl, hy, hc1⟩
        · repeat' first | simp (disch := first | with_reducible assumption | omega) only [go_sem, Bool.true_and, Bool.and_true, Bool.and_self, Bool.false_and, Bool.and_false, Bool.true_or, Bool.or_true, Bool.false_or, Bool.or_false, ↓reduceIte, Nat.reduceEqDiff, Nat.reduceAdd, Nat.reduceMul, Nat.reduceSub, Nat.reduceBEq, Nat.reduceLeDiff, Nat.reduceLT, Nat.reduceMod, Nat.reduceDiv, Int.reduceToNat, Int.reducePow, Int.reduceMul, Int.reduceAdd, Int.reduceSub, Int.reduceLE, Int.reduceLT, Int.reduceNeg, Int.reduceDiv, Int.reduceMod, Int.reduceEq, Int.reduceBEq, Int.reduceBNe, f11, f11b, f11r0, f11r1, f11r2, f11r3, f11r4, f11r5, f11r6, f11r7, f11r8, f11r10, f11r11, f11r12, f11r13, f11r14, f11r15, f11r17, f11l1, hk, z0, z1, z2] | (refine BrW.of (fun hb => ?_) (fun hb => ?_) <;> (have hb' := hb; try simp only [decide_eq_true_eq, decide_eq_false_iff_not, beq_iff_eq, bne_iff_ne, beq_eq_false_iff_ne, bne_eq_false_iff_eq, Bool.not_eq_true', Bool.not_eq_false', Bool.not_eq_true, Bool.not_eq_false, Bool.and_eq_true, Bool.or_eq_true, Bool.and_eq_false_iff, Bool.or_eq_false_iff, Int.not_lt, Int.not_le, ne_eq, gt_iff_lt, ge_iff_le] at hb') <;> (try (exfalso; omega))) | (refine altW.of ?_ ?_)
          refine RdW.keep [6, 25, 26, 27] 1 (by omega) ?_
          simp (disch := first | with_reducible assumption | omega) only [go_sem, Bool.true_and, Bool.and_true, Bool.and_self, Bool.false_and, Bool.and_false, Bool.true_or, Bool.or_true, Bool.false_or, Bool.or_false, ↓reduceIte, Nat.reduceEqDiff, Nat.reduceAdd, Nat.reduceMul, Nat.reduceSub, Nat.reduceBEq, Nat.reduceLeDiff, Nat.reduceLT, Nat.reduceMod, Nat.reduceDiv, Int.reduceToNat, Int.reducePow, Int.reduceMul, Int.reduceAdd, Int.reduceSub, Int.reduceLE, Int.reduceLT, Int.reduceNeg, Int.reduceDiv, Int.reduceMod, Int.reduceEq, Int.reduceBEq, Int.reduceBNe]
          exact ⟨2, by decide, rfl, rfl⟩
        · obtain ⟨_, ro1, cs1, hk1, hle1, hcs1⟩ := hy.at'
          repeat' first | simp (disch := first | with_reducible assumption | omega) only [go_sem, Bool.true_and, Bool.and_true, Bool.and_self, Bool.false_and, Bool.and_false, Bool.true_or, Bool.or_true, Bool.false_or, Bool.or_false, ↓reduceIte, Nat.reduceEqDiff, Nat.reduceAdd, Nat.reduceMul, Nat.reduceSub, Nat.reduceBEq, Nat.reduceLeDiff, Nat.reduceLT, Nat.reduceMod, Nat.reduceDiv, Int.reduceToNat, Int.reducePow, Int.reduceMul, Int.reduceAdd, Int.reduceSub, Int.reduceLE, Int.reduceLT, Int.reduceNeg, Int.reduceDiv, Int.reduceMod, Int.reduceEq, Int.reduceBEq, Int.reduceBNe, f11, f11b, f11r0, f11r1, f11r2, f11r3, f11r4, f11r5, f11r6, f11r7, f11r8, f11r10, f11r11, f11r12, f11r13, f11r14, f11r15, f11r17, f11l1, hk, hk1, z0, z1, z2] | (refine BrW.of (fun hb => ?_) (fun hb => ?_) <;> (have hb' := hb; try simp only [decide_eq_true_eq, decide_eq_false_iff_not, beq_iff_eq, bne_iff_ne, beq_eq_false_iff_ne, bne_eq_false_iff_eq, Bool.not_eq_true', Bool.not_eq_false', Bool.not_eq_true, Bool.not_eq_false, Bool.and_eq_true, Bool.or_eq_true, Bool.and_eq_false_iff, Bool.or_eq_false_iff, Int.not_lt, Int.not_le, ne_eq, gt_iff_lt, ge_iff_le] at hb') <;> (try (exfalso; omega))) | (refine altW.of ?_ ?_)
          refine RdW.keep [6, 25, 26, 27] 1 (by omega) ?_
          simp (disch := first | with_reducible assumption | omega) only [go_sem, Bool.true_and, Bool.and_true, Bool.and_self, Bool.false_and, Bool.and_false, Bool.true_or, Bool.or_true, Bool.false_or, Bool.or_false, ↓reduceIte, Nat.reduceEqDiff, Nat.reduceAdd, Nat.reduceMul, Nat.reduceSub, Nat.reduceBEq, Nat.reduceLeDiff, Nat.reduceLT, Nat.reduceMod, Nat.reduceDiv, Int.reduceToNat, Int.reducePow, Int.reduceMul, Int.reduceAdd, Int.reduceSub, Int.reduceLE, Int.reduceLT, Int.reduceNeg, Int.reduceDiv, Int.reduceMod, Int.reduceEq, Int.reduceBEq, Int.reduceBNe]
          exact ⟨2, by decide, rfl, rfl⟩
      · repeat' first | simp (disch := first | with_reducible assumption | omega) only [go_sem, Bool.true_and, Bool.and_true, Bool.and_self, Bool.false_and, Bool.and_false, Bool.true_or, Bool.or_true, Bool.false_or, Bool.or_false, ↓reduceIte, Nat.reduceEqDiff, Nat.reduceAdd, Nat.reduceMul, Nat.reduceSub, Nat.reduceBEq, Nat.reduceLeDiff, Nat.reduceLT, Nat.reduceMod, Nat.reduceDiv, Int.reduceToNat, Int.reducePow, Int.reduceMul, Int.reduceAdd, Int.reduceSub, Int.reduceLE, Int.reduceLT, Int.reduceNeg, Int.reduceDiv, Int.reduceMod, Int.reduceEq, Int.reduceBEq, Int.reduceBNe, f11, f11b, f11r0, f11r1, f11r2, f11r3, f11r4, f11r5, f11r6, f11r7, f11r8, f11r10, f11r11, f11r12, f11r13, f11r14, f11r15, f11r17, f11l1, f11, f11b, f11r0, f11r1, f11r2, f11r3, f11r4, f11r5, f11r6, f11r7, f11r8, f11r10, f11r11, f11r12, f11r13, f11r14, f11r15, f11r17, hk, z0, z1, z2] | (refine BrW.of (fun hb => ?_) (fun hb => ?_) <;> (have hb' := hb; try simp only [decide_eq_true_eq, decide_eq_false_iff_not, beq_iff_eq, bne_iff_ne, beq_eq_false_iff_ne, bne_eq_false_iff_eq, Bool.not_eq_true', Bool.not_eq_false', Bool.not_eq_true, Bool.not_eq_false, Bool.and_eq_true, Bool.or_eq_true, Bool.and_eq_false_iff, Bool.or_eq_false_iff, Int.not_lt, Int.not_le, ne_eq, gt_iff_lt, ge_iff_le] at hb') <;> (try (exfalso; omega))) | (refine altW.of ?_ ?_)
        exact .here ⟨fun h => absurd h (by simp), fun _ => ⟨rfl, rfl⟩⟩
      · omega
  · omega

theorem CatB_full (x y : List Int) (v w : Value) (k : Nat) (H : Heap) (hk : H[k]? = some (.cells 0 1 false [v, w])) (hx : IsSCatB H v x) (hy : IsSCatB H w y) (hlx : x.length ≤ 1048576) (hly : y.length ≤ 1048576) (hp : 0 < x.length + y.length) :
    ACallK Try.prog 11 [slv k 0 0 2 2] H (fun u H' => u = slv H.length 0 0 (x.length + y.length) (x.length + y.length) ∧ H' = H ++ [.cells 0 1 false (flat' uenc (x ++ y))]) :=
  (CatB_ex x y v w k H hk hx hy hlx hly).mono fun _ _ h => h.1 hp

theorem conv8 (a : Int) (h : 0 ≤ a) : iconv .u8 a = a % 256 := by
  unfold iconv IntKind.wrap; simp [IntKind.bits, IntKind.signed]
def zs : List Value := [.int .u8 0, .int .u8 0, .int .u8 0, .int .u8 0, .int .u8 0, .int .u8 0, .int .u8 0, .int .u8 0, .int .u8 0, .int .u8 0, .int .u8 0, .int .u8 0, .int .u8 0, .int .u8 0, .int .u8 0, .int .u8 0, .int .u8 0, .int .u8 0, .int .u8 0, .int .u8 0]
theorem zrep (n : Nat) : (List.replicate n [Value.int .u8 0]).flatten = bytes (List.replicate n 0) := by
  induction n with
  | zero => rfl
  | succ n ih => simp only [List.replicate_succ, List.flatten_cons, ih]; rfl
/-- The first i of these. -/
def addrI (h : Hd) (i : Nat) : List Int := ([h.s0, h.s1, h.s2, h.s3, h.d0, h.d1, h.d2, h.d3].take i) ++ List.replicate (8 - i) 0
theorem addrI_set (h : Hd) (i : Nat) (hi : i < 8) (R : List Value) : (bytes (addrI h i) ++ R).set i (.int .u8 ([h.s0, h.s1, h.s2, h.s3, h.d0, h.d1, h.d2, h.d3].getD i 0)) = bytes (addrI h (i + 1)) ++ R := by
  match i, hi with
  | 0, _ => rfl
  | 1, _ => rfl
  | 2, _ => rfl
  | 3, _ => rfl
  | 4, _ => rfl
  | 5, _ => rfl
  | 6, _ => rfl
  | 7, _ => rfl
theorem addrI_len (h : Hd) (i : Nat) (hi : i ≤ 8) : (addrI h i).length = 8 := by simp [addrI]; omega
theorem set12 (a0 a1 a2 a3 a4 a5 a6 a7 a8 a9 a10 a11 : Value) (T : List Value) (i : Nat) (x : Value) : (a0 :: a1 :: a2 :: a3 :: a4 :: a5 :: a6 :: a7 :: a8 :: a9 :: a10 :: a11 :: T).set (12 + i) x = a0 :: a1 :: a2 :: a3 :: a4 :: a5 :: a6 :: a7 :: a8 :: a9 :: a10 :: a11 :: T.set i x := by
  rw [Nat.add_comm]; rfl
theorem Write_spec (h : Hd) (H : Heap) (ho : h.ok) : ACallK Try.prog 8 [h.val] H (fun v H' => Le H H' ∧ (wrongN h ≠ 0 → v = .tuple #[.slice none 0 0, .int .i64 (wrongN h)]) ∧
    (wrongN h = 0 → ∃ x y, H' = H ++ x :: .cells 0 1 false (bytes (bytesH h)) :: y ∧ v = .tuple #[slv (H.length + 1) 0 0 h.len.toNat h.len.toNat, .int .i64 0])) := by
  have hW := fun H => Wrong_spec h H
  refine .walkW f8_ok (by simp; decide) (by decide) ?_
  by_cases hw : wrongN h = 0
  · have hf := Hd.fine ho hw
    rw [hw] at hW
    have f1 := hf.proto
    have f2 := hf.mark
    have f3 := hf.sp
    have f4 := hf.dp
    have f5 := hf.len
    obtain ⟨n, hn⟩ : ∃ n : Nat, h.len.toNat = 20 + n := ⟨h.len.toNat - 20, by omega⟩
    have hz : (List.replicate h.len.toNat [Value.int .u8 0]).flatten = zs ++ bytes (List.replicate n 0) := by
      rw [zrep, hn, ← List.replicate_append_replicate]; simp [bytes, zs, List.replicate_succ]
    simp only [zs, List.cons_append, List.nil_append] at hz
    generalize hR : bytes (List.replicate n 0) = R at *
    have m4 : h.mark * 4 % 256 = h.mark * 4 := by omega
    have l2 : h.len / 256 % 256 = h.len / 256 := by omega
    have pr : h.proto % 256 = h.proto := by omega
    have hcat := fun J hk hx hy => CatB_full [h.s0, h.s1, h.s2, h.s3] [h.d0, h.d1, h.d2, h.d3] (slv H.length 0 0 4 4) (slv H.length 4 0 4 4) (H.length + 2) J hk hx hy (by simp) (by simp) (by simp)
    simp only [flat'_uenc, bytes, List.cons_append, List.nil_append, List.map_cons, List.map_nil, List.length_cons, List.length_nil, Nat.reduceAdd] at hcat
    repeat' first | simp (disch := first | with_reducible assumption | omega) only [go_sem, Bool.true_and, Bool.and_true, Bool.and_self, Bool.false_and, Bool.and_false, Bool.true_or, Bool.or_true, Bool.false_or, Bool.or_false, ↓reduceIte, Nat.reduceEqDiff, Nat.reduceAdd, Nat.reduceMul, Nat.reduceSub, Nat.reduceBEq, Nat.reduceLeDiff, Nat.reduceLT, Nat.reduceMod, Nat.reduceDiv, Int.reduceToNat, Int.reducePow, Int.reduceMul, Int.reduceAdd, Int.reduceSub, Int.reduceLE, Int.reduceLT, Int.reduceNeg, Int.reduceDiv, Int.reduceMod, Int.reduceEq, Int.reduceBEq, Int.reduceBNe, f8, f8b, f8r0, f8r1, f8r2, f8r3, f8r4, f8r5, f8r6, f8r7, f8r8, f8r9, f8r10, f8r11, f8r12, f8r13, f8r15, f8r16, f8r17, f8r18, f8r19, f8r20, hz, conv8, m4, l2, pr] | (refine BrW.of (fun hb => ?_) (fun hb => ?_) <;> (have hb' := hb; try simp only [decide_eq_true_eq, decide_eq_false_iff_not, beq_iff_eq, bne_iff_ne, beq_eq_false_iff_ne, bne_eq_false_iff_eq, Bool.not_eq_true', Bool.not_eq_false', Bool.not_eq_true, Bool.not_eq_false, Bool.and_eq_true, Bool.or_eq_true, Bool.and_eq_false_iff, Bool.or_eq_false_iff, Int.not_lt, Int.not_le, ne_eq, gt_iff_lt, ge_iff_le] at hb') <;> (try (exfalso; omega))) | (refine altW.of ?_ ?_) | (refine .of ((hW _).mono ?_); rintro v _ ⟨rfl, rfl⟩)
    refine callW.ex _ _ (hcat _ (by rw [get_new]; rfl) (.inr ⟨H.length, 0, 0, 4, rfl, ⟨0, false, _, get_new0 _ _ _, by simp, fun i hi j hj => ?_⟩, by simp⟩) (.inr ⟨H.length, 4, 0, 4, rfl, ⟨0, false, _, get_new0 _ _ _, by simp, fun i hi j hj => ?_⟩, by simp⟩)) ?_
    · obtain rfl : j = 0 := by omega
      match i, hi with
      | 0, _ => rfl
      | 1, _ => rfl
      | 2, _ => rfl
      | 3, _ => rfl
    · obtain rfl : j = 0 := by omega
      match i, hi with
      | 0, _ => rfl
      | 1, _ => rfl
      | 2, _ => rfl
      | 3, _ => rfl
    have rl : R.length = n := by rw [← hR, bytes_length]; simp
    clear hcat hz
    repeat' first | simp (disch := first | with_reducible assumption | omega) only [go_sem, Bool.true_and, Bool.and_true, Bool.and_self, Bool.false_and, Bool.and_false, Bool.true_or, Bool.or_true, Bool.false_or, Bool.or_false, ↓reduceIte, Nat.reduceEqDiff, Nat.reduceAdd, Nat.reduceMul, Nat.reduceSub, Nat.reduceBEq, Nat.reduceLeDiff, Nat.reduceLT, Nat.reduceMod, Nat.reduceDiv, Int.reduceToNat, Int.reducePow, Int.reduceMul, Int.reduceAdd, Int.reduceSub, Int.reduceLE, Int.reduceLT, Int.reduceNeg, Int.reduceDiv, Int.reduceMod, Int.reduceEq, Int.reduceBEq, Int.reduceBNe, f8, f8b, f8r0, f8r1, f8r2, f8r3, f8r4, f8r5, f8r6, f8r7, f8r8, f8r9, f8r10, f8r11, f8r12, f8r13, f8r15, f8r16, f8r17, f8r18, f8r19, f8r20] | (refine BrW.of (fun hb => ?_) (fun hb => ?_) <;> (have hb' := hb; try simp only [decide_eq_true_eq, decide_eq_false_iff_not, beq_iff_eq, bne_iff_ne, beq_eq_false_iff_ne, bne_eq_false_iff_eq, Bool.not_eq_true', Bool.not_eq_false', Bool.not_eq_true, Bool.not_eq_false, Bool.and_eq_true, Bool.or_eq_true, Bool.and_eq_false_iff, Bool.or_eq_false_iff, Int.not_lt, Int.not_le, ne_eq, gt_iff_lt, ge_iff_le] at hb') <;> (try (exfalso; omega))) | (refine altW.of ?_ ?_)
    refine loopW.of (by decide) (fun m e J => ∃ i : Nat, e = [(1, .pointer (some ⟨H.length, 0, some 1⟩)), (5, slv (H.length + 1) 0 0 h.len.toNat h.len.toNat), (50, slv (H.length + 3) 0 0 8 8), (51, .int .i64 8), (52, .int .i64 i)] ∧ i ≤ 8 ∧ m = 8 - i ∧
      J = H ++ [.cells 0 0 false h.cells, .cells 0 1 false (.int .u8 69 :: .int .u8 (h.mark * 4) :: .int .u8 (h.len / 256) :: .int .u8 (h.len % 256) :: .int .u8 0 :: .int .u8 0 :: .int .u8 0 :: .int .u8 0 :: .int .u8 64 :: .int .u8 h.proto :: .int .u8 0 :: .int .u8 0 :: (bytes (addrI h i) ++ R)),
        .cells 0 1 false [slv H.length 0 0 4 4, slv H.length 4 0 4 4], .cells 0 1 false (bytes [h.s0, h.s1, h.s2, h.s3, h.d0, h.d1, h.d2, h.d3])]) 8 ⟨0, rfl, by omega, rfl, rfl⟩ ?_
    rintro m e J ⟨i, rfl, hi, rfl, rfl⟩
    have il := addrI_len h i hi
    have il2 := bytes_length (addrI h i)
    by_cases hlt : i < 8
    · have e0 := bytes_get [h.s0, h.s1, h.s2, h.s3, h.d0, h.d1, h.d2, h.d3] i (by simpa using hlt)
      have bl : (bytes [h.s0, h.s1, h.s2, h.s3, h.d0, h.d1, h.d2, h.d3]).length = 8 := rfl
      have st := addrI_set h i hlt R
      generalize [h.s0, h.s1, h.s2, h.s3, h.d0, h.d1, h.d2, h.d3].getD i 0 = V at *
      generalize bytes [h.s0, h.s1, h.s2, h.s3, h.d0, h.d1, h.d2, h.d3] = CB at *
      have z12 : (12 + (i : Int)).toNat = 12 + i := by omega
      have zi : (i : Int).toNat = i := by omega
      repeat' first | simp (disch := first | with_reducible assumption | omega) only [go_sem, Bool.true_and, Bool.and_true, Bool.and_self, Bool.false_and, Bool.and_false, Bool.true_or, Bool.or_true, Bool.false_or, Bool.or_false, ↓reduceIte, Nat.reduceEqDiff, Nat.reduceAdd, Nat.reduceMul, Nat.reduceSub, Nat.reduceBEq, Nat.reduceLeDiff, Nat.reduceLT, Nat.reduceMod, Nat.reduceDiv, Int.reduceToNat, Int.reducePow, Int.reduceMul, Int.reduceAdd, Int.reduceSub, Int.reduceLE, Int.reduceLT, Int.reduceNeg, Int.reduceDiv, Int.reduceMod, Int.reduceEq, Int.reduceBEq, Int.reduceBNe, f8, f8b, f8r0, f8r1, f8r2, f8r3, f8r4, f8r5, f8r6, f8r7, f8r8, f8r9, f8r10, f8r11, f8r12, f8r13, f8r15, f8r16, f8r17, f8r18, f8r19, f8r20, f8l0, e0, bl, z12, zi, set12, st, il, il2, rl, List.length_append] | (refine BrW.of (fun hb => ?_) (fun hb => ?_) <;> (have hb' := hb; try simp only [decide_eq_true_eq, decide_eq_false_iff_not, beq_iff_eq, bne_iff_ne, beq_eq_false_iff_ne, bne_eq_false_iff_eq, Bool.not_eq_true', Bool.not_eq_false', Bool.not_eq_true, Bool.not_eq_false, Bool.and_eq_true, Bool.or_eq_true, Bool.and_eq_false_iff, Bool.or_eq_false_iff, Int.not_lt, Int.not_le, ne_eq, gt_iff_lt, ge_iff_le] at hb') <;> (try (exfalso; omega))) | (refine altW.of ?_ ?_)
      refine RdW.keep [1, 5, 50, 51, 52] (8 - (i + 1)) (by omega) ?_
      simp (disch := first | with_reducible assumption | omega) only [go_sem, Bool.true_and, Bool.and_true, Bool.and_self, Bool.false_and, Bool.and_false, Bool.true_or, Bool.or_true, Bool.false_or, Bool.or_false, ↓reduceIte, Nat.reduceEqDiff, Nat.reduceAdd, Nat.reduceMul, Nat.reduceSub, Nat.reduceBEq, Nat.reduceLeDiff, Nat.reduceLT, Nat.reduceMod, Nat.reduceDiv, Int.reduceToNat, Int.reducePow, Int.reduceMul, Int.reduceAdd, Int.reduceSub, Int.reduceLE, Int.reduceLT, Int.reduceNeg, Int.reduceDiv, Int.reduceMod, Int.reduceEq, Int.reduceBEq, Int.reduceBNe]
      exact ⟨i + 1, rfl, by omega, rfl, rfl⟩
    · obtain rfl : i = 8 := by omega
      have ex : Value.int .u8 69 :: .int .u8 (h.mark * 4) :: .int .u8 (h.len / 256) :: .int .u8 (h.len % 256) :: .int .u8 0 :: .int .u8 0 :: .int .u8 0 :: .int .u8 0 :: .int .u8 64 :: .int .u8 h.proto :: .int .u8 0 :: .int .u8 0 :: (bytes (addrI h 8) ++ R) = bytes (hd20 h 0 ++ List.replicate n 0) := by rw [← hR]; simp [bytes, addrI, hd20]
      have hbz := hd20_byte hf (c := 0) (by omega)
      have hC := fun J hs => Check_spec (hd20 h 0) (H.length + 1) 0 0 h.len.toNat J hbz hs (by rw [hd20_len]; omega)
      rw [hd20_len] at hC
      have hck : chk h = 65535 - foldZ (sumP (hd20 h 0)) := rfl
      rw [← hck] at hC
      have ha8 : bytes (addrI h 8) = [.int .u8 h.s0, .int .u8 h.s1, .int .u8 h.s2, .int .u8 h.s3, .int .u8 h.d0, .int .u8 h.d1, .int .u8 h.d2, .int .u8 h.d3] := rfl
      have tk : (hd20 h 0 ++ List.replicate n 0).take 20 = hd20 h 0 := by rw [List.take_append_of_le_length (by rw [hd20_len]; exact Nat.le_refl _), List.take_of_length_le (by rw [hd20_len]; exact Nat.le_refl _)]
      repeat' first | simp (disch := first | with_reducible assumption | omega) only [go_sem, Bool.true_and, Bool.and_true, Bool.and_self, Bool.false_and, Bool.and_false, Bool.true_or, Bool.or_true, Bool.false_or, Bool.or_false, ↓reduceIte, Nat.reduceEqDiff, Nat.reduceAdd, Nat.reduceMul, Nat.reduceSub, Nat.reduceBEq, Nat.reduceLeDiff, Nat.reduceLT, Nat.reduceMod, Nat.reduceDiv, Int.reduceToNat, Int.reducePow, Int.reduceMul, Int.reduceAdd, Int.reduceSub, Int.reduceLE, Int.reduceLT, Int.reduceNeg, Int.reduceDiv, Int.reduceMod, Int.reduceEq, Int.reduceBEq, Int.reduceBNe, f8, f8b, f8r0, f8r1, f8r2, f8r3, f8r4, f8r5, f8r6, f8r7, f8r8, f8r9, f8r10, f8r11, f8r12, f8r13, f8r15, f8r16, f8r17, f8r18, f8r19, f8r20, f8l0] | (refine BrW.of (fun hb => ?_) (fun hb => ?_) <;> (have hb' := hb; try simp only [decide_eq_true_eq, decide_eq_false_iff_not, beq_iff_eq, bne_iff_ne, beq_eq_false_iff_ne, bne_eq_false_iff_eq, Bool.not_eq_true', Bool.not_eq_false', Bool.not_eq_true, Bool.not_eq_false, Bool.and_eq_true, Bool.or_eq_true, Bool.and_eq_false_iff, Bool.or_eq_false_iff, Int.not_lt, Int.not_le, ne_eq, gt_iff_lt, ge_iff_le] at hb') <;> (try (exfalso; omega))) | (refine altW.of ?_ ?_)
      refine .of ((hC _ (by
        have hx := (Bys.new (H ++ [.cells 0 0 false h.cells, .cells 0 1 false (bytes (hd20 h 0 ++ List.replicate n 0)), .cells 0 1 false [slv H.length 0 0 4 4, slv H.length 4 0 4 4], .cells 0 1 false (bytes [h.s0, h.s1, h.s2, h.s3, h.d0, h.d1, h.d2, h.d3])]) (H.length + 1) 0 false _ (by rw [get_new]; rfl)).take 20
        rw [tk, ← ex] at hx
        exact hx)).mono ?_)
      rintro v _ ⟨rfl, rfl⟩
      have hcr := chk_range h
      have c2 : chk h / 256 % 256 = chk h / 256 := by omega
      have s2 : h.sp / 256 % 256 = h.sp / 256 := by omega
      have d2 : h.dp / 256 % 256 = h.dp / 256 := by omega
      have hbH : bytesH h = hd20 h (chk h) ++ tailB h := rfl
      rw [ha8] at *
      clear hC hck tk ex hbz
      by_cases hp : ported h.proto
      · obtain ⟨n', rfl⟩ : ∃ n', n = 4 + n' := ⟨n - 4, by have := hf.len2 hp; omega⟩
        have hR4 : R = .int .u8 0 :: .int .u8 0 :: .int .u8 0 :: .int .u8 0 :: bytes (List.replicate n' 0) := by
          rw [← hR, ← List.replicate_append_replicate]; simp [bytes, List.replicate_succ]
        have fin : bytes (bytesH h) = .int .u8 69 :: .int .u8 (h.mark * 4) :: .int .u8 (h.len / 256) :: .int .u8 (h.len % 256) :: .int .u8 0 :: .int .u8 0 :: .int .u8 0 :: .int .u8 0 :: .int .u8 64 :: .int .u8 h.proto :: .int .u8 (chk h / 256) :: .int .u8 (chk h % 256) :: .int .u8 h.s0 :: .int .u8 h.s1 :: .int .u8 h.s2 :: .int .u8 h.s3 :: .int .u8 h.d0 :: .int .u8 h.d1 :: .int .u8 h.d2 :: .int .u8 h.d3 :: .int .u8 (h.sp / 256) :: .int .u8 (h.sp % 256) :: .int .u8 (h.dp / 256) :: .int .u8 (h.dp % 256) :: bytes (List.replicate n' 0) := by
          rw [hbH]
          unfold tailB
          rw [if_pos hp, show h.len.toNat - 24 = n' by omega]
          simp [bytes, hd20]
        have hp' : h.proto = 6 ∨ h.proto = 17 := hp
        have hk24 := hf.len2 hp
        rw [fin]
        clear fin hbH hR
        subst hR4
        generalize bytes (List.replicate n' 0) = R' at *
        generalize chk h = ck at *
        rcases hp' with hp' | hp'
        · have e6 : (h.proto == 6) = true := by rw [hp']; rfl
          repeat' first | simp (disch := first | with_reducible assumption | omega) only [go_sem, Bool.true_and, Bool.and_true, Bool.and_self, Bool.false_and, Bool.and_false, Bool.true_or, Bool.or_true, Bool.false_or, Bool.or_false, ↓reduceIte, Nat.reduceEqDiff, Nat.reduceAdd, Nat.reduceMul, Nat.reduceSub, Nat.reduceBEq, Nat.reduceLeDiff, Nat.reduceLT, Nat.reduceMod, Nat.reduceDiv, Int.reduceToNat, Int.reducePow, Int.reduceMul, Int.reduceAdd, Int.reduceSub, Int.reduceLE, Int.reduceLT, Int.reduceNeg, Int.reduceDiv, Int.reduceMod, Int.reduceEq, Int.reduceBEq, Int.reduceBNe, f8, f8b, f8r0, f8r1, f8r2, f8r3, f8r4, f8r5, f8r6, f8r7, f8r8, f8r9, f8r10, f8r11, f8r12, f8r13, f8r15, f8r16, f8r17, f8r18, f8r19, f8r20, conv8, c2, s2, d2, e6] | (refine BrW.of (fun hb => ?_) (fun hb => ?_) <;> (have hb' := hb; try simp only [decide_eq_true_eq, decide_eq_false_iff_not, beq_iff_eq, bne_iff_ne, beq_eq_false_iff_ne, bne_eq_false_iff_eq, Bool.not_eq_true', Bool.not_eq_false', Bool.not_eq_true, Bool.not_eq_false, Bool.and_eq_true, Bool.or_eq_true, Bool.and_eq_false_iff, Bool.or_eq_false_iff, Int.not_lt, Int.not_le, ne_eq, gt_iff_lt, ge_iff_le] at hb') <;> (try (exfalso; omega))) | (refine altW.of ?_ ?_)
          exact .here ⟨.app _ _, fun h => absurd hw h, fun _ => ⟨_, _, rfl, rfl⟩⟩
        · have e6 : (h.proto == 6) = false := by rw [hp']; rfl
          have e17 : (h.proto == 17) = true := by rw [hp']; rfl
          repeat' first | simp (disch := first | with_reducible assumption | omega) only [go_sem, Bool.true_and, Bool.and_true, Bool.and_self, Bool.false_and, Bool.and_false, Bool.true_or, Bool.or_true, Bool.false_or, Bool.or_false, ↓reduceIte, Nat.reduceEqDiff, Nat.reduceAdd, Nat.reduceMul, Nat.reduceSub, Nat.reduceBEq, Nat.reduceLeDiff, Nat.reduceLT, Nat.reduceMod, Nat.reduceDiv, Int.reduceToNat, Int.reducePow, Int.reduceMul, Int.reduceAdd, Int.reduceSub, Int.reduceLE, Int.reduceLT, Int.reduceNeg, Int.reduceDiv, Int.reduceMod, Int.reduceEq, Int.reduceBEq, Int.reduceBNe, f8, f8b, f8r0, f8r1, f8r2, f8r3, f8r4, f8r5, f8r6, f8r7, f8r8, f8r9, f8r10, f8r11, f8r12, f8r13, f8r15, f8r16, f8r17, f8r18, f8r19, f8r20, conv8, c2, s2, d2, e6, e17] | (refine BrW.of (fun hb => ?_) (fun hb => ?_) <;> (have hb' := hb; try simp only [decide_eq_true_eq, decide_eq_false_iff_not, beq_iff_eq, bne_iff_ne, beq_eq_false_iff_ne, bne_eq_false_iff_eq, Bool.not_eq_true', Bool.not_eq_false', Bool.not_eq_true, Bool.not_eq_false, Bool.and_eq_true, Bool.or_eq_true, Bool.and_eq_false_iff, Bool.or_eq_false_iff, Int.not_lt, Int.not_le, ne_eq, gt_iff_lt, ge_iff_le] at hb') <;> (try (exfalso; omega))) | (refine altW.of ?_ ?_)
          exact .here ⟨.app _ _, fun h => absurd hw h, fun _ => ⟨_, _, rfl, rfl⟩⟩
      · have fin : bytes (bytesH h) = .int .u8 69 :: .int .u8 (h.mark * 4) :: .int .u8 (h.len / 256) :: .int .u8 (h.len % 256) :: .int .u8 0 :: .int .u8 0 :: .int .u8 0 :: .int .u8 0 :: .int .u8 64 :: .int .u8 h.proto :: .int .u8 (chk h / 256) :: .int .u8 (chk h % 256) :: .int .u8 h.s0 :: .int .u8 h.s1 :: .int .u8 h.s2 :: .int .u8 h.s3 :: .int .u8 h.d0 :: .int .u8 h.d1 :: .int .u8 h.d2 :: .int .u8 h.d3 :: R := by
          rw [hbH]
          unfold tailB
          rw [if_neg hp, show h.len.toNat - 20 = n by omega, ← hR]
          simp [bytes, hd20]
        have e6 : (h.proto == 6) = false := by simp; exact fun e => hp (.inl e)
        have e17 : (h.proto == 17) = false := by simp; exact fun e => hp (.inr e)
        rw [fin]
        clear fin hbH hR
        generalize chk h = ck at *
        repeat' first | simp (disch := first | with_reducible assumption | omega) only [go_sem, Bool.true_and, Bool.and_true, Bool.and_self, Bool.false_and, Bool.and_false, Bool.true_or, Bool.or_true, Bool.false_or, Bool.or_false, ↓reduceIte, Nat.reduceEqDiff, Nat.reduceAdd, Nat.reduceMul, Nat.reduceSub, Nat.reduceBEq, Nat.reduceLeDiff, Nat.reduceLT, Nat.reduceMod, Nat.reduceDiv, Int.reduceToNat, Int.reducePow, Int.reduceMul, Int.reduceAdd, Int.reduceSub, Int.reduceLE, Int.reduceLT, Int.reduceNeg, Int.reduceDiv, Int.reduceMod, Int.reduceEq, Int.reduceBEq, Int.reduceBNe, f8, f8b, f8r0, f8r1, f8r2, f8r3, f8r4, f8r5, f8r6, f8r7, f8r8, f8r9, f8r10, f8r11, f8r12, f8r13, f8r15, f8r16, f8r17, f8r18, f8r19, f8r20, conv8, c2, e6, e17] | (refine BrW.of (fun hb => ?_) (fun hb => ?_) <;> (have hb' := hb; try simp only [decide_eq_true_eq, decide_eq_false_iff_not, beq_iff_eq, bne_iff_ne, beq_eq_false_iff_ne, bne_eq_false_iff_eq, Bool.not_eq_true', Bool.not_eq_false', Bool.not_eq_true, Bool.not_eq_false, Bool.and_eq_true, Bool.or_eq_true, Bool.and_eq_false_iff, Bool.or_eq_false_iff, Int.not_lt, Int.not_le, ne_eq, gt_iff_lt, ge_iff_le] at hb') <;> (try (exfalso; omega))) | (refine altW.of ?_ ?_)
        exact .here ⟨.app _ _, fun h => absurd hw h, fun _ => ⟨_, _, rfl, rfl⟩⟩
  · have hw' : (wrongN h != 0) = true := by simpa using hw
    repeat' first | simp (disch := first | with_reducible assumption | omega) only [go_sem, Bool.true_and, Bool.and_true, Bool.and_self, Bool.false_and, Bool.and_false, Bool.true_or, Bool.or_true, Bool.false_or, Bool.or_false, ↓reduceIte, Nat.reduceEqDiff, Nat.reduceAdd, Nat.reduceMul, Nat.reduceSub, Nat.reduceBEq, Nat.reduceLeDiff, Nat.reduceLT, Nat.reduceMod, Nat.reduceDiv, Int.reduceToNat, Int.reducePow, Int.reduceMul, Int.reduceAdd, Int.reduceSub, Int.reduceLE, Int.reduceLT, Int.reduceNeg, Int.reduceDiv, Int.reduceMod, Int.reduceEq, Int.reduceBEq, Int.reduceBNe, f8, f8b, f8r0, f8r1, f8r2, f8r3, f8r4, f8r5, f8r6, f8r7, f8r8, f8r9, f8r10, f8r11, f8r12, f8r13, f8r15, f8r16, f8r17, f8r18, f8r19, f8r20, hw'] | (refine BrW.of (fun hb => ?_) (fun hb => ?_) <;> (have hb' := hb; try simp only [decide_eq_true_eq, decide_eq_false_iff_not, beq_iff_eq, bne_iff_ne, beq_eq_false_iff_ne, bne_eq_false_iff_eq, Bool.not_eq_true', Bool.not_eq_false', Bool.not_eq_true, Bool.not_eq_false, Bool.and_eq_true, Bool.or_eq_true, Bool.and_eq_false_iff, Bool.or_eq_false_iff, Int.not_lt, Int.not_le, ne_eq, gt_iff_lt, ge_iff_le] at hb') <;> (try (exfalso; omega))) | (refine altW.of ?_ ?_) | (refine .of ((hW _).mono ?_); rintro v _ ⟨rfl, rfl⟩)
    exact .here ⟨.app _ _, fun _ => rfl, fun h => absurd h hw⟩
end Go.Proofs.Ytdkccpppflnmpaa
