import Derived.Test.YtmfcccgfifaojaaSteps
import Derived.Test.YtmfcccgfifaojaaBase
set_option linter.unusedSimpArgs false
set_option linter.unusedVariables false
set_option maxHeartbeats 1000000
namespace Go.Proofs.Ytmfcccgfifaojaa
open Go Go.Am
attribute [local irreducible] opsW Ww loopW callW drawW outW outDW gW cW BrW bothW vW resW DropW RdW dcallW Later.run

theorem Grow_spec (n : Nat) (H : Heap) (h0 : 0 < n) (h1 : n ≤ 1099511627776) : ACallK Try.prog 15 [.slice none 0 0, .int .i64 n] H (fun v H' => v = .slice (some ⟨H.length, 0, some 1⟩) 0 n ∧ H' = H ++ [.cells 0 1 false (List.replicate n (.int .u8 0))]) := by
  refine .walkW f15_ok (by simp; decide) (by decide) ?_
  have e : (List.replicate n [Value.int .u8 0]).flatten = List.replicate n (Value.int .u8 0) := by
    induction n with
    | zero => rfl
    | succ n ih =>
      rcases Nat.eq_zero_or_pos n with rfl | h
      · rfl
      · rw [List.replicate_succ, List.flatten_cons, ih h (by omega), List.replicate_succ]; rfl
  have e0 : ((n : Int) - 0).toNat = n := by omega
  repeat' first | simp (disch := first | with_reducible assumption | omega) only [go_sem, Bool.true_and, Bool.and_true, Bool.and_self, Bool.false_and, Bool.and_false, Bool.true_or, Bool.or_true, Bool.false_or, Bool.or_false, ↓reduceIte, Nat.reduceEqDiff, Nat.reduceAdd, Nat.reduceMul, Nat.reduceSub, Nat.reduceBEq, Nat.reduceLeDiff, Nat.reduceLT, Nat.reduceMod, Nat.reduceDiv, Int.reduceToNat, Int.reducePow, Int.reduceMul, Int.reduceAdd, Int.reduceSub, Int.reduceLE, Int.reduceLT, Int.reduceNeg, Int.reduceDiv, Int.reduceMod, Int.reduceEq, Int.reduceBEq, Int.reduceBNe, f15, f15b, f15r0, f15r1, f15r2, f15r3, f15r4, f15r5, f15r6, h0, e] | (refine BrW.of (fun hb => ?_) (fun hb => ?_) <;> (have hb' := hb; try simp only [decide_eq_true_eq, decide_eq_false_iff_not, beq_iff_eq, bne_iff_ne, beq_eq_false_iff_ne, bne_eq_false_iff_eq, Bool.not_eq_true', Bool.not_eq_false', Bool.not_eq_true, Bool.not_eq_false, Bool.and_eq_true, Bool.or_eq_true, Bool.and_eq_false_iff, Bool.or_eq_false_iff, Int.not_lt, Int.not_le, ne_eq, gt_iff_lt, ge_iff_le] at hb') <;> (try (exfalso; omega)))
  · rw [e0, e]
    exact .here ⟨rfl, rfl⟩

def tot (p q : Nat) : Nat → Nat
  | 0 => 0
  | 1 => p
  | _ => p + q
def acc (L n : Nat) (x y : List Int) : Nat → Value
  | 0 => .slice (some ⟨L, 0, some 1⟩) 0 n
  | 1 => .slice (some ⟨L, 0, some 1⟩) x.length n
  | _ => .slice (some ⟨L, 0, some 1⟩) (x.length + y.length) n

theorem bcells_length (b : List Int) : (bcells b).length = b.length := by simp [bcells]
theorem bcells_bytes (b : List Int) (i : Nat) (h : i < b.length) : (bcells b)[i]? = some (.int .u8 (b.getD i 0)) := by simp [bcells, h]
theorem wr_mid (C : List Value) : ∀ (D A B : List Value), B.length = D.length → wr (A ++ (B ++ C)) A.length D = A ++ (D ++ C)
  | [], A, B, h => by rw [List.length_eq_zero_iff.1 h]; rfl
  | d :: D, A, [], h => by simp at h
  | d :: D, A, b :: B, h => by
    have := wr_mid C D (A ++ [d]) B (by simpa using h)
    simp only [wr]
    rw [show (A ++ (b :: B ++ C)).set A.length d = (A ++ [d]) ++ (B ++ C) by simp, show A.length + 1 = (A ++ [d]).length by simp, this]
    simp
def hp3 (x y : List Int) : Nat → List Value
  | 0 => List.replicate (x.length + y.length) (.int .u8 0)
  | 1 => bcells x ++ List.replicate y.length (.int .u8 0)
  | _ => bcells (x ++ y)

theorem Concat_spec (x y : List Int) (v w : Value) (k k1 o1 g1 c1 k2 o2 g2 c2 : Nat) (H : Heap) (hk : H[k]? = some (.cells 0 1 false [.slice (some ⟨k1, o1, some (g1 + 1)⟩) x.length c1, .slice (some ⟨k2, o2, some (g2 + 1)⟩) y.length c2]))
    (hx : Bytes H k1 o1 g1 x) (hy : Bytes H k2 o2 g2 y) (hlx : x.length ≤ 1048576) (hly : y.length ≤ 1048576) (hp : 0 < x.length + y.length) :
    ACallK Try.prog 13 [.slice (some ⟨k, 0, some 1⟩) 2 2] H (fun v H' => v = .slice (some ⟨H.length, 0, some 1⟩) (x.length + y.length) (x.length + y.length) ∧ H' = H ++ [.cells 0 1 false (bcells (x ++ y))]) := by
  obtain ⟨ro1, cs1, hk1, hle1, hcs1⟩ := hx
  obtain ⟨ro2, cs2, hk2, hle2, hcs2⟩ := hy
  refine .walkW f13_ok (by simp; decide) (by decide) ?_
  have hkn := get_old hk
  have ng1 : ¬ ((0 : Int) + (x.length : Int) < 0) := by omega
  have ng2 : ¬ ((x.length : Int) + (y.length : Int) < 0) := by omega
  have ng3 : x.length ≤ x.length + y.length := by omega
  have w1 := wr_mid (List.replicate y.length (.int .u8 0)) (bcells x) [] (List.replicate x.length (.int .u8 0)) (by simp [bcells_length])
  simp only [List.nil_append, List.length_nil] at w1
  have w2 := wr_mid [] (bcells y) (bcells x) (List.replicate y.length (.int .u8 0)) (by simp [bcells_length])
  simp only [List.append_nil, bcells_length] at w2
  have w3 : bcells x ++ bcells y = bcells (x ++ y) := by simp [bcells]
  rw [w3] at w2
  have z0 : ((0 : Nat) : Int) = 0 := rfl
  have z1 : ((0 + 1 : Nat) : Int) = 1 := rfl
  have z2 : ((0 + 1 + 1 : Nat) : Int) = 2 := rfl
  simp (disch := first | with_reducible assumption | omega) only [go_sem, Bool.true_and, Bool.and_true, Bool.and_self, Bool.false_and, Bool.and_false, Bool.true_or, Bool.or_true, Bool.false_or, Bool.or_false, ↓reduceIte, Nat.reduceEqDiff, Nat.reduceAdd, Nat.reduceMul, Nat.reduceSub, Nat.reduceBEq, Nat.reduceLeDiff, Nat.reduceLT, Nat.reduceMod, Nat.reduceDiv, Int.reduceToNat, Int.reducePow, Int.reduceMul, Int.reduceAdd, Int.reduceSub, Int.reduceLE, Int.reduceLT, Int.reduceNeg, Int.reduceDiv, Int.reduceMod, Int.reduceEq, Int.reduceBEq, Int.reduceBNe, f13, f13b, f13r0, f13r1, f13r2, f13r3, f13r4, f13r5, f13r6, f13r7, f13r8, f13r10, f13r11, f13r12, f13r13, f13r14, f13r15, f13r17, hk]
  refine loopW.of (by decide) (fun m e H' => ∃ i : Nat, i ≤ 2 ∧ e = [(0, .slice (some ⟨k, 0, some 1⟩) 2 2), (3, .int .i64 (tot x.length y.length i : Nat)), (9, .slice (some ⟨k, 0, some 1⟩) 2 2), (10, .int .i64 2), (11, .int .i64 i)] ∧ H' = H ∧ m = 3 - i) 3 ⟨0, by omega, rfl, rfl, rfl⟩ ?_
  · rintro m e H' ⟨i, hi, rfl, rfl, rfl⟩
    rcases i with _ | _ | _ | i
    · simp only [tot]
      simp (disch := first | with_reducible assumption | omega) only [go_sem, Bool.true_and, Bool.and_true, Bool.and_self, Bool.false_and, Bool.and_false, Bool.true_or, Bool.or_true, Bool.false_or, Bool.or_false, ↓reduceIte, Nat.reduceEqDiff, Nat.reduceAdd, Nat.reduceMul, Nat.reduceSub, Nat.reduceBEq, Nat.reduceLeDiff, Nat.reduceLT, Nat.reduceMod, Nat.reduceDiv, Int.reduceToNat, Int.reducePow, Int.reduceMul, Int.reduceAdd, Int.reduceSub, Int.reduceLE, Int.reduceLT, Int.reduceNeg, Int.reduceDiv, Int.reduceMod, Int.reduceEq, Int.reduceBEq, Int.reduceBNe, f13, f13b, f13r0, f13r1, f13r2, f13r3, f13r4, f13r5, f13r6, f13r7, f13r8, f13r10, f13r11, f13r12, f13r13, f13r14, f13r15, f13r17, f13l0, ng1, ng2, hk, hk1, hk2, z0, z1, z2]
      refine RdW.keep [0, 3, 9, 10, 11] 2 (by omega) ?_
      simp (disch := first | with_reducible assumption | omega) only [go_sem, Bool.true_and, Bool.and_true, Bool.and_self, Bool.false_and, Bool.and_false, Bool.true_or, Bool.or_true, Bool.false_or, Bool.or_false, ↓reduceIte, Nat.reduceEqDiff, Nat.reduceAdd, Nat.reduceMul, Nat.reduceSub, Nat.reduceBEq, Nat.reduceLeDiff, Nat.reduceLT, Nat.reduceMod, Nat.reduceDiv, Int.reduceToNat, Int.reducePow, Int.reduceMul, Int.reduceAdd, Int.reduceSub, Int.reduceLE, Int.reduceLT, Int.reduceNeg, Int.reduceDiv, Int.reduceMod, Int.reduceEq, Int.reduceBEq, Int.reduceBNe, f13, f13b, f13r0, f13r1, f13r2, f13r3, f13r4, f13r5, f13r6, f13r7, f13r8, f13r10, f13r11, f13r12, f13r13, f13r14, f13r15, f13r17]
      exact ⟨1, by decide, by simp [tot], rfl⟩
    · simp only [tot]
      simp (disch := first | with_reducible assumption | omega) only [go_sem, Bool.true_and, Bool.and_true, Bool.and_self, Bool.false_and, Bool.and_false, Bool.true_or, Bool.or_true, Bool.false_or, Bool.or_false, ↓reduceIte, Nat.reduceEqDiff, Nat.reduceAdd, Nat.reduceMul, Nat.reduceSub, Nat.reduceBEq, Nat.reduceLeDiff, Nat.reduceLT, Nat.reduceMod, Nat.reduceDiv, Int.reduceToNat, Int.reducePow, Int.reduceMul, Int.reduceAdd, Int.reduceSub, Int.reduceLE, Int.reduceLT, Int.reduceNeg, Int.reduceDiv, Int.reduceMod, Int.reduceEq, Int.reduceBEq, Int.reduceBNe, f13, f13b, f13r0, f13r1, f13r2, f13r3, f13r4, f13r5, f13r6, f13r7, f13r8, f13r10, f13r11, f13r12, f13r13, f13r14, f13r15, f13r17, f13l0, ng1, ng2, hk, hk1, hk2, z0, z1, z2]
      refine RdW.keep [0, 3, 9, 10, 11] 1 (by omega) ?_
      simp (disch := first | with_reducible assumption | omega) only [go_sem, Bool.true_and, Bool.and_true, Bool.and_self, Bool.false_and, Bool.and_false, Bool.true_or, Bool.or_true, Bool.false_or, Bool.or_false, ↓reduceIte, Nat.reduceEqDiff, Nat.reduceAdd, Nat.reduceMul, Nat.reduceSub, Nat.reduceBEq, Nat.reduceLeDiff, Nat.reduceLT, Nat.reduceMod, Nat.reduceDiv, Int.reduceToNat, Int.reducePow, Int.reduceMul, Int.reduceAdd, Int.reduceSub, Int.reduceLE, Int.reduceLT, Int.reduceNeg, Int.reduceDiv, Int.reduceMod, Int.reduceEq, Int.reduceBEq, Int.reduceBNe, f13, f13b, f13r0, f13r1, f13r2, f13r3, f13r4, f13r5, f13r6, f13r7, f13r8, f13r10, f13r11, f13r12, f13r13, f13r14, f13r15, f13r17]
      exact ⟨2, by decide, by simp [tot], rfl⟩
    · simp only [tot]
      simp (disch := first | with_reducible assumption | omega) only [go_sem, Bool.true_and, Bool.and_true, Bool.and_self, Bool.false_and, Bool.and_false, Bool.true_or, Bool.or_true, Bool.false_or, Bool.or_false, ↓reduceIte, Nat.reduceEqDiff, Nat.reduceAdd, Nat.reduceMul, Nat.reduceSub, Nat.reduceBEq, Nat.reduceLeDiff, Nat.reduceLT, Nat.reduceMod, Nat.reduceDiv, Int.reduceToNat, Int.reducePow, Int.reduceMul, Int.reduceAdd, Int.reduceSub, Int.reduceLE, Int.reduceLT, Int.reduceNeg, Int.reduceDiv, Int.reduceMod, Int.reduceEq, Int.reduceBEq, Int.reduceBNe, f13, f13b, f13r0, f13r1, f13r2, f13r3, f13r4, f13r5, f13r6, f13r7, f13r8, f13r10, f13r11, f13r12, f13r13, f13r14, f13r15, f13r17, f13l0, ng1, ng2, hk, hk1, hk2, z0, z1, z2]
      refine .of ((Grow_spec _ _ hp (by omega)).mono ?_)
      rintro v H1 ⟨rfl, rfl⟩
      simp (disch := first | with_reducible assumption | omega) only [go_sem, Bool.true_and, Bool.and_true, Bool.and_self, Bool.false_and, Bool.and_false, Bool.true_or, Bool.or_true, Bool.false_or, Bool.or_false, ↓reduceIte, Nat.reduceEqDiff, Nat.reduceAdd, Nat.reduceMul, Nat.reduceSub, Nat.reduceBEq, Nat.reduceLeDiff, Nat.reduceLT, Nat.reduceMod, Nat.reduceDiv, Int.reduceToNat, Int.reducePow, Int.reduceMul, Int.reduceAdd, Int.reduceSub, Int.reduceLE, Int.reduceLT, Int.reduceNeg, Int.reduceDiv, Int.reduceMod, Int.reduceEq, Int.reduceBEq, Int.reduceBNe, f13, f13b, f13r0, f13r1, f13r2, f13r3, f13r4, f13r5, f13r6, f13r7, f13r8, f13r10, f13r11, f13r12, f13r13, f13r14, f13r15, f13r17, hkn]
      have n1 := get_old hk1
      have n2 := get_old hk2
      refine loopW.of (by decide) (fun m e H1 => ∃ i : Nat, i ≤ 2 ∧ e = [(6, acc H'.length (x.length + y.length) x y i), (25, .slice (some ⟨k, 0, some 1⟩) 2 2), (26, .int .i64 2), (27, .int .i64 i)] ∧ H1 = H' ++ [.cells 0 1 false (hp3 x y i)] ∧ m = 3 - i) 3 ⟨0, by decide, rfl, rfl, rfl⟩ ?_
      · rintro m e H1 ⟨i, hi, rfl, rfl, rfl⟩
        rcases i with _ | _ | _ | i
        · simp only [acc, hp3]
          by_cases hz : x.length = 0
          · have hxn := List.length_eq_zero_iff.1 hz
            simp (disch := first | with_reducible assumption | omega) only [go_sem, Bool.true_and, Bool.and_true, Bool.and_self, Bool.false_and, Bool.and_false, Bool.true_or, Bool.or_true, Bool.false_or, Bool.or_false, ↓reduceIte, Nat.reduceEqDiff, Nat.reduceAdd, Nat.reduceMul, Nat.reduceSub, Nat.reduceBEq, Nat.reduceLeDiff, Nat.reduceLT, Nat.reduceMod, Nat.reduceDiv, Int.reduceToNat, Int.reducePow, Int.reduceMul, Int.reduceAdd, Int.reduceSub, Int.reduceLE, Int.reduceLT, Int.reduceNeg, Int.reduceDiv, Int.reduceMod, Int.reduceEq, Int.reduceBEq, Int.reduceBNe, f13, f13b, f13r0, f13r1, f13r2, f13r3, f13r4, f13r5, f13r6, f13r7, f13r8, f13r10, f13r11, f13r12, f13r13, f13r14, f13r15, f13r17, f13l1, hkn, n1, n2, z0, z1, z2, hz]
            refine RdW.keep [6, 25, 26, 27] 2 (by omega) ?_
            simp (disch := first | with_reducible assumption | omega) only [go_sem, Bool.true_and, Bool.and_true, Bool.and_self, Bool.false_and, Bool.and_false, Bool.true_or, Bool.or_true, Bool.false_or, Bool.or_false, ↓reduceIte, Nat.reduceEqDiff, Nat.reduceAdd, Nat.reduceMul, Nat.reduceSub, Nat.reduceBEq, Nat.reduceLeDiff, Nat.reduceLT, Nat.reduceMod, Nat.reduceDiv, Int.reduceToNat, Int.reducePow, Int.reduceMul, Int.reduceAdd, Int.reduceSub, Int.reduceLE, Int.reduceLT, Int.reduceNeg, Int.reduceDiv, Int.reduceMod, Int.reduceEq, Int.reduceBEq, Int.reduceBNe, f13, f13b, f13r0, f13r1, f13r2, f13r3, f13r4, f13r5, f13r6, f13r7, f13r8, f13r10, f13r11, f13r12, f13r13, f13r14, f13r15, f13r17]
            exact ⟨1, by decide, by simp [acc, hz], by simp [hp3, hxn, bcells], rfl⟩
          · simp (disch := first | with_reducible assumption | omega) only [go_sem, Bool.true_and, Bool.and_true, Bool.and_self, Bool.false_and, Bool.and_false, Bool.true_or, Bool.or_true, Bool.false_or, Bool.or_false, ↓reduceIte, Nat.reduceEqDiff, Nat.reduceAdd, Nat.reduceMul, Nat.reduceSub, Nat.reduceBEq, Nat.reduceLeDiff, Nat.reduceLT, Nat.reduceMod, Nat.reduceDiv, Int.reduceToNat, Int.reducePow, Int.reduceMul, Int.reduceAdd, Int.reduceSub, Int.reduceLE, Int.reduceLT, Int.reduceNeg, Int.reduceDiv, Int.reduceMod, Int.reduceEq, Int.reduceBEq, Int.reduceBNe, f13, f13b, f13r0, f13r1, f13r2, f13r3, f13r4, f13r5, f13r6, f13r7, f13r8, f13r10, f13r11, f13r12, f13r13, f13r14, f13r15, f13r17, f13l1, hkn, n1, n2, z0, z1, z2, hz, ng3, List.length_replicate]
            refine RdW.keep [6, 25, 26, 27] 2 (by omega) ?_
            simp (disch := first | with_reducible assumption | omega) only [go_sem, Bool.true_and, Bool.and_true, Bool.and_self, Bool.false_and, Bool.and_false, Bool.true_or, Bool.or_true, Bool.false_or, Bool.or_false, ↓reduceIte, Nat.reduceEqDiff, Nat.reduceAdd, Nat.reduceMul, Nat.reduceSub, Nat.reduceBEq, Nat.reduceLeDiff, Nat.reduceLT, Nat.reduceMod, Nat.reduceDiv, Int.reduceToNat, Int.reducePow, Int.reduceMul, Int.reduceAdd, Int.reduceSub, Int.reduceLE, Int.reduceLT, Int.reduceNeg, Int.reduceDiv, Int.reduceMod, Int.reduceEq, Int.reduceBEq, Int.reduceBNe, f13, f13b, f13r0, f13r1, f13r2, f13r3, f13r4, f13r5, f13r6, f13r7, f13r8, f13r10, f13r11, f13r12, f13r13, f13r14, f13r15, f13r17]
            exact ⟨1, by decide, by simp [acc], by rw [bytes_take hcs1, show hp3 x y 1 = bcells x ++ List.replicate y.length (.int .u8 0) from rfl, ← w1, List.replicate_append_replicate], rfl⟩
        · simp only [acc, hp3]
          by_cases hz : y.length = 0
          · have hyn := List.length_eq_zero_iff.1 hz
            simp (disch := first | with_reducible assumption | omega) only [go_sem, Bool.true_and, Bool.and_true, Bool.and_self, Bool.false_and, Bool.and_false, Bool.true_or, Bool.or_true, Bool.false_or, Bool.or_false, ↓reduceIte, Nat.reduceEqDiff, Nat.reduceAdd, Nat.reduceMul, Nat.reduceSub, Nat.reduceBEq, Nat.reduceLeDiff, Nat.reduceLT, Nat.reduceMod, Nat.reduceDiv, Int.reduceToNat, Int.reducePow, Int.reduceMul, Int.reduceAdd, Int.reduceSub, Int.reduceLE, Int.reduceLT, Int.reduceNeg, Int.reduceDiv, Int.reduceMod, Int.reduceEq, Int.reduceBEq, Int.reduceBNe, f13, f13b, f13r0, f13r1, f13r2, f13r3, f13r4, f13r5, f13r6, f13r7, f13r8, f13r10, f13r11, f13r12, f13r13, f13r14, f13r15, f13r17, f13l1, hkn, n1, n2, z0, z1, z2, hz]
            refine RdW.keep [6, 25, 26, 27] 1 (by omega) ?_
            simp (disch := first | with_reducible assumption | omega) only [go_sem, Bool.true_and, Bool.and_true, Bool.and_self, Bool.false_and, Bool.and_false, Bool.true_or, Bool.or_true, Bool.false_or, Bool.or_false, ↓reduceIte, Nat.reduceEqDiff, Nat.reduceAdd, Nat.reduceMul, Nat.reduceSub, Nat.reduceBEq, Nat.reduceLeDiff, Nat.reduceLT, Nat.reduceMod, Nat.reduceDiv, Int.reduceToNat, Int.reducePow, Int.reduceMul, Int.reduceAdd, Int.reduceSub, Int.reduceLE, Int.reduceLT, Int.reduceNeg, Int.reduceDiv, Int.reduceMod, Int.reduceEq, Int.reduceBEq, Int.reduceBNe, f13, f13b, f13r0, f13r1, f13r2, f13r3, f13r4, f13r5, f13r6, f13r7, f13r8, f13r10, f13r11, f13r12, f13r13, f13r14, f13r15, f13r17]
            exact ⟨2, by decide, by simp [acc, hz], by simp [hp3, hyn, bcells], rfl⟩
          · simp (disch := first | with_reducible assumption | omega) only [go_sem, Bool.true_and, Bool.and_true, Bool.and_self, Bool.false_and, Bool.and_false, Bool.true_or, Bool.or_true, Bool.false_or, Bool.or_false, ↓reduceIte, Nat.reduceEqDiff, Nat.reduceAdd, Nat.reduceMul, Nat.reduceSub, Nat.reduceBEq, Nat.reduceLeDiff, Nat.reduceLT, Nat.reduceMod, Nat.reduceDiv, Int.reduceToNat, Int.reducePow, Int.reduceMul, Int.reduceAdd, Int.reduceSub, Int.reduceLE, Int.reduceLT, Int.reduceNeg, Int.reduceDiv, Int.reduceMod, Int.reduceEq, Int.reduceBEq, Int.reduceBNe, f13, f13b, f13r0, f13r1, f13r2, f13r3, f13r4, f13r5, f13r6, f13r7, f13r8, f13r10, f13r11, f13r12, f13r13, f13r14, f13r15, f13r17, f13l1, hkn, n1, n2, z0, z1, z2, hz, List.length_replicate, List.length_append, bcells_length]
            refine RdW.keep [6, 25, 26, 27] 1 (by omega) ?_
            simp (disch := first | with_reducible assumption | omega) only [go_sem, Bool.true_and, Bool.and_true, Bool.and_self, Bool.false_and, Bool.and_false, Bool.true_or, Bool.or_true, Bool.false_or, Bool.or_false, ↓reduceIte, Nat.reduceEqDiff, Nat.reduceAdd, Nat.reduceMul, Nat.reduceSub, Nat.reduceBEq, Nat.reduceLeDiff, Nat.reduceLT, Nat.reduceMod, Nat.reduceDiv, Int.reduceToNat, Int.reducePow, Int.reduceMul, Int.reduceAdd, Int.reduceSub, Int.reduceLE, Int.reduceLT, Int.reduceNeg, Int.reduceDiv, Int.reduceMod, Int.reduceEq, Int.reduceBEq, Int.reduceBNe, f13, f13b, f13r0, f13r1, f13r2, f13r3, f13r4, f13r5, f13r6, f13r7, f13r8, f13r10, f13r11, f13r12, f13r13, f13r14, f13r15, f13r17]
            exact ⟨2, by decide, by simp [acc], by rw [bytes_take hcs2, show hp3 x y 2 = bcells (x ++ y) from rfl, w2], rfl⟩
        · simp only [acc, hp3]
          simp (disch := first | with_reducible assumption | omega) only [go_sem, Bool.true_and, Bool.and_true, Bool.and_self, Bool.false_and, Bool.and_false, Bool.true_or, Bool.or_true, Bool.false_or, Bool.or_false, ↓reduceIte, Nat.reduceEqDiff, Nat.reduceAdd, Nat.reduceMul, Nat.reduceSub, Nat.reduceBEq, Nat.reduceLeDiff, Nat.reduceLT, Nat.reduceMod, Nat.reduceDiv, Int.reduceToNat, Int.reducePow, Int.reduceMul, Int.reduceAdd, Int.reduceSub, Int.reduceLE, Int.reduceLT, Int.reduceNeg, Int.reduceDiv, Int.reduceMod, Int.reduceEq, Int.reduceBEq, Int.reduceBNe, f13, f13b, f13r0, f13r1, f13r2, f13r3, f13r4, f13r5, f13r6, f13r7, f13r8, f13r10, f13r11, f13r12, f13r13, f13r14, f13r15, f13r17, f13l1, hkn, n1, n2, z0, z1, z2]
          exact .here ⟨rfl, rfl⟩
        · omega
    · omega

theorem Grow_zero (H : Heap) : ACallK Try.prog 15 [.slice none 0 0, .int .i64 0] H (fun v H' => v = .slice none 0 0 ∧ H' = H) := by
  refine .walkW f15_ok (by simp; decide) (by decide) ?_
  repeat' first | simp (disch := first | with_reducible assumption | omega) only [go_sem, Bool.true_and, Bool.and_true, Bool.and_self, Bool.false_and, Bool.and_false, Bool.true_or, Bool.or_true, Bool.false_or, Bool.or_false, ↓reduceIte, Nat.reduceEqDiff, Nat.reduceAdd, Nat.reduceMul, Nat.reduceSub, Nat.reduceBEq, Nat.reduceLeDiff, Nat.reduceLT, Nat.reduceMod, Nat.reduceDiv, Int.reduceToNat, Int.reducePow, Int.reduceMul, Int.reduceAdd, Int.reduceSub, Int.reduceLE, Int.reduceLT, Int.reduceNeg, Int.reduceDiv, Int.reduceMod, Int.reduceEq, Int.reduceBEq, Int.reduceBNe, f15, f15b, f15r0, f15r1, f15r2, f15r3, f15r4, f15r5, f15r6] | (refine BrW.of (fun hb => ?_) (fun hb => ?_) <;> (have hb' := hb; try simp only [decide_eq_true_eq, decide_eq_false_iff_not, beq_iff_eq, bne_iff_ne, beq_eq_false_iff_ne, bne_eq_false_iff_eq, Bool.not_eq_true', Bool.not_eq_false', Bool.not_eq_true, Bool.not_eq_false, Bool.and_eq_true, Bool.or_eq_true, Bool.and_eq_false_iff, Bool.or_eq_false_iff, Int.not_lt, Int.not_le, ne_eq, gt_iff_lt, ge_iff_le] at hb') <;> (try (exfalso; omega)))
  exact .here ⟨rfl, rfl⟩

theorem Concat_zero (k k1 o1 g1 c1 k2 o2 g2 c2 : Nat) (H : Heap) (hk : H[k]? = some (.cells 0 1 false [.slice (some ⟨k1, o1, some (g1 + 1)⟩) 0 c1, .slice (some ⟨k2, o2, some (g2 + 1)⟩) 0 c2]))
    (hx : Bytes H k1 o1 g1 []) (hy : Bytes H k2 o2 g2 []) :
    ACallK Try.prog 13 [.slice (some ⟨k, 0, some 1⟩) 2 2] H (fun v H' => v = .slice none 0 0 ∧ H' = H) := by
  obtain ⟨ro1, cs1, hk1, hle1, hcs1⟩ := hx
  obtain ⟨ro2, cs2, hk2, hle2, hcs2⟩ := hy
  refine .walkW f13_ok (by simp; decide) (by decide) ?_
  have z0 : ((0 : Nat) : Int) = 0 := rfl
  have z1 : ((0 + 1 : Nat) : Int) = 1 := rfl
  have z2 : ((0 + 1 + 1 : Nat) : Int) = 2 := rfl
  simp (disch := first | with_reducible assumption | omega) only [go_sem, Bool.true_and, Bool.and_true, Bool.and_self, Bool.false_and, Bool.and_false, Bool.true_or, Bool.or_true, Bool.false_or, Bool.or_false, ↓reduceIte, Nat.reduceEqDiff, Nat.reduceAdd, Nat.reduceMul, Nat.reduceSub, Nat.reduceBEq, Nat.reduceLeDiff, Nat.reduceLT, Nat.reduceMod, Nat.reduceDiv, Int.reduceToNat, Int.reducePow, Int.reduceMul, Int.reduceAdd, Int.reduceSub, Int.reduceLE, Int.reduceLT, Int.reduceNeg, Int.reduceDiv, Int.reduceMod, Int.reduceEq, Int.reduceBEq, Int.reduceBNe, f13, f13b, f13r0, f13r1, f13r2, f13r3, f13r4, f13r5, f13r6, f13r7, f13r8, f13r10, f13r11, f13r12, f13r13, f13r14, f13r15, f13r17, hk]
  refine loopW.of (by decide) (fun m e H' => ∃ i : Nat, i ≤ 2 ∧ e = [(0, .slice (some ⟨k, 0, some 1⟩) 2 2), (3, .int .i64 0), (9, .slice (some ⟨k, 0, some 1⟩) 2 2), (10, .int .i64 2), (11, .int .i64 i)] ∧ H' = H ∧ m = 3 - i) 3 ⟨0, by omega, rfl, rfl, rfl⟩ ?_
  · rintro m e H' ⟨i, hi, rfl, rfl, rfl⟩
    rcases i with _ | _ | _ | i
    · simp (disch := first | with_reducible assumption | omega) only [go_sem, Bool.true_and, Bool.and_true, Bool.and_self, Bool.false_and, Bool.and_false, Bool.true_or, Bool.or_true, Bool.false_or, Bool.or_false, ↓reduceIte, Nat.reduceEqDiff, Nat.reduceAdd, Nat.reduceMul, Nat.reduceSub, Nat.reduceBEq, Nat.reduceLeDiff, Nat.reduceLT, Nat.reduceMod, Nat.reduceDiv, Int.reduceToNat, Int.reducePow, Int.reduceMul, Int.reduceAdd, Int.reduceSub, Int.reduceLE, Int.reduceLT, Int.reduceNeg, Int.reduceDiv, Int.reduceMod, Int.reduceEq, Int.reduceBEq, Int.reduceBNe, f13, f13b, f13r0, f13r1, f13r2, f13r3, f13r4, f13r5, f13r6, f13r7, f13r8, f13r10, f13r11, f13r12, f13r13, f13r14, f13r15, f13r17, f13l0, hk, hk1, hk2, z0, z1, z2]
      refine RdW.keep [0, 3, 9, 10, 11] 2 (by omega) ?_
      simp (disch := first | with_reducible assumption | omega) only [go_sem, Bool.true_and, Bool.and_true, Bool.and_self, Bool.false_and, Bool.and_false, Bool.true_or, Bool.or_true, Bool.false_or, Bool.or_false, ↓reduceIte, Nat.reduceEqDiff, Nat.reduceAdd, Nat.reduceMul, Nat.reduceSub, Nat.reduceBEq, Nat.reduceLeDiff, Nat.reduceLT, Nat.reduceMod, Nat.reduceDiv, Int.reduceToNat, Int.reducePow, Int.reduceMul, Int.reduceAdd, Int.reduceSub, Int.reduceLE, Int.reduceLT, Int.reduceNeg, Int.reduceDiv, Int.reduceMod, Int.reduceEq, Int.reduceBEq, Int.reduceBNe, f13, f13b, f13r0, f13r1, f13r2, f13r3, f13r4, f13r5, f13r6, f13r7, f13r8, f13r10, f13r11, f13r12, f13r13, f13r14, f13r15, f13r17]
      exact ⟨1, by decide, rfl, rfl⟩
    · simp (disch := first | with_reducible assumption | omega) only [go_sem, Bool.true_and, Bool.and_true, Bool.and_self, Bool.false_and, Bool.and_false, Bool.true_or, Bool.or_true, Bool.false_or, Bool.or_false, ↓reduceIte, Nat.reduceEqDiff, Nat.reduceAdd, Nat.reduceMul, Nat.reduceSub, Nat.reduceBEq, Nat.reduceLeDiff, Nat.reduceLT, Nat.reduceMod, Nat.reduceDiv, Int.reduceToNat, Int.reducePow, Int.reduceMul, Int.reduceAdd, Int.reduceSub, Int.reduceLE, Int.reduceLT, Int.reduceNeg, Int.reduceDiv, Int.reduceMod, Int.reduceEq, Int.reduceBEq, Int.reduceBNe, f13, f13b, f13r0, f13r1, f13r2, f13r3, f13r4, f13r5, f13r6, f13r7, f13r8, f13r10, f13r11, f13r12, f13r13, f13r14, f13r15, f13r17, f13l0, hk, hk1, hk2, z0, z1, z2]
      refine RdW.keep [0, 3, 9, 10, 11] 1 (by omega) ?_
      simp (disch := first | with_reducible assumption | omega) only [go_sem, Bool.true_and, Bool.and_true, Bool.and_self, Bool.false_and, Bool.and_false, Bool.true_or, Bool.or_true, Bool.false_or, Bool.or_false, ↓reduceIte, Nat.reduceEqDiff, Nat.reduceAdd, Nat.reduceMul, Nat.reduceSub, Nat.reduceBEq, Nat.reduceLeDiff, Nat.reduceLT, Nat.reduceMod, Nat.reduceDiv, Int.reduceToNat, Int.reducePow, Int.reduceMul, Int.reduceAdd, Int.reduceSub, Int.reduceLE, Int.reduceLT, Int.reduceNeg, Int.reduceDiv, Int.reduceMod, Int.reduceEq, Int.reduceBEq, Int.reduceBNe, f13, f13b, f13r0, f13r1, f13r2, f13r3, f13r4, f13r5, f13r6, f13r7, f13r8, f13r10, f13r11, f13r12, f13r13, f13r14, f13r15, f13r17]
      exact ⟨2, by decide, rfl, rfl⟩
    · simp (disch := first | with_reducible assumption | omega) only [go_sem, Bool.true_and, Bool.and_true, Bool.and_self, Bool.false_and, Bool.and_false, Bool.true_or, Bool.or_true, Bool.false_or, Bool.or_false, ↓reduceIte, Nat.reduceEqDiff, Nat.reduceAdd, Nat.reduceMul, Nat.reduceSub, Nat.reduceBEq, Nat.reduceLeDiff, Nat.reduceLT, Nat.reduceMod, Nat.reduceDiv, Int.reduceToNat, Int.reducePow, Int.reduceMul, Int.reduceAdd, Int.reduceSub, Int.reduceLE, Int.reduceLT, Int.reduceNeg, Int.reduceDiv, Int.reduceMod, Int.reduceEq, Int.reduceBEq, Int.reduceBNe, f13, f13b, f13r0, f13r1, f13r2, f13r3, f13r4, f13r5, f13r6, f13r7, f13r8, f13r10, f13r11, f13r12, f13r13, f13r14, f13r15, f13r17, f13l0, hk, hk1, hk2, z0, z1, z2]
      refine .of ((Grow_zero _).mono ?_)
      rintro v H1 ⟨rfl, rfl⟩
      simp (disch := first | with_reducible assumption | omega) only [go_sem, Bool.true_and, Bool.and_true, Bool.and_self, Bool.false_and, Bool.and_false, Bool.true_or, Bool.or_true, Bool.false_or, Bool.or_false, ↓reduceIte, Nat.reduceEqDiff, Nat.reduceAdd, Nat.reduceMul, Nat.reduceSub, Nat.reduceBEq, Nat.reduceLeDiff, Nat.reduceLT, Nat.reduceMod, Nat.reduceDiv, Int.reduceToNat, Int.reducePow, Int.reduceMul, Int.reduceAdd, Int.reduceSub, Int.reduceLE, Int.reduceLT, Int.reduceNeg, Int.reduceDiv, Int.reduceMod, Int.reduceEq, Int.reduceBEq, Int.reduceBNe, f13, f13b, f13r0, f13r1, f13r2, f13r3, f13r4, f13r5, f13r6, f13r7, f13r8, f13r10, f13r11, f13r12, f13r13, f13r14, f13r15, f13r17, hk]
      refine loopW.of (by decide) (fun m e H' => ∃ i : Nat, i ≤ 2 ∧ e = [(6, .slice none 0 0), (25, .slice (some ⟨k, 0, some 1⟩) 2 2), (26, .int .i64 2), (27, .int .i64 i)] ∧ H' = H1 ∧ m = 3 - i) 3 ⟨0, by decide, rfl, rfl, rfl⟩ ?_
      · rintro m e H' ⟨i, hi, rfl, rfl, rfl⟩
        rcases i with _ | _ | _ | i
        · simp (disch := first | with_reducible assumption | omega) only [go_sem, Bool.true_and, Bool.and_true, Bool.and_self, Bool.false_and, Bool.and_false, Bool.true_or, Bool.or_true, Bool.false_or, Bool.or_false, ↓reduceIte, Nat.reduceEqDiff, Nat.reduceAdd, Nat.reduceMul, Nat.reduceSub, Nat.reduceBEq, Nat.reduceLeDiff, Nat.reduceLT, Nat.reduceMod, Nat.reduceDiv, Int.reduceToNat, Int.reducePow, Int.reduceMul, Int.reduceAdd, Int.reduceSub, Int.reduceLE, Int.reduceLT, Int.reduceNeg, Int.reduceDiv, Int.reduceMod, Int.reduceEq, Int.reduceBEq, Int.reduceBNe, f13, f13b, f13r0, f13r1, f13r2, f13r3, f13r4, f13r5, f13r6, f13r7, f13r8, f13r10, f13r11, f13r12, f13r13, f13r14, f13r15, f13r17, f13l1, hk, hk1, hk2, z0, z1, z2]
          refine RdW.keep [6, 25, 26, 27] 2 (by omega) ?_
          simp (disch := first | with_reducible assumption | omega) only [go_sem, Bool.true_and, Bool.and_true, Bool.and_self, Bool.false_and, Bool.and_false, Bool.true_or, Bool.or_true, Bool.false_or, Bool.or_false, ↓reduceIte, Nat.reduceEqDiff, Nat.reduceAdd, Nat.reduceMul, Nat.reduceSub, Nat.reduceBEq, Nat.reduceLeDiff, Nat.reduceLT, Nat.reduceMod, Nat.reduceDiv, Int.reduceToNat, Int.reducePow, Int.reduceMul, Int.reduceAdd, Int.reduceSub, Int.reduceLE, Int.reduceLT, Int.reduceNeg, Int.reduceDiv, Int.reduceMod, Int.reduceEq, Int.reduceBEq, Int.reduceBNe, f13, f13b, f13r0, f13r1, f13r2, f13r3, f13r4, f13r5, f13r6, f13r7, f13r8, f13r10, f13r11, f13r12, f13r13, f13r14, f13r15, f13r17]
          exact ⟨1, by decide, rfl, rfl⟩
        · simp (disch := first | with_reducible assumption | omega) only [go_sem, Bool.true_and, Bool.and_true, Bool.and_self, Bool.false_and, Bool.and_false, Bool.true_or, Bool.or_true, Bool.false_or, Bool.or_false, ↓reduceIte, Nat.reduceEqDiff, Nat.reduceAdd, Nat.reduceMul, Nat.reduceSub, Nat.reduceBEq, Nat.reduceLeDiff, Nat.reduceLT, Nat.reduceMod, Nat.reduceDiv, Int.reduceToNat, Int.reducePow, Int.reduceMul, Int.reduceAdd, Int.reduceSub, Int.reduceLE, Int.reduceLT, Int.reduceNeg, Int.reduceDiv, Int.reduceMod, Int.reduceEq, Int.reduceBEq, Int.reduceBNe, f13, f13b, f13r0, f13r1, f13r2, f13r3, f13r4, f13r5, f13r6, f13r7, f13r8, f13r10, f13r11, f13r12, f13r13, f13r14, f13r15, f13r17, f13l1, hk, hk1, hk2, z0, z1, z2]
          refine RdW.keep [6, 25, 26, 27] 1 (by omega) ?_
          simp (disch := first | with_reducible assumption | omega) only [go_sem, Bool.true_and, Bool.and_true, Bool.and_self, Bool.false_and, Bool.and_false, Bool.true_or, Bool.or_true, Bool.false_or, Bool.or_false, ↓reduceIte, Nat.reduceEqDiff, Nat.reduceAdd, Nat.reduceMul, Nat.reduceSub, Nat.reduceBEq, Nat.reduceLeDiff, Nat.reduceLT, Nat.reduceMod, Nat.reduceDiv, Int.reduceToNat, Int.reducePow, Int.reduceMul, Int.reduceAdd, Int.reduceSub, Int.reduceLE, Int.reduceLT, Int.reduceNeg, Int.reduceDiv, Int.reduceMod, Int.reduceEq, Int.reduceBEq, Int.reduceBNe, f13, f13b, f13r0, f13r1, f13r2, f13r3, f13r4, f13r5, f13r6, f13r7, f13r8, f13r10, f13r11, f13r12, f13r13, f13r14, f13r15, f13r17]
          exact ⟨2, by decide, rfl, rfl⟩
        · simp (disch := first | with_reducible assumption | omega) only [go_sem, Bool.true_and, Bool.and_true, Bool.and_self, Bool.false_and, Bool.and_false, Bool.true_or, Bool.or_true, Bool.false_or, Bool.or_false, ↓reduceIte, Nat.reduceEqDiff, Nat.reduceAdd, Nat.reduceMul, Nat.reduceSub, Nat.reduceBEq, Nat.reduceLeDiff, Nat.reduceLT, Nat.reduceMod, Nat.reduceDiv, Int.reduceToNat, Int.reducePow, Int.reduceMul, Int.reduceAdd, Int.reduceSub, Int.reduceLE, Int.reduceLT, Int.reduceNeg, Int.reduceDiv, Int.reduceMod, Int.reduceEq, Int.reduceBEq, Int.reduceBNe, f13, f13b, f13r0, f13r1, f13r2, f13r3, f13r4, f13r5, f13r6, f13r7, f13r8, f13r10, f13r11, f13r12, f13r13, f13r14, f13r15, f13r17, f13l1, hk, hk1, hk2, z0, z1, z2]
          exact .here ⟨rfl, rfl⟩
        · omega
    · omega

theorem Of_zero (H : Heap) : ACallK Try.prog 9 [.slice none 0 0] H (fun v H' => v = .int .u16 0 ∧ H' = H) := by
  refine .walkW f9_ok (by simp; decide) (by decide) ?_
  simp (disch := first | with_reducible assumption | omega) only [go_sem, Bool.true_and, Bool.and_true, Bool.and_self, Bool.false_and, Bool.and_false, Bool.true_or, Bool.or_true, Bool.false_or, Bool.or_false, ↓reduceIte, Nat.reduceEqDiff, Nat.reduceAdd, Nat.reduceMul, Nat.reduceSub, Nat.reduceBEq, Nat.reduceLeDiff, Nat.reduceLT, Nat.reduceMod, Nat.reduceDiv, Int.reduceToNat, Int.reducePow, Int.reduceMul, Int.reduceAdd, Int.reduceSub, Int.reduceLE, Int.reduceLT, Int.reduceNeg, Int.reduceDiv, Int.reduceMod, Int.reduceEq, Int.reduceBEq, Int.reduceBNe, f9, f9b, f9r0, f9r1, f9r2, f9r3, f9r4, f9r5, f9r6, f9r7, f9r9]
  refine loopW.of (by decide) (fun m e H' => e = [(0, .slice none 0 0), (3, .int .u64 0), (4, .int .i64 0)] ∧ H' = H) 1 ⟨rfl, rfl⟩ ?_
  rintro m e H' ⟨rfl, rfl⟩
  simp (disch := first | with_reducible assumption | omega) only [go_sem, Bool.true_and, Bool.and_true, Bool.and_self, Bool.false_and, Bool.and_false, Bool.true_or, Bool.or_true, Bool.false_or, Bool.or_false, ↓reduceIte, Nat.reduceEqDiff, Nat.reduceAdd, Nat.reduceMul, Nat.reduceSub, Nat.reduceBEq, Nat.reduceLeDiff, Nat.reduceLT, Nat.reduceMod, Nat.reduceDiv, Int.reduceToNat, Int.reducePow, Int.reduceMul, Int.reduceAdd, Int.reduceSub, Int.reduceLE, Int.reduceLT, Int.reduceNeg, Int.reduceDiv, Int.reduceMod, Int.reduceEq, Int.reduceBEq, Int.reduceBNe, f9, f9b, f9r0, f9r1, f9r2, f9r3, f9r4, f9r5, f9r6, f9r7, f9r9, f9l0]
  refine .of ((fold_spec 0 _ (by omega) (by omega)).mono ?_)
  rintro v H' ⟨rfl, rfl⟩
  simp (disch := first | with_reducible assumption | omega) only [go_sem, Bool.true_and, Bool.and_true, Bool.and_self, Bool.false_and, Bool.and_false, Bool.true_or, Bool.or_true, Bool.false_or, Bool.or_false, ↓reduceIte, Nat.reduceEqDiff, Nat.reduceAdd, Nat.reduceMul, Nat.reduceSub, Nat.reduceBEq, Nat.reduceLeDiff, Nat.reduceLT, Nat.reduceMod, Nat.reduceDiv, Int.reduceToNat, Int.reducePow, Int.reduceMul, Int.reduceAdd, Int.reduceSub, Int.reduceLE, Int.reduceLT, Int.reduceNeg, Int.reduceDiv, Int.reduceMod, Int.reduceEq, Int.reduceBEq, Int.reduceBNe, f9, f9b, f9r0, f9r1, f9r2, f9r3, f9r4, f9r5, f9r6, f9r7, f9r9]
  exact .here ⟨by rw [show foldZ 0 = 0 by decide], rfl⟩

theorem Bytes.app {H : Heap} {k o g : Nat} {b : List Int} (h : Bytes H k o g b) (l : Heap) : Bytes (H ++ l) k o g b := by
  obtain ⟨ro, cs, hk, hle, hcs⟩ := h
  exact ⟨ro, cs, get_old hk _, hle, hcs⟩

/-- The sum of what was put together. -/
theorem Join_spec (x y : List Int) (k k1 o1 g1 c1 k2 o2 g2 c2 : Nat) (H : Heap) (hk : H[k]? = some (.cells 0 1 false [.slice (some ⟨k1, o1, some (g1 + 1)⟩) x.length c1, .slice (some ⟨k2, o2, some (g2 + 1)⟩) y.length c2]))
    (hx : Bytes H k1 o1 g1 x) (hy : Bytes H k2 o2 g2 y) (hlx : x.length ≤ 1048576) (hly : y.length ≤ 1048576) (hbx : byteL x) (hby : byteL y) :
    ACallK Try.prog 13 [.slice (some ⟨k, 0, some 1⟩) 2 2] H (fun v H' => (∀ k o g b, Bytes H k o g b → Bytes H' k o g b) ∧ ACallK Try.prog 9 [v] H' (fun w H'' => w = .int .u16 (foldZ (sumP (x ++ y))) ∧ H'' = H')) := by
  by_cases hz : x.length + y.length = 0
  · obtain rfl := List.length_eq_zero_iff.1 (show x.length = 0 by omega)
    obtain rfl := List.length_eq_zero_iff.1 (show y.length = 0 by omega)
    refine (Concat_zero k k1 o1 g1 c1 k2 o2 g2 c2 H hk hx hy).mono ?_
    rintro v H ⟨rfl, rfl⟩
    exact ⟨fun _ _ _ _ h => h, (Of_zero _).mono fun v H h => h⟩
  · refine (Concat_spec x y (.bool true) (.bool true) k k1 o1 g1 c1 k2 o2 g2 c2 H hk hx hy hlx hly (by omega)).mono ?_
    rintro v H' ⟨rfl, rfl⟩
    refine ⟨fun _ _ _ _ h => h.app _, ?_⟩
    rw [← List.length_append]
    refine Of_spec (x ++ y) H.length 0 0 _ _ (fun z hz => ?_) ⟨false, _, get_new0 _ _ _, by simp [bcells_length], fun i hi => ?_⟩ (by simp; omega)
    · rcases List.mem_append.1 hz with h | h
      · exact hbx z h
      · exact hby z h
    · rw [Nat.zero_add]; exact bcells_bytes _ i hi

abbrev slb (k o g n c : Nat) : Value := .slice (some ⟨k, o, some (g + 1)⟩) n c
/-- Bytes that came in. -/
theorem bytes_of {B : Nat} {H : Heap} {v : Value} (h : ArgOk B H (false, [.slice [.int .u8]]) v) : ∃ k c, ∃ b : List Int, v = slb k 0 0 b.length c ∧ b.length ≤ B ∧ b.length ≤ c ∧ byteL b ∧ Bytes H k 0 0 b := by
  obtain ⟨k, n, zs, rfl, hn, hB, hk, hz⟩ := h.cell.ints
  have hl : (zs.take n).length = n := by simp; omega
  refine ⟨k, zs.length, zs.take n, by rw [hl], by omega, by omega, fun x hx => hz x (List.mem_of_mem_take hx), ⟨true, _, hk, by simp; omega, fun i hi => ?_⟩⟩
  rw [hl] at hi
  rw [Nat.zero_add, List.getElem?_map, List.getElem?_eq_getElem (by omega : i < zs.length)]
  simp [List.getD_eq_getElem?_getD, hi, List.getElem?_eq_getElem (by omega : i < zs.length)]
theorem SumsGroup_args (H : Heap) (vals : List Value) (h : ArgsOk 1048576 H SumsGroupSh vals) : ACallK Try.prog 5 vals H fun v _ => v = .bool true := by
  obtain ⟨_, _, rfl, a1, h⟩ := h.cons
  obtain ⟨_, _, rfl, a2, h⟩ := h.cons
  obtain ⟨_, _, rfl, a3, h⟩ := h.cons
  obtain ⟨_, _, rfl, a4, h⟩ := h.cons
  obtain ⟨_, _, rfl, a5, h⟩ := h.cons
  obtain rfl := h.nil
  obtain ⟨a, rfl, ha⟩ := a1.cell.int_inv
  obtain ⟨b, rfl, hb⟩ := a2.cell.int_inv
  obtain ⟨c, rfl, hc⟩ := a3.cell.int_inv
  have ha' : 0 ≤ a ∧ a ≤ 65535 := ha
  have hb' : 0 ≤ b ∧ b ≤ 65535 := hb
  have hc' : 0 ≤ c ∧ c ≤ 65535 := hc
  clear ha hb hc a1 a2 a3 h
  obtain ⟨k1, c1, x, rfl, hB1, hlc1, hb1, hs1⟩ := bytes_of a4
  obtain ⟨k2, c2, y, rfl, hB2, hlc2, hb2, hs2⟩ := bytes_of a5
  clear a4 a5
  refine .walkW f5_ok (by simp; decide) (by decide) ?_
  simp (disch := first | with_reducible assumption | omega) only [go_sem, Bool.true_and, Bool.and_true, Bool.and_self, Bool.false_and, Bool.and_false, Bool.true_or, Bool.or_true, Bool.false_or, Bool.or_false, ↓reduceIte, Nat.reduceEqDiff, Nat.reduceAdd, Nat.reduceMul, Nat.reduceSub, Nat.reduceBEq, Nat.reduceLeDiff, Nat.reduceLT, Nat.reduceMod, Nat.reduceDiv, Int.reduceToNat, Int.reducePow, Int.reduceMul, Int.reduceAdd, Int.reduceSub, Int.reduceLE, Int.reduceLT, Int.reduceNeg, Int.reduceDiv, Int.reduceMod, Int.reduceEq, Int.reduceBEq, Int.reduceBNe, f5, f5b, f5r0, f5r1, f5r2, f5r3, f5r4, f5r5, f5r6, f5r7, f5r8]
  refine .of ((alive _).mono ?_)
  rintro v H1 ⟨rfl, rfl⟩
  simp (disch := first | with_reducible assumption | omega) only [go_sem, Bool.true_and, Bool.and_true, Bool.and_self, Bool.false_and, Bool.and_false, Bool.true_or, Bool.or_true, Bool.false_or, Bool.or_false, ↓reduceIte, Nat.reduceEqDiff, Nat.reduceAdd, Nat.reduceMul, Nat.reduceSub, Nat.reduceBEq, Nat.reduceLeDiff, Nat.reduceLT, Nat.reduceMod, Nat.reduceDiv, Int.reduceToNat, Int.reducePow, Int.reduceMul, Int.reduceAdd, Int.reduceSub, Int.reduceLE, Int.reduceLT, Int.reduceNeg, Int.reduceDiv, Int.reduceMod, Int.reduceEq, Int.reduceBEq, Int.reduceBNe, f5, f5b, f5r0, f5r1, f5r2, f5r3, f5r4, f5r5, f5r6, f5r7, f5r8]
  have r0 := foldZ_range (a + b)
  have r1 := foldZ_range (b + c)
  refine .of ((Add_spec _ _ _ ha' hb').mono ?_)
  rintro v H ⟨rfl, rfl⟩
  simp (disch := first | with_reducible assumption | omega) only [go_sem, Bool.true_and, Bool.and_true, Bool.and_self, Bool.false_and, Bool.and_false, Bool.true_or, Bool.or_true, Bool.false_or, Bool.or_false, ↓reduceIte, Nat.reduceEqDiff, Nat.reduceAdd, Nat.reduceMul, Nat.reduceSub, Nat.reduceBEq, Nat.reduceLeDiff, Nat.reduceLT, Nat.reduceMod, Nat.reduceDiv, Int.reduceToNat, Int.reducePow, Int.reduceMul, Int.reduceAdd, Int.reduceSub, Int.reduceLE, Int.reduceLT, Int.reduceNeg, Int.reduceDiv, Int.reduceMod, Int.reduceEq, Int.reduceBEq, Int.reduceBNe, f5, f5b, f5r0, f5r1, f5r2, f5r3, f5r4, f5r5, f5r6, f5r7, f5r8]
  refine .of ((Add_spec _ _ _ hb' ha').mono ?_)
  rintro v H2 ⟨rfl, rfl⟩
  have q0 : (foldZ (a + b) != foldZ (b + a)) = false := by rw [Int.add_comm]; simp
  simp (disch := first | with_reducible assumption | omega) only [go_sem, Bool.true_and, Bool.and_true, Bool.and_self, Bool.false_and, Bool.and_false, Bool.true_or, Bool.or_true, Bool.false_or, Bool.or_false, ↓reduceIte, Nat.reduceEqDiff, Nat.reduceAdd, Nat.reduceMul, Nat.reduceSub, Nat.reduceBEq, Nat.reduceLeDiff, Nat.reduceLT, Nat.reduceMod, Nat.reduceDiv, Int.reduceToNat, Int.reducePow, Int.reduceMul, Int.reduceAdd, Int.reduceSub, Int.reduceLE, Int.reduceLT, Int.reduceNeg, Int.reduceDiv, Int.reduceMod, Int.reduceEq, Int.reduceBEq, Int.reduceBNe, f5, f5b, f5r0, f5r1, f5r2, f5r3, f5r4, f5r5, f5r6, f5r7, f5r8, q0]
  refine .of ((Add_spec _ _ _ ha' hb').mono ?_)
  rintro v H3 ⟨rfl, rfl⟩
  simp (disch := first | with_reducible assumption | omega) only [go_sem, Bool.true_and, Bool.and_true, Bool.and_self, Bool.false_and, Bool.and_false, Bool.true_or, Bool.or_true, Bool.false_or, Bool.or_false, ↓reduceIte, Nat.reduceEqDiff, Nat.reduceAdd, Nat.reduceMul, Nat.reduceSub, Nat.reduceBEq, Nat.reduceLeDiff, Nat.reduceLT, Nat.reduceMod, Nat.reduceDiv, Int.reduceToNat, Int.reducePow, Int.reduceMul, Int.reduceAdd, Int.reduceSub, Int.reduceLE, Int.reduceLT, Int.reduceNeg, Int.reduceDiv, Int.reduceMod, Int.reduceEq, Int.reduceBEq, Int.reduceBNe, f5, f5b, f5r0, f5r1, f5r2, f5r3, f5r4, f5r5, f5r6, f5r7, f5r8]
  refine .of ((Add_spec _ _ _ r0 hc').mono ?_)
  rintro v H4 ⟨rfl, rfl⟩
  simp (disch := first | with_reducible assumption | omega) only [go_sem, Bool.true_and, Bool.and_true, Bool.and_self, Bool.false_and, Bool.and_false, Bool.true_or, Bool.or_true, Bool.false_or, Bool.or_false, ↓reduceIte, Nat.reduceEqDiff, Nat.reduceAdd, Nat.reduceMul, Nat.reduceSub, Nat.reduceBEq, Nat.reduceLeDiff, Nat.reduceLT, Nat.reduceMod, Nat.reduceDiv, Int.reduceToNat, Int.reducePow, Int.reduceMul, Int.reduceAdd, Int.reduceSub, Int.reduceLE, Int.reduceLT, Int.reduceNeg, Int.reduceDiv, Int.reduceMod, Int.reduceEq, Int.reduceBEq, Int.reduceBNe, f5, f5b, f5r0, f5r1, f5r2, f5r3, f5r4, f5r5, f5r6, f5r7, f5r8]
  refine .of ((Add_spec _ _ _ hb' hc').mono ?_)
  rintro v H5 ⟨rfl, rfl⟩
  simp (disch := first | with_reducible assumption | omega) only [go_sem, Bool.true_and, Bool.and_true, Bool.and_self, Bool.false_and, Bool.and_false, Bool.true_or, Bool.or_true, Bool.false_or, Bool.or_false, ↓reduceIte, Nat.reduceEqDiff, Nat.reduceAdd, Nat.reduceMul, Nat.reduceSub, Nat.reduceBEq, Nat.reduceLeDiff, Nat.reduceLT, Nat.reduceMod, Nat.reduceDiv, Int.reduceToNat, Int.reducePow, Int.reduceMul, Int.reduceAdd, Int.reduceSub, Int.reduceLE, Int.reduceLT, Int.reduceNeg, Int.reduceDiv, Int.reduceMod, Int.reduceEq, Int.reduceBEq, Int.reduceBNe, f5, f5b, f5r0, f5r1, f5r2, f5r3, f5r4, f5r5, f5r6, f5r7, f5r8]
  refine .of ((Add_spec _ _ _ ha' r1).mono ?_)
  rintro v H6 ⟨rfl, rfl⟩
  have q1 : (foldZ (foldZ (a + b) + c) != foldZ (a + foldZ (b + c))) = false := by
    rw [foldZ_addr _ _ ha'.1 (by omega), Int.add_comm _ c, foldZ_addr _ _ hc'.1 (by omega), show c + (a + b) = a + (b + c) by omega]; simp
  simp (disch := first | with_reducible assumption | omega) only [go_sem, Bool.true_and, Bool.and_true, Bool.and_self, Bool.false_and, Bool.and_false, Bool.true_or, Bool.or_true, Bool.false_or, Bool.or_false, ↓reduceIte, Nat.reduceEqDiff, Nat.reduceAdd, Nat.reduceMul, Nat.reduceSub, Nat.reduceBEq, Nat.reduceLeDiff, Nat.reduceLT, Nat.reduceMod, Nat.reduceDiv, Int.reduceToNat, Int.reducePow, Int.reduceMul, Int.reduceAdd, Int.reduceSub, Int.reduceLE, Int.reduceLT, Int.reduceNeg, Int.reduceDiv, Int.reduceMod, Int.reduceEq, Int.reduceBEq, Int.reduceBNe, f5, f5b, f5r0, f5r1, f5r2, f5r3, f5r4, f5r5, f5r6, f5r7, f5r8, q1, not16]
  refine .of ((Add_spec _ _ _ ha' (by omega)).mono ?_)
  rintro v H7 ⟨rfl, rfl⟩
  simp (disch := first | with_reducible assumption | omega) only [go_sem, Bool.true_and, Bool.and_true, Bool.and_self, Bool.false_and, Bool.and_false, Bool.true_or, Bool.or_true, Bool.false_or, Bool.or_false, ↓reduceIte, Nat.reduceEqDiff, Nat.reduceAdd, Nat.reduceMul, Nat.reduceSub, Nat.reduceBEq, Nat.reduceLeDiff, Nat.reduceLT, Nat.reduceMod, Nat.reduceDiv, Int.reduceToNat, Int.reducePow, Int.reduceMul, Int.reduceAdd, Int.reduceSub, Int.reduceLE, Int.reduceLT, Int.reduceNeg, Int.reduceDiv, Int.reduceMod, Int.reduceEq, Int.reduceBEq, Int.reduceBNe, f5, f5b, f5r0, f5r1, f5r2, f5r3, f5r4, f5r5, f5r6, f5r7, f5r8]
  refine .of ((Same_spec _ _ _ (foldZ_range _) (by omega)).mono ?_)
  rintro v H8 ⟨rfl, rfl⟩
  have q2 : decide (foldZ (a + (65535 - a)) = 0 ∨ foldZ (a + (65535 - a)) % 65535 = 0) = true := by
    rw [show a + (65535 - a) = 65535 by omega]; decide
  simp (disch := first | with_reducible assumption | omega) only [go_sem, Bool.true_and, Bool.and_true, Bool.and_self, Bool.false_and, Bool.and_false, Bool.true_or, Bool.or_true, Bool.false_or, Bool.or_false, ↓reduceIte, Nat.reduceEqDiff, Nat.reduceAdd, Nat.reduceMul, Nat.reduceSub, Nat.reduceBEq, Nat.reduceLeDiff, Nat.reduceLT, Nat.reduceMod, Nat.reduceDiv, Int.reduceToNat, Int.reducePow, Int.reduceMul, Int.reduceAdd, Int.reduceSub, Int.reduceLE, Int.reduceLT, Int.reduceNeg, Int.reduceDiv, Int.reduceMod, Int.reduceEq, Int.reduceBEq, Int.reduceBNe, f5, f5b, f5r0, f5r1, f5r2, f5r3, f5r4, f5r5, f5r6, f5r7, f5r8, q2]
  have p1 := sumP_range x hb1
  have p2 := sumP_range y hb2
  obtain ⟨ro1, cs1, hk1, hle1, hcs1⟩ := id hs1
  obtain ⟨ro2, cs2, hk2, hle2, hcs2⟩ := id hs2
  by_cases e1 : x.length % 2 = 0
  rotate_left
  · have : (0 : Int) < (x.length : Int) % 2 := by omega
    simp (disch := first | with_reducible assumption | omega) only [go_sem, Bool.true_and, Bool.and_true, Bool.and_self, Bool.false_and, Bool.and_false, Bool.true_or, Bool.or_true, Bool.false_or, Bool.or_false, ↓reduceIte, Nat.reduceEqDiff, Nat.reduceAdd, Nat.reduceMul, Nat.reduceSub, Nat.reduceBEq, Nat.reduceLeDiff, Nat.reduceLT, Nat.reduceMod, Nat.reduceDiv, Int.reduceToNat, Int.reducePow, Int.reduceMul, Int.reduceAdd, Int.reduceSub, Int.reduceLE, Int.reduceLT, Int.reduceNeg, Int.reduceDiv, Int.reduceMod, Int.reduceEq, Int.reduceBEq, Int.reduceBNe, f5, f5b, f5r0, f5r1, f5r2, f5r3, f5r4, f5r5, f5r6, f5r7, f5r8, hk1, hk2, this]
    exact .here rfl
  have e1' : ¬ (0 : Int) < (x.length : Int) % 2 := by omega
  by_cases e2 : y.length % 2 = 0
  rotate_left
  · have : (0 : Int) < (y.length : Int) % 2 := by omega
    simp (disch := first | with_reducible assumption | omega) only [go_sem, Bool.true_and, Bool.and_true, Bool.and_self, Bool.false_and, Bool.and_false, Bool.true_or, Bool.or_true, Bool.false_or, Bool.or_false, ↓reduceIte, Nat.reduceEqDiff, Nat.reduceAdd, Nat.reduceMul, Nat.reduceSub, Nat.reduceBEq, Nat.reduceLeDiff, Nat.reduceLT, Nat.reduceMod, Nat.reduceDiv, Int.reduceToNat, Int.reducePow, Int.reduceMul, Int.reduceAdd, Int.reduceSub, Int.reduceLE, Int.reduceLT, Int.reduceNeg, Int.reduceDiv, Int.reduceMod, Int.reduceEq, Int.reduceBEq, Int.reduceBNe, f5, f5b, f5r0, f5r1, f5r2, f5r3, f5r4, f5r5, f5r6, f5r7, f5r8, hk1, hk2, e1', this]
    exact .here rfl
  have e2' : ¬ (0 : Int) < (y.length : Int) % 2 := by omega
  simp (disch := first | with_reducible assumption | omega) only [go_sem, Bool.true_and, Bool.and_true, Bool.and_self, Bool.false_and, Bool.and_false, Bool.true_or, Bool.or_true, Bool.false_or, Bool.or_false, ↓reduceIte, Nat.reduceEqDiff, Nat.reduceAdd, Nat.reduceMul, Nat.reduceSub, Nat.reduceBEq, Nat.reduceLeDiff, Nat.reduceLT, Nat.reduceMod, Nat.reduceDiv, Int.reduceToNat, Int.reducePow, Int.reduceMul, Int.reduceAdd, Int.reduceSub, Int.reduceLE, Int.reduceLT, Int.reduceNeg, Int.reduceDiv, Int.reduceMod, Int.reduceEq, Int.reduceBEq, Int.reduceBNe, f5, f5b, f5r0, f5r1, f5r2, f5r3, f5r4, f5r5, f5r6, f5r7, f5r8, hk1, hk2, e1', e2']
  refine .of ((Join_spec x y H8.length k1 0 0 c1 k2 0 0 c2 _ (get_new0 _ _ _) (hs1.app _) (hs2.app _) (by omega) (by omega) hb1 hb2).mono ?_)
  rintro v G ⟨hg, hj⟩
  have hx1 := hg _ _ _ _ (hs1.app _)
  have hy1 := hg _ _ _ _ (hs2.app _)
  simp (disch := first | with_reducible assumption | omega) only [go_sem, Bool.true_and, Bool.and_true, Bool.and_self, Bool.false_and, Bool.and_false, Bool.true_or, Bool.or_true, Bool.false_or, Bool.or_false, ↓reduceIte, Nat.reduceEqDiff, Nat.reduceAdd, Nat.reduceMul, Nat.reduceSub, Nat.reduceBEq, Nat.reduceLeDiff, Nat.reduceLT, Nat.reduceMod, Nat.reduceDiv, Int.reduceToNat, Int.reducePow, Int.reduceMul, Int.reduceAdd, Int.reduceSub, Int.reduceLE, Int.reduceLT, Int.reduceNeg, Int.reduceDiv, Int.reduceMod, Int.reduceEq, Int.reduceBEq, Int.reduceBNe, f5, f5b, f5r0, f5r1, f5r2, f5r3, f5r4, f5r5, f5r6, f5r7, f5r8]
  refine .of (hj.mono ?_)
  rintro w H ⟨rfl, rfl⟩
  simp (disch := first | with_reducible assumption | omega) only [go_sem, Bool.true_and, Bool.and_true, Bool.and_self, Bool.false_and, Bool.and_false, Bool.true_or, Bool.or_true, Bool.false_or, Bool.or_false, ↓reduceIte, Nat.reduceEqDiff, Nat.reduceAdd, Nat.reduceMul, Nat.reduceSub, Nat.reduceBEq, Nat.reduceLeDiff, Nat.reduceLT, Nat.reduceMod, Nat.reduceDiv, Int.reduceToNat, Int.reducePow, Int.reduceMul, Int.reduceAdd, Int.reduceSub, Int.reduceLE, Int.reduceLT, Int.reduceNeg, Int.reduceDiv, Int.reduceMod, Int.reduceEq, Int.reduceBEq, Int.reduceBNe, f5, f5b, f5r0, f5r1, f5r2, f5r3, f5r4, f5r5, f5r6, f5r7, f5r8]
  refine .of ((Of_spec x k1 0 0 c1 _ hb1 hx1 (by omega)).mono ?_)
  rintro w H ⟨rfl, rfl⟩
  simp (disch := first | with_reducible assumption | omega) only [go_sem, Bool.true_and, Bool.and_true, Bool.and_self, Bool.false_and, Bool.and_false, Bool.true_or, Bool.or_true, Bool.false_or, Bool.or_false, ↓reduceIte, Nat.reduceEqDiff, Nat.reduceAdd, Nat.reduceMul, Nat.reduceSub, Nat.reduceBEq, Nat.reduceLeDiff, Nat.reduceLT, Nat.reduceMod, Nat.reduceDiv, Int.reduceToNat, Int.reducePow, Int.reduceMul, Int.reduceAdd, Int.reduceSub, Int.reduceLE, Int.reduceLT, Int.reduceNeg, Int.reduceDiv, Int.reduceMod, Int.reduceEq, Int.reduceBEq, Int.reduceBNe, f5, f5b, f5r0, f5r1, f5r2, f5r3, f5r4, f5r5, f5r6, f5r7, f5r8]
  refine .of ((Of_spec y k2 0 0 c2 _ hb2 hy1 (by omega)).mono ?_)
  rintro w H ⟨rfl, rfl⟩
  simp (disch := first | with_reducible assumption | omega) only [go_sem, Bool.true_and, Bool.and_true, Bool.and_self, Bool.false_and, Bool.and_false, Bool.true_or, Bool.or_true, Bool.false_or, Bool.or_false, ↓reduceIte, Nat.reduceEqDiff, Nat.reduceAdd, Nat.reduceMul, Nat.reduceSub, Nat.reduceBEq, Nat.reduceLeDiff, Nat.reduceLT, Nat.reduceMod, Nat.reduceDiv, Int.reduceToNat, Int.reducePow, Int.reduceMul, Int.reduceAdd, Int.reduceSub, Int.reduceLE, Int.reduceLT, Int.reduceNeg, Int.reduceDiv, Int.reduceMod, Int.reduceEq, Int.reduceBEq, Int.reduceBNe, f5, f5b, f5r0, f5r1, f5r2, f5r3, f5r4, f5r5, f5r6, f5r7, f5r8]
  refine .of ((Add_spec _ _ _ (foldZ_range _) (foldZ_range _)).mono ?_)
  rintro w H ⟨rfl, rfl⟩
  have t1 : (foldZ (sumP (x ++ y)) == foldZ (foldZ (sumP x) + foldZ (sumP y))) = true := by
    rw [foldZ_add _ _ p1.1 p2.1, sumP_app _ _ e1]; simp
  simp (disch := first | with_reducible assumption | omega) only [go_sem, Bool.true_and, Bool.and_true, Bool.and_self, Bool.false_and, Bool.and_false, Bool.true_or, Bool.or_true, Bool.false_or, Bool.or_false, ↓reduceIte, Nat.reduceEqDiff, Nat.reduceAdd, Nat.reduceMul, Nat.reduceSub, Nat.reduceBEq, Nat.reduceLeDiff, Nat.reduceLT, Nat.reduceMod, Nat.reduceDiv, Int.reduceToNat, Int.reducePow, Int.reduceMul, Int.reduceAdd, Int.reduceSub, Int.reduceLE, Int.reduceLT, Int.reduceNeg, Int.reduceDiv, Int.reduceMod, Int.reduceEq, Int.reduceBEq, Int.reduceBNe, f5, f5b, f5r0, f5r1, f5r2, f5r3, f5r4, f5r5, f5r6, f5r7, f5r8, t1]
  refine .of ((Join_spec y x _ k2 0 0 c2 k1 0 0 c1 _ (get_new0 _ _ _) (hy1.app _) (hx1.app _) (by omega) (by omega) hb2 hb1).mono ?_)
  rintro v G2 ⟨hg2, hj2⟩
  simp (disch := first | with_reducible assumption | omega) only [go_sem, Bool.true_and, Bool.and_true, Bool.and_self, Bool.false_and, Bool.and_false, Bool.true_or, Bool.or_true, Bool.false_or, Bool.or_false, ↓reduceIte, Nat.reduceEqDiff, Nat.reduceAdd, Nat.reduceMul, Nat.reduceSub, Nat.reduceBEq, Nat.reduceLeDiff, Nat.reduceLT, Nat.reduceMod, Nat.reduceDiv, Int.reduceToNat, Int.reducePow, Int.reduceMul, Int.reduceAdd, Int.reduceSub, Int.reduceLE, Int.reduceLT, Int.reduceNeg, Int.reduceDiv, Int.reduceMod, Int.reduceEq, Int.reduceBEq, Int.reduceBNe, f5, f5b, f5r0, f5r1, f5r2, f5r3, f5r4, f5r5, f5r6, f5r7, f5r8]
  refine .of (hj2.mono ?_)
  rintro w H ⟨rfl, rfl⟩
  have t2 : (foldZ (sumP (x ++ y)) == foldZ (sumP (y ++ x))) = true := by
    rw [sumP_app _ _ e1, sumP_app _ _ e2, Int.add_comm]; simp
  simp (disch := first | with_reducible assumption | omega) only [go_sem, Bool.true_and, Bool.and_true, Bool.and_self, Bool.false_and, Bool.and_false, Bool.true_or, Bool.or_true, Bool.false_or, Bool.or_false, ↓reduceIte, Nat.reduceEqDiff, Nat.reduceAdd, Nat.reduceMul, Nat.reduceSub, Nat.reduceBEq, Nat.reduceLeDiff, Nat.reduceLT, Nat.reduceMod, Nat.reduceDiv, Int.reduceToNat, Int.reducePow, Int.reduceMul, Int.reduceAdd, Int.reduceSub, Int.reduceLE, Int.reduceLT, Int.reduceNeg, Int.reduceDiv, Int.reduceMod, Int.reduceEq, Int.reduceBEq, Int.reduceBNe, f5, f5b, f5r0, f5r1, f5r2, f5r3, f5r4, f5r5, f5r6, f5r7, f5r8, t2]
  exact .here rfl
end Go.Proofs.Ytmfcccgfifaojaa
