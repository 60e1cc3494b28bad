import Derived.Test.YtdcodafidefloaaPlain7
import Derived.Test.YtdcodafidefloaaLaws
set_option linter.unusedSimpArgs false
set_option linter.unusedVariables false
set_option maxHeartbeats 2000000
set_option maxRecDepth 20000
namespace Go.Proofs.Ytdcodafidefloaa
open Go Go.Am
attribute [local irreducible] opsW Ww loopW callW drawW outW outDW gW cW BrW bothW vW resW DropW RdW dcallW altW Later.run

theorem opsM_a (x : Int) (m a : Nat) : opsM x m (a + 1) 0 0 = opsM x m a 0 0 ++ [⟨1, 0, x⟩] := by simp [opsM, lights, List.replicate_succ']
theorem opsM_b (x : Int) (m a b : Nat) : opsM x m a (b + 1) 0 = opsM x m a b 0 ++ [⟨1, (b : Int) + 1, x⟩] := by simp [opsM, lights]
theorem opsM_c (x : Int) (m a b c : Nat) : opsM x m a b (c + 1) = opsM x m a b c ++ [⟨2, 0, 0⟩] := by simp [opsM, List.replicate_succ']
theorem lights_len (x : Int) : ∀ b, (lights x b).length = b
  | 0 => rfl
  | b + 1 => by simp [lights, lights_len x b]
theorem opsM_len (x : Int) (m a b c : Nat) : (opsM x m a b c).length = a + b + c := by simp [opsM, lights_len]; omega
theorem lights_sc (x : Int) : ∀ b, lights x b = (lights 1 b).map (scO x)
  | 0 => rfl
  | b + 1 => by simp only [lights, List.map_append, lights_sc x b, List.map_cons, List.map_nil, scO, Int.one_mul]
theorem opsM_sc (x : Int) (m a b c : Nat) : opsM x m a b c = (opsM 1 m a b c).map (scO x) := by
  simp only [opsM, List.map_append, List.map_replicate, lights_sc x b, scO, Int.one_mul, Int.zero_mul]
theorem lights_b : ∀ (b : Nat) (o : Op), o ∈ lights 1 b → o.b = 1
  | 0, o, h => by cases h
  | b + 1, o, h => by
    rcases List.mem_append.1 h with h | h
    · exact lights_b b o h
    · rw [List.mem_singleton.1 h]
theorem opsM_b1 (m a b c : Nat) : ∀ o ∈ opsM 1 m a b c, o.k = 1 → o.b = 1 := fun o h hk => by
  simp only [opsM, List.mem_append, List.mem_replicate] at h
  rcases h with (⟨_, rfl⟩ | h) | ⟨_, rfl⟩
  · rfl
  · exact lights_b b o h
  · simp at hk
theorem wsM_sum (m : Nat) : (wsM m).sum = 2 * m := by
  have : ∀ n : Nat, (List.replicate n (1 : Int)).sum = n := fun n => by
    induction n with
    | zero => rfl
    | succ n ih => rw [List.replicate_succ, List.sum_cons, ih]; omega
  simp only [wsM, List.sum_cons, this]; omega
theorem wsM_ok {m : Nat} (h : 1 ≤ m ∧ m ≤ 12) : (wsM m).length ≤ 16 ∧ ∀ k, k < (wsM m).length → 1 ≤ (wsM m).getD k 0 ∧ (wsM m).getD k 0 ≤ 12 := by
  refine ⟨by simp [wsM]; omega, fun k hk => ?_⟩
  simp only [wsM, List.length_cons, List.length_replicate] at hk
  cases k with
  | zero => show 1 ≤ (m : Int) ∧ (m : Int) ≤ 12; omega
  | succ k =>
    have : (wsM m).getD (k + 1) 0 = 1 := by
      simp only [wsM, List.getD_eq_getElem?_getD, List.getElem?_cons_succ, List.getElem?_replicate]
      rw [if_pos (by omega)]; rfl
    rw [this]; omega
/-- What the heavy one sends among light ones. -/
theorem smooth_run {m : Nat} (h : 1 ≤ m ∧ m ≤ 12) {x : Int} (hx : 1 ≤ x ∧ x ≤ 1500) : (runR (wsM m) (wsM m).sum (opsM x m m m (2 * m))).sent.length = 2 * m ∧
    ∀ k, 1 ≤ k → k < 2 * m → ¬ (((runR (wsM m) (wsM m).sum (opsM x m m m (2 * m))).sent.getD k s0).f = 0 ∧ ((runR (wsM m) (wsM m).sum (opsM x m m m (2 * m))).sent.getD (k - 1) s0).f = 0) := by
  have hw : okW (wsM m) (wsM m).sum := ⟨(wsM_ok h).1, (wsM_ok h).2, sum_bound (wsM_ok h).1 (wsM_ok h).2⟩
  have hs : smoothB m = true := by
    have := List.all_eq_true.1 smooth_all m (by simp; omega)
    exact this
  rw [opsM_sc, sc_run hx hw _ (opsM_b1 m m m (2 * m))]
  unfold smoothB at hs
  rw [wsM_sum]
  simp only at hs
  rw [show (2 * m : Nat) = 2 * m by rfl] at hs
  generalize (runR (wsM m) (2 * (m : Int)) (opsM 1 m m m (2 * m))) = r at *
  have hf : ∀ k, ((scR x r).sent.getD k s0).f = (r.sent.getD k s0).f := fun k => by
    simp only [scR, List.getD_eq_getElem?_getD, List.getElem?_map]
    cases r.sent[k]? <;> rfl
  simp only [Bool.and_eq_true, beq_iff_eq, List.all_eq_true, List.mem_range, Bool.or_eq_true, Bool.not_eq_true', Bool.and_eq_false_iff] at hs
  refine ⟨by simp only [scR, List.length_map]; exact hs.1, fun k h1 h2 => ?_⟩
  rw [hf, hf]
  intro h3
  rcases hs.2 k h2 with h4 | h4 | h4
  · omega
  · rw [h3.1] at h4; exact absurd h4 (by decide)
  · rw [h3.2] at h4; exact absurd h4 (by decide)
/-- Who has much is not sent all at once. -/
theorem WfqSmooth_args (H : Heap) (vals : List Value) (h : ArgsOk maxLen H WfqSmoothSh vals) : ACallK Try.prog 6 vals H fun v _ => v = .bool true := by
  obtain ⟨_, _, rfl, a2, h⟩ := h.cons
  obtain ⟨_, _, rfl, a3, h⟩ := h.cons
  obtain rfl := h.nil
  obtain ⟨x, rfl, _⟩ := a2.cell.int_inv
  obtain ⟨mi, rfl, _⟩ := a3.cell.int_inv
  clear a2 a3 h
  refine .walkW f6_ok (by simp; decide) (by decide) ?_
  by_cases hx1 : 1 ≤ x
  · by_cases hx2 : x ≤ 1500
    · by_cases hm1 : 1 ≤ mi
      · by_cases hm2 : mi ≤ 12
        · obtain ⟨m, rfl⟩ := Int.eq_ofNat_of_zero_le (show 0 ≤ mi by omega)
          have hm : 1 ≤ m ∧ m ≤ 12 := by omega
          have hsm := smooth_run hm ⟨hx1, hx2⟩
          have hwok := wsM_ok hm
          repeat' first | simp (disch := first | with_reducible assumption | omega) only [go_sem, Bool.true_and, Bool.and_true, Bool.and_self, Bool.false_and, Bool.and_false, Bool.true_or, Bool.or_true, Bool.false_or, Bool.or_false, ↓reduceIte, Nat.reduceEqDiff, Nat.reduceAdd, Nat.reduceMul, Nat.reduceSub, Nat.reduceBEq, Nat.reduceLeDiff, Nat.reduceLT, Nat.reduceMod, Nat.reduceDiv, Int.reduceToNat, Int.reducePow, Int.reduceMul, Int.reduceAdd, Int.reduceSub, Int.reduceLE, Int.reduceLT, Int.reduceNeg, Int.reduceDiv, Int.reduceMod, Int.reduceEq, Int.reduceBEq, Int.reduceBNe, f6, f6b, f6r0, f6r1, f6r2, f6r3, f6r4, f6r5, f6r6, f6r7, f6r8, f6r9, f6r10, f6r12, f6r13, f6r14, f6r15, f6r16, f6r17, f6r19, f6r20, f6r21, f6r22, f6r24, f6r25, f6r26, f6r27, f6r28, f6r29, f6r30, f6r31, f6r33] | (refine BrW.of (fun hb => ?_) (fun hb => ?_) <;> (have hb' := hb; try simp only [decide_eq_true_eq, decide_eq_false_iff_not, beq_iff_eq, bne_iff_ne, beq_eq_false_iff_ne, bne_eq_false_iff_eq, Bool.not_eq_true', Bool.not_eq_false', Bool.not_eq_true, Bool.not_eq_false, Bool.and_eq_true, Bool.or_eq_true, Bool.and_eq_false_iff, Bool.or_eq_false_iff, Int.not_lt, Int.not_le, ne_eq, gt_iff_lt, ge_iff_le] at hb') <;> (try (exfalso; omega))) | (refine altW.of ?_ ?_) | (refine .of ((alive _).mono ?_); rintro v H ⟨rfl, rfl⟩)
          refine loopW.ghost 6 3 rfl ?_
          simp (disch := first | with_reducible assumption | omega) only [go_sem, Bool.true_and, Bool.and_true, Bool.and_self, Bool.false_and, Bool.and_false, Bool.true_or, Bool.or_true, Bool.false_or, Bool.or_false, ↓reduceIte, Nat.reduceEqDiff, Nat.reduceAdd, Nat.reduceMul, Nat.reduceSub, Nat.reduceBEq, Nat.reduceLeDiff, Nat.reduceLT, Nat.reduceMod, Nat.reduceDiv, Int.reduceToNat, Int.reducePow, Int.reduceMul, Int.reduceAdd, Int.reduceSub, Int.reduceLE, Int.reduceLT, Int.reduceNeg, Int.reduceDiv, Int.reduceMod, Int.reduceEq, Int.reduceBEq, Int.reduceBNe]
          refine loopW.of (by decide) (fun e0 e J => ∃ (i g' : Nat) (y : Heap), e = [(0, .int .i64 x), (1, .int .i64 m), (5, slv H.length 0 0 1 1), (6, slv (H.length + 1) 0 g' i i), (31, .int .i64 m), (32, .int .i64 i)] ∧ J = H ++ (.cells 0 1 false (ints [(m : Int)]) :: .cells g' 3 false (flat' Op.cells (opsM x m i 0 0)) :: y) ∧ i ≤ m ∧ e0 = m - i) m ⟨0, 0, [], rfl, rfl, by omega, rfl⟩ ?_
          rintro e0 e J ⟨i, g', y, rfl, rfl, hi, rfl⟩
          by_cases hlt : i < m
          · have hst : flat' Op.cells (opsM x m i 0 0) ++ [.int .i64 1, .int .i64 0, .int .i64 x] = flat' Op.cells (opsM x m (i + 1) 0 0) := by rw [opsM_a]; simp [flat', Op.cells]
            have il : (flat' Op.cells (opsM x m i 0 0)).length = i * 3 := by rw [flat'_length (s := 3) (fun _ => rfl), opsM_len]; omega
            have hni : ¬ i + 1 ≤ i := by omega
            have htk : (flat' Op.cells (opsM x m i 0 0)).take (i * 3) = flat' Op.cells (opsM x m i 0 0) := List.take_of_length_le (by omega)
            clear hsm hwok
            generalize flat' Op.cells (opsM x m i 0 0) = F at *
            repeat' first | simp (disch := first | with_reducible assumption | omega) only [go_sem, Bool.true_and, Bool.and_true, Bool.and_self, Bool.false_and, Bool.and_false, Bool.true_or, Bool.or_true, Bool.false_or, Bool.or_false, ↓reduceIte, Nat.reduceEqDiff, Nat.reduceAdd, Nat.reduceMul, Nat.reduceSub, Nat.reduceBEq, Nat.reduceLeDiff, Nat.reduceLT, Nat.reduceMod, Nat.reduceDiv, Int.reduceToNat, Int.reducePow, Int.reduceMul, Int.reduceAdd, Int.reduceSub, Int.reduceLE, Int.reduceLT, Int.reduceNeg, Int.reduceDiv, Int.reduceMod, Int.reduceEq, Int.reduceBEq, Int.reduceBNe, f6, f6b, f6r0, f6r1, f6r2, f6r3, f6r4, f6r5, f6r6, f6r7, f6r8, f6r9, f6r10, f6r12, f6r13, f6r14, f6r15, f6r16, f6r17, f6r19, f6r20, f6r21, f6r22, f6r24, f6r25, f6r26, f6r27, f6r28, f6r29, f6r30, f6r31, f6r33, f6l0, il, hni, htk, hst] | (refine BrW.of (fun hb => ?_) (fun hb => ?_) <;> (have hb' := hb; try simp only [decide_eq_true_eq, decide_eq_false_iff_not, beq_iff_eq, bne_iff_ne, beq_eq_false_iff_ne, bne_eq_false_iff_eq, Bool.not_eq_true', Bool.not_eq_false', Bool.not_eq_true, Bool.not_eq_false, Bool.and_eq_true, Bool.or_eq_true, Bool.and_eq_false_iff, Bool.or_eq_false_iff, Int.not_lt, Int.not_le, ne_eq, gt_iff_lt, ge_iff_le] at hb') <;> (try (exfalso; omega))) | (refine altW.of ?_ ?_)
            refine RdW.keep [0, 1, 5, 6, 31, 32] (m - (i + 1)) (by omega) ?_
            simp (disch := first | with_reducible assumption | omega) only [go_sem, Bool.true_and, Bool.and_true, Bool.and_self, Bool.false_and, Bool.and_false, Bool.true_or, Bool.or_true, Bool.false_or, Bool.or_false, ↓reduceIte, Nat.reduceEqDiff, Nat.reduceAdd, Nat.reduceMul, Nat.reduceSub, Nat.reduceBEq, Nat.reduceLeDiff, Nat.reduceLT, Nat.reduceMod, Nat.reduceDiv, Int.reduceToNat, Int.reducePow, Int.reduceMul, Int.reduceAdd, Int.reduceSub, Int.reduceLE, Int.reduceLT, Int.reduceNeg, Int.reduceDiv, Int.reduceMod, Int.reduceEq, Int.reduceBEq, Int.reduceBNe]
            exact ⟨i + 1, g' + 1, _, rfl, rfl, by omega, rfl⟩
          · obtain rfl : i = m := by omega
            repeat' first | simp (disch := first | with_reducible assumption | omega) only [go_sem, Bool.true_and, Bool.and_true, Bool.and_self, Bool.false_and, Bool.and_false, Bool.true_or, Bool.or_true, Bool.false_or, Bool.or_false, ↓reduceIte, Nat.reduceEqDiff, Nat.reduceAdd, Nat.reduceMul, Nat.reduceSub, Nat.reduceBEq, Nat.reduceLeDiff, Nat.reduceLT, Nat.reduceMod, Nat.reduceDiv, Int.reduceToNat, Int.reducePow, Int.reduceMul, Int.reduceAdd, Int.reduceSub, Int.reduceLE, Int.reduceLT, Int.reduceNeg, Int.reduceDiv, Int.reduceMod, Int.reduceEq, Int.reduceBEq, Int.reduceBNe, f6, f6b, f6r0, f6r1, f6r2, f6r3, f6r4, f6r5, f6r6, f6r7, f6r8, f6r9, f6r10, f6r12, f6r13, f6r14, f6r15, f6r16, f6r17, f6r19, f6r20, f6r21, f6r22, f6r24, f6r25, f6r26, f6r27, f6r28, f6r29, f6r30, f6r31, f6r33, f6l0, f6, f6b, f6r0, f6r1, f6r2, f6r3, f6r4, f6r5, f6r6, f6r7, f6r8, f6r9, f6r10, f6r12, f6r13, f6r14, f6r15, f6r16, f6r17, f6r19, f6r20, f6r21, f6r22, f6r24, f6r25, f6r26, f6r27, f6r28, f6r29, f6r30, f6r31, f6r33] | (refine BrW.of (fun hb => ?_) (fun hb => ?_) <;> (have hb' := hb; try simp only [decide_eq_true_eq, decide_eq_false_iff_not, beq_iff_eq, bne_iff_ne, beq_eq_false_iff_ne, bne_eq_false_iff_eq, Bool.not_eq_true', Bool.not_eq_false', Bool.not_eq_true, Bool.not_eq_false, Bool.and_eq_true, Bool.or_eq_true, Bool.and_eq_false_iff, Bool.or_eq_false_iff, Int.not_lt, Int.not_le, ne_eq, gt_iff_lt, ge_iff_le] at hb') <;> (try (exfalso; omega))) | (refine altW.of ?_ ?_)
            refine loopW.of (by decide) (fun e0 e J => ∃ (b gw g' : Nat) (y : Heap), e = [(0, .int .i64 x), (1, .int .i64 i), (5, slv H.length 0 gw (1 + b) (1 + b)), (6, slv (H.length + 1) 0 g' (i + b) (i + b)), (40, .int .i64 i), (41, .int .i64 b)] ∧ J = H ++ (.cells gw 1 false (ints ((i : Int) :: List.replicate b 1)) :: .cells g' 3 false (flat' Op.cells (opsM x i i b 0)) :: y) ∧ b ≤ i ∧ e0 = i - b) i ⟨0, 0, g', y, rfl, rfl, by omega, rfl⟩ ?_
            rintro e0 e J ⟨b, gw, g2, y, rfl, rfl, hb, rfl⟩
            by_cases hlt2 : b < i
            · have hst : flat' Op.cells (opsM x i i b 0) ++ [.int .i64 1, .int .i64 ((b : Int) + 1), .int .i64 x] = flat' Op.cells (opsM x i i (b + 1) 0) := by rw [opsM_b]; simp [flat', Op.cells]
              have il : (flat' Op.cells (opsM x i i b 0)).length = (i + b) * 3 := by rw [flat'_length (s := 3) (fun _ => rfl), opsM_len]; omega
              have hni : ¬ i + b + 1 ≤ i + b := by omega
              have htk : (flat' Op.cells (opsM x i i b 0)).take ((i + b) * 3) = flat' Op.cells (opsM x i i b 0) := List.take_of_length_le (by omega)
              have hst1 : ints ((i : Int) :: List.replicate b 1) ++ [.int .i64 1] = ints ((i : Int) :: List.replicate (b + 1) 1) := by rw [ints_snoc]; simp [List.replicate_succ']
              have il1 : (ints ((i : Int) :: List.replicate b 1)).length = 1 + b := by rw [ints_length]; simp; omega
              have hni1 : ¬ 1 + b + 1 ≤ 1 + b := by omega
              have htk1 : (ints ((i : Int) :: List.replicate b 1)).take (1 + b) = ints ((i : Int) :: List.replicate b 1) := List.take_of_length_le (by omega)
              clear hsm hwok
              generalize flat' Op.cells (opsM x i i b 0) = F at *
              generalize ints ((i : Int) :: List.replicate b 1) = W at *
              repeat' first | simp (disch := first | with_reducible assumption | omega) only [go_sem, Bool.true_and, Bool.and_true, Bool.and_self, Bool.false_and, Bool.and_false, Bool.true_or, Bool.or_true, Bool.false_or, Bool.or_false, ↓reduceIte, Nat.reduceEqDiff, Nat.reduceAdd, Nat.reduceMul, Nat.reduceSub, Nat.reduceBEq, Nat.reduceLeDiff, Nat.reduceLT, Nat.reduceMod, Nat.reduceDiv, Int.reduceToNat, Int.reducePow, Int.reduceMul, Int.reduceAdd, Int.reduceSub, Int.reduceLE, Int.reduceLT, Int.reduceNeg, Int.reduceDiv, Int.reduceMod, Int.reduceEq, Int.reduceBEq, Int.reduceBNe, f6, f6b, f6r0, f6r1, f6r2, f6r3, f6r4, f6r5, f6r6, f6r7, f6r8, f6r9, f6r10, f6r12, f6r13, f6r14, f6r15, f6r16, f6r17, f6r19, f6r20, f6r21, f6r22, f6r24, f6r25, f6r26, f6r27, f6r28, f6r29, f6r30, f6r31, f6r33, f6l1, il, hni, htk, hst, il1, hni1, htk1, hst1] | (refine BrW.of (fun hb => ?_) (fun hb => ?_) <;> (have hb' := hb; try simp only [decide_eq_true_eq, decide_eq_false_iff_not, beq_iff_eq, bne_iff_ne, beq_eq_false_iff_ne, bne_eq_false_iff_eq, Bool.not_eq_true', Bool.not_eq_false', Bool.not_eq_true, Bool.not_eq_false, Bool.and_eq_true, Bool.or_eq_true, Bool.and_eq_false_iff, Bool.or_eq_false_iff, Int.not_lt, Int.not_le, ne_eq, gt_iff_lt, ge_iff_le] at hb') <;> (try (exfalso; omega))) | (refine altW.of ?_ ?_)
              refine RdW.keep [0, 1, 5, 6, 40, 41] (i - (b + 1)) (by omega) ?_
              simp (disch := first | with_reducible assumption | omega) only [go_sem, Bool.true_and, Bool.and_true, Bool.and_self, Bool.false_and, Bool.and_false, Bool.true_or, Bool.or_true, Bool.false_or, Bool.or_false, ↓reduceIte, Nat.reduceEqDiff, Nat.reduceAdd, Nat.reduceMul, Nat.reduceSub, Nat.reduceBEq, Nat.reduceLeDiff, Nat.reduceLT, Nat.reduceMod, Nat.reduceDiv, Int.reduceToNat, Int.reducePow, Int.reduceMul, Int.reduceAdd, Int.reduceSub, Int.reduceLE, Int.reduceLT, Int.reduceNeg, Int.reduceDiv, Int.reduceMod, Int.reduceEq, Int.reduceBEq, Int.reduceBNe]
              exact ⟨b + 1, gw + 1, g2 + 1, _, by rw [show 1 + (b + 1) = 1 + b + 1 by omega, show i + (b + 1) = i + b + 1 by omega]; rfl, rfl, by omega, rfl⟩
            · obtain rfl : b = i := by omega
              repeat' first | simp (disch := first | with_reducible assumption | omega) only [go_sem, Bool.true_and, Bool.and_true, Bool.and_self, Bool.false_and, Bool.and_false, Bool.true_or, Bool.or_true, Bool.false_or, Bool.or_false, ↓reduceIte, Nat.reduceEqDiff, Nat.reduceAdd, Nat.reduceMul, Nat.reduceSub, Nat.reduceBEq, Nat.reduceLeDiff, Nat.reduceLT, Nat.reduceMod, Nat.reduceDiv, Int.reduceToNat, Int.reducePow, Int.reduceMul, Int.reduceAdd, Int.reduceSub, Int.reduceLE, Int.reduceLT, Int.reduceNeg, Int.reduceDiv, Int.reduceMod, Int.reduceEq, Int.reduceBEq, Int.reduceBNe, f6, f6b, f6r0, f6r1, f6r2, f6r3, f6r4, f6r5, f6r6, f6r7, f6r8, f6r9, f6r10, f6r12, f6r13, f6r14, f6r15, f6r16, f6r17, f6r19, f6r20, f6r21, f6r22, f6r24, f6r25, f6r26, f6r27, f6r28, f6r29, f6r30, f6r31, f6r33, f6l1, f6, f6b, f6r0, f6r1, f6r2, f6r3, f6r4, f6r5, f6r6, f6r7, f6r8, f6r9, f6r10, f6r12, f6r13, f6r14, f6r15, f6r16, f6r17, f6r19, f6r20, f6r21, f6r22, f6r24, f6r25, f6r26, f6r27, f6r28, f6r29, f6r30, f6r31, f6r33] | (refine BrW.of (fun hb => ?_) (fun hb => ?_) <;> (have hb' := hb; try simp only [decide_eq_true_eq, decide_eq_false_iff_not, beq_iff_eq, bne_iff_ne, beq_eq_false_iff_ne, bne_eq_false_iff_eq, Bool.not_eq_true', Bool.not_eq_false', Bool.not_eq_true, Bool.not_eq_false, Bool.and_eq_true, Bool.or_eq_true, Bool.and_eq_false_iff, Bool.or_eq_false_iff, Int.not_lt, Int.not_le, ne_eq, gt_iff_lt, ge_iff_le] at hb') <;> (try (exfalso; omega))) | (refine altW.of ?_ ?_)
              refine loopW.of (by decide) (fun e0 e J => ∃ (c g' : Nat) (y : Heap), e = [(1, .int .i64 b), (5, slv H.length 0 gw (1 + b) (1 + b)), (6, slv (H.length + 1) 0 g' (b + b + c) (b + b + c)), (56, .int .i64 (2 * b)), (57, .int .i64 c)] ∧ J = H ++ (.cells gw 1 false (ints (wsM b)) :: .cells g' 3 false (flat' Op.cells (opsM x b b b c)) :: y) ∧ c ≤ 2 * b ∧ e0 = 2 * b - c) (2 * b) ⟨0, g2, y, rfl, rfl, by omega, rfl⟩ ?_
              rintro e0 e J ⟨c, g3, y, rfl, rfl, hc, rfl⟩
              by_cases hlt3 : c < 2 * b
              · have hst : flat' Op.cells (opsM x b b b c) ++ [.int .i64 2, .int .i64 0, .int .i64 0] = flat' Op.cells (opsM x b b b (c + 1)) := by rw [opsM_c]; simp [flat', Op.cells]
                have il : (flat' Op.cells (opsM x b b b c)).length = (b + b + c) * 3 := by rw [flat'_length (s := 3) (fun _ => rfl), opsM_len]
                have hni : ¬ b + b + c + 1 ≤ b + b + c := by omega
                have htk : (flat' Op.cells (opsM x b b b c)).take ((b + b + c) * 3) = flat' Op.cells (opsM x b b b c) := List.take_of_length_le (by omega)
                clear hsm hwok
                generalize flat' Op.cells (opsM x b b b c) = F at *
                repeat' first | simp (disch := first | with_reducible assumption | omega) only [go_sem, Bool.true_and, Bool.and_true, Bool.and_self, Bool.false_and, Bool.and_false, Bool.true_or, Bool.or_true, Bool.false_or, Bool.or_false, ↓reduceIte, Nat.reduceEqDiff, Nat.reduceAdd, Nat.reduceMul, Nat.reduceSub, Nat.reduceBEq, Nat.reduceLeDiff, Nat.reduceLT, Nat.reduceMod, Nat.reduceDiv, Int.reduceToNat, Int.reducePow, Int.reduceMul, Int.reduceAdd, Int.reduceSub, Int.reduceLE, Int.reduceLT, Int.reduceNeg, Int.reduceDiv, Int.reduceMod, Int.reduceEq, Int.reduceBEq, Int.reduceBNe, f6, f6b, f6r0, f6r1, f6r2, f6r3, f6r4, f6r5, f6r6, f6r7, f6r8, f6r9, f6r10, f6r12, f6r13, f6r14, f6r15, f6r16, f6r17, f6r19, f6r20, f6r21, f6r22, f6r24, f6r25, f6r26, f6r27, f6r28, f6r29, f6r30, f6r31, f6r33, f6l2, il, hni, htk, hst] | (refine BrW.of (fun hb => ?_) (fun hb => ?_) <;> (have hb' := hb; try simp only [decide_eq_true_eq, decide_eq_false_iff_not, beq_iff_eq, bne_iff_ne, beq_eq_false_iff_ne, bne_eq_false_iff_eq, Bool.not_eq_true', Bool.not_eq_false', Bool.not_eq_true, Bool.not_eq_false, Bool.and_eq_true, Bool.or_eq_true, Bool.and_eq_false_iff, Bool.or_eq_false_iff, Int.not_lt, Int.not_le, ne_eq, gt_iff_lt, ge_iff_le] at hb') <;> (try (exfalso; omega))) | (refine altW.of ?_ ?_)
                refine RdW.keep [1, 5, 6, 56, 57] (2 * b - (c + 1)) (by omega) ?_
                simp (disch := first | with_reducible assumption | omega) only [go_sem, Bool.true_and, Bool.and_true, Bool.and_self, Bool.false_and, Bool.and_false, Bool.true_or, Bool.or_true, Bool.false_or, Bool.or_false, ↓reduceIte, Nat.reduceEqDiff, Nat.reduceAdd, Nat.reduceMul, Nat.reduceSub, Nat.reduceBEq, Nat.reduceLeDiff, Nat.reduceLT, Nat.reduceMod, Nat.reduceDiv, Int.reduceToNat, Int.reducePow, Int.reduceMul, Int.reduceAdd, Int.reduceSub, Int.reduceLE, Int.reduceLT, Int.reduceNeg, Int.reduceDiv, Int.reduceMod, Int.reduceEq, Int.reduceBEq, Int.reduceBNe]
                exact ⟨c + 1, g3 + 1, _, rfl, rfl, by omega, rfl⟩
              · obtain rfl : c = 2 * b := by omega
                have hwl : (wsM b).length = 1 + b := by simp [wsM]; omega
                have hopl : (opsM x b b b (2 * b)).length = b + b + 2 * b := opsM_len _ _ _ _ _
                have hN : IsN (fun _ => True) (H ++ (.cells gw 1 false (ints (wsM b)) :: .cells g3 3 false (flat' Op.cells (opsM x b b b (2 * b))) :: y)) (slv H.length 0 gw (wsM b).length (1 + b)) (wsM b) := IsT.of trivial (Tbl.new (enc := ienc) (s := 1) (d := 0) (fun _ => rfl) _ _ _ false _ (by rw [flat'_ienc, get_new0])) (by omega)
                have hO : IsO (fun _ => True) (H ++ (.cells gw 1 false (ints (wsM b)) :: .cells g3 3 false (flat' Op.cells (opsM x b b b (2 * b))) :: y)) (slv (H.length + 1) 0 g3 (opsM x b b b (2 * b)).length (b + b + 2 * b)) (opsM x b b b (2 * b)) := IsT.of trivial (Tbl.new (enc := Op.cells) (s := 3) (d := o0) (fun _ => rfl) _ _ _ false _ (by rw [get_new]; rfl)) (by omega)
                rw [hwl] at hN
                rw [hopl] at hO
                generalize H ++ (.cells gw 1 false (ints (wsM b)) :: .cells g3 3 false (flat' Op.cells (opsM x b b b (2 * b))) :: y) = G at *
                repeat' first | simp (disch := first | with_reducible assumption | omega) only [go_sem, Bool.true_and, Bool.and_true, Bool.and_self, Bool.false_and, Bool.and_false, Bool.true_or, Bool.or_true, Bool.false_or, Bool.or_false, ↓reduceIte, Nat.reduceEqDiff, Nat.reduceAdd, Nat.reduceMul, Nat.reduceSub, Nat.reduceBEq, Nat.reduceLeDiff, Nat.reduceLT, Nat.reduceMod, Nat.reduceDiv, Int.reduceToNat, Int.reducePow, Int.reduceMul, Int.reduceAdd, Int.reduceSub, Int.reduceLE, Int.reduceLT, Int.reduceNeg, Int.reduceDiv, Int.reduceMod, Int.reduceEq, Int.reduceBEq, Int.reduceBNe, f6, f6b, f6r0, f6r1, f6r2, f6r3, f6r4, f6r5, f6r6, f6r7, f6r8, f6r9, f6r10, f6r12, f6r13, f6r14, f6r15, f6r16, f6r17, f6r19, f6r20, f6r21, f6r22, f6r24, f6r25, f6r26, f6r27, f6r28, f6r29, f6r30, f6r31, f6r33, f6l2, f6, f6b, f6r0, f6r1, f6r2, f6r3, f6r4, f6r5, f6r6, f6r7, f6r8, f6r9, f6r10, f6r12, f6r13, f6r14, f6r15, f6r16, f6r17, f6r19, f6r20, f6r21, f6r22, f6r24, f6r25, f6r26, f6r27, f6r28, f6r29, f6r30, f6r31, f6r33] | (refine BrW.of (fun hb => ?_) (fun hb => ?_) <;> (have hb' := hb; try simp only [decide_eq_true_eq, decide_eq_false_iff_not, beq_iff_eq, bne_iff_ne, beq_eq_false_iff_ne, bne_eq_false_iff_eq, Bool.not_eq_true', Bool.not_eq_false', Bool.not_eq_true, Bool.not_eq_false, Bool.and_eq_true, Bool.or_eq_true, Bool.and_eq_false_iff, Bool.or_eq_false_iff, Int.not_lt, Int.not_le, ne_eq, gt_iff_lt, ge_iff_le] at hb') <;> (try (exfalso; omega))) | (refine altW.of ?_ ?_)
                refine .of ((Play_spec (wsM b) (opsM x b b b (2 * b)) _ _ (fun _ => True) _ hN hO (by omega) (by omega)).mono ?_)
                rintro v G2 ⟨va, vb, vc, e, rfl, hLe, he, hn, hy⟩
                obtain rfl : e = 0 := he.2 ⟨hwok, by omega⟩
                have hs := (hy rfl).2.1
                generalize (runR (wsM b) (wsM b).sum (opsM x b b b (2 * b))).sent = sent at *
                obtain ⟨hs1, hs2⟩ := hsm
                obtain ⟨k1, o1, g1, c1, _, rfl, ht1, _⟩ := hs
                obtain ⟨ro, cs, hk, hcl, hcs⟩ := ht1.at'
                repeat' first | simp (disch := first | with_reducible assumption | omega) only [go_sem, Bool.true_and, Bool.and_true, Bool.and_self, Bool.false_and, Bool.and_false, Bool.true_or, Bool.or_true, Bool.false_or, Bool.or_false, ↓reduceIte, Nat.reduceEqDiff, Nat.reduceAdd, Nat.reduceMul, Nat.reduceSub, Nat.reduceBEq, Nat.reduceLeDiff, Nat.reduceLT, Nat.reduceMod, Nat.reduceDiv, Int.reduceToNat, Int.reducePow, Int.reduceMul, Int.reduceAdd, Int.reduceSub, Int.reduceLE, Int.reduceLT, Int.reduceNeg, Int.reduceDiv, Int.reduceMod, Int.reduceEq, Int.reduceBEq, Int.reduceBNe, f6, f6b, f6r0, f6r1, f6r2, f6r3, f6r4, f6r5, f6r6, f6r7, f6r8, f6r9, f6r10, f6r12, f6r13, f6r14, f6r15, f6r16, f6r17, f6r19, f6r20, f6r21, f6r22, f6r24, f6r25, f6r26, f6r27, f6r28, f6r29, f6r30, f6r31, f6r33, hk] | (refine BrW.of (fun hb => ?_) (fun hb => ?_) <;> (have hb' := hb; try simp only [decide_eq_true_eq, decide_eq_false_iff_not, beq_iff_eq, bne_iff_ne, beq_eq_false_iff_ne, bne_eq_false_iff_eq, Bool.not_eq_true', Bool.not_eq_false', Bool.not_eq_true, Bool.not_eq_false, Bool.and_eq_true, Bool.or_eq_true, Bool.and_eq_false_iff, Bool.or_eq_false_iff, Int.not_lt, Int.not_le, ne_eq, gt_iff_lt, ge_iff_le] at hb') <;> (try (exfalso; omega))) | (refine altW.of ?_ ?_)
                refine loopW.of (by decide) (fun e0 e J => ∃ (i : Nat), e = [(9, slv k1 o1 g1 sent.length c1), (12, .int .i64 ((i : Int) + 1))] ∧ J = G2 ∧ i + 1 ≤ sent.length ∧ e0 = sent.length - i) sent.length ⟨0, rfl, rfl, by omega, rfl⟩ ?_
                rintro e0 e J ⟨i, rfl, rfl, hi2, rfl⟩
                by_cases hlt4 : i + 1 < sent.length
                · have x0 := hcs (i + 1) hlt4 0 (by omega)
                  have x1 := hcs i (by omega) 0 (by omega)
                  have hno := hs2 (i + 1) (by omega) (by omega)
                  rw [Nat.add_sub_cancel] at hno
                  simp only [S.cells, List.getElem?_cons_zero, Nat.add_zero] at x0 x1
                  clear hs2 hcs
                  have hti : ((i : Int) + 1).toNat = i + 1 := by omega
                  have hti2 : ((i : Int) + 1 - 1).toNat = i := by omega
                  have hti3 : (i : Int) + 1 - 1 = i := by omega
                  generalize (sent.getD (i + 1) s0).f = f1 at *
                  generalize (sent.getD i s0).f = f2 at *
                  by_cases hf : f1 = 0
                  · have hf2 : f2 ≠ 0 := fun h => hno ⟨hf, h⟩
                    repeat' first | simp (disch := first | with_reducible assumption | omega) only [go_sem, Bool.true_and, Bool.and_true, Bool.and_self, Bool.false_and, Bool.and_false, Bool.true_or, Bool.or_true, Bool.false_or, Bool.or_false, ↓reduceIte, Nat.reduceEqDiff, Nat.reduceAdd, Nat.reduceMul, Nat.reduceSub, Nat.reduceBEq, Nat.reduceLeDiff, Nat.reduceLT, Nat.reduceMod, Nat.reduceDiv, Int.reduceToNat, Int.reducePow, Int.reduceMul, Int.reduceAdd, Int.reduceSub, Int.reduceLE, Int.reduceLT, Int.reduceNeg, Int.reduceDiv, Int.reduceMod, Int.reduceEq, Int.reduceBEq, Int.reduceBNe, f6, f6b, f6r0, f6r1, f6r2, f6r3, f6r4, f6r5, f6r6, f6r7, f6r8, f6r9, f6r10, f6r12, f6r13, f6r14, f6r15, f6r16, f6r17, f6r19, f6r20, f6r21, f6r22, f6r24, f6r25, f6r26, f6r27, f6r28, f6r29, f6r30, f6r31, f6r33, f6l3, hk, x0, x1, hti, hti2, hti3] | (refine BrW.of (fun hb => ?_) (fun hb => ?_) <;> (have hb' := hb; try simp only [decide_eq_true_eq, decide_eq_false_iff_not, beq_iff_eq, bne_iff_ne, beq_eq_false_iff_ne, bne_eq_false_iff_eq, Bool.not_eq_true', Bool.not_eq_false', Bool.not_eq_true, Bool.not_eq_false, Bool.and_eq_true, Bool.or_eq_true, Bool.and_eq_false_iff, Bool.or_eq_false_iff, Int.not_lt, Int.not_le, ne_eq, gt_iff_lt, ge_iff_le] at hb') <;> (try (exfalso; omega))) | (refine altW.of ?_ ?_)
                    refine RdW.keep [9, 12] (sent.length - (i + 1)) (by omega) ?_
                    simp (disch := first | with_reducible assumption | omega) only [go_sem, Bool.true_and, Bool.and_true, Bool.and_self, Bool.false_and, Bool.and_false, Bool.true_or, Bool.or_true, Bool.false_or, Bool.or_false, ↓reduceIte, Nat.reduceEqDiff, Nat.reduceAdd, Nat.reduceMul, Nat.reduceSub, Nat.reduceBEq, Nat.reduceLeDiff, Nat.reduceLT, Nat.reduceMod, Nat.reduceDiv, Int.reduceToNat, Int.reducePow, Int.reduceMul, Int.reduceAdd, Int.reduceSub, Int.reduceLE, Int.reduceLT, Int.reduceNeg, Int.reduceDiv, Int.reduceMod, Int.reduceEq, Int.reduceBEq, Int.reduceBNe]
                    exact ⟨i + 1, rfl, by omega, rfl⟩
                  · repeat' first | simp (disch := first | with_reducible assumption | omega) only [go_sem, Bool.true_and, Bool.and_true, Bool.and_self, Bool.false_and, Bool.and_false, Bool.true_or, Bool.or_true, Bool.false_or, Bool.or_false, ↓reduceIte, Nat.reduceEqDiff, Nat.reduceAdd, Nat.reduceMul, Nat.reduceSub, Nat.reduceBEq, Nat.reduceLeDiff, Nat.reduceLT, Nat.reduceMod, Nat.reduceDiv, Int.reduceToNat, Int.reducePow, Int.reduceMul, Int.reduceAdd, Int.reduceSub, Int.reduceLE, Int.reduceLT, Int.reduceNeg, Int.reduceDiv, Int.reduceMod, Int.reduceEq, Int.reduceBEq, Int.reduceBNe, f6, f6b, f6r0, f6r1, f6r2, f6r3, f6r4, f6r5, f6r6, f6r7, f6r8, f6r9, f6r10, f6r12, f6r13, f6r14, f6r15, f6r16, f6r17, f6r19, f6r20, f6r21, f6r22, f6r24, f6r25, f6r26, f6r27, f6r28, f6r29, f6r30, f6r31, f6r33, f6l3, hk, x0, x1, hti, hti2, hti3] | (refine BrW.of (fun hb => ?_) (fun hb => ?_) <;> (have hb' := hb; try simp only [decide_eq_true_eq, decide_eq_false_iff_not, beq_iff_eq, bne_iff_ne, beq_eq_false_iff_ne, bne_eq_false_iff_eq, Bool.not_eq_true', Bool.not_eq_false', Bool.not_eq_true, Bool.not_eq_false, Bool.and_eq_true, Bool.or_eq_true, Bool.and_eq_false_iff, Bool.or_eq_false_iff, Int.not_lt, Int.not_le, ne_eq, gt_iff_lt, ge_iff_le] at hb') <;> (try (exfalso; omega))) | (refine altW.of ?_ ?_)
                    refine RdW.keep [9, 12] (sent.length - (i + 1)) (by omega) ?_
                    simp (disch := first | with_reducible assumption | omega) only [go_sem, Bool.true_and, Bool.and_true, Bool.and_self, Bool.false_and, Bool.and_false, Bool.true_or, Bool.or_true, Bool.false_or, Bool.or_false, ↓reduceIte, Nat.reduceEqDiff, Nat.reduceAdd, Nat.reduceMul, Nat.reduceSub, Nat.reduceBEq, Nat.reduceLeDiff, Nat.reduceLT, Nat.reduceMod, Nat.reduceDiv, Int.reduceToNat, Int.reducePow, Int.reduceMul, Int.reduceAdd, Int.reduceSub, Int.reduceLE, Int.reduceLT, Int.reduceNeg, Int.reduceDiv, Int.reduceMod, Int.reduceEq, Int.reduceBEq, Int.reduceBNe]
                    exact ⟨i + 1, rfl, by omega, rfl⟩
                · repeat' first | simp (disch := first | with_reducible assumption | omega) only [go_sem, Bool.true_and, Bool.and_true, Bool.and_self, Bool.false_and, Bool.and_false, Bool.true_or, Bool.or_true, Bool.false_or, Bool.or_false, ↓reduceIte, Nat.reduceEqDiff, Nat.reduceAdd, Nat.reduceMul, Nat.reduceSub, Nat.reduceBEq, Nat.reduceLeDiff, Nat.reduceLT, Nat.reduceMod, Nat.reduceDiv, Int.reduceToNat, Int.reducePow, Int.reduceMul, Int.reduceAdd, Int.reduceSub, Int.reduceLE, Int.reduceLT, Int.reduceNeg, Int.reduceDiv, Int.reduceMod, Int.reduceEq, Int.reduceBEq, Int.reduceBNe, f6, f6b, f6r0, f6r1, f6r2, f6r3, f6r4, f6r5, f6r6, f6r7, f6r8, f6r9, f6r10, f6r12, f6r13, f6r14, f6r15, f6r16, f6r17, f6r19, f6r20, f6r21, f6r22, f6r24, f6r25, f6r26, f6r27, f6r28, f6r29, f6r30, f6r31, f6r33, f6l3, f6, f6b, f6r0, f6r1, f6r2, f6r3, f6r4, f6r5, f6r6, f6r7, f6r8, f6r9, f6r10, f6r12, f6r13, f6r14, f6r15, f6r16, f6r17, f6r19, f6r20, f6r21, f6r22, f6r24, f6r25, f6r26, f6r27, f6r28, f6r29, f6r30, f6r31, f6r33, hk] | (refine BrW.of (fun hb => ?_) (fun hb => ?_) <;> (have hb' := hb; try simp only [decide_eq_true_eq, decide_eq_false_iff_not, beq_iff_eq, bne_iff_ne, beq_eq_false_iff_ne, bne_eq_false_iff_eq, Bool.not_eq_true', Bool.not_eq_false', Bool.not_eq_true, Bool.not_eq_false, Bool.and_eq_true, Bool.or_eq_true, Bool.and_eq_false_iff, Bool.or_eq_false_iff, Int.not_lt, Int.not_le, ne_eq, gt_iff_lt, ge_iff_le] at hb') <;> (try (exfalso; omega))) | (refine altW.of ?_ ?_)
                  exact .here rfl
        · repeat' first | simp (disch := first | with_reducible assumption | omega) only [go_sem, Bool.true_and, Bool.and_true, Bool.and_self, Bool.false_and, Bool.and_false, Bool.true_or, Bool.or_true, Bool.false_or, Bool.or_false, ↓reduceIte, Nat.reduceEqDiff, Nat.reduceAdd, Nat.reduceMul, Nat.reduceSub, Nat.reduceBEq, Nat.reduceLeDiff, Nat.reduceLT, Nat.reduceMod, Nat.reduceDiv, Int.reduceToNat, Int.reducePow, Int.reduceMul, Int.reduceAdd, Int.reduceSub, Int.reduceLE, Int.reduceLT, Int.reduceNeg, Int.reduceDiv, Int.reduceMod, Int.reduceEq, Int.reduceBEq, Int.reduceBNe, f6, f6b, f6r0, f6r1, f6r2, f6r3, f6r4, f6r5, f6r6, f6r7, f6r8, f6r9, f6r10, f6r12, f6r13, f6r14, f6r15, f6r16, f6r17, f6r19, f6r20, f6r21, f6r22, f6r24, f6r25, f6r26, f6r27, f6r28, f6r29, f6r30, f6r31, f6r33] | (refine BrW.of (fun hb => ?_) (fun hb => ?_) <;> (have hb' := hb; try simp only [decide_eq_true_eq, decide_eq_false_iff_not, beq_iff_eq, bne_iff_ne, beq_eq_false_iff_ne, bne_eq_false_iff_eq, Bool.not_eq_true', Bool.not_eq_false', Bool.not_eq_true, Bool.not_eq_false, Bool.and_eq_true, Bool.or_eq_true, Bool.and_eq_false_iff, Bool.or_eq_false_iff, Int.not_lt, Int.not_le, ne_eq, gt_iff_lt, ge_iff_le] at hb') <;> (try (exfalso; omega))) | (refine altW.of ?_ ?_) | (refine .of ((alive _).mono ?_); rintro v H ⟨rfl, rfl⟩)
          exact .here rfl
      · repeat' first | simp (disch := first | with_reducible assumption | omega) only [go_sem, Bool.true_and, Bool.and_true, Bool.and_self, Bool.false_and, Bool.and_false, Bool.true_or, Bool.or_true, Bool.false_or, Bool.or_false, ↓reduceIte, Nat.reduceEqDiff, Nat.reduceAdd, Nat.reduceMul, Nat.reduceSub, Nat.reduceBEq, Nat.reduceLeDiff, Nat.reduceLT, Nat.reduceMod, Nat.reduceDiv, Int.reduceToNat, Int.reducePow, Int.reduceMul, Int.reduceAdd, Int.reduceSub, Int.reduceLE, Int.reduceLT, Int.reduceNeg, Int.reduceDiv, Int.reduceMod, Int.reduceEq, Int.reduceBEq, Int.reduceBNe, f6, f6b, f6r0, f6r1, f6r2, f6r3, f6r4, f6r5, f6r6, f6r7, f6r8, f6r9, f6r10, f6r12, f6r13, f6r14, f6r15, f6r16, f6r17, f6r19, f6r20, f6r21, f6r22, f6r24, f6r25, f6r26, f6r27, f6r28, f6r29, f6r30, f6r31, f6r33] | (refine BrW.of (fun hb => ?_) (fun hb => ?_) <;> (have hb' := hb; try simp only [decide_eq_true_eq, decide_eq_false_iff_not, beq_iff_eq, bne_iff_ne, beq_eq_false_iff_ne, bne_eq_false_iff_eq, Bool.not_eq_true', Bool.not_eq_false', Bool.not_eq_true, Bool.not_eq_false, Bool.and_eq_true, Bool.or_eq_true, Bool.and_eq_false_iff, Bool.or_eq_false_iff, Int.not_lt, Int.not_le, ne_eq, gt_iff_lt, ge_iff_le] at hb') <;> (try (exfalso; omega))) | (refine altW.of ?_ ?_) | (refine .of ((alive _).mono ?_); rintro v H ⟨rfl, rfl⟩)
        exact .here rfl
    · repeat' first | simp (disch := first | with_reducible assumption | omega) only [go_sem, Bool.true_and, Bool.and_true, Bool.and_self, Bool.false_and, Bool.and_false, Bool.true_or, Bool.or_true, Bool.false_or, Bool.or_false, ↓reduceIte, Nat.reduceEqDiff, Nat.reduceAdd, Nat.reduceMul, Nat.reduceSub, Nat.reduceBEq, Nat.reduceLeDiff, Nat.reduceLT, Nat.reduceMod, Nat.reduceDiv, Int.reduceToNat, Int.reducePow, Int.reduceMul, Int.reduceAdd, Int.reduceSub, Int.reduceLE, Int.reduceLT, Int.reduceNeg, Int.reduceDiv, Int.reduceMod, Int.reduceEq, Int.reduceBEq, Int.reduceBNe, f6, f6b, f6r0, f6r1, f6r2, f6r3, f6r4, f6r5, f6r6, f6r7, f6r8, f6r9, f6r10, f6r12, f6r13, f6r14, f6r15, f6r16, f6r17, f6r19, f6r20, f6r21, f6r22, f6r24, f6r25, f6r26, f6r27, f6r28, f6r29, f6r30, f6r31, f6r33] | (refine BrW.of (fun hb => ?_) (fun hb => ?_) <;> (have hb' := hb; try simp only [decide_eq_true_eq, decide_eq_false_iff_not, beq_iff_eq, bne_iff_ne, beq_eq_false_iff_ne, bne_eq_false_iff_eq, Bool.not_eq_true', Bool.not_eq_false', Bool.not_eq_true, Bool.not_eq_false, Bool.and_eq_true, Bool.or_eq_true, Bool.and_eq_false_iff, Bool.or_eq_false_iff, Int.not_lt, Int.not_le, ne_eq, gt_iff_lt, ge_iff_le] at hb') <;> (try (exfalso; omega))) | (refine altW.of ?_ ?_) | (refine .of ((alive _).mono ?_); rintro v H ⟨rfl, rfl⟩)
      exact .here rfl
  · repeat' first | simp (disch := first | with_reducible assumption | omega) only [go_sem, Bool.true_and, Bool.and_true, Bool.and_self, Bool.false_and, Bool.and_false, Bool.true_or, Bool.or_true, Bool.false_or, Bool.or_false, ↓reduceIte, Nat.reduceEqDiff, Nat.reduceAdd, Nat.reduceMul, Nat.reduceSub, Nat.reduceBEq, Nat.reduceLeDiff, Nat.reduceLT, Nat.reduceMod, Nat.reduceDiv, Int.reduceToNat, Int.reducePow, Int.reduceMul, Int.reduceAdd, Int.reduceSub, Int.reduceLE, Int.reduceLT, Int.reduceNeg, Int.reduceDiv, Int.reduceMod, Int.reduceEq, Int.reduceBEq, Int.reduceBNe, f6, f6b, f6r0, f6r1, f6r2, f6r3, f6r4, f6r5, f6r6, f6r7, f6r8, f6r9, f6r10, f6r12, f6r13, f6r14, f6r15, f6r16, f6r17, f6r19, f6r20, f6r21, f6r22, f6r24, f6r25, f6r26, f6r27, f6r28, f6r29, f6r30, f6r31, f6r33] | (refine BrW.of (fun hb => ?_) (fun hb => ?_) <;> (have hb' := hb; try simp only [decide_eq_true_eq, decide_eq_false_iff_not, beq_iff_eq, bne_iff_ne, beq_eq_false_iff_ne, bne_eq_false_iff_eq, Bool.not_eq_true', Bool.not_eq_false', Bool.not_eq_true, Bool.not_eq_false, Bool.and_eq_true, Bool.or_eq_true, Bool.and_eq_false_iff, Bool.or_eq_false_iff, Int.not_lt, Int.not_le, ne_eq, gt_iff_lt, ge_iff_le] at hb') <;> (try (exfalso; omega))) | (refine altW.of ?_ ?_) | (refine .of ((alive _).mono ?_); rintro v H ⟨rfl, rfl⟩)
    exact .here rfl
end Go.Proofs.Ytdcodafidefloaa
