import Derived.Test.YtknfaoonjmlncaaStepsH
set_option linter.unusedSimpArgs false
set_option linter.unusedVariables false
set_option maxHeartbeats 4000000
set_option maxRecDepth 20000
namespace Go.Proofs.Ytknfaoonjmlncaa
open Go Go.Am
attribute [local irreducible] opsW Ww loopW callW drawW outW outDW gW cW BrW bothW vW resW DropW RdW dcallW altW Later.run

theorem pick_spec (B F gF n : Nat) (S : St) (kv wv : Nat → Value) (M : Int) (k : Nat) (a : Bool) (l : List Int) (kq ok gk : Nat) (cs : List Value) (J : Heap) (hB : J[B]? = some (.cells 0 0 false [slv F 0 gF n n])) (hF : J[F]? = some (.cells gF 10 false (cN n S kv wv))) (hBF : B ≠ F) (hn : n ≤ 16) (hok : OkS n M S) (hM : M ≤ 900000000000000) (hk : k < n)
    (hkv : kv k = slv kq ok gk l.length l.length) (hK : J[kq]? = some (.cells gk 1 false cs)) (hcs : ∀ i, i < l.length → cs[ok + i]? = some (.int .i64 (l.getD i 0))) (hkF : kq ≠ F) (hl : ∀ c ∈ l, 0 ≤ c ∧ c < n) (hlk : ∀ c ∈ l, c ≠ k) (hll : l.length ≤ 16) :
    ACallK Try.prog 26 [.pointer (some ⟨B, 0, some 1⟩), .int .i64 k, .bool a] J (fun v J' => v = .tuple #[] ∧ ∃ X, J' = J.set F (.cells gF 10 false (cN n (pickH S l k a) kv wv)) ++ X) := by
  have hFl := (List.getElem?_eq_some_iff.1 hF).1
  have hcl := cN_len n
  have e0 := g0 hk
  have e2 := g2 hk S kv wv
  rw [hkv] at e2
  have ht := hok.t k hk
  refine .walkW f26_ok (by simp; decide) (by decide) ?_
  repeat' first | simp (disch := first | with_reducible assumption | omega) only [go_sem, Bool.true_and, Bool.and_true, Bool.and_self, Bool.false_and, Bool.and_false, Bool.true_or, Bool.or_true, Bool.false_or, Bool.or_false, ↓reduceIte, Nat.reduceEqDiff, Nat.reduceAdd, Nat.reduceMul, Nat.reduceSub, Nat.reduceBEq, Nat.reduceLeDiff, Nat.reduceLT, Nat.reduceMod, Nat.reduceDiv, Int.reduceToNat, Int.reducePow, Int.reduceMul, Int.reduceAdd, Int.reduceSub, Int.reduceLE, Int.reduceLT, Int.reduceNeg, Int.reduceDiv, Int.reduceMod, Int.reduceEq, Int.reduceBEq, Int.reduceBNe, f26, f26b, f26r0, f26r1, f26r2, f26r3, f26r4, f26r5, f26r6, f26r7, f26r8, f26r10, f26r11, f26r12, f26r13, f26r14, f26r15, f26r16, f26r17, f26r18, f26r19, f26r20, f26r22, f26r23, f26r24, hB, hF, hK, e2, hcl] | (refine BrW.of (fun hb => ?_) (fun hb => ?_) <;> (have hb' := hb; try simp only [decide_eq_true_eq, decide_eq_false_iff_not, beq_iff_eq, bne_iff_ne, beq_eq_false_iff_ne, bne_eq_false_iff_eq, Bool.not_eq_true', Bool.not_eq_false', Bool.not_eq_true, Bool.not_eq_false, Bool.and_eq_true, Bool.or_eq_true, Bool.and_eq_false_iff, Bool.or_eq_false_iff, Int.not_lt, Int.not_le, ne_eq, gt_iff_lt, ge_iff_le] at hb') <;> (try (exfalso; omega))) | (refine altW.of ?_ ?_)
  refine loopW.of (by decide) (fun m e J' => ∃ (i : Nat) (X : Heap), e = [(0, .pointer (some ⟨B, 0, some 1⟩)), (1, .int .i64 k), (2, .bool a), (6, .pointer (some ⟨F, k * 10, some (gF + 1)⟩)), (7, .int .i64 (leastK S l i)), (25, slv kq ok gk l.length l.length), (26, .int .i64 l.length), (27, .int .i64 i)] ∧ J' = J ++ X ∧ i ≤ l.length ∧ m = l.length - i) l.length ⟨0, [], rfl, by simp, by omega, rfl⟩ ?_
  rintro m e J' ⟨i, X, rfl, rfl, hi, rfl⟩
  by_cases hlt : i < l.length
  · have hci := hl _ (show l.getD i 0 ∈ l by rw [List.getD_eq_getElem?_getD, List.getElem?_eq_getElem hlt]; exact List.getElem_mem hlt)
    have x0 := hcs i hlt
    have hst : leastK S l (i + 1) = if 0 < (S (l.getD i 0).toNat).bytes ∧ (leastK S l i < 0 ∨ (S (l.getD i 0).toNat).bg < leastK S l i) then (S (l.getD i 0).toNat).bg else leastK S l i := rfl
    have hlb : -1 ≤ leastK S l i ∧ leastK S l i ≤ M := by
      rcases leastK_cases S l i hi with ⟨h, _⟩ | ⟨c, h1, _, h⟩ | h
      · omega
      · have hc := hl c (List.mem_of_mem_take h1)
        have := hok.t c.toNat (by omega)
        omega
      · exact h.elim
    generalize l.getD i 0 = c at *
    obtain ⟨c, rfl⟩ := Int.eq_ofNat_of_zero_le hci.1
    have hcn : c < n := by omega
    rw [Int.toNat_natCast] at hst
    have ld := cN_ld n S kv wv c hcn
    have htc := hok.t c hcn
    have hbc := hok.b c hcn
    simp only [Rw.cells] at ld
    generalize leastK S l i = L at *
    generalize S c = x at *
    by_cases hc1 : 0 < x.bytes
    · by_cases hc2 : L < 0
      · rw [if_pos ⟨hc1, .inl hc2⟩] at hst
        repeat' first | simp (disch := first | with_reducible assumption | omega) only [go_sem, Bool.true_and, Bool.and_true, Bool.and_self, Bool.false_and, Bool.and_false, Bool.true_or, Bool.or_true, Bool.false_or, Bool.or_false, ↓reduceIte, Nat.reduceEqDiff, Nat.reduceAdd, Nat.reduceMul, Nat.reduceSub, Nat.reduceBEq, Nat.reduceLeDiff, Nat.reduceLT, Nat.reduceMod, Nat.reduceDiv, Int.reduceToNat, Int.reducePow, Int.reduceMul, Int.reduceAdd, Int.reduceSub, Int.reduceLE, Int.reduceLT, Int.reduceNeg, Int.reduceDiv, Int.reduceMod, Int.reduceEq, Int.reduceBEq, Int.reduceBNe, f26, f26b, f26r0, f26r1, f26r2, f26r3, f26r4, f26r5, f26r6, f26r7, f26r8, f26r10, f26r11, f26r12, f26r13, f26r14, f26r15, f26r16, f26r17, f26r18, f26r19, f26r20, f26r22, f26r23, f26r24, f26l0, hB, hF, get_old hB, get_old hF, get_old hK, hK, x0, hcl, ↓ld] | (refine BrW.of (fun hb => ?_) (fun hb => ?_) <;> (have hb' := hb; try simp only [decide_eq_true_eq, decide_eq_false_iff_not, beq_iff_eq, bne_iff_ne, beq_eq_false_iff_ne, bne_eq_false_iff_eq, Bool.not_eq_true', Bool.not_eq_false', Bool.not_eq_true, Bool.not_eq_false, Bool.and_eq_true, Bool.or_eq_true, Bool.and_eq_false_iff, Bool.or_eq_false_iff, Int.not_lt, Int.not_le, ne_eq, gt_iff_lt, ge_iff_le] at hb') <;> (try (exfalso; omega))) | (refine altW.of ?_ ?_)
        all_goals first | (exfalso; omega) | skip
        refine RdW.keep [0, 1, 2, 6, 7, 25, 26, 27] (l.length - (i + 1)) (by omega) ?_
        simp (disch := first | with_reducible assumption | omega) only [go_sem, Bool.true_and, Bool.and_true, Bool.and_self, Bool.false_and, Bool.and_false, Bool.true_or, Bool.or_true, Bool.false_or, Bool.or_false, ↓reduceIte, Nat.reduceEqDiff, Nat.reduceAdd, Nat.reduceMul, Nat.reduceSub, Nat.reduceBEq, Nat.reduceLeDiff, Nat.reduceLT, Nat.reduceMod, Nat.reduceDiv, Int.reduceToNat, Int.reducePow, Int.reduceMul, Int.reduceAdd, Int.reduceSub, Int.reduceLE, Int.reduceLT, Int.reduceNeg, Int.reduceDiv, Int.reduceMod, Int.reduceEq, Int.reduceBEq, Int.reduceBNe]
        exact ⟨i + 1, _, by rw [hst]; rfl, rfl, by omega, rfl⟩
      · by_cases hc3 : x.bg < L
        · rw [if_pos ⟨hc1, .inr hc3⟩] at hst
          repeat' first | simp (disch := first | with_reducible assumption | omega) only [go_sem, Bool.true_and, Bool.and_true, Bool.and_self, Bool.false_and, Bool.and_false, Bool.true_or, Bool.or_true, Bool.false_or, Bool.or_false, ↓reduceIte, Nat.reduceEqDiff, Nat.reduceAdd, Nat.reduceMul, Nat.reduceSub, Nat.reduceBEq, Nat.reduceLeDiff, Nat.reduceLT, Nat.reduceMod, Nat.reduceDiv, Int.reduceToNat, Int.reducePow, Int.reduceMul, Int.reduceAdd, Int.reduceSub, Int.reduceLE, Int.reduceLT, Int.reduceNeg, Int.reduceDiv, Int.reduceMod, Int.reduceEq, Int.reduceBEq, Int.reduceBNe, f26, f26b, f26r0, f26r1, f26r2, f26r3, f26r4, f26r5, f26r6, f26r7, f26r8, f26r10, f26r11, f26r12, f26r13, f26r14, f26r15, f26r16, f26r17, f26r18, f26r19, f26r20, f26r22, f26r23, f26r24, f26l0, hB, hF, get_old hB, get_old hF, get_old hK, hK, x0, hcl, ↓ld] | (refine BrW.of (fun hb => ?_) (fun hb => ?_) <;> (have hb' := hb; try simp only [decide_eq_true_eq, decide_eq_false_iff_not, beq_iff_eq, bne_iff_ne, beq_eq_false_iff_ne, bne_eq_false_iff_eq, Bool.not_eq_true', Bool.not_eq_false', Bool.not_eq_true, Bool.not_eq_false, Bool.and_eq_true, Bool.or_eq_true, Bool.and_eq_false_iff, Bool.or_eq_false_iff, Int.not_lt, Int.not_le, ne_eq, gt_iff_lt, ge_iff_le] at hb') <;> (try (exfalso; omega))) | (refine altW.of ?_ ?_)
          all_goals first | (exfalso; omega) | skip
          refine RdW.keep [0, 1, 2, 6, 7, 25, 26, 27] (l.length - (i + 1)) (by omega) ?_
          simp (disch := first | with_reducible assumption | omega) only [go_sem, Bool.true_and, Bool.and_true, Bool.and_self, Bool.false_and, Bool.and_false, Bool.true_or, Bool.or_true, Bool.false_or, Bool.or_false, ↓reduceIte, Nat.reduceEqDiff, Nat.reduceAdd, Nat.reduceMul, Nat.reduceSub, Nat.reduceBEq, Nat.reduceLeDiff, Nat.reduceLT, Nat.reduceMod, Nat.reduceDiv, Int.reduceToNat, Int.reducePow, Int.reduceMul, Int.reduceAdd, Int.reduceSub, Int.reduceLE, Int.reduceLT, Int.reduceNeg, Int.reduceDiv, Int.reduceMod, Int.reduceEq, Int.reduceBEq, Int.reduceBNe]
          exact ⟨i + 1, _, by rw [hst]; rfl, rfl, by omega, rfl⟩
        · rw [if_neg (fun h => by omega)] at hst
          repeat' first | simp (disch := first | with_reducible assumption | omega) only [go_sem, Bool.true_and, Bool.and_true, Bool.and_self, Bool.false_and, Bool.and_false, Bool.true_or, Bool.or_true, Bool.false_or, Bool.or_false, ↓reduceIte, Nat.reduceEqDiff, Nat.reduceAdd, Nat.reduceMul, Nat.reduceSub, Nat.reduceBEq, Nat.reduceLeDiff, Nat.reduceLT, Nat.reduceMod, Nat.reduceDiv, Int.reduceToNat, Int.reducePow, Int.reduceMul, Int.reduceAdd, Int.reduceSub, Int.reduceLE, Int.reduceLT, Int.reduceNeg, Int.reduceDiv, Int.reduceMod, Int.reduceEq, Int.reduceBEq, Int.reduceBNe, f26, f26b, f26r0, f26r1, f26r2, f26r3, f26r4, f26r5, f26r6, f26r7, f26r8, f26r10, f26r11, f26r12, f26r13, f26r14, f26r15, f26r16, f26r17, f26r18, f26r19, f26r20, f26r22, f26r23, f26r24, f26l0, hB, hF, get_old hB, get_old hF, get_old hK, hK, x0, hcl, ↓ld] | (refine BrW.of (fun hb => ?_) (fun hb => ?_) <;> (have hb' := hb; try simp only [decide_eq_true_eq, decide_eq_false_iff_not, beq_iff_eq, bne_iff_ne, beq_eq_false_iff_ne, bne_eq_false_iff_eq, Bool.not_eq_true', Bool.not_eq_false', Bool.not_eq_true, Bool.not_eq_false, Bool.and_eq_true, Bool.or_eq_true, Bool.and_eq_false_iff, Bool.or_eq_false_iff, Int.not_lt, Int.not_le, ne_eq, gt_iff_lt, ge_iff_le] at hb') <;> (try (exfalso; omega))) | (refine altW.of ?_ ?_)
          all_goals first | (exfalso; omega) | skip
          refine RdW.keep [0, 1, 2, 6, 7, 25, 26, 27] (l.length - (i + 1)) (by omega) ?_
          simp (disch := first | with_reducible assumption | omega) only [go_sem, Bool.true_and, Bool.and_true, Bool.and_self, Bool.false_and, Bool.and_false, Bool.true_or, Bool.or_true, Bool.false_or, Bool.or_false, ↓reduceIte, Nat.reduceEqDiff, Nat.reduceAdd, Nat.reduceMul, Nat.reduceSub, Nat.reduceBEq, Nat.reduceLeDiff, Nat.reduceLT, Nat.reduceMod, Nat.reduceDiv, Int.reduceToNat, Int.reducePow, Int.reduceMul, Int.reduceAdd, Int.reduceSub, Int.reduceLE, Int.reduceLT, Int.reduceNeg, Int.reduceDiv, Int.reduceMod, Int.reduceEq, Int.reduceBEq, Int.reduceBNe]
          exact ⟨i + 1, _, by rw [hst]; rfl, rfl, by omega, rfl⟩
    · rw [if_neg (fun h => hc1 h.1)] at hst
      repeat' first | simp (disch := first | with_reducible assumption | omega) only [go_sem, Bool.true_and, Bool.and_true, Bool.and_self, Bool.false_and, Bool.and_false, Bool.true_or, Bool.or_true, Bool.false_or, Bool.or_false, ↓reduceIte, Nat.reduceEqDiff, Nat.reduceAdd, Nat.reduceMul, Nat.reduceSub, Nat.reduceBEq, Nat.reduceLeDiff, Nat.reduceLT, Nat.reduceMod, Nat.reduceDiv, Int.reduceToNat, Int.reducePow, Int.reduceMul, Int.reduceAdd, Int.reduceSub, Int.reduceLE, Int.reduceLT, Int.reduceNeg, Int.reduceDiv, Int.reduceMod, Int.reduceEq, Int.reduceBEq, Int.reduceBNe, f26, f26b, f26r0, f26r1, f26r2, f26r3, f26r4, f26r5, f26r6, f26r7, f26r8, f26r10, f26r11, f26r12, f26r13, f26r14, f26r15, f26r16, f26r17, f26r18, f26r19, f26r20, f26r22, f26r23, f26r24, f26l0, hB, hF, get_old hB, get_old hF, get_old hK, hK, x0, hcl, ↓ld] | (refine BrW.of (fun hb => ?_) (fun hb => ?_) <;> (have hb' := hb; try simp only [decide_eq_true_eq, decide_eq_false_iff_not, beq_iff_eq, bne_iff_ne, beq_eq_false_iff_ne, bne_eq_false_iff_eq, Bool.not_eq_true', Bool.not_eq_false', Bool.not_eq_true, Bool.not_eq_false, Bool.and_eq_true, Bool.or_eq_true, Bool.and_eq_false_iff, Bool.or_eq_false_iff, Int.not_lt, Int.not_le, ne_eq, gt_iff_lt, ge_iff_le] at hb') <;> (try (exfalso; omega))) | (refine altW.of ?_ ?_)
      all_goals first | (exfalso; omega) | skip
      refine RdW.keep [0, 1, 2, 6, 7, 25, 26, 27] (l.length - (i + 1)) (by omega) ?_
      simp (disch := first | with_reducible assumption | omega) only [go_sem, Bool.true_and, Bool.and_true, Bool.and_self, Bool.false_and, Bool.and_false, Bool.true_or, Bool.or_true, Bool.false_or, Bool.or_false, ↓reduceIte, Nat.reduceEqDiff, Nat.reduceAdd, Nat.reduceMul, Nat.reduceSub, Nat.reduceBEq, Nat.reduceLeDiff, Nat.reduceLT, Nat.reduceMod, Nat.reduceDiv, Int.reduceToNat, Int.reducePow, Int.reduceMul, Int.reduceAdd, Int.reduceSub, Int.reduceLE, Int.reduceLT, Int.reduceNeg, Int.reduceDiv, Int.reduceMod, Int.reduceEq, Int.reduceBEq, Int.reduceBNe]
      exact ⟨i + 1, _, by rw [hst]; rfl, rfl, by omega, rfl⟩
  · obtain rfl : i = l.length := by omega
    have hset : ∀ (G X : Heap) (y : AObj), F < G.length → (G ++ X).set F y = G.set F y ++ X := fun G X y h => List.set_append_left _ _ h
    have t5 := s5 hk S kv wv 0
    have t8 := s8 hk
    rcases pick_best hok hl k with ⟨hL, _⟩ | ⟨hL, hLM, hbe, hbl, hbn, hbb, hbg, _⟩
    · have hp : pickH S l k a = updS S k { S k with bytes := 0 } := by unfold pickH; rw [if_pos hL]
      generalize leastK S l l.length = L at *
      repeat' first | simp (disch := first | with_reducible assumption | omega) only [go_sem, Bool.true_and, Bool.and_true, Bool.and_self, Bool.false_and, Bool.and_false, Bool.true_or, Bool.or_true, Bool.false_or, Bool.or_false, ↓reduceIte, Nat.reduceEqDiff, Nat.reduceAdd, Nat.reduceMul, Nat.reduceSub, Nat.reduceBEq, Nat.reduceLeDiff, Nat.reduceLT, Nat.reduceMod, Nat.reduceDiv, Int.reduceToNat, Int.reducePow, Int.reduceMul, Int.reduceAdd, Int.reduceSub, Int.reduceLE, Int.reduceLT, Int.reduceNeg, Int.reduceDiv, Int.reduceMod, Int.reduceEq, Int.reduceBEq, Int.reduceBNe, f26, f26b, f26r0, f26r1, f26r2, f26r3, f26r4, f26r5, f26r6, f26r7, f26r8, f26r10, f26r11, f26r12, f26r13, f26r14, f26r15, f26r16, f26r17, f26r18, f26r19, f26r20, f26r22, f26r23, f26r24, f26l0, f26, f26b, f26r0, f26r1, f26r2, f26r3, f26r4, f26r5, f26r6, f26r7, f26r8, f26r10, f26r11, f26r12, f26r13, f26r14, f26r15, f26r16, f26r17, f26r18, f26r19, f26r20, f26r22, f26r23, f26r24, hB, hF, get_old hB, get_old hF, hcl, t5] | (refine BrW.of (fun hb => ?_) (fun hb => ?_) <;> (have hb' := hb; try simp only [decide_eq_true_eq, decide_eq_false_iff_not, beq_iff_eq, bne_iff_ne, beq_eq_false_iff_ne, bne_eq_false_iff_eq, Bool.not_eq_true', Bool.not_eq_false', Bool.not_eq_true, Bool.not_eq_false, Bool.and_eq_true, Bool.or_eq_true, Bool.and_eq_false_iff, Bool.or_eq_false_iff, Int.not_lt, Int.not_le, ne_eq, gt_iff_lt, ge_iff_le] at hb') <;> (try (exfalso; omega))) | (refine altW.of ?_ ?_)
      refine .here ⟨rfl, X, ?_⟩
      rw [hset J X _ hFl, hp]
    · have hp : pickH S l k a = updS S k (offH (setT S k (timeK S l k + (S (bestN S l k)).bytes * 27720)) k (S (bestN S l k)).leaf (S (bestN S l k)).bytes a) := by unfold pickH; rw [if_neg (by omega)]
      have hTe : timeK S l k = max (S k).time (leastK S l l.length) := rfl
      have e8 := g8 hk
      generalize leastK S l l.length = L at *
      have nF : ∀ y, ((J ++ X).set F y)[F]? = some y := fun y => get_set_hit (get_old hF X)
      have nB : ∀ y, ((J ++ X).set F y)[B]? = _ := fun y => (get_set_miss (by omega)).trans (get_old hB X)
      have nK : ∀ y, ((J ++ X).set F y)[kq]? = _ := fun y => (get_set_miss (by omega)).trans (get_old hK X)
      have e2' := fun S => g2 hk S kv wv
      rw [hkv] at e2'
      repeat' first | simp (disch := first | with_reducible assumption | omega) only [go_sem, Bool.true_and, Bool.and_true, Bool.and_self, Bool.false_and, Bool.and_false, Bool.true_or, Bool.or_true, Bool.false_or, Bool.or_false, ↓reduceIte, Nat.reduceEqDiff, Nat.reduceAdd, Nat.reduceMul, Nat.reduceSub, Nat.reduceBEq, Nat.reduceLeDiff, Nat.reduceLT, Nat.reduceMod, Nat.reduceDiv, Int.reduceToNat, Int.reducePow, Int.reduceMul, Int.reduceAdd, Int.reduceSub, Int.reduceLE, Int.reduceLT, Int.reduceNeg, Int.reduceDiv, Int.reduceMod, Int.reduceEq, Int.reduceBEq, Int.reduceBNe, f26, f26b, f26r0, f26r1, f26r2, f26r3, f26r4, f26r5, f26r6, f26r7, f26r8, f26r10, f26r11, f26r12, f26r13, f26r14, f26r15, f26r16, f26r17, f26r18, f26r19, f26r20, f26r22, f26r23, f26r24, f26l0, f26, f26b, f26r0, f26r1, f26r2, f26r3, f26r4, f26r5, f26r6, f26r7, f26r8, f26r10, f26r11, f26r12, f26r13, f26r14, f26r15, f26r16, f26r17, f26r18, f26r19, f26r20, f26r22, f26r23, f26r24, hB, hF, get_old hB, get_old hF, hcl, e8, t8, nF, nB, nK, e2'] | (refine BrW.of (fun hb => ?_) (fun hb => ?_) <;> (have hb' := hb; try simp only [decide_eq_true_eq, decide_eq_false_iff_not, beq_iff_eq, bne_iff_ne, beq_eq_false_iff_ne, bne_eq_false_iff_eq, Bool.not_eq_true', Bool.not_eq_false', Bool.not_eq_true, Bool.not_eq_false, Bool.and_eq_true, Bool.or_eq_true, Bool.and_eq_false_iff, Bool.or_eq_false_iff, Int.not_lt, Int.not_le, ne_eq, gt_iff_lt, ge_iff_le] at hb') <;> (try (exfalso; omega))) | (refine altW.of ?_ ?_)
      all_goals first | (exfalso; omega) | skip
      have hT0 : 0 ≤ timeK S l k ∧ timeK S l k ≤ M := by omega
      rw [← hTe]
      generalize hTT : timeK S l k = T at *
      clear hTe e8 t8 t5 hLM hL
      have hG : ∃ G : Heap, G = (J ++ X).set F (AObj.cells gF 10 false (cN n (updS S k ⟨(S k).up, (S k).w, (S k).sum, (S k).leaf, (S k).bytes, (S k).bg, (S k).un, T⟩) kv wv)) := ⟨_, rfl⟩
      obtain ⟨G, hG⟩ := hG
      rw [← hG]
      have hGF := nF (AObj.cells gF 10 false (cN n (updS S k ⟨(S k).up, (S k).w, (S k).sum, (S k).leaf, (S k).bytes, (S k).bg, (S k).un, T⟩) kv wv))
      have hGB := nB (AObj.cells gF 10 false (cN n (updS S k ⟨(S k).up, (S k).w, (S k).sum, (S k).leaf, (S k).bytes, (S k).bg, (S k).un, T⟩) kv wv))
      have hGK := nK (AObj.cells gF 10 false (cN n (updS S k ⟨(S k).up, (S k).w, (S k).sum, (S k).leaf, (S k).bytes, (S k).bg, (S k).un, T⟩) kv wv))
      rw [← hG] at hGF hGB hGK
      have hGl : J.length ≤ G.length := by rw [hG]; simp
      have hGs : ∀ y, G.set F y = J.set F y ++ X := fun y => by rw [hG, List.set_set, hset J X y hFl]
      clear hG nF nB nK
      have hSc : ∀ c, c ≠ k → updS S k ⟨(S k).up, (S k).w, (S k).sum, (S k).leaf, (S k).bytes, (S k).bg, (S k).un, T⟩ c = S c := fun c h => updS_ne h
      have hSk : updS S k ⟨(S k).up, (S k).w, (S k).sum, (S k).leaf, (S k).bytes, (S k).bg, (S k).un, T⟩ k = ⟨(S k).up, (S k).w, (S k).sum, (S k).leaf, (S k).bytes, (S k).bg, (S k).un, T⟩ := updS_same _ _ _
      have hSt : ∀ t, updS (updS S k ⟨(S k).up, (S k).w, (S k).sum, (S k).leaf, (S k).bytes, (S k).bg, (S k).un, T⟩) k ⟨(S k).up, (S k).w, (S k).sum, (S k).leaf, (S k).bytes, (S k).bg, (S k).un, t⟩ = setT S k t := fun t => updS_updS _ _ _ _
      have e8 := g8 hk (updS S k ⟨(S k).up, (S k).w, (S k).sum, (S k).leaf, (S k).bytes, (S k).bg, (S k).un, T⟩) kv wv
      rw [hSk] at e8
      generalize hS1 : updS S k ⟨(S k).up, (S k).w, (S k).sum, (S k).leaf, (S k).bytes, (S k).bg, (S k).un, T⟩ = S1 at *
      refine loopW.of (by decide) (fun m e J' => ∃ (i : Nat) (Y : Heap), e = [(0, .pointer (some ⟨B, 0, some 1⟩)), (1, .int .i64 k), (2, .bool a), (6, .pointer (some ⟨F, k * 10, some (gF + 1)⟩)), (11, .int .i64 (bestK S T l i)), (71, slv kq ok gk l.length l.length), (72, .int .i64 l.length), (73, .int .i64 i)] ∧ J' = G ++ Y ∧ i ≤ l.length ∧ m = l.length - i) l.length ⟨0, [], rfl, by simp, by omega, rfl⟩ ?_
      rintro m e J' ⟨i, Y, rfl, rfl, hi, rfl⟩
      by_cases hlt : i < l.length
      · have hci := hl _ (show l.getD i 0 ∈ l by rw [List.getD_eq_getElem?_getD, List.getElem?_eq_getElem hlt]; exact List.getElem_mem hlt)
        have hck := hlk _ (show l.getD i 0 ∈ l by rw [List.getD_eq_getElem?_getD, List.getElem?_eq_getElem hlt]; exact List.getElem_mem hlt)
        have x0 := hcs i hlt
        have hst : bestK S T l (i + 1) = if (0 < (S (l.getD i 0).toNat).bytes ∧ (S (l.getD i 0).toNat).bg ≤ T) ∧ (bestK S T l i < 0 ∨ (S (l.getD i 0).toNat).un < (S (bestK S T l i).toNat).un) then l.getD i 0 else bestK S T l i := rfl
        have hbc : bestK S T l i = -1 ∨ ∃ b : Nat, bestK S T l i = b ∧ b < n ∧ b ≠ k := by
          rcases bestK_cases S T l (fun c hc => (hl c hc).1) i hi with ⟨h, _⟩ | ⟨h1, _, _, _⟩
          · exact .inl h
          · have h2 := hl _ (List.mem_of_mem_take h1)
            have h3 := hlk _ (List.mem_of_mem_take h1)
            exact .inr ⟨(bestK S T l i).toNat, by omega, by omega, by omega⟩
        generalize l.getD i 0 = c at *
        obtain ⟨c, rfl⟩ := Int.eq_ofNat_of_zero_le hci.1
        have hcn : c < n := by omega
        rw [Int.toNat_natCast] at hst
        have ld := cN_ld n S1 kv wv c hcn
        rw [hSc c (by omega)] at ld
        have htc := hok.t c hcn
        have hbyc := hok.b c hcn
        simp only [Rw.cells] at ld
        rcases hbc with hbc | ⟨b, hbc, hbn', hbk⟩
        · rw [hbc] at hst ⊢
          by_cases hc1 : 0 < (S c).bytes ∧ (S c).bg ≤ T
          · rw [if_pos ⟨hc1, .inl (by omega)⟩] at hst
            generalize S c = x at *
            obtain ⟨hc1, hc2⟩ := hc1
            repeat' first | simp (disch := first | with_reducible assumption | omega) only [go_sem, Bool.true_and, Bool.and_true, Bool.and_self, Bool.false_and, Bool.and_false, Bool.true_or, Bool.or_true, Bool.false_or, Bool.or_false, ↓reduceIte, Nat.reduceEqDiff, Nat.reduceAdd, Nat.reduceMul, Nat.reduceSub, Nat.reduceBEq, Nat.reduceLeDiff, Nat.reduceLT, Nat.reduceMod, Nat.reduceDiv, Int.reduceToNat, Int.reducePow, Int.reduceMul, Int.reduceAdd, Int.reduceSub, Int.reduceLE, Int.reduceLT, Int.reduceNeg, Int.reduceDiv, Int.reduceMod, Int.reduceEq, Int.reduceBEq, Int.reduceBNe, f26, f26b, f26r0, f26r1, f26r2, f26r3, f26r4, f26r5, f26r6, f26r7, f26r8, f26r10, f26r11, f26r12, f26r13, f26r14, f26r15, f26r16, f26r17, f26r18, f26r19, f26r20, f26r22, f26r23, f26r24, f26l1, hGB, hGF, get_old hGB, get_old hGF, get_old hGK, hGK, x0, hcl, ↓ld, e8] | (refine BrW.of (fun hb => ?_) (fun hb => ?_) <;> (have hb' := hb; try simp only [decide_eq_true_eq, decide_eq_false_iff_not, beq_iff_eq, bne_iff_ne, beq_eq_false_iff_ne, bne_eq_false_iff_eq, Bool.not_eq_true', Bool.not_eq_false', Bool.not_eq_true, Bool.not_eq_false, Bool.and_eq_true, Bool.or_eq_true, Bool.and_eq_false_iff, Bool.or_eq_false_iff, Int.not_lt, Int.not_le, ne_eq, gt_iff_lt, ge_iff_le] at hb') <;> (try (exfalso; omega))) | (refine altW.of ?_ ?_)
            all_goals first | (exfalso; omega) | skip
            refine RdW.keep [0, 1, 2, 6, 11, 71, 72, 73] (l.length - (i + 1)) (by omega) ?_
            simp (disch := first | with_reducible assumption | omega) only [go_sem, Bool.true_and, Bool.and_true, Bool.and_self, Bool.false_and, Bool.and_false, Bool.true_or, Bool.or_true, Bool.false_or, Bool.or_false, ↓reduceIte, Nat.reduceEqDiff, Nat.reduceAdd, Nat.reduceMul, Nat.reduceSub, Nat.reduceBEq, Nat.reduceLeDiff, Nat.reduceLT, Nat.reduceMod, Nat.reduceDiv, Int.reduceToNat, Int.reducePow, Int.reduceMul, Int.reduceAdd, Int.reduceSub, Int.reduceLE, Int.reduceLT, Int.reduceNeg, Int.reduceDiv, Int.reduceMod, Int.reduceEq, Int.reduceBEq, Int.reduceBNe]
            exact ⟨i + 1, _, by rw [hst]; rfl, rfl, by omega, rfl⟩
          · rw [if_neg (fun h => hc1 h.1)] at hst
            generalize S c = x at *
            have hc2 : ¬ 0 < x.bytes ∨ (0 < x.bytes ∧ ¬ x.bg ≤ T) := by
              by_cases h : 0 < x.bytes
              · exact .inr ⟨h, fun h2 => hc1 ⟨h, h2⟩⟩
              · exact .inl h
            rcases hc2 with hc2 | ⟨hc2, hc3⟩
            all_goals
              repeat' first | simp (disch := first | with_reducible assumption | omega) only [go_sem, Bool.true_and, Bool.and_true, Bool.and_self, Bool.false_and, Bool.and_false, Bool.true_or, Bool.or_true, Bool.false_or, Bool.or_false, ↓reduceIte, Nat.reduceEqDiff, Nat.reduceAdd, Nat.reduceMul, Nat.reduceSub, Nat.reduceBEq, Nat.reduceLeDiff, Nat.reduceLT, Nat.reduceMod, Nat.reduceDiv, Int.reduceToNat, Int.reducePow, Int.reduceMul, Int.reduceAdd, Int.reduceSub, Int.reduceLE, Int.reduceLT, Int.reduceNeg, Int.reduceDiv, Int.reduceMod, Int.reduceEq, Int.reduceBEq, Int.reduceBNe, f26, f26b, f26r0, f26r1, f26r2, f26r3, f26r4, f26r5, f26r6, f26r7, f26r8, f26r10, f26r11, f26r12, f26r13, f26r14, f26r15, f26r16, f26r17, f26r18, f26r19, f26r20, f26r22, f26r23, f26r24, f26l1, hGB, hGF, get_old hGB, get_old hGF, get_old hGK, hGK, x0, hcl, ↓ld, e8] | (refine BrW.of (fun hb => ?_) (fun hb => ?_) <;> (have hb' := hb; try simp only [decide_eq_true_eq, decide_eq_false_iff_not, beq_iff_eq, bne_iff_ne, beq_eq_false_iff_ne, bne_eq_false_iff_eq, Bool.not_eq_true', Bool.not_eq_false', Bool.not_eq_true, Bool.not_eq_false, Bool.and_eq_true, Bool.or_eq_true, Bool.and_eq_false_iff, Bool.or_eq_false_iff, Int.not_lt, Int.not_le, ne_eq, gt_iff_lt, ge_iff_le] at hb') <;> (try (exfalso; omega))) | (refine altW.of ?_ ?_)
              all_goals first | (exfalso; omega) | skip
              refine RdW.keep [0, 1, 2, 6, 11, 71, 72, 73] (l.length - (i + 1)) (by omega) ?_
              simp (disch := first | with_reducible assumption | omega) only [go_sem, Bool.true_and, Bool.and_true, Bool.and_self, Bool.false_and, Bool.and_false, Bool.true_or, Bool.or_true, Bool.false_or, Bool.or_false, ↓reduceIte, Nat.reduceEqDiff, Nat.reduceAdd, Nat.reduceMul, Nat.reduceSub, Nat.reduceBEq, Nat.reduceLeDiff, Nat.reduceLT, Nat.reduceMod, Nat.reduceDiv, Int.reduceToNat, Int.reducePow, Int.reduceMul, Int.reduceAdd, Int.reduceSub, Int.reduceLE, Int.reduceLT, Int.reduceNeg, Int.reduceDiv, Int.reduceMod, Int.reduceEq, Int.reduceBEq, Int.reduceBNe]
              exact ⟨i + 1, _, by rw [hst]; rfl, rfl, by omega, rfl⟩
        · have e7 := g7 hbn' S1 kv wv
          rw [hSc b hbk] at e7
          rw [hbc, Int.toNat_natCast] at hst
          rw [hbc]
          by_cases hc1 : 0 < (S c).bytes ∧ (S c).bg ≤ T
          · obtain ⟨hc1, hc2⟩ := hc1
            by_cases hc3 : (S c).un < (S b).un
            · rw [if_pos ⟨⟨hc1, hc2⟩, .inr hc3⟩] at hst
              generalize S c = x at *
              generalize S b = y at *
              repeat' first | simp (disch := first | with_reducible assumption | omega) only [go_sem, Bool.true_and, Bool.and_true, Bool.and_self, Bool.false_and, Bool.and_false, Bool.true_or, Bool.or_true, Bool.false_or, Bool.or_false, ↓reduceIte, Nat.reduceEqDiff, Nat.reduceAdd, Nat.reduceMul, Nat.reduceSub, Nat.reduceBEq, Nat.reduceLeDiff, Nat.reduceLT, Nat.reduceMod, Nat.reduceDiv, Int.reduceToNat, Int.reducePow, Int.reduceMul, Int.reduceAdd, Int.reduceSub, Int.reduceLE, Int.reduceLT, Int.reduceNeg, Int.reduceDiv, Int.reduceMod, Int.reduceEq, Int.reduceBEq, Int.reduceBNe, f26, f26b, f26r0, f26r1, f26r2, f26r3, f26r4, f26r5, f26r6, f26r7, f26r8, f26r10, f26r11, f26r12, f26r13, f26r14, f26r15, f26r16, f26r17, f26r18, f26r19, f26r20, f26r22, f26r23, f26r24, f26l1, hGB, hGF, get_old hGB, get_old hGF, get_old hGK, hGK, x0, hcl, ↓ld, e8, e7] | (refine BrW.of (fun hb => ?_) (fun hb => ?_) <;> (have hb' := hb; try simp only [decide_eq_true_eq, decide_eq_false_iff_not, beq_iff_eq, bne_iff_ne, beq_eq_false_iff_ne, bne_eq_false_iff_eq, Bool.not_eq_true', Bool.not_eq_false', Bool.not_eq_true, Bool.not_eq_false, Bool.and_eq_true, Bool.or_eq_true, Bool.and_eq_false_iff, Bool.or_eq_false_iff, Int.not_lt, Int.not_le, ne_eq, gt_iff_lt, ge_iff_le] at hb') <;> (try (exfalso; omega))) | (refine altW.of ?_ ?_)
              all_goals first | (exfalso; omega) | skip
              refine RdW.keep [0, 1, 2, 6, 11, 71, 72, 73] (l.length - (i + 1)) (by omega) ?_
              simp (disch := first | with_reducible assumption | omega) only [go_sem, Bool.true_and, Bool.and_true, Bool.and_self, Bool.false_and, Bool.and_false, Bool.true_or, Bool.or_true, Bool.false_or, Bool.or_false, ↓reduceIte, Nat.reduceEqDiff, Nat.reduceAdd, Nat.reduceMul, Nat.reduceSub, Nat.reduceBEq, Nat.reduceLeDiff, Nat.reduceLT, Nat.reduceMod, Nat.reduceDiv, Int.reduceToNat, Int.reducePow, Int.reduceMul, Int.reduceAdd, Int.reduceSub, Int.reduceLE, Int.reduceLT, Int.reduceNeg, Int.reduceDiv, Int.reduceMod, Int.reduceEq, Int.reduceBEq, Int.reduceBNe]
              exact ⟨i + 1, _, by rw [hst]; rfl, rfl, by omega, rfl⟩
            · rw [if_neg (fun h => by rcases h.2 with h | h <;> omega)] at hst
              generalize S c = x at *
              generalize S b = y at *
              repeat' first | simp (disch := first | with_reducible assumption | omega) only [go_sem, Bool.true_and, Bool.and_true, Bool.and_self, Bool.false_and, Bool.and_false, Bool.true_or, Bool.or_true, Bool.false_or, Bool.or_false, ↓reduceIte, Nat.reduceEqDiff, Nat.reduceAdd, Nat.reduceMul, Nat.reduceSub, Nat.reduceBEq, Nat.reduceLeDiff, Nat.reduceLT, Nat.reduceMod, Nat.reduceDiv, Int.reduceToNat, Int.reducePow, Int.reduceMul, Int.reduceAdd, Int.reduceSub, Int.reduceLE, Int.reduceLT, Int.reduceNeg, Int.reduceDiv, Int.reduceMod, Int.reduceEq, Int.reduceBEq, Int.reduceBNe, f26, f26b, f26r0, f26r1, f26r2, f26r3, f26r4, f26r5, f26r6, f26r7, f26r8, f26r10, f26r11, f26r12, f26r13, f26r14, f26r15, f26r16, f26r17, f26r18, f26r19, f26r20, f26r22, f26r23, f26r24, f26l1, hGB, hGF, get_old hGB, get_old hGF, get_old hGK, hGK, x0, hcl, ↓ld, e8, e7] | (refine BrW.of (fun hb => ?_) (fun hb => ?_) <;> (have hb' := hb; try simp only [decide_eq_true_eq, decide_eq_false_iff_not, beq_iff_eq, bne_iff_ne, beq_eq_false_iff_ne, bne_eq_false_iff_eq, Bool.not_eq_true', Bool.not_eq_false', Bool.not_eq_true, Bool.not_eq_false, Bool.and_eq_true, Bool.or_eq_true, Bool.and_eq_false_iff, Bool.or_eq_false_iff, Int.not_lt, Int.not_le, ne_eq, gt_iff_lt, ge_iff_le] at hb') <;> (try (exfalso; omega))) | (refine altW.of ?_ ?_)
              all_goals first | (exfalso; omega) | skip
              refine RdW.keep [0, 1, 2, 6, 11, 71, 72, 73] (l.length - (i + 1)) (by omega) ?_
              simp (disch := first | with_reducible assumption | omega) only [go_sem, Bool.true_and, Bool.and_true, Bool.and_self, Bool.false_and, Bool.and_false, Bool.true_or, Bool.or_true, Bool.false_or, Bool.or_false, ↓reduceIte, Nat.reduceEqDiff, Nat.reduceAdd, Nat.reduceMul, Nat.reduceSub, Nat.reduceBEq, Nat.reduceLeDiff, Nat.reduceLT, Nat.reduceMod, Nat.reduceDiv, Int.reduceToNat, Int.reducePow, Int.reduceMul, Int.reduceAdd, Int.reduceSub, Int.reduceLE, Int.reduceLT, Int.reduceNeg, Int.reduceDiv, Int.reduceMod, Int.reduceEq, Int.reduceBEq, Int.reduceBNe]
              exact ⟨i + 1, _, by rw [hst]; rfl, rfl, by omega, rfl⟩
          · rw [if_neg (fun h => hc1 h.1)] at hst
            generalize S c = x at *
            have hc2 : ¬ 0 < x.bytes ∨ (0 < x.bytes ∧ ¬ x.bg ≤ T) := by
              by_cases h : 0 < x.bytes
              · exact .inr ⟨h, fun h2 => hc1 ⟨h, h2⟩⟩
              · exact .inl h
            rcases hc2 with hc2 | ⟨hc2, hc3⟩
            all_goals
              repeat' first | simp (disch := first | with_reducible assumption | omega) only [go_sem, Bool.true_and, Bool.and_true, Bool.and_self, Bool.false_and, Bool.and_false, Bool.true_or, Bool.or_true, Bool.false_or, Bool.or_false, ↓reduceIte, Nat.reduceEqDiff, Nat.reduceAdd, Nat.reduceMul, Nat.reduceSub, Nat.reduceBEq, Nat.reduceLeDiff, Nat.reduceLT, Nat.reduceMod, Nat.reduceDiv, Int.reduceToNat, Int.reducePow, Int.reduceMul, Int.reduceAdd, Int.reduceSub, Int.reduceLE, Int.reduceLT, Int.reduceNeg, Int.reduceDiv, Int.reduceMod, Int.reduceEq, Int.reduceBEq, Int.reduceBNe, f26, f26b, f26r0, f26r1, f26r2, f26r3, f26r4, f26r5, f26r6, f26r7, f26r8, f26r10, f26r11, f26r12, f26r13, f26r14, f26r15, f26r16, f26r17, f26r18, f26r19, f26r20, f26r22, f26r23, f26r24, f26l1, hGB, hGF, get_old hGB, get_old hGF, get_old hGK, hGK, x0, hcl, ↓ld, e8, e7] | (refine BrW.of (fun hb => ?_) (fun hb => ?_) <;> (have hb' := hb; try simp only [decide_eq_true_eq, decide_eq_false_iff_not, beq_iff_eq, bne_iff_ne, beq_eq_false_iff_ne, bne_eq_false_iff_eq, Bool.not_eq_true', Bool.not_eq_false', Bool.not_eq_true, Bool.not_eq_false, Bool.and_eq_true, Bool.or_eq_true, Bool.and_eq_false_iff, Bool.or_eq_false_iff, Int.not_lt, Int.not_le, ne_eq, gt_iff_lt, ge_iff_le] at hb') <;> (try (exfalso; omega))) | (refine altW.of ?_ ?_)
              all_goals first | (exfalso; omega) | skip
              refine RdW.keep [0, 1, 2, 6, 11, 71, 72, 73] (l.length - (i + 1)) (by omega) ?_
              simp (disch := first | with_reducible assumption | omega) only [go_sem, Bool.true_and, Bool.and_true, Bool.and_self, Bool.false_and, Bool.and_false, Bool.true_or, Bool.or_true, Bool.false_or, Bool.or_false, ↓reduceIte, Nat.reduceEqDiff, Nat.reduceAdd, Nat.reduceMul, Nat.reduceSub, Nat.reduceBEq, Nat.reduceLeDiff, Nat.reduceLT, Nat.reduceMod, Nat.reduceDiv, Int.reduceToNat, Int.reducePow, Int.reduceMul, Int.reduceAdd, Int.reduceSub, Int.reduceLE, Int.reduceLT, Int.reduceNeg, Int.reduceDiv, Int.reduceMod, Int.reduceEq, Int.reduceBEq, Int.reduceBNe]
              exact ⟨i + 1, _, by rw [hst]; rfl, rfl, by omega, rfl⟩
      · obtain rfl : i = l.length := by omega
        rw [hbe]
        have hbk : bestN S l k ≠ k := fun h => hlk _ hbl (by rw [h])
        have ld := cN_ld n S1 kv wv (bestN S l k) hbn
        rw [hSc _ hbk] at ld
        have hbb2 := hok.b _ hbn
        have t8 := s8 hk S1 kv wv
        simp only [hSk, hSt] at t8
        generalize bestN S l k = b at *
        simp only [Rw.cells] at ld
        have hFG : F < G.length := by omega
        have nX : ∀ (A y : AObj), ((G ++ (Y ++ [A])).set F y)[G.length + Y.length]? = some A := fun A y => by
          rw [get_set_miss (by omega), ← List.append_assoc, ← List.length_append]
          exact get_new0 _ _ []
        have nB2 : ∀ (A y : AObj), ((G ++ (Y ++ [A])).set F y)[B]? = _ := fun A y => (get_set_miss (by omega)).trans (get_old hGB _)
        have nF2 : ∀ (A y : AObj), ((G ++ (Y ++ [A])).set F y)[F]? = some y := fun A y => get_set_hit (get_old hGF _)
        repeat' first | simp (disch := first | with_reducible assumption | omega) only [go_sem, Bool.true_and, Bool.and_true, Bool.and_self, Bool.false_and, Bool.and_false, Bool.true_or, Bool.or_true, Bool.false_or, Bool.or_false, ↓reduceIte, Nat.reduceEqDiff, Nat.reduceAdd, Nat.reduceMul, Nat.reduceSub, Nat.reduceBEq, Nat.reduceLeDiff, Nat.reduceLT, Nat.reduceMod, Nat.reduceDiv, Int.reduceToNat, Int.reducePow, Int.reduceMul, Int.reduceAdd, Int.reduceSub, Int.reduceLE, Int.reduceLT, Int.reduceNeg, Int.reduceDiv, Int.reduceMod, Int.reduceEq, Int.reduceBEq, Int.reduceBNe, f26, f26b, f26r0, f26r1, f26r2, f26r3, f26r4, f26r5, f26r6, f26r7, f26r8, f26r10, f26r11, f26r12, f26r13, f26r14, f26r15, f26r16, f26r17, f26r18, f26r19, f26r20, f26r22, f26r23, f26r24, f26l1, f26, f26b, f26r0, f26r1, f26r2, f26r3, f26r4, f26r5, f26r6, f26r7, f26r8, f26r10, f26r11, f26r12, f26r13, f26r14, f26r15, f26r16, f26r17, f26r18, f26r19, f26r20, f26r22, f26r23, f26r24, hGB, hGF, get_old hGB, get_old hGF, hcl, ↓ld, e8, t8, nX] | (refine BrW.of (fun hb => ?_) (fun hb => ?_) <;> (have hb' := hb; try simp only [decide_eq_true_eq, decide_eq_false_iff_not, beq_iff_eq, bne_iff_ne, beq_eq_false_iff_ne, bne_eq_false_iff_eq, Bool.not_eq_true', Bool.not_eq_false', Bool.not_eq_true, Bool.not_eq_false, Bool.and_eq_true, Bool.or_eq_true, Bool.and_eq_false_iff, Bool.or_eq_false_iff, Int.not_lt, Int.not_le, ne_eq, gt_iff_lt, ge_iff_le] at hb') <;> (try (exfalso; omega))) | (refine altW.of ?_ ?_)
        have h3 : OkS n (M + 100000000) S := hok.mono (by omega)
        have h6 : OkS n (M + 100000000) (setT S k (T + (S b).bytes * 27720)) := h3.upd hk ⟨rfl, rfl, rfl⟩ (hok.b k hk) (by simp only; omega)
        refine .of ((offer_spec B F gF n (setT S k (T + (S b).bytes * 27720)) kv wv (M + 100000000) k (S b).leaf (S b).bytes a _ (nB2 _ _) (nF2 _ _) hBF hn h6 (by omega) hk hbb2).mono ?_)
        rintro v _ ⟨rfl, rfl⟩
        repeat' first | simp (disch := first | with_reducible assumption | omega) only [go_sem, Bool.true_and, Bool.and_true, Bool.and_self, Bool.false_and, Bool.and_false, Bool.true_or, Bool.or_true, Bool.false_or, Bool.or_false, ↓reduceIte, Nat.reduceEqDiff, Nat.reduceAdd, Nat.reduceMul, Nat.reduceSub, Nat.reduceBEq, Nat.reduceLeDiff, Nat.reduceLT, Nat.reduceMod, Nat.reduceDiv, Int.reduceToNat, Int.reducePow, Int.reduceMul, Int.reduceAdd, Int.reduceSub, Int.reduceLE, Int.reduceLT, Int.reduceNeg, Int.reduceDiv, Int.reduceMod, Int.reduceEq, Int.reduceBEq, Int.reduceBNe, f26, f26b, f26r0, f26r1, f26r2, f26r3, f26r4, f26r5, f26r6, f26r7, f26r8, f26r10, f26r11, f26r12, f26r13, f26r14, f26r15, f26r16, f26r17, f26r18, f26r19, f26r20, f26r22, f26r23, f26r24] | (refine BrW.of (fun hb => ?_) (fun hb => ?_) <;> (have hb' := hb; try simp only [decide_eq_true_eq, decide_eq_false_iff_not, beq_iff_eq, bne_iff_ne, beq_eq_false_iff_ne, bne_eq_false_iff_eq, Bool.not_eq_true', Bool.not_eq_false', Bool.not_eq_true, Bool.not_eq_false, Bool.and_eq_true, Bool.or_eq_true, Bool.and_eq_false_iff, Bool.or_eq_false_iff, Int.not_lt, Int.not_le, ne_eq, gt_iff_lt, ge_iff_le] at hb') <;> (try (exfalso; omega))) | (refine altW.of ?_ ?_)
        have e : ∀ x, updS (setT S k (T + (S b).bytes * 27720)) k x = updS S k x := fun x => updS_updS _ _ _ _
        refine .here ⟨rfl, ?_⟩
        rw [List.set_set, hset G _ _ hFG, hGs, List.append_assoc, hp, e]
        exact ⟨_, rfl⟩
end Go.Proofs.Ytknfaoonjmlncaa
