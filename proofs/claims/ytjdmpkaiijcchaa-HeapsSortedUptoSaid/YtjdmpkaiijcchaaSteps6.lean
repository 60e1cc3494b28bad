import Derived.Test.YtjdmpkaiijcchaaSteps5
set_option linter.unusedSimpArgs false
set_option linter.unusedVariables false
set_option maxHeartbeats 2000000
set_option maxRecDepth 20000
namespace Go.Proofs.Ytjdmpkaiijcchaa
open Go Go.Am
attribute [local irreducible] opsW Ww loopW callW drawW outW outDW gW cW BrW bothW vW resW DropW RdW dcallW altW forkW splitW Later.run

theorem HS.full {B r P : Nat} {J : Heap} {L : List It} {n : Nat} {m : List T3} {c : Nat} (h : HS B r P J L n m c) (hn : 0 < n) : ∃ q g, P ≤ q ∧ HQ B r q J L n g m c := by
  rcases h with h | ⟨h0, _⟩
  · exact h
  · omega
theorem look_any (m : List T3) (i : Int) : ∃ u b, lookV (.int .i64 0) true (m.map E) .i64 i = some (.tuple #[.int .i64 u, .bool b]) := by
  rw [look_E]; split
  · exact ⟨_, _, rfl⟩
  · exact ⟨_, _, rfl⟩
/-- The first one is popped. -/
theorem do_pop (B r P : Nat) (J : Heap) (x : It) (t : List It) (n : Nat) (o : Op) (h : HP B r P J (x :: t) n) (hB : B < P) (hr : r < P) (hP : P ≤ J.length) (hn : n ≤ 10000000000) (hk : o.k = 2) :
    ACallK Try.prog 21 [.pointer (some ⟨B, 0, some 1⟩), o.val] J (fun v J' => v = .tuple #[.int .i64 x.i, .int .i64 0] ∧ (∃ n', HP B r P J' t n' ∧ n' ≤ n + 1) ∧ Fr B r P J J') := by
  obtain ⟨L, m, c, hS, hM, hA⟩ := h
  obtain ⟨hn0, hx⟩ := hA.head
  obtain ⟨q, g, hPq, hQ⟩ := hS.full hn0
  obtain ⟨n', rfl⟩ : ∃ n', n = n' + 1 := ⟨n - 1, by omega⟩
  obtain ⟨u, b, hl0⟩ := look_any m o.i
  obtain ⟨ok, oi, oh, ol⟩ := o
  simp only [Op.val] at *
  subst hk
  have hT := take_spec B r q _ L n' g m c (hQ.app [.cells 0 0 false [.int .i64 2, .int .i64 oi, .int .u64 oh, .int .u64 ol]]) hM (fun i hi => hA.ok i hi) (by omega) 0 (by omega) hA.hp
  have hx' : L.getD 0 i0 = x := hx
  rw [hx'] at hT
  have hT : ACallK Try.prog 22 [.pointer (some ⟨B, 0, some 1⟩), .int .i64 0] _ _ := hT
  have hq1 := hQ.hB
  have hq2 := hQ.hq
  have hq3 := hQ.hr
  have fl := flI_len L
  have hcn : ¬ (((n' + 1 : Nat) : Int) = 0) := by omega
  refine .walkW f21_ok (by simp; decide) (by decide) ?_
  repeat' first | simp (disch := first | with_reducible assumption | omega) only [go_sem, Bool.true_and, Bool.and_true, Bool.and_self, Bool.false_and, Bool.and_false, Bool.true_or, Bool.or_true, Bool.false_or, Bool.or_false, ↓reduceIte, Nat.reduceEqDiff, Nat.reduceAdd, Nat.reduceMul, Nat.reduceSub, Nat.reduceBEq, Nat.reduceLeDiff, Nat.reduceLT, Nat.reduceMod, Nat.reduceDiv, Int.reduceToNat, Int.reducePow, Int.reduceMul, Int.reduceAdd, Int.reduceSub, Int.reduceLE, Int.reduceLT, Int.reduceNeg, Int.reduceDiv, Int.reduceMod, Int.reduceEq, Int.reduceBEq, Int.reduceBNe, f21, f21b, f21r0, f21r1, f21r2, f21r3, f21r4, f21r5, f21r6, f21r7, f21r8, f21r9, f21r10, f21r11, f21r12, f21r13, f21r14, f21r15, f21r16, f21r17, f21r18, f21r19, f21r20, f21r21, f21r22, hq1, hq3, get_old hq1, get_old hq3, get_old hq2, fl, mapAt, hl0] | (refine BrW.of (fun hb => ?_) (fun hb => ?_) <;> (have hb' := hb; try simp only [decide_eq_true_eq, decide_eq_false_iff_not, beq_iff_eq, bne_iff_ne, beq_eq_false_iff_ne, bne_eq_false_iff_eq, Bool.not_eq_true', Bool.not_eq_false', Bool.not_eq_true, Bool.not_eq_false, Bool.and_eq_true, Bool.or_eq_true, Bool.and_eq_false_iff, Bool.or_eq_false_iff, Int.not_lt, Int.not_le, ne_eq, gt_iff_lt, ge_iff_le] at hb') <;> (try (exfalso; omega))) | (refine altW.of ?_ ?_)
  all_goals first | (exfalso; omega) | skip
  refine .of (hT.mono ?_)
  rintro v J' ⟨rfl, L', m', g1, g2, g3, g4, g5, g6, g7, g8⟩
  repeat' first | simp (disch := first | with_reducible assumption | omega) only [go_sem, Bool.true_and, Bool.and_true, Bool.and_self, Bool.false_and, Bool.and_false, Bool.true_or, Bool.or_true, Bool.false_or, Bool.or_false, ↓reduceIte, Nat.reduceEqDiff, Nat.reduceAdd, Nat.reduceMul, Nat.reduceSub, Nat.reduceBEq, Nat.reduceLeDiff, Nat.reduceLT, Nat.reduceMod, Nat.reduceDiv, Int.reduceToNat, Int.reducePow, Int.reduceMul, Int.reduceAdd, Int.reduceSub, Int.reduceLE, Int.reduceLT, Int.reduceNeg, Int.reduceDiv, Int.reduceMod, Int.reduceEq, Int.reduceBEq, Int.reduceBNe, f21, f21b, f21r0, f21r1, f21r2, f21r3, f21r4, f21r5, f21r6, f21r7, f21r8, f21r9, f21r10, f21r11, f21r12, f21r13, f21r14, f21r15, f21r16, f21r17, f21r18, f21r19, f21r20, f21r21, f21r22, It.cells] | (refine BrW.of (fun hb => ?_) (fun hb => ?_) <;> (have hb' := hb; try simp only [decide_eq_true_eq, decide_eq_false_iff_not, beq_iff_eq, bne_iff_ne, beq_eq_false_iff_ne, bne_eq_false_iff_eq, Bool.not_eq_true', Bool.not_eq_false', Bool.not_eq_true, Bool.not_eq_false, Bool.and_eq_true, Bool.or_eq_true, Bool.and_eq_false_iff, Bool.or_eq_false_iff, Int.not_lt, Int.not_le, ne_eq, gt_iff_lt, ge_iff_le] at hb') <;> (try (exfalso; omega))) | (refine altW.of ?_ ?_)
  refine .here ⟨rfl, ⟨n', ⟨L', m', c, .inl ⟨q, g, hPq, g1⟩, g2, ?_⟩, by omega⟩, by simp at g7; omega, fun j h1 hN h2 h3 => ?_⟩
  · exact hA.take (x := x) hA.srt.2 (tail_mem hA.srt) g5 g4 fun i j hi hj e => g2.one hi hj e
  · rw [g8 j (by simp; omega) h2 (fun e => hN (by omega) _ _ (by rw [e]; exact hq2)) h3, List.getElem?_append_left (by omega)]
/-- One is removed. -/
theorem do_rem (B r P : Nat) (J : Heap) (s : List It) (n : Nat) (o : Op) (h : HP B r P J s n) (hB : B < P) (hr : r < P) (hP : P ≤ J.length) (hn : n ≤ 10000000000) (hk : o.k = 3) (hhas : hasI s o.i = true) :
    ACallK Try.prog 21 [.pointer (some ⟨B, 0, some 1⟩), o.val] J (fun v J' => v = .tuple #[.int .i64 0, .int .i64 0] ∧ (∃ n', HP B r P J' (outI s o.i) n' ∧ n' ≤ n + 1) ∧ Fr B r P J J') := by
  obtain ⟨L, m, c, hS, hM, hA⟩ := h
  have hm := hM.has hA o.i
  rcases hm with ⟨h1, _⟩ | ⟨_, k, hkn, hlk, hki⟩
  · rw [hhas] at h1; cases h1
  obtain ⟨q, g, hPq, hQ⟩ := hS.full (by omega)
  obtain ⟨n', rfl⟩ : ∃ n', n = n' + 1 := ⟨n - 1, by omega⟩
  have hl0 := look_E m o.i
  rw [hlk] at hl0
  have hsm := hA.one_mem hkn
  have hki' : (itF L k).i = o.i := hki
  rw [hki'] at hsm
  obtain ⟨ok, oi, oh, ol⟩ := o
  simp only [Op.val] at *
  subst hk
  have hT := take_spec B r q _ L n' g m c (hQ.app [.cells 0 0 false [.int .i64 3, .int .i64 oi, .int .u64 oh, .int .u64 ol]]) hM (fun i hi => hA.ok i hi) (by omega) k hkn hA.hp
  have hq1 := hQ.hB
  have hq2 := hQ.hq
  have hq3 := hQ.hr
  have fl := flI_len L
  refine .walkW f21_ok (by simp; decide) (by decide) ?_
  repeat' first | simp (disch := first | with_reducible assumption | omega) only [go_sem, Bool.true_and, Bool.and_true, Bool.and_self, Bool.false_and, Bool.and_false, Bool.true_or, Bool.or_true, Bool.false_or, Bool.or_false, ↓reduceIte, Nat.reduceEqDiff, Nat.reduceAdd, Nat.reduceMul, Nat.reduceSub, Nat.reduceBEq, Nat.reduceLeDiff, Nat.reduceLT, Nat.reduceMod, Nat.reduceDiv, Int.reduceToNat, Int.reducePow, Int.reduceMul, Int.reduceAdd, Int.reduceSub, Int.reduceLE, Int.reduceLT, Int.reduceNeg, Int.reduceDiv, Int.reduceMod, Int.reduceEq, Int.reduceBEq, Int.reduceBNe, f21, f21b, f21r0, f21r1, f21r2, f21r3, f21r4, f21r5, f21r6, f21r7, f21r8, f21r9, f21r10, f21r11, f21r12, f21r13, f21r14, f21r15, f21r16, f21r17, f21r18, f21r19, f21r20, f21r21, f21r22, hq1, hq3, get_old hq1, get_old hq3, get_old hq2, fl, mapAt, hl0] | (refine BrW.of (fun hb => ?_) (fun hb => ?_) <;> (have hb' := hb; try simp only [decide_eq_true_eq, decide_eq_false_iff_not, beq_iff_eq, bne_iff_ne, beq_eq_false_iff_ne, bne_eq_false_iff_eq, Bool.not_eq_true', Bool.not_eq_false', Bool.not_eq_true, Bool.not_eq_false, Bool.and_eq_true, Bool.or_eq_true, Bool.and_eq_false_iff, Bool.or_eq_false_iff, Int.not_lt, Int.not_le, ne_eq, gt_iff_lt, ge_iff_le] at hb') <;> (try (exfalso; omega))) | (refine altW.of ?_ ?_)
  all_goals first | (exfalso; omega) | skip
  refine .of (hT.mono ?_)
  rintro v J' ⟨rfl, L', m', g1, g2, g3, g4, g5, g6, g7, g8⟩
  repeat' first | simp (disch := first | with_reducible assumption | omega) only [go_sem, Bool.true_and, Bool.and_true, Bool.and_self, Bool.false_and, Bool.and_false, Bool.true_or, Bool.or_true, Bool.false_or, Bool.or_false, ↓reduceIte, Nat.reduceEqDiff, Nat.reduceAdd, Nat.reduceMul, Nat.reduceSub, Nat.reduceBEq, Nat.reduceLeDiff, Nat.reduceLT, Nat.reduceMod, Nat.reduceDiv, Int.reduceToNat, Int.reducePow, Int.reduceMul, Int.reduceAdd, Int.reduceSub, Int.reduceLE, Int.reduceLT, Int.reduceNeg, Int.reduceDiv, Int.reduceMod, Int.reduceEq, Int.reduceBEq, Int.reduceBNe, f21, f21b, f21r0, f21r1, f21r2, f21r3, f21r4, f21r5, f21r6, f21r7, f21r8, f21r9, f21r10, f21r11, f21r12, f21r13, f21r14, f21r15, f21r16, f21r17, f21r18, f21r19, f21r20, f21r21, f21r22, It.cells] | (refine BrW.of (fun hb => ?_) (fun hb => ?_) <;> (have hb' := hb; try simp only [decide_eq_true_eq, decide_eq_false_iff_not, beq_iff_eq, bne_iff_ne, beq_eq_false_iff_ne, bne_eq_false_iff_eq, Bool.not_eq_true', Bool.not_eq_false', Bool.not_eq_true, Bool.not_eq_false, Bool.and_eq_true, Bool.or_eq_true, Bool.and_eq_false_iff, Bool.or_eq_false_iff, Int.not_lt, Int.not_le, ne_eq, gt_iff_lt, ge_iff_le] at hb') <;> (try (exfalso; omega))) | (refine altW.of ?_ ?_)
  refine .here ⟨rfl, ⟨n', ⟨L', m', c, .inl ⟨q, g, hPq, g1⟩, g2, ?_⟩, by omega⟩, by simp at g7; omega, fun j h1 hN h2 h3 => ?_⟩
  · exact hA.take (x := itF L k) (outI_srt hA.srt _) hsm g5 g4 fun i j hi hj e => g2.one hi hj e
  · rw [g8 j (by simp; omega) h2 (fun e => hN (by omega) _ _ (by rw [e]; exact hq2)) h3, List.getElem?_append_left (by omega)]
end Go.Proofs.Ytjdmpkaiijcchaa
