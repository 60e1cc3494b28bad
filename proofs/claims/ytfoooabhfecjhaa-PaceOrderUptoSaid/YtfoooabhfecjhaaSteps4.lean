import Derived.Test.YtfoooabhfecjhaaSteps3
set_option linter.unusedSimpArgs false
set_option linter.unusedVariables false
set_option maxHeartbeats 2000000
set_option maxRecDepth 20000
namespace Go.Proofs.Ytfoooabhfecjhaa
open Go Go.Am
attribute [local irreducible] opsW Ww loopW callW drawW outW outDW gW cW BrW bothW vW resW DropW RdW dcallW altW Later.run

theorem do_else (p : P) (o : O) (w : Value) (H : Heap) (hI : IsI H w p.l) (h1 : o.k ≠ 1) (h2 : o.k ≠ 2) (h3 : o.k ≠ 3) : ACallK Try.prog 17 [p.val w, o.val] H (DoR p o w H) := by
  obtain ⟨k, n⟩ := o
  simp only at h1 h2 h3
  have hd : doP p ⟨k, n⟩ = (p, 5, []) := by unfold doP; rw [if_neg h1, if_neg h2, if_neg h3]
  have hfl := fun (X : Heap) (h : X[H.length]? = some (.cells 0 0 false [w, .int .i64 100, .int .i64 60000, .int .i64 p.dr, .int .i64 p.b.num, .int .i64 p.b.den, .int .i64 p.b.bu, .int .i64 p.b.lv, .int .i64 p.b.at', .int .i64 p.se])) => fails_spec 5 H.length [] _ _ _ _ _ _ _ _ _ _ X h
  refine .walkW f17_ok (by simp; decide) (by decide) ?_
  repeat' first | simp (disch := first | with_reducible assumption | omega) only [go_sem, Bool.true_and, Bool.and_true, Bool.and_self, Bool.false_and, Bool.and_false, Bool.true_or, Bool.or_true, Bool.false_or, Bool.or_false, ↓reduceIte, Nat.reduceEqDiff, Nat.reduceAdd, Nat.reduceMul, Nat.reduceSub, Nat.reduceBEq, Nat.reduceLeDiff, Nat.reduceLT, Nat.reduceMod, Nat.reduceDiv, Int.reduceToNat, Int.reducePow, Int.reduceMul, Int.reduceAdd, Int.reduceSub, Int.reduceLE, Int.reduceLT, Int.reduceNeg, Int.reduceDiv, Int.reduceMod, Int.reduceEq, Int.reduceBEq, Int.reduceBNe, f17, f17b, f17r0, f17r1, f17r2, f17r3, f17r4, f17r5, f17r6, f17r7, f17r8, f17r9, f17r10, f17r11, f17r12, f17r13, f17r14, f17r15, f17r16, f17r17, f17r18, f17r19, f17r20, f17r21, f17r22, f17r23, P.val, O.val] | (refine BrW.of (fun hb => ?_) (fun hb => ?_) <;> (have hb' := hb; try simp only [decide_eq_true_eq, decide_eq_false_iff_not, beq_iff_eq, bne_iff_ne, beq_eq_false_iff_ne, bne_eq_false_iff_eq, Bool.not_eq_true', Bool.not_eq_false', Bool.not_eq_true, Bool.not_eq_false, Bool.and_eq_true, Bool.or_eq_true, Bool.and_eq_false_iff, Bool.or_eq_false_iff, Int.not_lt, Int.not_le, ne_eq, gt_iff_lt, ge_iff_le] at hb') <;> (try (exfalso; omega))) | (refine altW.of ?_ ?_) | (refine .of ((hfl _ (get_new0 _ _ _)).mono ?_); rintro v _ ⟨rfl, rfl⟩)
  all_goals exact .here ⟨_, w, .slice none 0 0, rfl, by rw [hd]; rfl, by rw [hd]; exact Or.inl ⟨rfl, rfl⟩, by rw [hd]; exact Or.inl ⟨rfl, rfl⟩⟩

theorem do_poll (p : P) (o : O) (w : Value) (H : Heap) (hI : IsI H w p.l) (hq : p.q.right) (hb : p.b.right) (hs : 0 ≤ p.se ∧ p.se ≤ 1099511627776) (hk : o.k = 3) : ACallK Try.prog 17 [p.val w, o.val] H (DoR p o w H) := by
  obtain ⟨k, n⟩ := o
  obtain rfl : k = 3 := hk
  refine .walkW f17_ok (by simp; decide) (by decide) ?_
  by_cases hn : 0 ≤ n ∧ n ≤ 1073741824
  · have hd : doP p ⟨3, n⟩ = (pollP p n, 0, (pollL p.b.den p.l p.b.lv n).1) := by unfold doP; rw [if_neg (by simp), if_neg (by simp), if_pos rfl, if_pos hn]
    have hP := fun X => poll_spec p w n (H ++ X) (hI.app X) hq hb hn hs
    simp only [P.val] at hP
    clear hq hb hs
    repeat' first | simp (disch := first | with_reducible assumption | omega) only [go_sem, Bool.true_and, Bool.and_true, Bool.and_self, Bool.false_and, Bool.and_false, Bool.true_or, Bool.or_true, Bool.false_or, Bool.or_false, ↓reduceIte, Nat.reduceEqDiff, Nat.reduceAdd, Nat.reduceMul, Nat.reduceSub, Nat.reduceBEq, Nat.reduceLeDiff, Nat.reduceLT, Nat.reduceMod, Nat.reduceDiv, Int.reduceToNat, Int.reducePow, Int.reduceMul, Int.reduceAdd, Int.reduceSub, Int.reduceLE, Int.reduceLT, Int.reduceNeg, Int.reduceDiv, Int.reduceMod, Int.reduceEq, Int.reduceBEq, Int.reduceBNe, f17, f17b, f17r0, f17r1, f17r2, f17r3, f17r4, f17r5, f17r6, f17r7, f17r8, f17r9, f17r10, f17r11, f17r12, f17r13, f17r14, f17r15, f17r16, f17r17, f17r18, f17r19, f17r20, f17r21, f17r22, f17r23, P.val, O.val] | (refine BrW.of (fun hb => ?_) (fun hb => ?_) <;> (have hb' := hb; try simp only [decide_eq_true_eq, decide_eq_false_iff_not, beq_iff_eq, bne_iff_ne, beq_eq_false_iff_ne, bne_eq_false_iff_eq, Bool.not_eq_true', Bool.not_eq_false', Bool.not_eq_true, Bool.not_eq_false, Bool.and_eq_true, Bool.or_eq_true, Bool.and_eq_false_iff, Bool.or_eq_false_iff, Int.not_lt, Int.not_le, ne_eq, gt_iff_lt, ge_iff_le] at hb') <;> (try (exfalso; omega))) | (refine altW.of ?_ ?_)
    refine .of ((hP _).mono ?_)
    rintro v J ⟨X, w', so, rfl, rfl, hY, hX⟩
    have hlX : ∀ Z : Heap, List.length (H ++ Z) = H.length + Z.length := fun Z => by simp
    rw [hlX] at hY hX
    have hY4 : IsY w p.l (H.length + 4) X w' (pollP p n).l := hY
    have hX4 : IsX (H.length + 4) X so (pollL p.b.den p.l p.b.lv n).1 := hX
    clear hP hY hX hlX
    have hso : ∃ s a b, so = .slice s a b := by rcases hX4 with ⟨rfl, _⟩ | ⟨_, _, rfl, _⟩ <;> exact ⟨_, _, _, rfl⟩
    obtain ⟨s1, s2, s3, rfl⟩ := hso
    generalize pollP p n = pp at *
    rw [List.append_assoc]
    repeat' first | simp (disch := first | with_reducible assumption | omega) only [go_sem, Bool.true_and, Bool.and_true, Bool.and_self, Bool.false_and, Bool.and_false, Bool.true_or, Bool.or_true, Bool.false_or, Bool.or_false, ↓reduceIte, Nat.reduceEqDiff, Nat.reduceAdd, Nat.reduceMul, Nat.reduceSub, Nat.reduceBEq, Nat.reduceLeDiff, Nat.reduceLT, Nat.reduceMod, Nat.reduceDiv, Int.reduceToNat, Int.reducePow, Int.reduceMul, Int.reduceAdd, Int.reduceSub, Int.reduceLE, Int.reduceLT, Int.reduceNeg, Int.reduceDiv, Int.reduceMod, Int.reduceEq, Int.reduceBEq, Int.reduceBNe, f17, f17b, f17r0, f17r1, f17r2, f17r3, f17r4, f17r5, f17r6, f17r7, f17r8, f17r9, f17r10, f17r11, f17r12, f17r13, f17r14, f17r15, f17r16, f17r17, f17r18, f17r19, f17r20, f17r21, f17r22, f17r23] | (refine BrW.of (fun hb => ?_) (fun hb => ?_) <;> (have hb' := hb; try simp only [decide_eq_true_eq, decide_eq_false_iff_not, beq_iff_eq, bne_iff_ne, beq_eq_false_iff_ne, bne_eq_false_iff_eq, Bool.not_eq_true', Bool.not_eq_false', Bool.not_eq_true, Bool.not_eq_false, Bool.and_eq_true, Bool.or_eq_true, Bool.and_eq_false_iff, Bool.or_eq_false_iff, Int.not_lt, Int.not_le, ne_eq, gt_iff_lt, ge_iff_le] at hb') <;> (try (exfalso; omega))) | (refine altW.of ?_ ?_)
    exact .here ⟨_, w', _, rfl, by rw [hd]; rfl, by rw [hd]; exact IsY.up (x := [_, _, _, _]) (hY4.app _), by rw [hd]; exact IsX.up (x := [_, _, _, _]) (hX4.app _)⟩
  · have hd : doP p ⟨3, n⟩ = (p, 2, []) := by unfold doP; rw [if_neg (by simp), if_neg (by simp), if_pos rfl, if_neg hn]
    have hfl := fun (X : Heap) (h : X[H.length]? = some (.cells 0 0 false [w, .int .i64 100, .int .i64 60000, .int .i64 p.dr, .int .i64 p.b.num, .int .i64 p.b.den, .int .i64 p.b.bu, .int .i64 p.b.lv, .int .i64 p.b.at', .int .i64 p.se])) => fails_spec 2 H.length [] _ _ _ _ _ _ _ _ _ _ X h
    clear hb
    repeat' first | simp (disch := first | with_reducible assumption | omega) only [go_sem, Bool.true_and, Bool.and_true, Bool.and_self, Bool.false_and, Bool.and_false, Bool.true_or, Bool.or_true, Bool.false_or, Bool.or_false, ↓reduceIte, Nat.reduceEqDiff, Nat.reduceAdd, Nat.reduceMul, Nat.reduceSub, Nat.reduceBEq, Nat.reduceLeDiff, Nat.reduceLT, Nat.reduceMod, Nat.reduceDiv, Int.reduceToNat, Int.reducePow, Int.reduceMul, Int.reduceAdd, Int.reduceSub, Int.reduceLE, Int.reduceLT, Int.reduceNeg, Int.reduceDiv, Int.reduceMod, Int.reduceEq, Int.reduceBEq, Int.reduceBNe, f17, f17b, f17r0, f17r1, f17r2, f17r3, f17r4, f17r5, f17r6, f17r7, f17r8, f17r9, f17r10, f17r11, f17r12, f17r13, f17r14, f17r15, f17r16, f17r17, f17r18, f17r19, f17r20, f17r21, f17r22, f17r23, P.val, O.val] | (refine BrW.of (fun hb => ?_) (fun hb => ?_) <;> (have hb' := hb; try simp only [decide_eq_true_eq, decide_eq_false_iff_not, beq_iff_eq, bne_iff_ne, beq_eq_false_iff_ne, bne_eq_false_iff_eq, Bool.not_eq_true', Bool.not_eq_false', Bool.not_eq_true, Bool.not_eq_false, Bool.and_eq_true, Bool.or_eq_true, Bool.and_eq_false_iff, Bool.or_eq_false_iff, Int.not_lt, Int.not_le, ne_eq, gt_iff_lt, ge_iff_le] at hb') <;> (try (exfalso; omega))) | (refine altW.of ?_ ?_) | (refine .of ((hfl _ (get_new0 _ _ _)).mono ?_); rintro v _ ⟨rfl, rfl⟩)
    all_goals exact .here ⟨_, w, .slice none 0 0, rfl, by rw [hd]; rfl, by rw [hd]; exact Or.inl ⟨rfl, rfl⟩, by rw [hd]; exact Or.inl ⟨rfl, rfl⟩⟩
theorem do_in (p : P) (o : O) (w : Value) (H : Heap) (hI : IsI H w p.l) (hq : p.q.right) (hk : o.k = 1) : ACallK Try.prog 17 [p.val w, o.val] H (DoR p o w H) := by
  obtain ⟨k, n⟩ := o
  obtain rfl : k = 1 := hk
  have hSt := fun X => Step_u p.q ⟨1, n⟩ w (H ++ X) (hI.app X) (by have := hq.len; omega)
  simp only [Q.val, O.val, P.q] at hSt
  have hqr : Q.right ⟨p.l, 100, 60000, p.dr⟩ := hq
  have hfl := fun (e : Int) (X : Heap) (w a1 a2 a3 a4 a5 a6 a7 a8 a9 : Value) (h : X[H.length]? = some (.cells 0 0 false [w, a1, a2, a3, a4, a5, a6, a7, a8, a9])) => fails_spec e H.length [] _ _ _ _ _ _ _ _ _ _ X h
  have hlX : ∀ Z : Heap, List.length (H ++ Z) = H.length + Z.length := fun Z => by simp
  refine .walkW f17_ok (by simp; decide) (by decide) ?_
  repeat' first | simp (disch := first | with_reducible assumption | omega) only [go_sem, Bool.true_and, Bool.and_true, Bool.and_self, Bool.false_and, Bool.and_false, Bool.true_or, Bool.or_true, Bool.false_or, Bool.or_false, ↓reduceIte, Nat.reduceEqDiff, Nat.reduceAdd, Nat.reduceMul, Nat.reduceSub, Nat.reduceBEq, Nat.reduceLeDiff, Nat.reduceLT, Nat.reduceMod, Nat.reduceDiv, Int.reduceToNat, Int.reducePow, Int.reduceMul, Int.reduceAdd, Int.reduceSub, Int.reduceLE, Int.reduceLT, Int.reduceNeg, Int.reduceDiv, Int.reduceMod, Int.reduceEq, Int.reduceBEq, Int.reduceBNe, f17, f17b, f17r0, f17r1, f17r2, f17r3, f17r4, f17r5, f17r6, f17r7, f17r8, f17r9, f17r10, f17r11, f17r12, f17r13, f17r14, f17r15, f17r16, f17r17, f17r18, f17r19, f17r20, f17r21, f17r22, f17r23, P.val, O.val] | (refine BrW.of (fun hb => ?_) (fun hb => ?_) <;> (have hb' := hb; try simp only [decide_eq_true_eq, decide_eq_false_iff_not, beq_iff_eq, bne_iff_ne, beq_eq_false_iff_ne, bne_eq_false_iff_eq, Bool.not_eq_true', Bool.not_eq_false', Bool.not_eq_true, Bool.not_eq_false, Bool.and_eq_true, Bool.or_eq_true, Bool.and_eq_false_iff, Bool.or_eq_false_iff, Int.not_lt, Int.not_le, ne_eq, gt_iff_lt, ge_iff_le] at hb') <;> (try (exfalso; omega))) | (refine altW.of ?_ ?_)
  refine .of ((hSt _).mono ?_)
  rintro v J ⟨X, q', w', r', e, rfl, rfl, hX, he0, he1⟩
  rw [hlX] at hX
  have hX4 : IsX (H.length + 4) X w' q'.l := hX
  clear hSt hX hlX
  rw [List.append_assoc]
  by_cases z : e = 0
  · subst z
    have h0 := he0 rfl
    clear he0 he1
    have hst : stepO ⟨p.l, 100, 60000, p.dr⟩ ⟨1, n⟩ = if 1 ≤ n ∧ n ≤ 1500 then (if p.q.fit n then some (⟨p.l ++ [n], 100, 60000, p.dr⟩, 1) else if p.dr = 1099511627776 then none else some (⟨p.l, 100, 60000, p.dr + 1⟩, 0)) else none := by unfold stepO; rw [if_pos hqr, if_pos rfl]; rfl
    rw [hst] at h0
    by_cases hn : 1 ≤ n ∧ n ≤ 1500
    · by_cases hf : p.q.fit n
      · rw [if_pos hn, if_pos hf] at h0
        simp only [Option.some.injEq, Prod.mk.injEq] at h0
        obtain ⟨rfl, rfl⟩ := h0
        have hd : doP p ⟨1, n⟩ = ({ p with l := p.l ++ [n] }, 0, []) := by unfold doP; rw [if_pos rfl, if_pos hn, if_pos hf]
        repeat' first | simp (disch := first | with_reducible assumption | omega) only [go_sem, Bool.true_and, Bool.and_true, Bool.and_self, Bool.false_and, Bool.and_false, Bool.true_or, Bool.or_true, Bool.false_or, Bool.or_false, ↓reduceIte, Nat.reduceEqDiff, Nat.reduceAdd, Nat.reduceMul, Nat.reduceSub, Nat.reduceBEq, Nat.reduceLeDiff, Nat.reduceLT, Nat.reduceMod, Nat.reduceDiv, Int.reduceToNat, Int.reducePow, Int.reduceMul, Int.reduceAdd, Int.reduceSub, Int.reduceLE, Int.reduceLT, Int.reduceNeg, Int.reduceDiv, Int.reduceMod, Int.reduceEq, Int.reduceBEq, Int.reduceBNe, f17, f17b, f17r0, f17r1, f17r2, f17r3, f17r4, f17r5, f17r6, f17r7, f17r8, f17r9, f17r10, f17r11, f17r12, f17r13, f17r14, f17r15, f17r16, f17r17, f17r18, f17r19, f17r20, f17r21, f17r22, f17r23] | (refine BrW.of (fun hb => ?_) (fun hb => ?_) <;> (have hb' := hb; try simp only [decide_eq_true_eq, decide_eq_false_iff_not, beq_iff_eq, bne_iff_ne, beq_eq_false_iff_ne, bne_eq_false_iff_eq, Bool.not_eq_true', Bool.not_eq_false', Bool.not_eq_true, Bool.not_eq_false, Bool.and_eq_true, Bool.or_eq_true, Bool.and_eq_false_iff, Bool.or_eq_false_iff, Int.not_lt, Int.not_le, ne_eq, gt_iff_lt, ge_iff_le] at hb') <;> (try (exfalso; omega))) | (refine altW.of ?_ ?_)
        exact .here ⟨_, w', .slice none 0 0, rfl, by rw [hd]; rfl, by rw [hd]; exact IsY.up (x := [_, _, _, _]) (Or.inr (hX4.app _)), by rw [hd]; exact Or.inl ⟨rfl, rfl⟩⟩
      · rw [if_pos hn, if_neg hf] at h0
        by_cases hdr : p.dr = 1099511627776
        · rw [if_pos hdr] at h0; cases h0
        · rw [if_neg hdr] at h0
          simp only [Option.some.injEq, Prod.mk.injEq] at h0
          obtain ⟨rfl, rfl⟩ := h0
          have hd : doP p ⟨1, n⟩ = ({ p with dr := p.dr + 1 }, 4, []) := by unfold doP; rw [if_pos rfl, if_pos hn, if_neg hf, if_neg hdr]
          repeat' first | simp (disch := first | with_reducible assumption | omega) only [go_sem, Bool.true_and, Bool.and_true, Bool.and_self, Bool.false_and, Bool.and_false, Bool.true_or, Bool.or_true, Bool.false_or, Bool.or_false, ↓reduceIte, Nat.reduceEqDiff, Nat.reduceAdd, Nat.reduceMul, Nat.reduceSub, Nat.reduceBEq, Nat.reduceLeDiff, Nat.reduceLT, Nat.reduceMod, Nat.reduceDiv, Int.reduceToNat, Int.reducePow, Int.reduceMul, Int.reduceAdd, Int.reduceSub, Int.reduceLE, Int.reduceLT, Int.reduceNeg, Int.reduceDiv, Int.reduceMod, Int.reduceEq, Int.reduceBEq, Int.reduceBNe, f17, f17b, f17r0, f17r1, f17r2, f17r3, f17r4, f17r5, f17r6, f17r7, f17r8, f17r9, f17r10, f17r11, f17r12, f17r13, f17r14, f17r15, f17r16, f17r17, f17r18, f17r19, f17r20, f17r21, f17r22, f17r23] | (refine BrW.of (fun hb => ?_) (fun hb => ?_) <;> (have hb' := hb; try simp only [decide_eq_true_eq, decide_eq_false_iff_not, beq_iff_eq, bne_iff_ne, beq_eq_false_iff_ne, bne_eq_false_iff_eq, Bool.not_eq_true', Bool.not_eq_false', Bool.not_eq_true, Bool.not_eq_false, Bool.and_eq_true, Bool.or_eq_true, Bool.and_eq_false_iff, Bool.or_eq_false_iff, Int.not_lt, Int.not_le, ne_eq, gt_iff_lt, ge_iff_le] at hb') <;> (try (exfalso; omega))) | (refine altW.of ?_ ?_)
          refine .of ((hfl 4 _ _ _ _ _ _ _ _ _ _ _ (get_new0 _ _ _)).mono ?_)
          rintro v J ⟨rfl, rfl⟩
          repeat' first | simp (disch := first | with_reducible assumption | omega) only [go_sem, Bool.true_and, Bool.and_true, Bool.and_self, Bool.false_and, Bool.and_false, Bool.true_or, Bool.or_true, Bool.false_or, Bool.or_false, ↓reduceIte, Nat.reduceEqDiff, Nat.reduceAdd, Nat.reduceMul, Nat.reduceSub, Nat.reduceBEq, Nat.reduceLeDiff, Nat.reduceLT, Nat.reduceMod, Nat.reduceDiv, Int.reduceToNat, Int.reducePow, Int.reduceMul, Int.reduceAdd, Int.reduceSub, Int.reduceLE, Int.reduceLT, Int.reduceNeg, Int.reduceDiv, Int.reduceMod, Int.reduceEq, Int.reduceBEq, Int.reduceBNe, f17, f17b, f17r0, f17r1, f17r2, f17r3, f17r4, f17r5, f17r6, f17r7, f17r8, f17r9, f17r10, f17r11, f17r12, f17r13, f17r14, f17r15, f17r16, f17r17, f17r18, f17r19, f17r20, f17r21, f17r22, f17r23] | (refine BrW.of (fun hb => ?_) (fun hb => ?_) <;> (have hb' := hb; try simp only [decide_eq_true_eq, decide_eq_false_iff_not, beq_iff_eq, bne_iff_ne, beq_eq_false_iff_ne, bne_eq_false_iff_eq, Bool.not_eq_true', Bool.not_eq_false', Bool.not_eq_true, Bool.not_eq_false, Bool.and_eq_true, Bool.or_eq_true, Bool.and_eq_false_iff, Bool.or_eq_false_iff, Int.not_lt, Int.not_le, ne_eq, gt_iff_lt, ge_iff_le] at hb') <;> (try (exfalso; omega))) | (refine altW.of ?_ ?_)
          exact .here ⟨_, w', .slice none 0 0, rfl, by rw [hd]; rfl, by rw [hd]; exact IsY.up (x := [_, _, _, _]) (Or.inr (hX4.app _)), by rw [hd]; exact Or.inl ⟨rfl, rfl⟩⟩
    · rw [if_neg hn] at h0; cases h0
  · obtain ⟨h1, h2⟩ := he1 z
    have h3 := h2 hqr trivial
    try simp only at h3
    clear he0 he1 h2
    have hd : doP p ⟨1, n⟩ = (p, e, []) := by
      unfold doP
      rw [if_pos rfl]
      unfold stepO at h1
      rw [if_pos hqr, if_pos rfl] at h1
      by_cases hn : 1 ≤ n ∧ n ≤ 1500
      · rw [if_pos hn] at h1 h3 ⊢
        by_cases hf : p.q.fit n
        · rw [if_pos (show Q.fit ⟨p.l, 100, 60000, p.dr⟩ n from hf)] at h1; cases h1
        · rw [if_neg (show ¬ Q.fit ⟨p.l, 100, 60000, p.dr⟩ n from hf)] at h1
          rw [if_neg hf]
          by_cases hdr : p.dr = 1099511627776
          · rw [if_pos hdr, h3]
          · simp only [if_neg hdr] at h1; cases h1
      · rw [if_neg hn] at h3 ⊢
        rw [h3]
    have ze : (e != 0) = true := by simpa using z
    clear h1 h3
    repeat' first | simp (disch := first | with_reducible assumption | omega) only [go_sem, Bool.true_and, Bool.and_true, Bool.and_self, Bool.false_and, Bool.and_false, Bool.true_or, Bool.or_true, Bool.false_or, Bool.or_false, ↓reduceIte, Nat.reduceEqDiff, Nat.reduceAdd, Nat.reduceMul, Nat.reduceSub, Nat.reduceBEq, Nat.reduceLeDiff, Nat.reduceLT, Nat.reduceMod, Nat.reduceDiv, Int.reduceToNat, Int.reducePow, Int.reduceMul, Int.reduceAdd, Int.reduceSub, Int.reduceLE, Int.reduceLT, Int.reduceNeg, Int.reduceDiv, Int.reduceMod, Int.reduceEq, Int.reduceBEq, Int.reduceBNe, f17, f17b, f17r0, f17r1, f17r2, f17r3, f17r4, f17r5, f17r6, f17r7, f17r8, f17r9, f17r10, f17r11, f17r12, f17r13, f17r14, f17r15, f17r16, f17r17, f17r18, f17r19, f17r20, f17r21, f17r22, f17r23, z] | (refine BrW.of (fun hb => ?_) (fun hb => ?_) <;> (have hb' := hb; try simp only [decide_eq_true_eq, decide_eq_false_iff_not, beq_iff_eq, bne_iff_ne, beq_eq_false_iff_ne, bne_eq_false_iff_eq, Bool.not_eq_true', Bool.not_eq_false', Bool.not_eq_true, Bool.not_eq_false, Bool.and_eq_true, Bool.or_eq_true, Bool.and_eq_false_iff, Bool.or_eq_false_iff, Int.not_lt, Int.not_le, ne_eq, gt_iff_lt, ge_iff_le] at hb') <;> (try (exfalso; omega))) | (refine altW.of ?_ ?_)
    refine .of ((hfl e _ _ _ _ _ _ _ _ _ _ _ (get_new0 _ _ _)).mono ?_)
    rintro v J ⟨rfl, rfl⟩
    repeat' first | simp (disch := first | with_reducible assumption | omega) only [go_sem, Bool.true_and, Bool.and_true, Bool.and_self, Bool.false_and, Bool.and_false, Bool.true_or, Bool.or_true, Bool.false_or, Bool.or_false, ↓reduceIte, Nat.reduceEqDiff, Nat.reduceAdd, Nat.reduceMul, Nat.reduceSub, Nat.reduceBEq, Nat.reduceLeDiff, Nat.reduceLT, Nat.reduceMod, Nat.reduceDiv, Int.reduceToNat, Int.reducePow, Int.reduceMul, Int.reduceAdd, Int.reduceSub, Int.reduceLE, Int.reduceLT, Int.reduceNeg, Int.reduceDiv, Int.reduceMod, Int.reduceEq, Int.reduceBEq, Int.reduceBNe, f17, f17b, f17r0, f17r1, f17r2, f17r3, f17r4, f17r5, f17r6, f17r7, f17r8, f17r9, f17r10, f17r11, f17r12, f17r13, f17r14, f17r15, f17r16, f17r17, f17r18, f17r19, f17r20, f17r21, f17r22, f17r23] | (refine BrW.of (fun hb => ?_) (fun hb => ?_) <;> (have hb' := hb; try simp only [decide_eq_true_eq, decide_eq_false_iff_not, beq_iff_eq, bne_iff_ne, beq_eq_false_iff_ne, bne_eq_false_iff_eq, Bool.not_eq_true', Bool.not_eq_false', Bool.not_eq_true, Bool.not_eq_false, Bool.and_eq_true, Bool.or_eq_true, Bool.and_eq_false_iff, Bool.or_eq_false_iff, Int.not_lt, Int.not_le, ne_eq, gt_iff_lt, ge_iff_le] at hb') <;> (try (exfalso; omega))) | (refine altW.of ?_ ?_)
    exact .here ⟨_, w, .slice none 0 0, rfl, by rw [hd]; rfl, by rw [hd]; exact Or.inl ⟨rfl, rfl⟩, by rw [hd]; exact Or.inl ⟨rfl, rfl⟩⟩
theorem do_spec (p : P) (o : O) (w : Value) (H : Heap) (hI : IsI H w p.l) (hq : p.q.right) (hb : p.b.right) (hs : 0 ≤ p.se ∧ p.se ≤ 1099511627776) : ACallK Try.prog 17 [p.val w, o.val] H (DoR p o w H) := by
  by_cases h1 : o.k = 1
  · exact do_in p o w H hI hq h1
  · by_cases h2 : o.k = 2
    · exact do_tick p o w H hI hb h2
    · by_cases h3 : o.k = 3
      · exact do_poll p o w H hI hq hb hs h3
      · exact do_else p o w H hI h1 h2 h3
end Go.Proofs.Ytfoooabhfecjhaa
