import Derived.Test.YtfoooabhfecjhaaSteps2
set_option linter.unusedSimpArgs false
set_option linter.unusedVariables false
set_option maxHeartbeats 2000000
set_option maxRecDepth 20000
namespace Go.Proofs.Ytfoooabhfecjhaa
open Go Go.Am
attribute [local irreducible] opsW Ww loopW callW drawW outW outDW gW cW BrW bothW vW resW DropW RdW dcallW altW Later.run

theorem fails_spec (e : Int) (K : Nat) (cs : List Value) (w a1 a2 a3 a4 a5 a6 a7 a8 a9 : Value) (H : Heap) (hk : H[K]? = some (.cells 0 0 false [w, a1, a2, a3, a4, a5, a6, a7, a8, a9])) :
    ACallK Try.prog 22 [.int .i64 e, .pointer (some ⟨K, 0, some 1⟩)] H (fun v H' => v = .tuple #[.agg #[w, a1, a2, a3, a4, a5, a6, a7, a8, a9], .agg #[.int .i64 e, .slice none 0 0]] ∧ H' = H ++ [.cells 0 0 false [w, a1, a2, a3, a4, a5, a6, a7, a8, a9], .cells 0 0 false [.int .i64 e, .slice none 0 0]]) := by
  refine .walkW f22_ok (by simp; decide) (by decide) ?_
  repeat' first | simp (disch := first | with_reducible assumption | omega) only [go_sem, Bool.true_and, Bool.and_true, Bool.and_self, Bool.false_and, Bool.and_false, Bool.true_or, Bool.or_true, Bool.false_or, Bool.or_false, ↓reduceIte, Nat.reduceEqDiff, Nat.reduceAdd, Nat.reduceMul, Nat.reduceSub, Nat.reduceBEq, Nat.reduceLeDiff, Nat.reduceLT, Nat.reduceMod, Nat.reduceDiv, Int.reduceToNat, Int.reducePow, Int.reduceMul, Int.reduceAdd, Int.reduceSub, Int.reduceLE, Int.reduceLT, Int.reduceNeg, Int.reduceDiv, Int.reduceMod, Int.reduceEq, Int.reduceBEq, Int.reduceBNe, f22, f22b, f22r0, f22r1, hk, get_old hk] | (refine BrW.of (fun hb => ?_) (fun hb => ?_) <;> (have hb' := hb; try simp only [decide_eq_true_eq, decide_eq_false_iff_not, beq_iff_eq, bne_iff_ne, beq_eq_false_iff_ne, bne_eq_false_iff_eq, Bool.not_eq_true', Bool.not_eq_false', Bool.not_eq_true, Bool.not_eq_false, Bool.and_eq_true, Bool.or_eq_true, Bool.and_eq_false_iff, Bool.or_eq_false_iff, Int.not_lt, Int.not_le, ne_eq, gt_iff_lt, ge_iff_le] at hb') <;> (try (exfalso; omega))) | (refine altW.of ?_ ?_)
  exact .here ⟨rfl, rfl⟩

/-- What do answers. -/
def DoR (p : P) (o : O) (w : Value) (H : Heap) (v : Value) (H' : Heap) : Prop := ∃ (X : Heap) (w' so : Value), H' = H ++ X ∧ v = .tuple #[(doP p o).1.val w', .agg #[.int .i64 (doP p o).2.1, so]] ∧ IsY w p.l H.length X w' (doP p o).1.l ∧ IsX H.length X so (doP p o).2.2

theorem do_tick (p : P) (o : O) (w : Value) (H : Heap) (hI : IsI H w p.l) (hb : p.b.right) (hk : o.k = 2) : ACallK Try.prog 17 [p.val w, o.val] H (DoR p o w H) := by
  obtain ⟨k, n⟩ := o
  obtain rfl : k = 2 := hk
  have hF := fun X => Fill_spec p.b (tickT p.b n) X
  refine .walkW f17_ok (by simp; decide) (by decide) ?_
  by_cases hn : 0 ≤ n ∧ n ≤ 1099511627776
  · have hd : doP p ⟨2, n⟩ = ({ p with b := filled p.b (tickT p.b n) }, 0, []) := by unfold doP; rw [if_neg (by simp), if_pos rfl, if_pos hn]
    have hok := okT_tick hb hn.1
    have hf : fillB p.b (tickT p.b n) = (filled p.b (tickT p.b n), 0) := by unfold fillB; rw [if_pos hb, if_pos hok]
    rw [hf] at hF
    obtain ⟨b1, b2, b3, b4, b5, b6, b7, b8, b9, b10⟩ := hb
    unfold tickT at hF hd
    clear hok hf
    generalize hfb : filled p.b (min (p.b.at' + n) 1099511627776) = fb at *
    clear hfb
    repeat' first | simp (disch := first | with_reducible assumption | omega) only [go_sem, Bool.true_and, Bool.and_true, Bool.and_self, Bool.false_and, Bool.and_false, Bool.true_or, Bool.or_true, Bool.false_or, Bool.or_false, ↓reduceIte, Nat.reduceEqDiff, Nat.reduceAdd, Nat.reduceMul, Nat.reduceSub, Nat.reduceBEq, Nat.reduceLeDiff, Nat.reduceLT, Nat.reduceMod, Nat.reduceDiv, Int.reduceToNat, Int.reducePow, Int.reduceMul, Int.reduceAdd, Int.reduceSub, Int.reduceLE, Int.reduceLT, Int.reduceNeg, Int.reduceDiv, Int.reduceMod, Int.reduceEq, Int.reduceBEq, Int.reduceBNe, f17, f17b, f17r0, f17r1, f17r2, f17r3, f17r4, f17r5, f17r6, f17r7, f17r8, f17r9, f17r10, f17r11, f17r12, f17r13, f17r14, f17r15, f17r16, f17r17, f17r18, f17r19, f17r20, f17r21, f17r22, f17r23, P.val, O.val, ansB, Bk.val] | (refine BrW.of (fun hb => ?_) (fun hb => ?_) <;> (have hb' := hb; try simp only [decide_eq_true_eq, decide_eq_false_iff_not, beq_iff_eq, bne_iff_ne, beq_eq_false_iff_ne, bne_eq_false_iff_eq, Bool.not_eq_true', Bool.not_eq_false', Bool.not_eq_true, Bool.not_eq_false, Bool.and_eq_true, Bool.or_eq_true, Bool.and_eq_false_iff, Bool.or_eq_false_iff, Int.not_lt, Int.not_le, ne_eq, gt_iff_lt, ge_iff_le] at hb') <;> (try (exfalso; omega))) | (refine altW.of ?_ ?_) | (refine .of ((hF _).mono ?_); rintro v _ ⟨rfl, rfl⟩)
    all_goals exact .here ⟨_, w, .slice none 0 0, rfl, by rw [hd]; rfl, by rw [hd]; exact Or.inl ⟨rfl, rfl⟩, by rw [hd]; exact Or.inl ⟨rfl, rfl⟩⟩
  · have hd : doP p ⟨2, n⟩ = (p, 2, []) := by unfold doP; rw [if_neg (by simp), if_pos rfl, if_neg hn]
    have hfl := fun (X : Heap) (h : X[H.length]? = some (.cells 0 0 false [w, .int .i64 100, .int .i64 60000, .int .i64 p.dr, .int .i64 p.b.num, .int .i64 p.b.den, .int .i64 p.b.bu, .int .i64 p.b.lv, .int .i64 p.b.at', .int .i64 p.se])) => fails_spec 2 H.length [] _ _ _ _ _ _ _ _ _ _ X h
    clear hF hb
    repeat' first | simp (disch := first | with_reducible assumption | omega) only [go_sem, Bool.true_and, Bool.and_true, Bool.and_self, Bool.false_and, Bool.and_false, Bool.true_or, Bool.or_true, Bool.false_or, Bool.or_false, ↓reduceIte, Nat.reduceEqDiff, Nat.reduceAdd, Nat.reduceMul, Nat.reduceSub, Nat.reduceBEq, Nat.reduceLeDiff, Nat.reduceLT, Nat.reduceMod, Nat.reduceDiv, Int.reduceToNat, Int.reducePow, Int.reduceMul, Int.reduceAdd, Int.reduceSub, Int.reduceLE, Int.reduceLT, Int.reduceNeg, Int.reduceDiv, Int.reduceMod, Int.reduceEq, Int.reduceBEq, Int.reduceBNe, f17, f17b, f17r0, f17r1, f17r2, f17r3, f17r4, f17r5, f17r6, f17r7, f17r8, f17r9, f17r10, f17r11, f17r12, f17r13, f17r14, f17r15, f17r16, f17r17, f17r18, f17r19, f17r20, f17r21, f17r22, f17r23, P.val, O.val] | (refine BrW.of (fun hb => ?_) (fun hb => ?_) <;> (have hb' := hb; try simp only [decide_eq_true_eq, decide_eq_false_iff_not, beq_iff_eq, bne_iff_ne, beq_eq_false_iff_ne, bne_eq_false_iff_eq, Bool.not_eq_true', Bool.not_eq_false', Bool.not_eq_true, Bool.not_eq_false, Bool.and_eq_true, Bool.or_eq_true, Bool.and_eq_false_iff, Bool.or_eq_false_iff, Int.not_lt, Int.not_le, ne_eq, gt_iff_lt, ge_iff_le] at hb') <;> (try (exfalso; omega))) | (refine altW.of ?_ ?_) | (refine .of ((hfl _ (get_new0 _ _ _)).mono ?_); rintro v _ ⟨rfl, rfl⟩)
    all_goals exact .here ⟨_, w, .slice none 0 0, rfl, by rw [hd]; rfl, by rw [hd]; exact Or.inl ⟨rfl, rfl⟩, by rw [hd]; exact Or.inl ⟨rfl, rfl⟩⟩
end Go.Proofs.Ytfoooabhfecjhaa
