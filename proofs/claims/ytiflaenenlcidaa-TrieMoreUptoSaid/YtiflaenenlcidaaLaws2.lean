import Derived.Test.YtiflaenenlcidaaLaws
import Derived.Test.YtiflaenenlcidaaSteps3
import Derived.Test.YtiflaenenlcidaaPlain3
set_option linter.unusedSimpArgs false
set_option linter.unusedVariables false
set_option maxHeartbeats 1000000
set_option maxRecDepth 20000
namespace Go.Proofs.Ytiflaenenlcidaa
open Go Go.Am
attribute [local irreducible] opsW Ww loopW callW drawW outW outDW gW cW BrW bothW vW resW DropW RdW dcallW altW Later.run

theorem IndexF_spec (p : Px → Bool) (fc : FuncId) (caps : List Value) (l : List Px) (k o g c : Nat) (H : Heap) (hs : Tbl Px Px.cells 6 p0 H k o g l) (hl : l.length ≤ 9223372036854775807)
    (hf : ∀ i, i < l.length → ACallK Try.prog fc (Px.val (l.getD i p0) :: caps) H (fun v H' => v = .bool (p (l.getD i p0)) ∧ H' = H)) :
    ACallK Try.prog 20 [slv k o g l.length c, .func (.func fc) #[] caps.toArray] H (fun v H' => v = .int .i64 (idx p l) ∧ H' = H) := by
  obtain ⟨ro, cs, hk, hle, hcs⟩ := hs.at'
  refine .walkW f20_ok (by simp; decide) (by decide) ?_
  repeat' first | simp (disch := first | with_reducible assumption | omega) only [go_sem, Bool.true_and, Bool.and_true, Bool.and_self, Bool.false_and, Bool.and_false, Bool.true_or, Bool.or_true, Bool.false_or, Bool.or_false, ↓reduceIte, Nat.reduceEqDiff, Nat.reduceAdd, Nat.reduceMul, Nat.reduceSub, Nat.reduceBEq, Nat.reduceLeDiff, Nat.reduceLT, Nat.reduceMod, Nat.reduceDiv, Int.reduceToNat, Int.reducePow, Int.reduceMul, Int.reduceAdd, Int.reduceSub, Int.reduceLE, Int.reduceLT, Int.reduceNeg, Int.reduceDiv, Int.reduceMod, Int.reduceEq, Int.reduceBEq, Int.reduceBNe, f20, f20b, f20r0, f20r1, f20r2, f20r3, f20r4, f20r5, f20r6, f20r8, hk] | (refine BrW.of (fun hb => ?_) (fun hb => ?_) <;> (have hb' := hb; try simp only [decide_eq_true_eq, decide_eq_false_iff_not, beq_iff_eq, bne_iff_ne, beq_eq_false_iff_ne, bne_eq_false_iff_eq, Bool.not_eq_true', Bool.not_eq_false', Bool.not_eq_true, Bool.not_eq_false, Bool.and_eq_true, Bool.or_eq_true, Bool.and_eq_false_iff, Bool.or_eq_false_iff, Int.not_lt, Int.not_le, ne_eq, gt_iff_lt, ge_iff_le] at hb') <;> (try (exfalso; omega))) | (refine altW.of ?_ ?_)
  refine loopW.of (by decide) (fun m e H'' => ∃ i : Nat, e = [(0, slv k o g l.length c), (1, .func (.func fc) #[] caps.toArray), (7, .int .i64 l.length), (8, .int .i64 i)] ∧ H'' = H ∧ i ≤ l.length ∧ m = l.length - i ∧ idxGo p i (l.drop i) = idx p l) l.length ⟨0, rfl, rfl, by omega, rfl, rfl⟩ ?_
  rintro m e H'' ⟨i, rfl, rfl, hi, rfl, hinv⟩
  by_cases hlt : i < l.length
  · have hc := hf i hlt
    have hld := Tbl.ld (enc := Px.cells) (fun _ => rfl) hcs i hlt
    rw [drop_cons p0 l i hlt] at hinv
    unfold idxGo at hinv
    clear hf hcs
    generalize l.getD i p0 = x at *
    cases hp : p x with
    | true =>
      rw [if_pos hp] at hinv
      rw [← hinv]
      rw [hp] at hc
      repeat' first | simp (disch := first | with_reducible assumption | omega) only [go_sem, Bool.true_and, Bool.and_true, Bool.and_self, Bool.false_and, Bool.and_false, Bool.true_or, Bool.or_true, Bool.false_or, Bool.or_false, ↓reduceIte, Nat.reduceEqDiff, Nat.reduceAdd, Nat.reduceMul, Nat.reduceSub, Nat.reduceBEq, Nat.reduceLeDiff, Nat.reduceLT, Nat.reduceMod, Nat.reduceDiv, Int.reduceToNat, Int.reducePow, Int.reduceMul, Int.reduceAdd, Int.reduceSub, Int.reduceLE, Int.reduceLT, Int.reduceNeg, Int.reduceDiv, Int.reduceMod, Int.reduceEq, Int.reduceBEq, Int.reduceBNe, f20, f20b, f20r0, f20r1, f20r2, f20r3, f20r4, f20r5, f20r6, f20r8, f20l0, f20, f20b, f20r0, f20r1, f20r2, f20r3, f20r4, f20r5, f20r6, f20r8, hk, ↓hld, Px.val] | (refine BrW.of (fun hb => ?_) (fun hb => ?_) <;> (have hb' := hb; try simp only [decide_eq_true_eq, decide_eq_false_iff_not, beq_iff_eq, bne_iff_ne, beq_eq_false_iff_ne, bne_eq_false_iff_eq, Bool.not_eq_true', Bool.not_eq_false', Bool.not_eq_true, Bool.not_eq_false, Bool.and_eq_true, Bool.or_eq_true, Bool.and_eq_false_iff, Bool.or_eq_false_iff, Int.not_lt, Int.not_le, ne_eq, gt_iff_lt, ge_iff_le] at hb') <;> (try (exfalso; omega))) | (refine altW.of ?_ ?_) | (refine .of (hc.mono ?_); rintro v _ ⟨rfl, rfl⟩)
      exact .here ⟨rfl, rfl⟩
    | false =>
      rw [if_neg (by simp [hp])] at hinv
      rw [hp] at hc
      repeat' first | simp (disch := first | with_reducible assumption | omega) only [go_sem, Bool.true_and, Bool.and_true, Bool.and_self, Bool.false_and, Bool.and_false, Bool.true_or, Bool.or_true, Bool.false_or, Bool.or_false, ↓reduceIte, Nat.reduceEqDiff, Nat.reduceAdd, Nat.reduceMul, Nat.reduceSub, Nat.reduceBEq, Nat.reduceLeDiff, Nat.reduceLT, Nat.reduceMod, Nat.reduceDiv, Int.reduceToNat, Int.reducePow, Int.reduceMul, Int.reduceAdd, Int.reduceSub, Int.reduceLE, Int.reduceLT, Int.reduceNeg, Int.reduceDiv, Int.reduceMod, Int.reduceEq, Int.reduceBEq, Int.reduceBNe, f20, f20b, f20r0, f20r1, f20r2, f20r3, f20r4, f20r5, f20r6, f20r8, f20l0, f20, f20b, f20r0, f20r1, f20r2, f20r3, f20r4, f20r5, f20r6, f20r8, hk, ↓hld, Px.val] | (refine BrW.of (fun hb => ?_) (fun hb => ?_) <;> (have hb' := hb; try simp only [decide_eq_true_eq, decide_eq_false_iff_not, beq_iff_eq, bne_iff_ne, beq_eq_false_iff_ne, bne_eq_false_iff_eq, Bool.not_eq_true', Bool.not_eq_false', Bool.not_eq_true, Bool.not_eq_false, Bool.and_eq_true, Bool.or_eq_true, Bool.and_eq_false_iff, Bool.or_eq_false_iff, Int.not_lt, Int.not_le, ne_eq, gt_iff_lt, ge_iff_le] at hb') <;> (try (exfalso; omega))) | (refine altW.of ?_ ?_) | (refine .of (hc.mono ?_); rintro v _ ⟨rfl, rfl⟩)
      refine RdW.keep [0, 1, 7, 8] (l.length - (i + 1)) (by omega) ?_
      simp (disch := first | with_reducible assumption | omega) only [go_sem, Bool.true_and, Bool.and_true, Bool.and_self, Bool.false_and, Bool.and_false, Bool.true_or, Bool.or_true, Bool.false_or, Bool.or_false, ↓reduceIte, Nat.reduceEqDiff, Nat.reduceAdd, Nat.reduceMul, Nat.reduceSub, Nat.reduceBEq, Nat.reduceLeDiff, Nat.reduceLT, Nat.reduceMod, Nat.reduceDiv, Int.reduceToNat, Int.reducePow, Int.reduceMul, Int.reduceAdd, Int.reduceSub, Int.reduceLE, Int.reduceLT, Int.reduceNeg, Int.reduceDiv, Int.reduceMod, Int.reduceEq, Int.reduceBEq, Int.reduceBNe]
      exact ⟨i + 1, rfl, by omega, rfl, hinv⟩
  · obtain rfl : i = l.length := by omega
    rw [List.drop_eq_nil_of_le (by omega)] at hinv
    have hx : idx p l = -1 := by rw [← hinv]; rfl
    repeat' first | simp (disch := first | with_reducible assumption | omega) only [go_sem, Bool.true_and, Bool.and_true, Bool.and_self, Bool.false_and, Bool.and_false, Bool.true_or, Bool.or_true, Bool.false_or, Bool.or_false, ↓reduceIte, Nat.reduceEqDiff, Nat.reduceAdd, Nat.reduceMul, Nat.reduceSub, Nat.reduceBEq, Nat.reduceLeDiff, Nat.reduceLT, Nat.reduceMod, Nat.reduceDiv, Int.reduceToNat, Int.reducePow, Int.reduceMul, Int.reduceAdd, Int.reduceSub, Int.reduceLE, Int.reduceLT, Int.reduceNeg, Int.reduceDiv, Int.reduceMod, Int.reduceEq, Int.reduceBEq, Int.reduceBNe, f20, f20b, f20r0, f20r1, f20r2, f20r3, f20r4, f20r5, f20r6, f20r8, f20l0, f20, f20b, f20r0, f20r1, f20r2, f20r3, f20r4, f20r5, f20r6, f20r8, hk] | (refine BrW.of (fun hb => ?_) (fun hb => ?_) <;> (have hb' := hb; try simp only [decide_eq_true_eq, decide_eq_false_iff_not, beq_iff_eq, bne_iff_ne, beq_eq_false_iff_ne, bne_eq_false_iff_eq, Bool.not_eq_true', Bool.not_eq_false', Bool.not_eq_true, Bool.not_eq_false, Bool.and_eq_true, Bool.or_eq_true, Bool.and_eq_false_iff, Bool.or_eq_false_iff, Int.not_lt, Int.not_le, ne_eq, gt_iff_lt, ge_iff_le] at hb') <;> (try (exfalso; omega))) | (refine altW.of ?_ ?_)
    exact .here ⟨by rw [hx], rfl⟩

theorem ContainsF_spec (p : Px → Bool) (fc : FuncId) (caps : List Value) (l : List Px) (k o g c : Nat) (H : Heap) (hs : Tbl Px Px.cells 6 p0 H k o g l) (hl : l.length ≤ 9223372036854775807)
    (hf : ∀ i, i < l.length → ACallK Try.prog fc (Px.val (l.getD i p0) :: caps) H (fun v H' => v = .bool (p (l.getD i p0)) ∧ H' = H)) :
    ACallK Try.prog 16 [slv k o g l.length c, .func (.func fc) #[] caps.toArray] H (fun v H' => v = .bool (l.any p) ∧ H' = H) := by
  refine .walkW f16_ok (by simp; decide) (by decide) ?_
  repeat' first | simp (disch := first | with_reducible assumption | omega) only [go_sem, Bool.true_and, Bool.and_true, Bool.and_self, Bool.false_and, Bool.and_false, Bool.true_or, Bool.or_true, Bool.false_or, Bool.or_false, ↓reduceIte, Nat.reduceEqDiff, Nat.reduceAdd, Nat.reduceMul, Nat.reduceSub, Nat.reduceBEq, Nat.reduceLeDiff, Nat.reduceLT, Nat.reduceMod, Nat.reduceDiv, Int.reduceToNat, Int.reducePow, Int.reduceMul, Int.reduceAdd, Int.reduceSub, Int.reduceLE, Int.reduceLT, Int.reduceNeg, Int.reduceDiv, Int.reduceMod, Int.reduceEq, Int.reduceBEq, Int.reduceBNe, f16, f16b, f16r0, f16r1] | (refine BrW.of (fun hb => ?_) (fun hb => ?_) <;> (have hb' := hb; try simp only [decide_eq_true_eq, decide_eq_false_iff_not, beq_iff_eq, bne_iff_ne, beq_eq_false_iff_ne, bne_eq_false_iff_eq, Bool.not_eq_true', Bool.not_eq_false', Bool.not_eq_true, Bool.not_eq_false, Bool.and_eq_true, Bool.or_eq_true, Bool.and_eq_false_iff, Bool.or_eq_false_iff, Int.not_lt, Int.not_le, ne_eq, gt_iff_lt, ge_iff_le] at hb') <;> (try (exfalso; omega))) | (refine altW.of ?_ ?_) | (refine .of ((IndexF_spec p fc caps l k o g c H hs hl hf).mono ?_); rintro v _ ⟨rfl, rfl⟩)
  exact .here ⟨by rw [← idx_any], rfl⟩


theorem thatClo_spec (x : Px) (a : A) (mo t0 : Int) (k1 k2 k3 q p1 : Nat) (_S : List Int) (H : Heap) (hx : x.ad.ok) (ha : a.ok) (h1 : H[k1]? = some (.cells 0 0 false [.int .i64 mo])) (h2 : H[k2]? = some (.cells 0 0 false [slv q 0 p1 1 1])) (h3 : H[k3]? = some (.cells 0 0 false [.int .u8 a.b0, .int .u8 a.b1, .int .u8 a.b2, .int .u8 a.b3])) (hq : Ints H q 0 p1 [t0]) :
    ACallK Try.prog 17 (x.val :: [.pointer (some ⟨k1, 0, some 1⟩), .pointer (some ⟨k2, 0, some 1⟩), .pointer (some ⟨k3, 0, some 1⟩)]) H (fun v H' => v = .bool (decide (x.bits = mo ∧ x.to = t0 ∧ within a x.ad x.bits)) ∧ H' = H) := by
  obtain ⟨ro, cs, hk, _, hcs⟩ := Ints.cell hq
  have e0 := hcs 0 (by simp)
  simp only [Nat.zero_add, Nat.add_zero, List.getD_cons_zero] at e0
  have w1 := fun H' => Within_spec a x.ad x.bits x.to H' ha hx
  have c1 := get_old h1
  have c2 := get_old h2
  have c3 := get_old h3
  have c4 := get_old hk
  by_cases hb : x.bits = mo
  · by_cases ht : x.to = t0
    · subst hb ht
      simp only [true_and]
      refine .walkW f17_ok (by simp; decide) (by decide) ?_
      repeat' first | simp (disch := first | with_reducible assumption | omega) only [go_sem, Bool.true_and, Bool.and_true, Bool.and_self, Bool.false_and, Bool.and_false, Bool.true_or, Bool.or_true, Bool.false_or, Bool.or_false, ↓reduceIte, Nat.reduceEqDiff, Nat.reduceAdd, Nat.reduceMul, Nat.reduceSub, Nat.reduceBEq, Nat.reduceLeDiff, Nat.reduceLT, Nat.reduceMod, Nat.reduceDiv, Int.reduceToNat, Int.reducePow, Int.reduceMul, Int.reduceAdd, Int.reduceSub, Int.reduceLE, Int.reduceLT, Int.reduceNeg, Int.reduceDiv, Int.reduceMod, Int.reduceEq, Int.reduceBEq, Int.reduceBNe, f17, f17b, f17r0, f17r1, Px.val, Px.cells, h1, h2, h3, hk, c1, c2, c3, c4, e0] | (refine BrW.of (fun hb => ?_) (fun hb => ?_) <;> (have hb' := hb; try simp only [decide_eq_true_eq, decide_eq_false_iff_not, beq_iff_eq, bne_iff_ne, beq_eq_false_iff_ne, bne_eq_false_iff_eq, Bool.not_eq_true', Bool.not_eq_false', Bool.not_eq_true, Bool.not_eq_false, Bool.and_eq_true, Bool.or_eq_true, Bool.and_eq_false_iff, Bool.or_eq_false_iff, Int.not_lt, Int.not_le, ne_eq, gt_iff_lt, ge_iff_le] at hb') <;> (try (exfalso; omega))) | (refine altW.of ?_ ?_) | (refine dcallW.of _ _ (w1 _) ?_) | (refine callW.ex _ _ (w1 _) ?_) | (refine .of ((w1 _).mono ?_); rintro v _ ⟨rfl, rfl⟩)
      all_goals exact .back rfl ⟨rfl, rfl⟩
    · simp only [ht, false_and, and_false, decide_false]
      refine .walkW f17_ok (by simp; decide) (by decide) ?_
      repeat' first | simp (disch := first | with_reducible assumption | omega) only [go_sem, Bool.true_and, Bool.and_true, Bool.and_self, Bool.false_and, Bool.and_false, Bool.true_or, Bool.or_true, Bool.false_or, Bool.or_false, ↓reduceIte, Nat.reduceEqDiff, Nat.reduceAdd, Nat.reduceMul, Nat.reduceSub, Nat.reduceBEq, Nat.reduceLeDiff, Nat.reduceLT, Nat.reduceMod, Nat.reduceDiv, Int.reduceToNat, Int.reducePow, Int.reduceMul, Int.reduceAdd, Int.reduceSub, Int.reduceLE, Int.reduceLT, Int.reduceNeg, Int.reduceDiv, Int.reduceMod, Int.reduceEq, Int.reduceBEq, Int.reduceBNe, f17, f17b, f17r0, f17r1, Px.val, Px.cells, h1, h2, h3, hk, c1, c2, c3, c4, e0] | (refine BrW.of (fun hb => ?_) (fun hb => ?_) <;> (have hb' := hb; try simp only [decide_eq_true_eq, decide_eq_false_iff_not, beq_iff_eq, bne_iff_ne, beq_eq_false_iff_ne, bne_eq_false_iff_eq, Bool.not_eq_true', Bool.not_eq_false', Bool.not_eq_true, Bool.not_eq_false, Bool.and_eq_true, Bool.or_eq_true, Bool.and_eq_false_iff, Bool.or_eq_false_iff, Int.not_lt, Int.not_le, ne_eq, gt_iff_lt, ge_iff_le] at hb') <;> (try (exfalso; omega))) | (refine altW.of ?_ ?_) | (refine dcallW.of _ _ (w1 _) ?_) | (refine callW.ex _ _ (w1 _) ?_) | (refine .of ((w1 _).mono ?_); rintro v _ ⟨rfl, rfl⟩)
      all_goals exact .back rfl ⟨rfl, rfl⟩
  · simp only [hb, false_and, decide_false]
    refine .walkW f17_ok (by simp; decide) (by decide) ?_
    repeat' first | simp (disch := first | with_reducible assumption | omega) only [go_sem, Bool.true_and, Bool.and_true, Bool.and_self, Bool.false_and, Bool.and_false, Bool.true_or, Bool.or_true, Bool.false_or, Bool.or_false, ↓reduceIte, Nat.reduceEqDiff, Nat.reduceAdd, Nat.reduceMul, Nat.reduceSub, Nat.reduceBEq, Nat.reduceLeDiff, Nat.reduceLT, Nat.reduceMod, Nat.reduceDiv, Int.reduceToNat, Int.reducePow, Int.reduceMul, Int.reduceAdd, Int.reduceSub, Int.reduceLE, Int.reduceLT, Int.reduceNeg, Int.reduceDiv, Int.reduceMod, Int.reduceEq, Int.reduceBEq, Int.reduceBNe, f17, f17b, f17r0, f17r1, Px.val, Px.cells, h1, h2, h3, hk, c1, c2, c3, c4, e0] | (refine BrW.of (fun hb => ?_) (fun hb => ?_) <;> (have hb' := hb; try simp only [decide_eq_true_eq, decide_eq_false_iff_not, beq_iff_eq, bne_iff_ne, beq_eq_false_iff_ne, bne_eq_false_iff_eq, Bool.not_eq_true', Bool.not_eq_false', Bool.not_eq_true, Bool.not_eq_false, Bool.and_eq_true, Bool.or_eq_true, Bool.and_eq_false_iff, Bool.or_eq_false_iff, Int.not_lt, Int.not_le, ne_eq, gt_iff_lt, ge_iff_le] at hb') <;> (try (exfalso; omega))) | (refine altW.of ?_ ?_) | (refine dcallW.of _ _ (w1 _) ?_) | (refine callW.ex _ _ (w1 _) ?_) | (refine .of ((w1 _).mono ?_); rintro v _ ⟨rfl, rfl⟩)
    all_goals exact .back rfl ⟨rfl, rfl⟩

theorem TrieLongest_args (H : Heap) (vals : List Value) (h : ArgsOk maxLen H TrieLongestSh vals) : ACallK Try.prog 7 vals H fun v _ => v = .bool true := by
  obtain ⟨_, _, rfl, a1, h⟩ := h.cons
  obtain ⟨_, _, rfl, a2, h⟩ := h.cons
  obtain rfl := h.nil
  obtain ⟨k, c, l, rfl, hB, hlc, hs, hok⟩ := rows_of (enc := Px.cells) (ok := fun x => x.ad.ok) 6 (fun _ => rfl) p0 rfl (fun cs h => Px.of h) a1
  obtain ⟨_, rfl, hr⟩ := a2.agg
  obtain ⟨a, rfl, ha⟩ := A.of hr
  clear a1 a2 h hr
  have hB' : l.length ≤ 9223372036854775807 := hB
  have hok' : ∀ x ∈ l, x.ad.ok := fun x hx => by obtain ⟨j, hj, rfl⟩ := mem_getD (d := p0) hx; exact hok j hj
  refine .walkW f7_ok (by simp; decide) (by decide) ?_
  have sF := fun H' q (hs' : Ps H' k 0 0 l) (ha' : As H' q 0 0 [a]) => Find_u l [a] k 0 0 c q 0 0 1 H' hs' hlc hB' hok' ha' (by simp) (by simp [ha])
  simp only [List.length_cons, List.length_nil, Nat.zero_add] at sF
  have tn : ∀ (J : Heap) q, J[q]? = some (.cells 0 4 false (flat' A.cells [a])) → As J q 0 0 [a] := fun J q h => Tbl.new (enc := A.cells) (s := 4) (d := a0) (fun _ => rfl) _ _ _ false _ h
  repeat' first | simp (disch := first | with_reducible assumption | omega) only [go_sem, Bool.true_and, Bool.and_true, Bool.and_self, Bool.false_and, Bool.and_false, Bool.true_or, Bool.or_true, Bool.false_or, Bool.or_false, ↓reduceIte, Nat.reduceEqDiff, Nat.reduceAdd, Nat.reduceMul, Nat.reduceSub, Nat.reduceBEq, Nat.reduceLeDiff, Nat.reduceLT, Nat.reduceMod, Nat.reduceDiv, Int.reduceToNat, Int.reducePow, Int.reduceMul, Int.reduceAdd, Int.reduceSub, Int.reduceLE, Int.reduceLT, Int.reduceNeg, Int.reduceDiv, Int.reduceMod, Int.reduceEq, Int.reduceBEq, Int.reduceBNe, f7, f7b, f7r0, f7r1, f7r2, f7r3, f7r4, f7r5, f7r6, f7r7, f7r8, f7r9, f7r10, f7r11, f7r12, f7r14, f7r15, A.cells] | (refine BrW.of (fun hb => ?_) (fun hb => ?_) <;> (have hb' := hb; try simp only [decide_eq_true_eq, decide_eq_false_iff_not, beq_iff_eq, bne_iff_ne, beq_eq_false_iff_ne, bne_eq_false_iff_eq, Bool.not_eq_true', Bool.not_eq_false', Bool.not_eq_true, Bool.not_eq_false, Bool.and_eq_true, Bool.or_eq_true, Bool.and_eq_false_iff, Bool.or_eq_false_iff, Int.not_lt, Int.not_le, ne_eq, gt_iff_lt, ge_iff_le] at hb') <;> (try (exfalso; omega))) | (refine altW.of ?_ ?_) | (refine .of ((alive _).mono ?_); rintro v H ⟨rfl, rfl⟩)
  refine .of ((sF _ (H.length + 1) (hs.app _) (tn _ _ (by rw [get_new]; rfl))).mono ?_)
  rintro v H1 ⟨x1, x2, e, rfl, hle, he1, he2, he3⟩
  have hA := hle.get (get_new0 H _ _)
  have hs1 := Tbl.le (hs.app _) hle
  by_cases z : e = 0
  · obtain ⟨q1, p1, q2, p2, rfl, rfl, hI, hO⟩ := he3 z
    have hf := he1.1 z
    subst z
    obtain ⟨ro, cs, hk, hcl, hcs⟩ := hs1.at'
    obtain ⟨ro1, cs1, hk1, _, hc1⟩ := Ints.cell hI
    obtain ⟨ro2, cs2, hk2, _, hc2⟩ := Bools.cell hO
    have e1 := hc1 0 (by simp [vals'])
    have e2 := hc2 0 (by simp [oks'])
    simp only [vals', oks', List.map_cons, List.map_nil, List.getD_cons_zero, Nat.zero_add, Nat.add_zero] at e1 e2 hI
    have g1 := get_old hk1
    have g2 := get_old hk2
    have gA := get_old hA
    have gk := get_old hk
    simp only [Nat.zero_add] at hcs
    repeat' first | simp (disch := first | with_reducible assumption | omega) only [go_sem, Bool.true_and, Bool.and_true, Bool.and_self, Bool.false_and, Bool.and_false, Bool.true_or, Bool.or_true, Bool.false_or, Bool.or_false, ↓reduceIte, Nat.reduceEqDiff, Nat.reduceAdd, Nat.reduceMul, Nat.reduceSub, Nat.reduceBEq, Nat.reduceLeDiff, Nat.reduceLT, Nat.reduceMod, Nat.reduceDiv, Int.reduceToNat, Int.reducePow, Int.reduceMul, Int.reduceAdd, Int.reduceSub, Int.reduceLE, Int.reduceLT, Int.reduceNeg, Int.reduceDiv, Int.reduceMod, Int.reduceEq, Int.reduceBEq, Int.reduceBNe, f7, f7b, f7r0, f7r1, f7r2, f7r3, f7r4, f7r5, f7r6, f7r7, f7r8, f7r9, f7r10, f7r11, f7r12, f7r14, f7r15, A.cells, hA, gA, hk, gk, hk1, hk2, g1, g2] | (refine BrW.of (fun hb => ?_) (fun hb => ?_) <;> (have hb' := hb; try simp only [decide_eq_true_eq, decide_eq_false_iff_not, beq_iff_eq, bne_iff_ne, beq_eq_false_iff_ne, bne_eq_false_iff_eq, Bool.not_eq_true', Bool.not_eq_false', Bool.not_eq_true, Bool.not_eq_false, Bool.and_eq_true, Bool.or_eq_true, Bool.and_eq_false_iff, Bool.or_eq_false_iff, Int.not_lt, Int.not_le, ne_eq, gt_iff_lt, ge_iff_le] at hb') <;> (try (exfalso; omega))) | (refine altW.of ?_ ?_)
    have hlaw := longest hf hok' a
    have hml := fun i => mostOf_spec a (l.take i)
    generalize hFo : found l a 32 = fo at *
    refine loopW.of (by decide) (fun m e J => ∃ (i : Nat) (x : Heap), e = [(0, slv k 0 0 l.length c), (3, .pointer (some ⟨H.length, 0, some 1⟩)), (5, .pointer (some ⟨H1.length, 0, some 1⟩)), (6, slv q2 0 p2 1 1), (8, .pointer (some ⟨H1.length + 1, 0, some 1⟩)), (44, slv k 0 0 l.length c), (45, .int .i64 l.length), (46, .int .i64 i)] ∧
      J = H1 ++ (.cells 0 0 false [slv q1 0 p1 1 1] :: .cells 0 0 false [.int .i64 (mostOf (l.take i) a)] :: x) ∧ i ≤ l.length ∧ m = l.length - i) l.length ⟨0, [], rfl, rfl, by omega, rfl⟩ ?_
    rintro m e J ⟨i, x, rfl, rfl, hi, rfl⟩
    by_cases hlt : i < l.length
    · have hld := Tbl.ld (enc := Px.cells) (fun _ => rfl) (o := 0) (by simpa using hcs) i hlt
      simp only [Nat.zero_add] at hld
      have hxo := hok i hlt
      have hms := mostOf_snoc (l.take i) (l.getD i p0) a
      rw [← take_snoc p0 l i hlt] at hms
      have hm1 := hml i
      generalize l.getD i p0 = y at *
      have w1 := fun H' => Within_spec a y.ad y.bits y.to H' ha hxo
      simp only [Px.cells] at hld
      generalize mostOf (l.take i) a = M at *
      by_cases hw : within a y.ad y.bits
      · rw [if_pos hw] at hms
        rw [decide_eq_true hw] at w1
        obtain ⟨m0, m1, _⟩ := hm1
        clear hml hlaw
        repeat' first | simp (disch := first | with_reducible assumption | omega) only [go_sem, Bool.true_and, Bool.and_true, Bool.and_self, Bool.false_and, Bool.and_false, Bool.true_or, Bool.or_true, Bool.false_or, Bool.or_false, ↓reduceIte, Nat.reduceEqDiff, Nat.reduceAdd, Nat.reduceMul, Nat.reduceSub, Nat.reduceBEq, Nat.reduceLeDiff, Nat.reduceLT, Nat.reduceMod, Nat.reduceDiv, Int.reduceToNat, Int.reducePow, Int.reduceMul, Int.reduceAdd, Int.reduceSub, Int.reduceLE, Int.reduceLT, Int.reduceNeg, Int.reduceDiv, Int.reduceMod, Int.reduceEq, Int.reduceBEq, Int.reduceBNe, f7, f7b, f7r0, f7r1, f7r2, f7r3, f7r4, f7r5, f7r6, f7r7, f7r8, f7r9, f7r10, f7r11, f7r12, f7r14, f7r15, f7l0, hA, gA, hk, gk, ↓hld] | (refine BrW.of (fun hb => ?_) (fun hb => ?_) <;> (have hb' := hb; try simp only [decide_eq_true_eq, decide_eq_false_iff_not, beq_iff_eq, bne_iff_ne, beq_eq_false_iff_ne, bne_eq_false_iff_eq, Bool.not_eq_true', Bool.not_eq_false', Bool.not_eq_true, Bool.not_eq_false, Bool.and_eq_true, Bool.or_eq_true, Bool.and_eq_false_iff, Bool.or_eq_false_iff, Int.not_lt, Int.not_le, ne_eq, gt_iff_lt, ge_iff_le] at hb') <;> (try (exfalso; omega))) | (refine altW.of ?_ ?_) | (refine .of ((w1 _).mono ?_); rintro v _ ⟨rfl, rfl⟩)
        refine RdW.keep [0, 3, 5, 6, 8, 44, 45, 46] (l.length - (i + 1)) (by omega) ?_
        simp (disch := first | with_reducible assumption | omega) only [go_sem, Bool.true_and, Bool.and_true, Bool.and_self, Bool.false_and, Bool.and_false, Bool.true_or, Bool.or_true, Bool.false_or, Bool.or_false, ↓reduceIte, Nat.reduceEqDiff, Nat.reduceAdd, Nat.reduceMul, Nat.reduceSub, Nat.reduceBEq, Nat.reduceLeDiff, Nat.reduceLT, Nat.reduceMod, Nat.reduceDiv, Int.reduceToNat, Int.reducePow, Int.reduceMul, Int.reduceAdd, Int.reduceSub, Int.reduceLE, Int.reduceLT, Int.reduceNeg, Int.reduceDiv, Int.reduceMod, Int.reduceEq, Int.reduceBEq, Int.reduceBNe]
        exact ⟨i + 1, _, rfl, by rw [hms], by omega, rfl⟩
      · rw [if_neg hw] at hms
        rw [decide_eq_false hw] at w1
        clear hml hlaw hm1
        repeat' first | simp (disch := first | with_reducible assumption | omega) only [go_sem, Bool.true_and, Bool.and_true, Bool.and_self, Bool.false_and, Bool.and_false, Bool.true_or, Bool.or_true, Bool.false_or, Bool.or_false, ↓reduceIte, Nat.reduceEqDiff, Nat.reduceAdd, Nat.reduceMul, Nat.reduceSub, Nat.reduceBEq, Nat.reduceLeDiff, Nat.reduceLT, Nat.reduceMod, Nat.reduceDiv, Int.reduceToNat, Int.reducePow, Int.reduceMul, Int.reduceAdd, Int.reduceSub, Int.reduceLE, Int.reduceLT, Int.reduceNeg, Int.reduceDiv, Int.reduceMod, Int.reduceEq, Int.reduceBEq, Int.reduceBNe, f7, f7b, f7r0, f7r1, f7r2, f7r3, f7r4, f7r5, f7r6, f7r7, f7r8, f7r9, f7r10, f7r11, f7r12, f7r14, f7r15, f7l0, hA, gA, hk, gk, ↓hld] | (refine BrW.of (fun hb => ?_) (fun hb => ?_) <;> (have hb' := hb; try simp only [decide_eq_true_eq, decide_eq_false_iff_not, beq_iff_eq, bne_iff_ne, beq_eq_false_iff_ne, bne_eq_false_iff_eq, Bool.not_eq_true', Bool.not_eq_false', Bool.not_eq_true, Bool.not_eq_false, Bool.and_eq_true, Bool.or_eq_true, Bool.and_eq_false_iff, Bool.or_eq_false_iff, Int.not_lt, Int.not_le, ne_eq, gt_iff_lt, ge_iff_le] at hb') <;> (try (exfalso; omega))) | (refine altW.of ?_ ?_) | (refine .of ((w1 _).mono ?_); rintro v _ ⟨rfl, rfl⟩)
        refine RdW.keep [0, 3, 5, 6, 8, 44, 45, 46] (l.length - (i + 1)) (by omega) ?_
        simp (disch := first | with_reducible assumption | omega) only [go_sem, Bool.true_and, Bool.and_true, Bool.and_self, Bool.false_and, Bool.and_false, Bool.true_or, Bool.or_true, Bool.false_or, Bool.or_false, ↓reduceIte, Nat.reduceEqDiff, Nat.reduceAdd, Nat.reduceMul, Nat.reduceSub, Nat.reduceBEq, Nat.reduceLeDiff, Nat.reduceLT, Nat.reduceMod, Nat.reduceDiv, Int.reduceToNat, Int.reducePow, Int.reduceMul, Int.reduceAdd, Int.reduceSub, Int.reduceLE, Int.reduceLT, Int.reduceNeg, Int.reduceDiv, Int.reduceMod, Int.reduceEq, Int.reduceBEq, Int.reduceBNe]
        exact ⟨i + 1, _, rfl, by rw [hms], by omega, rfl⟩
    · obtain rfl : i = l.length := by omega
      rw [List.take_length]
      clear hml
      generalize mostOf l a = M at *
      have hC := fun t0 => ContainsF_spec (fun y => decide (y.bits = M ∧ y.to = t0 ∧ within a y.ad y.bits)) 17 [.pointer (some ⟨H1.length + 1, 0, some 1⟩), .pointer (some ⟨H1.length, 0, some 1⟩), .pointer (some ⟨H.length, 0, some 1⟩)] l k 0 0 c _ (Tbl.app hs1 (.cells 0 0 false [slv q1 0 p1 1 1] :: .cells 0 0 false [.int .i64 M] :: x)) hB'
      have hx1 : (H1 ++ (AObj.cells 0 0 false [slv q1 0 p1 1 1] :: .cells 0 0 false [.int .i64 M] :: x))[H1.length + 1]? = some (.cells 0 0 false [.int .i64 M]) := by rw [get_new]; rfl
      have hx2 : (H1 ++ (AObj.cells 0 0 false [slv q1 0 p1 1 1] :: .cells 0 0 false [.int .i64 M] :: x))[H1.length]? = some (.cells 0 0 false [slv q1 0 p1 1 1]) := get_new0 _ _ _
      rcases hlaw with ⟨rfl, rfl⟩ | ⟨v, rfl, hM, y, hy, hy1, hy2, hy3⟩
      · have hC' := hC 0 (fun j hj => thatClo_spec _ a (-1) 0 _ _ _ q1 p1 [] _ (hok j hj) ha hx1 hx2 (gA _) (hI.app _))
        repeat' first | simp (disch := first | with_reducible assumption | omega) only [go_sem, Bool.true_and, Bool.and_true, Bool.and_self, Bool.false_and, Bool.and_false, Bool.true_or, Bool.or_true, Bool.false_or, Bool.or_false, ↓reduceIte, Nat.reduceEqDiff, Nat.reduceAdd, Nat.reduceMul, Nat.reduceSub, Nat.reduceBEq, Nat.reduceLeDiff, Nat.reduceLT, Nat.reduceMod, Nat.reduceDiv, Int.reduceToNat, Int.reducePow, Int.reduceMul, Int.reduceAdd, Int.reduceSub, Int.reduceLE, Int.reduceLT, Int.reduceNeg, Int.reduceDiv, Int.reduceMod, Int.reduceEq, Int.reduceBEq, Int.reduceBNe, f7, f7b, f7r0, f7r1, f7r2, f7r3, f7r4, f7r5, f7r6, f7r7, f7r8, f7r9, f7r10, f7r11, f7r12, f7r14, f7r15, f7l0, f7, f7b, f7r0, f7r1, f7r2, f7r3, f7r4, f7r5, f7r6, f7r7, f7r8, f7r9, f7r10, f7r11, f7r12, f7r14, f7r15, hk, gk, hk2, g2, hk1, g1, e1, e2, bq1, bq2, bq3, bq4, Option.isSome_none, Option.isSome_some, Option.getD_none, Option.getD_some] | (refine BrW.of (fun hb => ?_) (fun hb => ?_) <;> (have hb' := hb; try simp only [decide_eq_true_eq, decide_eq_false_iff_not, beq_iff_eq, bne_iff_ne, beq_eq_false_iff_ne, bne_eq_false_iff_eq, Bool.not_eq_true', Bool.not_eq_false', Bool.not_eq_true, Bool.not_eq_false, Bool.and_eq_true, Bool.or_eq_true, Bool.and_eq_false_iff, Bool.or_eq_false_iff, Int.not_lt, Int.not_le, ne_eq, gt_iff_lt, ge_iff_le] at hb') <;> (try (exfalso; omega))) | (refine altW.of ?_ ?_) | (refine .of (hC'.mono ?_); rintro v _ ⟨rfl, rfl⟩)
        all_goals exact .here rfl
      · have hC' := hC v (fun j hj => thatClo_spec _ a M v _ _ _ q1 p1 [] _ (hok j hj) ha hx1 hx2 (gA _) (hI.app _))
        have hany : (l.any fun y => decide (y.bits = M ∧ y.to = v ∧ within a y.ad y.bits)) = true := List.any_eq_true.2 ⟨y, hy, by simp only [decide_eq_true_eq]; exact ⟨hy1, hy2, hy3⟩⟩
        rw [hany] at hC'
        have hMd : decide (0 ≤ M) = true := decide_eq_true hM
        clear hy hy1 hy2 hy3 hany hC
        repeat' first | simp (disch := first | with_reducible assumption | omega) only [go_sem, Bool.true_and, Bool.and_true, Bool.and_self, Bool.false_and, Bool.and_false, Bool.true_or, Bool.or_true, Bool.false_or, Bool.or_false, ↓reduceIte, Nat.reduceEqDiff, Nat.reduceAdd, Nat.reduceMul, Nat.reduceSub, Nat.reduceBEq, Nat.reduceLeDiff, Nat.reduceLT, Nat.reduceMod, Nat.reduceDiv, Int.reduceToNat, Int.reducePow, Int.reduceMul, Int.reduceAdd, Int.reduceSub, Int.reduceLE, Int.reduceLT, Int.reduceNeg, Int.reduceDiv, Int.reduceMod, Int.reduceEq, Int.reduceBEq, Int.reduceBNe, f7, f7b, f7r0, f7r1, f7r2, f7r3, f7r4, f7r5, f7r6, f7r7, f7r8, f7r9, f7r10, f7r11, f7r12, f7r14, f7r15, f7l0, f7, f7b, f7r0, f7r1, f7r2, f7r3, f7r4, f7r5, f7r6, f7r7, f7r8, f7r9, f7r10, f7r11, f7r12, f7r14, f7r15, hMd, hk, gk, hk2, g2, hk1, g1, e1, e2, bq1, bq2, bq3, bq4, Option.isSome_none, Option.isSome_some, Option.getD_none, Option.getD_some] | (refine BrW.of (fun hb => ?_) (fun hb => ?_) <;> (have hb' := hb; try simp only [decide_eq_true_eq, decide_eq_false_iff_not, beq_iff_eq, bne_iff_ne, beq_eq_false_iff_ne, bne_eq_false_iff_eq, Bool.not_eq_true', Bool.not_eq_false', Bool.not_eq_true, Bool.not_eq_false, Bool.and_eq_true, Bool.or_eq_true, Bool.and_eq_false_iff, Bool.or_eq_false_iff, Int.not_lt, Int.not_le, ne_eq, gt_iff_lt, ge_iff_le] at hb') <;> (try (exfalso; omega))) | (refine altW.of ?_ ?_) | (refine .of (hC'.mono ?_); rintro v _ ⟨rfl, rfl⟩)
        all_goals exact .here rfl
  · obtain ⟨rfl, rfl⟩ := he2 z
    have z' : (e != 0) = true := by simpa using z
    repeat' first | simp (disch := first | with_reducible assumption | omega) only [go_sem, Bool.true_and, Bool.and_true, Bool.and_self, Bool.false_and, Bool.and_false, Bool.true_or, Bool.or_true, Bool.false_or, Bool.or_false, ↓reduceIte, Nat.reduceEqDiff, Nat.reduceAdd, Nat.reduceMul, Nat.reduceSub, Nat.reduceBEq, Nat.reduceLeDiff, Nat.reduceLT, Nat.reduceMod, Nat.reduceDiv, Int.reduceToNat, Int.reducePow, Int.reduceMul, Int.reduceAdd, Int.reduceSub, Int.reduceLE, Int.reduceLT, Int.reduceNeg, Int.reduceDiv, Int.reduceMod, Int.reduceEq, Int.reduceBEq, Int.reduceBNe, f7, f7b, f7r0, f7r1, f7r2, f7r3, f7r4, f7r5, f7r6, f7r7, f7r8, f7r9, f7r10, f7r11, f7r12, f7r14, f7r15, z'] | (refine BrW.of (fun hb => ?_) (fun hb => ?_) <;> (have hb' := hb; try simp only [decide_eq_true_eq, decide_eq_false_iff_not, beq_iff_eq, bne_iff_ne, beq_eq_false_iff_ne, bne_eq_false_iff_eq, Bool.not_eq_true', Bool.not_eq_false', Bool.not_eq_true, Bool.not_eq_false, Bool.and_eq_true, Bool.or_eq_true, Bool.and_eq_false_iff, Bool.or_eq_false_iff, Int.not_lt, Int.not_le, ne_eq, gt_iff_lt, ge_iff_le] at hb') <;> (try (exfalso; omega))) | (refine altW.of ?_ ?_)
    all_goals exact .here rfl
end Go.Proofs.Ytiflaenenlcidaa
