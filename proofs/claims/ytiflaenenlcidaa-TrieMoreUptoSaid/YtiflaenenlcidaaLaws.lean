import Derived.Test.YtiflaenenlcidaaSteps
import Derived.Test.YtiflaenenlcidaaBase
set_option linter.unusedSimpArgs false
set_option linter.unusedVariables false
set_option maxHeartbeats 1000000
set_option maxRecDepth 20000
namespace Go.Proofs.Ytiflaenenlcidaa
open Go Go.Am
attribute [local irreducible] opsW Ww loopW callW drawW outW outDW gW cW BrW bothW vW resW DropW RdW dcallW altW Later.run

theorem u8_range {n : Int} (h : IntKind.u8.min ≤ n ∧ n ≤ IntKind.u8.max) : 0 ≤ n ∧ n ≤ 255 := h
theorem A.of {B : Nat} {H : Heap} {cs : List Value} (h : RowOk B H [.int .u8, .int .u8, .int .u8, .int .u8] cs) : ∃ r : A, cs = r.cells ∧ r.ok := by
  obtain ⟨_, _, rfl, c0, h⟩ := h.cons_inv
  obtain ⟨_, _, rfl, c1, h⟩ := h.cons_inv
  obtain ⟨_, _, rfl, c2, h⟩ := h.cons_inv
  obtain ⟨_, _, rfl, c3, h⟩ := h.cons_inv
  obtain rfl := h.nil_inv
  obtain ⟨n0, rfl, h0⟩ := c0.int_inv
  obtain ⟨n1, rfl, h1⟩ := c1.int_inv
  obtain ⟨n2, rfl, h2⟩ := c2.int_inv
  obtain ⟨n3, rfl, h3⟩ := c3.int_inv
  exact ⟨⟨n0, n1, n2, n3⟩, rfl, u8_range h0, u8_range h1, u8_range h2, u8_range h3⟩
theorem Px.of {B : Nat} {H : Heap} {cs : List Value} (h : RowOk B H [.int .u8, .int .u8, .int .u8, .int .u8, .int .i64, .int .i64] cs) : ∃ r : Px, cs = r.cells ∧ r.ad.ok := by
  obtain ⟨_, _, rfl, c0, h⟩ := h.cons_inv
  obtain ⟨_, _, rfl, c1, h⟩ := h.cons_inv
  obtain ⟨_, _, rfl, c2, h⟩ := h.cons_inv
  obtain ⟨_, _, rfl, c3, h⟩ := h.cons_inv
  obtain ⟨_, _, rfl, c4, h⟩ := h.cons_inv
  obtain ⟨_, _, rfl, c5, h⟩ := h.cons_inv
  obtain rfl := h.nil_inv
  obtain ⟨n0, rfl, h0⟩ := c0.int_inv
  obtain ⟨n1, rfl, h1⟩ := c1.int_inv
  obtain ⟨n2, rfl, h2⟩ := c2.int_inv
  obtain ⟨n3, rfl, h3⟩ := c3.int_inv
  obtain ⟨n4, rfl, _⟩ := c4.int_inv
  obtain ⟨n5, rfl, _⟩ := c5.int_inv
  exact ⟨⟨⟨n0, n1, n2, n3⟩, n4, n5⟩, rfl, u8_range h0, u8_range h1, u8_range h2, u8_range h3⟩

theorem one_ok {p : Px} (hp : p.ad.ok) : ∀ i, i < [p].length → (([p] : List Px).getD i p0).ad.ok := fun i hi => by
  obtain rfl : i = 0 := by simpa using hi
  exact hp
theorem TrieNest_args (H : Heap) (vals : List Value) (h : ArgsOk maxLen H TrieNestSh vals) : ACallK Try.prog 4 vals H fun v _ => v = .bool true := by
  obtain ⟨_, _, rfl, a1, h⟩ := h.cons
  obtain ⟨_, _, rfl, a2, h⟩ := h.cons
  obtain ⟨_, _, rfl, a3, h⟩ := h.cons
  obtain rfl := h.nil
  obtain ⟨_, rfl, hr⟩ := a1.agg
  obtain ⟨p, rfl, hp⟩ := Px.of hr
  obtain ⟨_, rfl, hr'⟩ := a2.agg
  obtain ⟨q, rfl, hq⟩ := Px.of hr'
  obtain ⟨_, rfl, hr''⟩ := a3.agg
  obtain ⟨a, rfl, ha⟩ := A.of hr''
  clear a1 a2 a3 h hr hr' hr''
  refine .walkW f4_ok (by simp; decide) (by decide) ?_
  have sw := fun (r : Px) H' (hr : r.ad.ok) {k : Nat} (hs : Ps H' k 0 0 [r]) => Wrong_u [r] k 0 0 1 H' hs (by simp) (by simp) (one_ok hr)
  have tn : ∀ (J : Heap) (r : Px) k, J[k]? = some (.cells 0 6 false (flat' Px.cells [r])) → Ps J k 0 0 [r] := fun J r k h => Tbl.new (enc := Px.cells) (s := 6) (d := p0) (fun _ => rfl) _ _ _ false _ h
  have w1 := fun H' => Within_spec a p.ad p.bits p.to H' ha hp
  have w2 := fun H' => Within_spec a q.ad q.bits q.to H' ha hq
  have w3 := fun H' => Within_spec q.ad p.ad p.bits p.to H' hq hp
  by_cases hbb : p.bits ≤ q.bits
  · have n1 := nest1 (a := a) (p := p.ad) (q := q.ad) hbb
    have n2 := nest2 (a := a) (p := p.ad) (q := q.ad) hbb
    by_cases h2 : within a q.ad q.bits
    · by_cases h1 : within a p.ad p.bits
      · have h3 := n1 h1 h2
        rw [decide_eq_true h1] at w1
        rw [decide_eq_true h2] at w2
        rw [decide_eq_true h3] at w3
        clear n1 n2 h1 h2 h3
        repeat' first | simp (disch := first | with_reducible assumption | omega) only [go_sem, Bool.true_and, Bool.and_true, Bool.and_self, Bool.false_and, Bool.and_false, Bool.true_or, Bool.or_true, Bool.false_or, Bool.or_false, ↓reduceIte, Nat.reduceEqDiff, Nat.reduceAdd, Nat.reduceMul, Nat.reduceSub, Nat.reduceBEq, Nat.reduceLeDiff, Nat.reduceLT, Nat.reduceMod, Nat.reduceDiv, Int.reduceToNat, Int.reducePow, Int.reduceMul, Int.reduceAdd, Int.reduceSub, Int.reduceLE, Int.reduceLT, Int.reduceNeg, Int.reduceDiv, Int.reduceMod, Int.reduceEq, Int.reduceBEq, Int.reduceBNe, f4, f4b, f4r0, f4r1, f4r2, f4r3, f4r4, f4r5, f4r6, f4r7, Px.cells, A.cells] | (refine BrW.of (fun hb => ?_) (fun hb => ?_) <;> (have hb' := hb; try simp only [decide_eq_true_eq, decide_eq_false_iff_not, beq_iff_eq, bne_iff_ne, beq_eq_false_iff_ne, bne_eq_false_iff_eq, Bool.not_eq_true', Bool.not_eq_false', Bool.not_eq_true, Bool.not_eq_false, Bool.and_eq_true, Bool.or_eq_true, Bool.and_eq_false_iff, Bool.or_eq_false_iff, Int.not_lt, Int.not_le, ne_eq, gt_iff_lt, ge_iff_le] at hb') <;> (try (exfalso; omega))) | (refine altW.of ?_ ?_) | (refine .of ((alive _).mono ?_); rintro v _ ⟨rfl, rfl⟩) | (refine .of ((sw p _ hp (tn _ _ _ (by rw [get_new]; rfl))).mono ?_); rintro v _ ⟨e1, rfl, rfl, he1⟩) | (refine .of ((sw q _ hq (tn _ _ _ (by rw [get_new]; rfl))).mono ?_); rintro v _ ⟨e2, rfl, rfl, he2⟩) | (refine .of ((w1 _).mono ?_); rintro v _ ⟨rfl, rfl⟩) | (refine .of ((w2 _).mono ?_); rintro v _ ⟨rfl, rfl⟩) | (refine .of ((w3 _).mono ?_); rintro v _ ⟨rfl, rfl⟩)
        all_goals exact .here (by (first | with_reducible rfl | (congr 1; first | with_reducible rfl | omega | (rw [Bool.eq_iff_iff]; simp only [decide_eq_true_eq, decide_eq_false_iff_not, beq_iff_eq, bne_iff_ne, beq_eq_false_iff_ne, bne_eq_false_iff_eq, Bool.not_eq_true', Bool.not_eq_false', Bool.not_eq_true, Bool.not_eq_false, Bool.and_eq_true, Bool.or_eq_true, Bool.and_eq_false_iff, Bool.or_eq_false_iff, Int.not_lt, Int.not_le, ne_eq, gt_iff_lt, ge_iff_le, Bool.and_false, Bool.false_and, Bool.or_true, Bool.true_or, Bool.false_eq_true, true_iff, iff_true, false_iff, iff_false, eq_self, not_true_eq_false, not_false_eq_true]; try omega))))
      · have h3 := n2 h1 h2
        rw [decide_eq_false h1] at w1
        rw [decide_eq_true h2] at w2
        rw [decide_eq_false h3] at w3
        clear n1 n2 h1 h2 h3
        repeat' first | simp (disch := first | with_reducible assumption | omega) only [go_sem, Bool.true_and, Bool.and_true, Bool.and_self, Bool.false_and, Bool.and_false, Bool.true_or, Bool.or_true, Bool.false_or, Bool.or_false, ↓reduceIte, Nat.reduceEqDiff, Nat.reduceAdd, Nat.reduceMul, Nat.reduceSub, Nat.reduceBEq, Nat.reduceLeDiff, Nat.reduceLT, Nat.reduceMod, Nat.reduceDiv, Int.reduceToNat, Int.reducePow, Int.reduceMul, Int.reduceAdd, Int.reduceSub, Int.reduceLE, Int.reduceLT, Int.reduceNeg, Int.reduceDiv, Int.reduceMod, Int.reduceEq, Int.reduceBEq, Int.reduceBNe, f4, f4b, f4r0, f4r1, f4r2, f4r3, f4r4, f4r5, f4r6, f4r7, Px.cells, A.cells] | (refine BrW.of (fun hb => ?_) (fun hb => ?_) <;> (have hb' := hb; try simp only [decide_eq_true_eq, decide_eq_false_iff_not, beq_iff_eq, bne_iff_ne, beq_eq_false_iff_ne, bne_eq_false_iff_eq, Bool.not_eq_true', Bool.not_eq_false', Bool.not_eq_true, Bool.not_eq_false, Bool.and_eq_true, Bool.or_eq_true, Bool.and_eq_false_iff, Bool.or_eq_false_iff, Int.not_lt, Int.not_le, ne_eq, gt_iff_lt, ge_iff_le] at hb') <;> (try (exfalso; omega))) | (refine altW.of ?_ ?_) | (refine .of ((alive _).mono ?_); rintro v _ ⟨rfl, rfl⟩) | (refine .of ((sw p _ hp (tn _ _ _ (by rw [get_new]; rfl))).mono ?_); rintro v _ ⟨e1, rfl, rfl, he1⟩) | (refine .of ((sw q _ hq (tn _ _ _ (by rw [get_new]; rfl))).mono ?_); rintro v _ ⟨e2, rfl, rfl, he2⟩) | (refine .of ((w1 _).mono ?_); rintro v _ ⟨rfl, rfl⟩) | (refine .of ((w2 _).mono ?_); rintro v _ ⟨rfl, rfl⟩) | (refine .of ((w3 _).mono ?_); rintro v _ ⟨rfl, rfl⟩)
        all_goals exact .here (by (first | with_reducible rfl | (congr 1; first | with_reducible rfl | omega | (rw [Bool.eq_iff_iff]; simp only [decide_eq_true_eq, decide_eq_false_iff_not, beq_iff_eq, bne_iff_ne, beq_eq_false_iff_ne, bne_eq_false_iff_eq, Bool.not_eq_true', Bool.not_eq_false', Bool.not_eq_true, Bool.not_eq_false, Bool.and_eq_true, Bool.or_eq_true, Bool.and_eq_false_iff, Bool.or_eq_false_iff, Int.not_lt, Int.not_le, ne_eq, gt_iff_lt, ge_iff_le, Bool.and_false, Bool.false_and, Bool.or_true, Bool.true_or, Bool.false_eq_true, true_iff, iff_true, false_iff, iff_false, eq_self, not_true_eq_false, not_false_eq_true]; try omega))))
    · rw [decide_eq_false h2] at w2
      generalize decide (within a p.ad p.bits) = t1 at *
      generalize decide (within q.ad p.ad p.bits) = t3 at *
      clear n1 n2 h2
      repeat' first | simp (disch := first | with_reducible assumption | omega) only [go_sem, Bool.true_and, Bool.and_true, Bool.and_self, Bool.false_and, Bool.and_false, Bool.true_or, Bool.or_true, Bool.false_or, Bool.or_false, ↓reduceIte, Nat.reduceEqDiff, Nat.reduceAdd, Nat.reduceMul, Nat.reduceSub, Nat.reduceBEq, Nat.reduceLeDiff, Nat.reduceLT, Nat.reduceMod, Nat.reduceDiv, Int.reduceToNat, Int.reducePow, Int.reduceMul, Int.reduceAdd, Int.reduceSub, Int.reduceLE, Int.reduceLT, Int.reduceNeg, Int.reduceDiv, Int.reduceMod, Int.reduceEq, Int.reduceBEq, Int.reduceBNe, f4, f4b, f4r0, f4r1, f4r2, f4r3, f4r4, f4r5, f4r6, f4r7, Px.cells, A.cells] | (refine BrW.of (fun hb => ?_) (fun hb => ?_) <;> (have hb' := hb; try simp only [decide_eq_true_eq, decide_eq_false_iff_not, beq_iff_eq, bne_iff_ne, beq_eq_false_iff_ne, bne_eq_false_iff_eq, Bool.not_eq_true', Bool.not_eq_false', Bool.not_eq_true, Bool.not_eq_false, Bool.and_eq_true, Bool.or_eq_true, Bool.and_eq_false_iff, Bool.or_eq_false_iff, Int.not_lt, Int.not_le, ne_eq, gt_iff_lt, ge_iff_le] at hb') <;> (try (exfalso; omega))) | (refine altW.of ?_ ?_) | (refine .of ((alive _).mono ?_); rintro v _ ⟨rfl, rfl⟩) | (refine .of ((sw p _ hp (tn _ _ _ (by rw [get_new]; rfl))).mono ?_); rintro v _ ⟨e1, rfl, rfl, he1⟩) | (refine .of ((sw q _ hq (tn _ _ _ (by rw [get_new]; rfl))).mono ?_); rintro v _ ⟨e2, rfl, rfl, he2⟩) | (refine .of ((w1 _).mono ?_); rintro v _ ⟨rfl, rfl⟩) | (refine .of ((w2 _).mono ?_); rintro v _ ⟨rfl, rfl⟩) | (refine .of ((w3 _).mono ?_); rintro v _ ⟨rfl, rfl⟩)
      all_goals exact .here (by (first | with_reducible rfl | (congr 1; first | with_reducible rfl | omega | (rw [Bool.eq_iff_iff]; simp only [decide_eq_true_eq, decide_eq_false_iff_not, beq_iff_eq, bne_iff_ne, beq_eq_false_iff_ne, bne_eq_false_iff_eq, Bool.not_eq_true', Bool.not_eq_false', Bool.not_eq_true, Bool.not_eq_false, Bool.and_eq_true, Bool.or_eq_true, Bool.and_eq_false_iff, Bool.or_eq_false_iff, Int.not_lt, Int.not_le, ne_eq, gt_iff_lt, ge_iff_le, Bool.and_false, Bool.false_and, Bool.or_true, Bool.true_or, Bool.false_eq_true, true_iff, iff_true, false_iff, iff_false, eq_self, not_true_eq_false, not_false_eq_true]; try omega))))
  · generalize decide (within a p.ad p.bits) = t1 at *
    generalize decide (within a q.ad q.bits) = t2 at *
    generalize decide (within q.ad p.ad p.bits) = t3 at *
    repeat' first | simp (disch := first | with_reducible assumption | omega) only [go_sem, Bool.true_and, Bool.and_true, Bool.and_self, Bool.false_and, Bool.and_false, Bool.true_or, Bool.or_true, Bool.false_or, Bool.or_false, ↓reduceIte, Nat.reduceEqDiff, Nat.reduceAdd, Nat.reduceMul, Nat.reduceSub, Nat.reduceBEq, Nat.reduceLeDiff, Nat.reduceLT, Nat.reduceMod, Nat.reduceDiv, Int.reduceToNat, Int.reducePow, Int.reduceMul, Int.reduceAdd, Int.reduceSub, Int.reduceLE, Int.reduceLT, Int.reduceNeg, Int.reduceDiv, Int.reduceMod, Int.reduceEq, Int.reduceBEq, Int.reduceBNe, f4, f4b, f4r0, f4r1, f4r2, f4r3, f4r4, f4r5, f4r6, f4r7, Px.cells, A.cells] | (refine BrW.of (fun hb => ?_) (fun hb => ?_) <;> (have hb' := hb; try simp only [decide_eq_true_eq, decide_eq_false_iff_not, beq_iff_eq, bne_iff_ne, beq_eq_false_iff_ne, bne_eq_false_iff_eq, Bool.not_eq_true', Bool.not_eq_false', Bool.not_eq_true, Bool.not_eq_false, Bool.and_eq_true, Bool.or_eq_true, Bool.and_eq_false_iff, Bool.or_eq_false_iff, Int.not_lt, Int.not_le, ne_eq, gt_iff_lt, ge_iff_le] at hb') <;> (try (exfalso; omega))) | (refine altW.of ?_ ?_) | (refine .of ((alive _).mono ?_); rintro v _ ⟨rfl, rfl⟩) | (refine .of ((sw p _ hp (tn _ _ _ (by rw [get_new]; rfl))).mono ?_); rintro v _ ⟨e1, rfl, rfl, he1⟩) | (refine .of ((sw q _ hq (tn _ _ _ (by rw [get_new]; rfl))).mono ?_); rintro v _ ⟨e2, rfl, rfl, he2⟩) | (refine .of ((w1 _).mono ?_); rintro v _ ⟨rfl, rfl⟩) | (refine .of ((w2 _).mono ?_); rintro v _ ⟨rfl, rfl⟩) | (refine .of ((w3 _).mono ?_); rintro v _ ⟨rfl, rfl⟩)
    all_goals exact .here (by (first | with_reducible rfl | (congr 1; first | with_reducible rfl | omega | (rw [Bool.eq_iff_iff]; simp only [decide_eq_true_eq, decide_eq_false_iff_not, beq_iff_eq, bne_iff_ne, beq_eq_false_iff_ne, bne_eq_false_iff_eq, Bool.not_eq_true', Bool.not_eq_false', Bool.not_eq_true, Bool.not_eq_false, Bool.and_eq_true, Bool.or_eq_true, Bool.and_eq_false_iff, Bool.or_eq_false_iff, Int.not_lt, Int.not_le, ne_eq, gt_iff_lt, ge_iff_le, Bool.and_false, Bool.false_and, Bool.or_true, Bool.true_or, Bool.false_eq_true, true_iff, iff_true, false_iff, iff_false, eq_self, not_true_eq_false, not_false_eq_true]; try omega))))
end Go.Proofs.Ytiflaenenlcidaa
