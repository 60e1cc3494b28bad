import Derived.Test.YtlnocgfblheehaaSteps5
set_option linter.unusedSimpArgs false
set_option linter.unusedVariables false
set_option maxHeartbeats 2000000
set_option maxRecDepth 20000
namespace Go.Proofs.Ytlnocgfblheehaa
open Go Go.Am
attribute [local irreducible] opsW Ww loopW callW drawW outW outDW gW cW BrW bothW vW resW DropW RdW dcallW altW Later.run

def aT : List Nd := [⟨-1, 1⟩, ⟨0, 1⟩, ⟨0, 3⟩, ⟨2, 2⟩, ⟨2, 2⟩]
theorem aT_ok : okT aT := by
  refine ⟨by decide, by decide, fun i hi => ?_⟩
  have : i = 0 ∨ i = 1 ∨ i = 2 ∨ i = 3 ∨ i = 4 := by simp [aT] at hi; omega
  rcases this with rfl | rfl | rfl | rfl | rfl <;> exact ⟨by decide, by decide, by decide⟩
theorem aT_lvs : lvs aT 5 = [1, 3, 4] := by decide +kernel
theorem aT_share : share aT 3 = (⟨3, 8⟩, 0) := by decide +kernel
theorem aT_meet : meet aT 3 4 = 2 := by decide +kernel
theorem alive (H : Heap) : ACallK Try.prog 7 [] H (fun v H' => v = .bool true ∧ H' = H) := by
  have hO := fun (J : Heap) (k : Nat) (h : J[k]? = some (.cells 0 2 false (flat' Nd.cells aT))) => (Tbl.new (enc := Nd.cells) (s := 2) (d := n0) (fun _ => rfl) J k 0 false aT h : Nodes J k 0 0 aT)
  have hE := fun (G : Heap) (k1 g1 k2 : Nat) (h1 : G[k1]? = some (.cells g1 1 false (ints [1, 3, 4]))) (h2 : G[k2]? = some (.cells 0 1 false (ints [1, 3, 4]))) => EqualI_spec [1, 3, 4] [1, 3, 4] k1 0 g1 3 k2 0 0 3 G (Ints.new _ _ _ false _ h1) (Ints.new _ _ _ false _ h2) (by decide) (by decide)
  rw [decide_eq_true rfl] at hE
  refine .walkW f7_ok (by simp) (by decide) ?_
  repeat' first | simp (disch := first | with_reducible assumption | omega) only [go_sem, Bool.true_and, Bool.and_true, Bool.and_self, Bool.false_and, Bool.and_false, Bool.true_or, Bool.or_true, Bool.false_or, Bool.or_false, ↓reduceIte, Nat.reduceEqDiff, Nat.reduceAdd, Nat.reduceMul, Nat.reduceSub, Nat.reduceBEq, Nat.reduceLeDiff, Nat.reduceLT, Nat.reduceMod, Nat.reduceDiv, Int.reduceToNat, Int.reducePow, Int.reduceMul, Int.reduceAdd, Int.reduceSub, Int.reduceLE, Int.reduceLT, Int.reduceNeg, Int.reduceDiv, Int.reduceMod, Int.reduceEq, Int.reduceBEq, Int.reduceBNe, f7, f7b, f7r0, f7r1, f7r2, f7r3, f7r4, f7r5] | (refine BrW.of (fun hb => ?_) (fun hb => ?_) <;> (have hb' := hb; try simp only [decide_eq_true_eq, decide_eq_false_iff_not, beq_iff_eq, bne_iff_ne, beq_eq_false_iff_ne, bne_eq_false_iff_eq, Bool.not_eq_true', Bool.not_eq_false', Bool.not_eq_true, Bool.not_eq_false, Bool.and_eq_true, Bool.or_eq_true, Bool.and_eq_false_iff, Bool.or_eq_false_iff, Int.not_lt, Int.not_le, ne_eq, gt_iff_lt, ge_iff_le] at hb') <;> (try (exfalso; omega))) | (refine altW.of ?_ ?_)
  refine .of ((Leaves_spec aT H.length 0 0 5 _ (hO _ _ (get_new0 _ _ _)) (by decide)).mono ?_)
  rintro v J ⟨X, u, e, rfl, rfl, he, _, hX⟩
  obtain rfl := he.2 aT_ok
  obtain ⟨k1, g1, rfl, x1⟩ := (hX rfl).at'
  have hn := get_old (get_new0 H (AObj.cells 0 2 false (flat' Nd.cells aT)) []) X
  rw [show aT.length = 5 from rfl, aT_lvs] at x1 hX ⊢
  have hg : ∃ Z, H ++ [AObj.cells 0 2 false (flat' Nd.cells aT)] ++ X = H ++ Z := ⟨_, List.append_assoc _ _ _⟩
  clear hX
  generalize H ++ [AObj.cells 0 2 false (flat' Nd.cells aT)] ++ X = G at *
  generalize H.length = h0 at *
  have hS := fun (Y : Heap) => Share_spec aT h0 0 0 5 (G ++ Y) (hO _ _ (get_old hn Y)) aT_ok 3 (by decide)
  have hM := fun (Y : Heap) => Meet_spec aT h0 0 0 5 (G ++ Y) (hO _ _ (get_old hn Y)) (by decide) 3 4 (by decide) (by decide)
  rw [aT_share] at hS
  simp only [ansF, F.val] at hS
  have hS0 := hS []
  rw [List.append_nil] at hS0
  repeat' first | simp (disch := first | with_reducible assumption | omega) only [go_sem, Bool.true_and, Bool.and_true, Bool.and_self, Bool.false_and, Bool.and_false, Bool.true_or, Bool.or_true, Bool.false_or, Bool.or_false, ↓reduceIte, Nat.reduceEqDiff, Nat.reduceAdd, Nat.reduceMul, Nat.reduceSub, Nat.reduceBEq, Nat.reduceLeDiff, Nat.reduceLT, Nat.reduceMod, Nat.reduceDiv, Int.reduceToNat, Int.reducePow, Int.reduceMul, Int.reduceAdd, Int.reduceSub, Int.reduceLE, Int.reduceLT, Int.reduceNeg, Int.reduceDiv, Int.reduceMod, Int.reduceEq, Int.reduceBEq, Int.reduceBNe, f7, f7b, f7r0, f7r1, f7r2, f7r3, f7r4, f7r5] | (refine BrW.of (fun hb => ?_) (fun hb => ?_) <;> (have hb' := hb; try simp only [decide_eq_true_eq, decide_eq_false_iff_not, beq_iff_eq, bne_iff_ne, beq_eq_false_iff_ne, bne_eq_false_iff_eq, Bool.not_eq_true', Bool.not_eq_false', Bool.not_eq_true, Bool.not_eq_false, Bool.and_eq_true, Bool.or_eq_true, Bool.and_eq_false_iff, Bool.or_eq_false_iff, Int.not_lt, Int.not_le, ne_eq, gt_iff_lt, ge_iff_le] at hb') <;> (try (exfalso; omega))) | (refine altW.of ?_ ?_)
  refine .of (hS0.mono ?_)
  rintro v J ⟨rfl, rfl⟩
  repeat' first | simp (disch := first | with_reducible assumption | omega) only [go_sem, Bool.true_and, Bool.and_true, Bool.and_self, Bool.false_and, Bool.and_false, Bool.true_or, Bool.or_true, Bool.false_or, Bool.or_false, ↓reduceIte, Nat.reduceEqDiff, Nat.reduceAdd, Nat.reduceMul, Nat.reduceSub, Nat.reduceBEq, Nat.reduceLeDiff, Nat.reduceLT, Nat.reduceMod, Nat.reduceDiv, Int.reduceToNat, Int.reducePow, Int.reduceMul, Int.reduceAdd, Int.reduceSub, Int.reduceLE, Int.reduceLT, Int.reduceNeg, Int.reduceDiv, Int.reduceMod, Int.reduceEq, Int.reduceBEq, Int.reduceBNe, f7, f7b, f7r0, f7r1, f7r2, f7r3, f7r4, f7r5] | (refine BrW.of (fun hb => ?_) (fun hb => ?_) <;> (have hb' := hb; try simp only [decide_eq_true_eq, decide_eq_false_iff_not, beq_iff_eq, bne_iff_ne, beq_eq_false_iff_ne, bne_eq_false_iff_eq, Bool.not_eq_true', Bool.not_eq_false', Bool.not_eq_true, Bool.not_eq_false, Bool.and_eq_true, Bool.or_eq_true, Bool.and_eq_false_iff, Bool.or_eq_false_iff, Int.not_lt, Int.not_le, ne_eq, gt_iff_lt, ge_iff_le] at hb') <;> (try (exfalso; omega))) | (refine altW.of ?_ ?_)
  refine .of ((hM _).mono ?_)
  rintro v J ⟨m, e, rfl, rfl, he, hm⟩
  obtain rfl := he.2 ⟨aT_ok, by unfold inT; decide, by unfold inT; decide⟩
  obtain rfl : m = 2 := (hm rfl).trans aT_meet
  have hsame : sameS [false, false] [Value.int IntKind.i64 3, Value.int IntKind.i64 8] [Value.int IntKind.i64 3, Value.int IntKind.i64 8] = some true := by decide
  clear hS hM he hm
  repeat' first | simp (disch := first | with_reducible assumption | omega) only [go_sem, Bool.true_and, Bool.and_true, Bool.and_self, Bool.false_and, Bool.and_false, Bool.true_or, Bool.or_true, Bool.false_or, Bool.or_false, ↓reduceIte, Nat.reduceEqDiff, Nat.reduceAdd, Nat.reduceMul, Nat.reduceSub, Nat.reduceBEq, Nat.reduceLeDiff, Nat.reduceLT, Nat.reduceMod, Nat.reduceDiv, Int.reduceToNat, Int.reducePow, Int.reduceMul, Int.reduceAdd, Int.reduceSub, Int.reduceLE, Int.reduceLT, Int.reduceNeg, Int.reduceDiv, Int.reduceMod, Int.reduceEq, Int.reduceBEq, Int.reduceBNe, f7, f7b, f7r0, f7r1, f7r2, f7r3, f7r4, f7r5, hsame] | (refine BrW.of (fun hb => ?_) (fun hb => ?_) <;> (have hb' := hb; try simp only [decide_eq_true_eq, decide_eq_false_iff_not, beq_iff_eq, bne_iff_ne, beq_eq_false_iff_ne, bne_eq_false_iff_eq, Bool.not_eq_true', Bool.not_eq_false', Bool.not_eq_true, Bool.not_eq_false, Bool.and_eq_true, Bool.or_eq_true, Bool.and_eq_false_iff, Bool.or_eq_false_iff, Int.not_lt, Int.not_le, ne_eq, gt_iff_lt, ge_iff_le] at hb') <;> (try (exfalso; omega))) | (refine altW.of ?_ ?_)
  refine .of ((hE _ k1 g1 (J.length + 1) (get_old x1 _) (by rw [get_new]; rfl)).mono ?_)
  rintro v J2 ⟨rfl, rfl⟩
  repeat' first | simp (disch := first | with_reducible assumption | omega) only [go_sem, Bool.true_and, Bool.and_true, Bool.and_self, Bool.false_and, Bool.and_false, Bool.true_or, Bool.or_true, Bool.false_or, Bool.or_false, ↓reduceIte, Nat.reduceEqDiff, Nat.reduceAdd, Nat.reduceMul, Nat.reduceSub, Nat.reduceBEq, Nat.reduceLeDiff, Nat.reduceLT, Nat.reduceMod, Nat.reduceDiv, Int.reduceToNat, Int.reducePow, Int.reduceMul, Int.reduceAdd, Int.reduceSub, Int.reduceLE, Int.reduceLT, Int.reduceNeg, Int.reduceDiv, Int.reduceMod, Int.reduceEq, Int.reduceBEq, Int.reduceBNe, f7, f7b, f7r0, f7r1, f7r2, f7r3, f7r4, f7r5, hsame] | (refine BrW.of (fun hb => ?_) (fun hb => ?_) <;> (have hb' := hb; try simp only [decide_eq_true_eq, decide_eq_false_iff_not, beq_iff_eq, bne_iff_ne, beq_eq_false_iff_ne, bne_eq_false_iff_eq, Bool.not_eq_true', Bool.not_eq_false', Bool.not_eq_true, Bool.not_eq_false, Bool.and_eq_true, Bool.or_eq_true, Bool.and_eq_false_iff, Bool.or_eq_false_iff, Int.not_lt, Int.not_le, ne_eq, gt_iff_lt, ge_iff_le] at hb') <;> (try (exfalso; omega))) | (refine altW.of ?_ ?_)
  obtain ⟨Z, rfl⟩ := hg
  rw [List.append_assoc]
  exact .back rfl ⟨rfl, rfl⟩
end Go.Proofs.Ytlnocgfblheehaa
