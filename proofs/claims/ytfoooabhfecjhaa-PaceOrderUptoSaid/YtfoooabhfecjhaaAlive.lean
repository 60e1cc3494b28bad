import Derived.Test.YtfoooabhfecjhaaSteps7
set_option linter.unusedSimpArgs false
set_option linter.unusedVariables false
set_option maxHeartbeats 2000000
set_option maxRecDepth 20000
namespace Go.Proofs.Ytfoooabhfecjhaa
open Go Go.Am
attribute [local irreducible] opsW Ww loopW callW drawW outW outDW gW cW BrW bothW vW resW DropW RdW dcallW altW Later.run

/-- One of the answers. -/
theorem Ans.at' {b : Nat} {X : Heap} {av : List (Int × Value)} {l : List (Int × List Int)} (h : Ans b X av l) (i : Nat) (hi : i < l.length) {e : Int} {s : List Int} (hl : l.getD i (0, []) = (e, s)) :
    ∃ v, (flat' aenc av)[i * 2]? = some (.int .i64 e) ∧ (flat' aenc av)[i * 2 + 1]? = some v ∧ IsX b X v s := by
  obtain ⟨h1, h2⟩ := h
  have h3 := h2 i hi
  rw [hl] at h3
  have e0 := flat'_get (enc := aenc) (s := 2) (fun _ => rfl) (0, .slice none 0 0) av i 0 (by omega) (by omega)
  have e1 := flat'_get (enc := aenc) (s := 2) (fun _ => rfl) (0, .slice none 0 0) av i 1 (by omega) (by omega)
  refine ⟨_, e0.trans ?_, e1, h3.2⟩
  show some (Value.int .i64 _) = _
  rw [h3.1]
theorem alive (H : Heap) : ACallK Try.prog 8 [] H (fun v H' => v = .bool true ∧ H' = H) := by
  have hO := fun (J : Heap) => (Tbl.new (enc := O.cells) (s := 2) (d := o0) (fun _ => rfl) (J ++ [.cells 0 2 false (flat' O.cells aOps)]) J.length 0 false aOps (get_new0 _ _ _) : Ops (J ++ [.cells 0 2 false (flat' O.cells aOps)]) J.length 0 0 aOps)
  refine .walkW f8_ok (by simp) (by decide) ?_
  repeat' first | simp (disch := first | with_reducible assumption | omega) only [go_sem, Bool.true_and, Bool.and_true, Bool.and_self, Bool.false_and, Bool.and_false, Bool.true_or, Bool.or_true, Bool.false_or, Bool.or_false, ↓reduceIte, Nat.reduceEqDiff, Nat.reduceAdd, Nat.reduceMul, Nat.reduceSub, Nat.reduceBEq, Nat.reduceLeDiff, Nat.reduceLT, Nat.reduceMod, Nat.reduceDiv, Int.reduceToNat, Int.reducePow, Int.reduceMul, Int.reduceAdd, Int.reduceSub, Int.reduceLE, Int.reduceLT, Int.reduceNeg, Int.reduceDiv, Int.reduceMod, Int.reduceEq, Int.reduceBEq, Int.reduceBNe, f8, f8b, f8r0, f8r1, f8r2] | (refine BrW.of (fun hb => ?_) (fun hb => ?_) <;> (have hb' := hb; try simp only [decide_eq_true_eq, decide_eq_false_iff_not, beq_iff_eq, bne_iff_ne, beq_eq_false_iff_ne, bne_eq_false_iff_eq, Bool.not_eq_true', Bool.not_eq_false', Bool.not_eq_true, Bool.not_eq_false, Bool.and_eq_true, Bool.or_eq_true, Bool.and_eq_false_iff, Bool.or_eq_false_iff, Int.not_lt, Int.not_le, ne_eq, gt_iff_lt, ge_iff_le] at hb') <;> (try (exfalso; omega))) | (refine altW.of ?_ ?_)
  refine .of ((Play_u 1 2 1500 aOps _ 0 0 6 _ (hO H) (by decide) (by decide)).mono ?_)
  rintro v G ⟨X, w', so, rfl, rfl, hX, q, g', av, rfl, hq, hA⟩
  obtain ⟨r1, r2, r3⟩ := a_run
  rw [r3] at hA
  obtain ⟨v2, a2, b2, c2⟩ := hA.at' 2 (by decide) rfl
  obtain ⟨v4, a4, b4, c4⟩ := hA.at' 4 (by decide) rfl
  obtain ⟨v5, a5, b5, c5⟩ := hA.at' 5 (by decide) rfl
  generalize flat' aenc av = cs at *
  clear hO hA
  rcases c2 with ⟨_, h⟩ | ⟨k2, g2, rfl, d2⟩
  · cases h
  rcases c5 with ⟨_, h⟩ | ⟨k5, g5, rfl, d5⟩
  · cases h
  simp only [P.val, r1, r2]
  generalize runP (p0 1 2 1500) aOps = p at *
  have hq' := (show (H ++ [AObj.cells 0 2 false (flat' O.cells aOps)] ++ X)[List.length (H ++ [AObj.cells 0 2 false (flat' O.cells aOps)]) + q]? = some _ from by rw [List.getElem?_append_right (by omega), Nat.add_sub_cancel_left, hq])
  have d2' := (show (H ++ [AObj.cells 0 2 false (flat' O.cells aOps)] ++ X)[List.length (H ++ [AObj.cells 0 2 false (flat' O.cells aOps)]) + k2]? = some _ from by rw [List.getElem?_append_right (by omega), Nat.add_sub_cancel_left, d2])
  have d5' := (show (H ++ [AObj.cells 0 2 false (flat' O.cells aOps)] ++ X)[List.length (H ++ [AObj.cells 0 2 false (flat' O.cells aOps)]) + k5]? = some _ from by rw [List.getElem?_append_right (by omega), Nat.add_sub_cancel_left, d5])
  have hg : ∃ g, H ++ [AObj.cells 0 2 false (flat' O.cells aOps)] ++ X = H ++ g := ⟨_, by rw [List.append_assoc]⟩
  have c4' : v4 = .slice none 0 0 ∨ ∃ k g, v4 = slv (List.length (H ++ [AObj.cells 0 2 false (flat' O.cells aOps)]) + k) 0 g 0 0 ∧ (H ++ [AObj.cells 0 2 false (flat' O.cells aOps)] ++ X)[List.length (H ++ [AObj.cells 0 2 false (flat' O.cells aOps)]) + k]? = some (.cells g 1 false (ints [])) := by
    rcases c4 with ⟨rfl, _⟩ | ⟨k, g, rfl, h⟩
    · exact Or.inl rfl
    · exact Or.inr ⟨k, g, rfl, by rw [List.getElem?_append_right (by omega), Nat.add_sub_cancel_left, h]⟩
  clear hq d2 d5 hX c4 r1 r2 r3
  generalize List.length (H ++ [AObj.cells 0 2 false (flat' O.cells aOps)]) + q = kq at *
  generalize List.length (H ++ [AObj.cells 0 2 false (flat' O.cells aOps)]) + k2 = kk2 at *
  generalize List.length (H ++ [AObj.cells 0 2 false (flat' O.cells aOps)]) + k5 = kk5 at *
  generalize H ++ [AObj.cells 0 2 false (flat' O.cells aOps)] ++ X = G at *
  generalize List.length (H ++ [AObj.cells 0 2 false (flat' O.cells aOps)]) = nn at *
  have hn : List.length aOps = 6 := rfl
  generalize List.length aOps = n at *
  have e1 := fun (A : AObj) (y : Heap) => EqualI_spec [1000] [1000] kk2 0 g2 1 (G.length + 1) 0 0 1 (G ++ A :: .cells 0 1 false [.int .i64 1000] :: y) (Ints.new _ _ _ false _ (get_old d2' _)) (Ints.new _ _ _ false _ (by rw [get_new]; rfl)) (by decide) (by decide)
  have e2 := fun (A B : AObj) (y : Heap) => EqualI_spec [600] [600] kk5 0 g5 1 (G.length + 2) 0 0 1 (G ++ A :: B :: .cells 0 1 false [.int .i64 600] :: y) (Ints.new _ _ _ false _ (get_old d5' _)) (Ints.new _ _ _ false _ (by rw [get_new]; rfl)) (by decide) (by decide)
  rw [decide_eq_true rfl] at e1 e2
  rcases c4' with rfl | ⟨k4, g4, rfl, d4⟩
  · repeat' first | simp (disch := first | with_reducible assumption | omega) only [go_sem, Bool.true_and, Bool.and_true, Bool.and_self, Bool.false_and, Bool.and_false, Bool.true_or, Bool.or_true, Bool.false_or, Bool.or_false, ↓reduceIte, Nat.reduceEqDiff, Nat.reduceAdd, Nat.reduceMul, Nat.reduceSub, Nat.reduceBEq, Nat.reduceLeDiff, Nat.reduceLT, Nat.reduceMod, Nat.reduceDiv, Int.reduceToNat, Int.reducePow, Int.reduceMul, Int.reduceAdd, Int.reduceSub, Int.reduceLE, Int.reduceLT, Int.reduceNeg, Int.reduceDiv, Int.reduceMod, Int.reduceEq, Int.reduceBEq, Int.reduceBNe, f8, f8b, f8r0, f8r1, f8r2, hq', get_old hq', a2, b2, a4, b4, a5, b5] | (refine BrW.of (fun hb => ?_) (fun hb => ?_) <;> (have hb' := hb; try simp only [decide_eq_true_eq, decide_eq_false_iff_not, beq_iff_eq, bne_iff_ne, beq_eq_false_iff_ne, bne_eq_false_iff_eq, Bool.not_eq_true', Bool.not_eq_false', Bool.not_eq_true, Bool.not_eq_false, Bool.and_eq_true, Bool.or_eq_true, Bool.and_eq_false_iff, Bool.or_eq_false_iff, Int.not_lt, Int.not_le, ne_eq, gt_iff_lt, ge_iff_le] at hb') <;> (try (exfalso; omega))) | (refine altW.of ?_ ?_) | (refine .of ((e1 _ _).mono ?_); rintro v _ ⟨rfl, rfl⟩) | (refine .of ((e2 _ _ _).mono ?_); rintro v _ ⟨rfl, rfl⟩)
    · obtain ⟨g, rfl⟩ := hg
      rw [List.append_assoc]
      exact .back rfl ⟨rfl, rfl⟩
  · generalize nn + k4 = kk4 at *
    repeat' first | simp (disch := first | with_reducible assumption | omega) only [go_sem, Bool.true_and, Bool.and_true, Bool.and_self, Bool.false_and, Bool.and_false, Bool.true_or, Bool.or_true, Bool.false_or, Bool.or_false, ↓reduceIte, Nat.reduceEqDiff, Nat.reduceAdd, Nat.reduceMul, Nat.reduceSub, Nat.reduceBEq, Nat.reduceLeDiff, Nat.reduceLT, Nat.reduceMod, Nat.reduceDiv, Int.reduceToNat, Int.reducePow, Int.reduceMul, Int.reduceAdd, Int.reduceSub, Int.reduceLE, Int.reduceLT, Int.reduceNeg, Int.reduceDiv, Int.reduceMod, Int.reduceEq, Int.reduceBEq, Int.reduceBNe, f8, f8b, f8r0, f8r1, f8r2, hq', get_old hq', get_old d4, a2, b2, a4, b4, a5, b5] | (refine BrW.of (fun hb => ?_) (fun hb => ?_) <;> (have hb' := hb; try simp only [decide_eq_true_eq, decide_eq_false_iff_not, beq_iff_eq, bne_iff_ne, beq_eq_false_iff_ne, bne_eq_false_iff_eq, Bool.not_eq_true', Bool.not_eq_false', Bool.not_eq_true, Bool.not_eq_false, Bool.and_eq_true, Bool.or_eq_true, Bool.and_eq_false_iff, Bool.or_eq_false_iff, Int.not_lt, Int.not_le, ne_eq, gt_iff_lt, ge_iff_le] at hb') <;> (try (exfalso; omega))) | (refine altW.of ?_ ?_) | (refine .of ((e1 _ _).mono ?_); rintro v _ ⟨rfl, rfl⟩) | (refine .of ((e2 _ _ _).mono ?_); rintro v _ ⟨rfl, rfl⟩)
    · obtain ⟨g, rfl⟩ := hg
      rw [List.append_assoc]
      exact .back rfl ⟨rfl, rfl⟩
end Go.Proofs.Ytfoooabhfecjhaa
