import Derived.Test.YtknfaoonjmlncaaStepsQ
import Derived.Test.YtknfaoonjmlncaaStepsR
set_option linter.unusedSimpArgs false
set_option linter.unusedVariables false
set_option maxHeartbeats 2000000
set_option maxRecDepth 20000
namespace Go.Proofs.Ytknfaoonjmlncaa
open Go Go.Am
attribute [local irreducible] opsW Ww loopW callW drawW outW outDW gW cW BrW bothW vW resW DropW RdW dcallW altW Later.run
theorem wayF_len (l : List Nd) : ∀ f n : Nat, (wayF l f n).length ≤ f + 1
  | 0, n => by simp [wayF]
  | f + 1, n => by
    unfold wayF
    split
    · simp
    · have := wayF_len l f (up l n).toNat
      rw [List.length_append]; simp; omega
/-- Whether a node is below another one. -/
theorem below_spec (l : List Nd) (hl : okT l) (kw cw kb : Nat) (H : Heap) (hw : Nodes H kw 0 0 l) (hb' : H[kb]? = some (.cells 0 0 false [slv kw 0 0 l.length cw])) (k top : Int) (hk : -9223372036854775808 ≤ k ∧ k ≤ 9223372036854775807) (ht : -9223372036854775808 ≤ top ∧ top ≤ 9223372036854775807) :
    ACallK Try.prog 11 [.int .i64 k, .int .i64 top, .pointer (some ⟨kb, 0, some 1⟩)] H (fun v H' => v = .bool (decide (0 ≤ k ∧ k < l.length ∧ top ∈ way l k.toNat)) ∧ ∃ X, H' = H ++ X) := by
  have h16 := hl.2.1
  have hbox := hb'
  clear hb'
  refine .walkW f11_ok (by simp; decide) (by decide) ?_
  repeat' first | simp (disch := first | with_reducible assumption | omega) only [go_sem, Bool.true_and, Bool.and_true, Bool.and_self, Bool.false_and, Bool.and_false, Bool.true_or, Bool.or_true, Bool.false_or, Bool.or_false, ↓reduceIte, Nat.reduceEqDiff, Nat.reduceAdd, Nat.reduceMul, Nat.reduceSub, Nat.reduceBEq, Nat.reduceLeDiff, Nat.reduceLT, Nat.reduceMod, Nat.reduceDiv, Int.reduceToNat, Int.reducePow, Int.reduceMul, Int.reduceAdd, Int.reduceSub, Int.reduceLE, Int.reduceLT, Int.reduceNeg, Int.reduceDiv, Int.reduceMod, Int.reduceEq, Int.reduceBEq, Int.reduceBNe, f11, f11b, f11r0, f11r1, f11r2, hbox] | (refine BrW.of (fun hb => ?_) (fun hb => ?_) <;> (have hb' := hb; try simp only [decide_eq_true_eq, decide_eq_false_iff_not, beq_iff_eq, bne_iff_ne, beq_eq_false_iff_ne, bne_eq_false_iff_eq, Bool.not_eq_true', Bool.not_eq_false', Bool.not_eq_true, Bool.not_eq_false, Bool.and_eq_true, Bool.or_eq_true, Bool.and_eq_false_iff, Bool.or_eq_false_iff, Int.not_lt, Int.not_le, ne_eq, gt_iff_lt, ge_iff_le] at hb') <;> (try (exfalso; omega))) | (refine altW.of ?_ ?_)
  refine .of ((Path_spec l kw 0 0 cw H hw (by omega) k hk).mono ?_)
  rintro v H1 ⟨X, u, e, rfl, rfl, he, hn, hy⟩
  by_cases z : e = 0
  · obtain ⟨_, h0, hlt⟩ := he.1 z
    obtain ⟨kx, gx, rfl, hx⟩ := hy z
    subst z
    have hwl : (way l k.toNat).length ≤ 9223372036854775807 := by
      have : (way l k.toNat).length ≤ k.toNat + 1 := wayF_len l _ _
      omega
    have hCo := ContainsI_spec top (way l k.toNat) (H.length + kx) 0 gx (way l k.toNat).length (H ++ X) (Ints.new _ _ _ false _ (by rw [get_new]; exact hx)) hwl
    rw [any_mem] at hCo
    repeat' first | simp (disch := first | with_reducible assumption | omega) only [go_sem, Bool.true_and, Bool.and_true, Bool.and_self, Bool.false_and, Bool.and_false, Bool.true_or, Bool.or_true, Bool.false_or, Bool.or_false, ↓reduceIte, Nat.reduceEqDiff, Nat.reduceAdd, Nat.reduceMul, Nat.reduceSub, Nat.reduceBEq, Nat.reduceLeDiff, Nat.reduceLT, Nat.reduceMod, Nat.reduceDiv, Int.reduceToNat, Int.reducePow, Int.reduceMul, Int.reduceAdd, Int.reduceSub, Int.reduceLE, Int.reduceLT, Int.reduceNeg, Int.reduceDiv, Int.reduceMod, Int.reduceEq, Int.reduceBEq, Int.reduceBNe, f11, f11b, f11r0, f11r1, f11r2, get_old hbox] | (refine BrW.of (fun hb => ?_) (fun hb => ?_) <;> (have hb' := hb; try simp only [decide_eq_true_eq, decide_eq_false_iff_not, beq_iff_eq, bne_iff_ne, beq_eq_false_iff_ne, bne_eq_false_iff_eq, Bool.not_eq_true', Bool.not_eq_false', Bool.not_eq_true, Bool.not_eq_false, Bool.and_eq_true, Bool.or_eq_true, Bool.and_eq_false_iff, Bool.or_eq_false_iff, Int.not_lt, Int.not_le, ne_eq, gt_iff_lt, ge_iff_le] at hb') <;> (try (exfalso; omega))) | (refine altW.of ?_ ?_) | (refine .of (hCo.mono ?_); rintro v _ ⟨rfl, rfl⟩)
    refine .here ⟨?_, _, rfl⟩
    congr 1
    rw [decide_eq_decide]
    exact ⟨fun h => ⟨h0, hlt, h⟩, fun h => h.2.2⟩
  · have hne : ¬ (0 ≤ k ∧ k < l.length ∧ top ∈ way l k.toNat) := fun h => z (he.2 ⟨hl, h.1, h.2.1⟩)
    repeat' first | simp (disch := first | with_reducible assumption | omega) only [go_sem, Bool.true_and, Bool.and_true, Bool.and_self, Bool.false_and, Bool.and_false, Bool.true_or, Bool.or_true, Bool.false_or, Bool.or_false, ↓reduceIte, Nat.reduceEqDiff, Nat.reduceAdd, Nat.reduceMul, Nat.reduceSub, Nat.reduceBEq, Nat.reduceLeDiff, Nat.reduceLT, Nat.reduceMod, Nat.reduceDiv, Int.reduceToNat, Int.reducePow, Int.reduceMul, Int.reduceAdd, Int.reduceSub, Int.reduceLE, Int.reduceLT, Int.reduceNeg, Int.reduceDiv, Int.reduceMod, Int.reduceEq, Int.reduceBEq, Int.reduceBNe, f11, f11b, f11r0, f11r1, f11r2, get_old hbox] | (refine BrW.of (fun hb => ?_) (fun hb => ?_) <;> (have hb' := hb; try simp only [decide_eq_true_eq, decide_eq_false_iff_not, beq_iff_eq, bne_iff_ne, beq_eq_false_iff_ne, bne_eq_false_iff_eq, Bool.not_eq_true', Bool.not_eq_false', Bool.not_eq_true, Bool.not_eq_false, Bool.and_eq_true, Bool.or_eq_true, Bool.and_eq_false_iff, Bool.or_eq_false_iff, Int.not_lt, Int.not_le, ne_eq, gt_iff_lt, ge_iff_le] at hb') <;> (try (exfalso; omega))) | (refine altW.of ?_ ?_)
    refine .here ⟨?_, _, rfl⟩
    congr 1
    simp [hne]
end Go.Proofs.Ytknfaoonjmlncaa
