import Derived.Test.YtfkhljgifndbpaaDoorSteps3
import Derived.Test.YtfkhljgifndbpaaDoorPlain3
import Derived.Test.YtfkhljgifndbpaaDoorPcC
-- STRINGS
set_option linter.unusedSimpArgs false
set_option linter.unusedVariables false
set_option maxHeartbeats 2000000
set_option maxRecDepth 20000
namespace Go.Proofs.YtfkhljgifndbpaaDoor
open Go Go.Am
attribute [local irreducible] opsW Ww loopW callW drawW outW outDW gW cW BrW bothW vW resW DropW RdW dcallW altW forkW splitW Later.run

/-- A nil slice handed in is taken for a slice of a new object without cells. -/
theorem ghostArg {P : Program} {f : FuncId} {pr su : List Value} {H : Heap} {K : Value → Heap → Prop} (esz : Nat) (h : ACallK P f (pr ++ slv H.length 0 0 0 0 :: su) (H ++ [.cells 0 esz false []]) K) : ACallK P f (pr ++ .slice none 0 0 :: su) H K := by
  refine ⟨h.1, fun prot B ι w args' hs hv => ?_⟩
  obtain ⟨h1, h2⟩ := hs.ghost esz false
  have hv' : VRels (tags (H ++ [.cells 0 esz false []])) (ι ++ [none]) (pr ++ slv H.length 0 0 0 0 :: su) args'.toList := by
    refine ⟨by have := hv.1; simpa using this, fun i v v' a b => ?_⟩
    by_cases hi : i = pr.length
    · subst hi
      have ea : v = slv H.length 0 0 0 0 := by simpa using a.symm
      have := hv.2 pr.length (.slice none 0 0) v' (by simp) b
      rw [ea, this.nilS_inv]
      exact .empty (t := ⟨0, esz, false⟩) (by simp [AObj.tag]) rfl
    · refine (hv.2 i v v' ?_ b).ext h2
      by_cases hl : i < pr.length
      · rw [List.getElem?_append_left hl] at a ⊢; exact a
      · rw [List.getElem?_append_right (by omega)] at a ⊢
        obtain ⟨j, hj⟩ : ∃ j, i - pr.length = j + 1 := ⟨i - pr.length - 1, by omega⟩
        rw [hj] at a ⊢
        simpa using a
  refine (h.2 prot B _ w args' h1 hv').mono ?_
  rintro e w' ⟨v, v', ι', H', a, b, c, d, e'⟩
  exact ⟨v, v', ι', H', a, b, h2.trans c, d, e'⟩
/-- A row of numbers, or nil. -/
def Ns (H : Heap) (w : Value) (l : List Int) : Prop := (w = .slice none 0 0 ∧ l = []) ∨ ∃ k g, w = slv k 0 g l.length l.length ∧ H[k]? = some (.cells g 1 false (ints l))
theorem sent_loop {H0 J0 : Heap} {w : Value} {l : List Int} {acc : Bs} (hw : Ns J0 w l) (hb : ∀ x ∈ l, 1 ≤ x ∧ x ≤ 1500) (hll : l.length ≤ 100) (hacc : acc.length ≤ 1000000) {v4 v8 v9 v43 v44 v45 : Value} {Q : LQ}
    (hq : Q.run (.exit 2) [(4, v4), (8, v8), (9, v9), (12, str (acc ++ numsB l)), (43, v43), (44, v44), (45, v45), (65, w), (66, .int .i64 l.length), (67, .int .i64 l.length), (68, .bool (decide ((l.length : Int) < l.length)))] J0) :
    @loopW (loopK Tryd.prog f6.n H0) f6l0 Q [(4, v4), (8, v8), (9, v9), (12, str acc), (43, v43), (44, v44), (45, v45), (65, w), (66, .int .i64 l.length), (67, .int .i64 0)] J0 := by
  refine loopW.of (by decide) (fun m e J => ∃ (i : Nat), e = [(4, v4), (8, v8), (9, v9), (12, str (acc ++ numsB (l.take i))), (43, v43), (44, v44), (45, v45), (65, w), (66, .int .i64 l.length), (67, .int .i64 i)] ∧ J = J0 ∧ i ≤ l.length ∧ m = l.length - i) l.length
    ⟨0, by simp [numsB], rfl, by omega, rfl⟩ ?_
  rintro m e J ⟨i, rfl, rfl, hi, rfl⟩
  by_cases hlt : i < l.length
  · obtain ⟨k, g, rfl, hk⟩ : ∃ k g, w = slv k 0 g l.length l.length ∧ J[k]? = some (.cells g 1 false (ints l)) := by
      rcases hw with ⟨_, rfl⟩ | h
      · simp at hlt
      · exact h
    have hld := ints_get l i hlt
    have hx := hb (l.getD i 0) (getD_mem hlt)
    have hnx : numsB (l.take (i + 1)) = numsB (l.take i) ++ (32 :: Lib.itoa (l.getD i 0)) := by rw [take_snoc 0 l i hlt, numsB_snoc]
    have hnl := numsB_len (l := l.take i) fun x hx => by have := hb x (List.mem_of_mem_take hx); omega
    have htl : (l.take i).length ≤ 100 := by rw [List.length_take]; omega
    have hit := Lib.itoa_length_le (l.getD i 0) (by omega) (by omega)
    have hI := fun H => Itoa_spec (l.getD i 0) (by omega) (by omega) H
    generalize l.getD i 0 = x at *
    generalize hA : numsB (l.take i) = A at *
    repeat' first | simp (disch := first | with_reducible assumption | omega | (simp only [List.length_append, List.length_cons, List.length_nil]; omega)) only [go_sem, Bool.true_and, Bool.and_true, Bool.and_self, Bool.false_and, Bool.and_false, Bool.true_or, Bool.or_true, Bool.false_or, Bool.or_false, ↓reduceIte, Nat.reduceEqDiff, Nat.reduceAdd, Nat.reduceMul, Nat.reduceSub, Nat.reduceBEq, Nat.reduceLeDiff, Nat.reduceLT, Nat.reduceMod, Nat.reduceDiv, Int.reduceToNat, Int.reducePow, Int.reduceMul, Int.reduceAdd, Int.reduceSub, Int.reduceLE, Int.reduceLT, Int.reduceNeg, Int.reduceDiv, Int.reduceMod, Int.reduceEq, Int.reduceBEq, Int.reduceBNe, f6, f6b, f6r0, f6r1, f6r2, f6r3, f6r4, f6r5, f6r6, f6r7, f6r8, f6r9, f6r10, f6r11, f6r12, f6r13, f6r14, f6r15, f6r16, f6r17, f6r18, f6r19, f6r20, f6r22, f6r23, f6r25, f6r26, f6r27, f6r28, f6r29, f6r30, f6r32, f6l0, hk, hld] | (refine BrW.of (fun hb => ?_) (fun hb => ?_) <;> (have hb' := hb; try simp only [decide_eq_true_eq, decide_eq_false_iff_not, beq_iff_eq, bne_iff_ne, beq_eq_false_iff_ne, bne_eq_false_iff_eq, Bool.not_eq_true', Bool.not_eq_false', Bool.not_eq_true, Bool.not_eq_false, Bool.and_eq_true, Bool.or_eq_true, Bool.and_eq_false_iff, Bool.or_eq_false_iff, Int.not_lt, Int.not_le, ne_eq, gt_iff_lt, ge_iff_le] at hb') <;> (try (exfalso; omega))) | (refine altW.of ?_ ?_) | (refine .of ((hI _).mono ?_); rintro v J2 ⟨rfl, hq⟩; obtain rfl := hq.symm)
    refine RdW.keep [4, 8, 9, 12, 43, 44, 45, 65, 66, 67] (l.length - (i + 1)) (by omega) ?_
    simp (disch := first | with_reducible assumption | omega | (simp only [List.length_append, List.length_cons, List.length_nil]; omega)) only [go_sem, Bool.true_and, Bool.and_true, Bool.and_self, Bool.false_and, Bool.and_false, Bool.true_or, Bool.or_true, Bool.false_or, Bool.or_false, ↓reduceIte, Nat.reduceEqDiff, Nat.reduceAdd, Nat.reduceMul, Nat.reduceSub, Nat.reduceBEq, Nat.reduceLeDiff, Nat.reduceLT, Nat.reduceMod, Nat.reduceDiv, Int.reduceToNat, Int.reducePow, Int.reduceMul, Int.reduceAdd, Int.reduceSub, Int.reduceLE, Int.reduceLT, Int.reduceNeg, Int.reduceDiv, Int.reduceMod, Int.reduceEq, Int.reduceBEq, Int.reduceBNe]
    refine ⟨i + 1, ?_, by omega, rfl⟩
    rw [hnx]
    simp
  · obtain rfl : i = l.length := by omega
    rw [List.take_length]
    repeat' first | simp (disch := first | with_reducible assumption | omega | (simp only [List.length_append, List.length_cons, List.length_nil]; omega)) only [go_sem, Bool.true_and, Bool.and_true, Bool.and_self, Bool.false_and, Bool.and_false, Bool.true_or, Bool.or_true, Bool.false_or, Bool.or_false, ↓reduceIte, Nat.reduceEqDiff, Nat.reduceAdd, Nat.reduceMul, Nat.reduceSub, Nat.reduceBEq, Nat.reduceLeDiff, Nat.reduceLT, Nat.reduceMod, Nat.reduceDiv, Int.reduceToNat, Int.reducePow, Int.reduceMul, Int.reduceAdd, Int.reduceSub, Int.reduceLE, Int.reduceLT, Int.reduceNeg, Int.reduceDiv, Int.reduceMod, Int.reduceEq, Int.reduceBEq, Int.reduceBNe, f6, f6b, f6r0, f6r1, f6r2, f6r3, f6r4, f6r5, f6r6, f6r7, f6r8, f6r9, f6r10, f6r11, f6r12, f6r13, f6r14, f6r15, f6r16, f6r17, f6r18, f6r19, f6r20, f6r22, f6r23, f6r25, f6r26, f6r27, f6r28, f6r29, f6r30, f6r32, f6l0] | (refine BrW.of (fun hb => ?_) (fun hb => ?_) <;> (have hb' := hb; try simp only [decide_eq_true_eq, decide_eq_false_iff_not, beq_iff_eq, bne_iff_ne, beq_eq_false_iff_ne, bne_eq_false_iff_eq, Bool.not_eq_true', Bool.not_eq_false', Bool.not_eq_true, Bool.not_eq_false, Bool.and_eq_true, Bool.or_eq_true, Bool.and_eq_false_iff, Bool.or_eq_false_iff, Int.not_lt, Int.not_le, ne_eq, gt_iff_lt, ge_iff_le] at hb') <;> (try (exfalso; omega))) | (refine altW.of ?_ ?_)
    exact hq
end Go.Proofs.YtfkhljgifndbpaaDoor
