import Derived.Test.YtfoooabhfecjhaaSteps4
import Derived.Test.YtfoooabhfecjhaaPlain3
set_option linter.unusedSimpArgs false
set_option linter.unusedVariables false
set_option maxHeartbeats 2000000
set_option maxRecDepth 20000
namespace Go.Proofs.Ytfoooabhfecjhaa
open Go Go.Am
attribute [local irreducible] opsW Ww loopW callW drawW outW outDW gW cW BrW bothW vW resW DropW RdW dcallW altW Later.run

abbrev Ops (H : Heap) (k o g : Nat) (l : List O) : Prop := Tbl O O.cells 2 o0 H k o g l
theorem Play_bad (n d b : Int) (l : List O) (k o g c : Nat) (H : Heap) (hw : ¬ wrongP n d b = 0) : ACallK Try.prog 9 [.int .i64 n, .int .i64 d, .int .i64 b, slv k o g l.length c] H (fun v H' => v = .tuple #[.slice none 0 0, .agg #[.slice none 0 0, .int .i64 0, .int .i64 0, .int .i64 0, .int .i64 0, .int .i64 0, .int .i64 0, .int .i64 0, .int .i64 0, .int .i64 0], .int .i64 (wrongP n d b)] ∧ H' = H) := by
  have hW := fun X => Wrong_spec n d b X
  generalize wrongP n d b = e at *
  refine .walkW f9_ok (by simp; decide) (by decide) ?_
  repeat' first | simp (disch := first | with_reducible assumption | omega) only [go_sem, Bool.true_and, Bool.and_true, Bool.and_self, Bool.false_and, Bool.and_false, Bool.true_or, Bool.or_true, Bool.false_or, Bool.or_false, ↓reduceIte, Nat.reduceEqDiff, Nat.reduceAdd, Nat.reduceMul, Nat.reduceSub, Nat.reduceBEq, Nat.reduceLeDiff, Nat.reduceLT, Nat.reduceMod, Nat.reduceDiv, Int.reduceToNat, Int.reducePow, Int.reduceMul, Int.reduceAdd, Int.reduceSub, Int.reduceLE, Int.reduceLT, Int.reduceNeg, Int.reduceDiv, Int.reduceMod, Int.reduceEq, Int.reduceBEq, Int.reduceBNe, f9, f9b, f9r0, f9r1, f9r2, f9r3, f9r4, f9r5, f9r6, f9r7, f9r8, f9r9, f9r10, f9r11, f9r12, f9r13, f9r15, f9r16] | (refine BrW.of (fun hb => ?_) (fun hb => ?_) <;> (have hb' := hb; try simp only [decide_eq_true_eq, decide_eq_false_iff_not, beq_iff_eq, bne_iff_ne, beq_eq_false_iff_ne, bne_eq_false_iff_eq, Bool.not_eq_true', Bool.not_eq_false', Bool.not_eq_true, Bool.not_eq_false, Bool.and_eq_true, Bool.or_eq_true, Bool.and_eq_false_iff, Bool.or_eq_false_iff, Int.not_lt, Int.not_le, ne_eq, gt_iff_lt, ge_iff_le] at hb') <;> (try (exfalso; omega))) | (refine altW.of ?_ ?_) | (refine .of ((hW _).mono ?_); rintro v _ ⟨rfl, rfl⟩)
  all_goals exact .back rfl ⟨rfl, rfl⟩

/-- An answer, with its slice. -/
def aenc (a : Int × Value) : List Value := [.int .i64 a.1, a.2]
def Ans (b : Nat) (x : Heap) (av : List (Int × Value)) (l : List (Int × List Int)) : Prop := av.length = l.length ∧ ∀ i, i < l.length → (av.getD i (0, .slice none 0 0)).1 = (l.getD i (0, [])).1 ∧ IsX b x (av.getD i (0, .slice none 0 0)).2 (l.getD i (0, [])).2
theorem Ans.app {b : Nat} {x : Heap} {av : List (Int × Value)} {l : List (Int × List Int)} (h : Ans b x av l) (y : Heap) : Ans b (x ++ y) av l := ⟨h.1, fun i hi => ⟨(h.2 i hi).1, (h.2 i hi).2.app y⟩⟩
theorem Ans.snoc {b : Nat} {x : Heap} {av : List (Int × Value)} {l : List (Int × List Int)} (h : Ans b x av l) {e : Int} {v : Value} {s : List Int} (hx : IsX b x v s) : Ans b x (av ++ [(e, v)]) (l ++ [(e, s)]) := by
  refine ⟨by simp [h.1], fun i hi => ?_⟩
  by_cases hlt : i < l.length
  · have h1 : (av ++ [(e, v)]).getD i (0, .slice none 0 0) = av.getD i (0, .slice none 0 0) := by simp only [List.getD_eq_getElem?_getD]; rw [List.getElem?_append_left (by rw [h.1]; exact hlt)]
    have h2 : (l ++ [(e, s)]).getD i (0, []) = l.getD i (0, []) := by simp only [List.getD_eq_getElem?_getD]; rw [List.getElem?_append_left hlt]
    rw [h1, h2]
    exact h.2 i hlt
  · have hil : i = l.length := by simp at hi; omega
    have h1 : (av ++ [(e, v)]).getD i (0, .slice none 0 0) = (e, v) := by simp [List.getD_eq_getElem?_getD, hil, ← h.1]
    have h2 : (l ++ [(e, s)]).getD i (0, []) = (e, s) := by simp [List.getD_eq_getElem?_getD, hil]
    rw [h1, h2]
    exact ⟨rfl, hx⟩
end Go.Proofs.Ytfoooabhfecjhaa
