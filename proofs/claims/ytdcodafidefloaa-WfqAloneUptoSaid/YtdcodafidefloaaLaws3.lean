import Derived.Test.YtdcodafidefloaaPlain6
import Derived.Test.YtdcodafidefloaaLaws
set_option linter.unusedSimpArgs false
set_option linter.unusedVariables false
set_option maxHeartbeats 2000000
set_option maxRecDepth 20000
namespace Go.Proofs.Ytdcodafidefloaa
open Go Go.Am
attribute [local irreducible] opsW Ww loopW callW drawW outW outDW gW cW BrW bothW vW resW DropW RdW dcallW altW Later.run

theorem EqualS_spec (a b : List S) (k o g c k' o' g' c' : Nat) (H : Heap) (ha : Tbl S S.cells 2 s0 H k o g a) (hb : Tbl S S.cells 2 s0 H k' o' g' b) (hla : a.length ≤ 9223372036854775807) (hlb : b.length ≤ 9223372036854775807)
    (hsame : ∀ x y : S, sameS [false,false] (S.cells x) (S.cells y) = some (decide (x = y))) :
    ACallK Try.prog 10 [slv k o g a.length c, slv k' o' g' b.length c'] H (fun v H' => v = .bool (decide (a = b)) ∧ H' = H) := by
  obtain ⟨ro, cs, hk, hcl, hcs⟩ := ha.at'
  obtain ⟨ro', cs', hk', hcl', hcs'⟩ := hb.at'
  refine .walkW f10_ok (by simp; decide) (by decide) ?_
  by_cases hl : a.length = b.length
  · repeat' first | simp (disch := first | with_reducible assumption | omega) only [go_sem, Bool.true_and, Bool.and_true, Bool.and_self, Bool.false_and, Bool.and_false, Bool.true_or, Bool.or_true, Bool.false_or, Bool.or_false, ↓reduceIte, Nat.reduceEqDiff, Nat.reduceAdd, Nat.reduceMul, Nat.reduceSub, Nat.reduceBEq, Nat.reduceLeDiff, Nat.reduceLT, Nat.reduceMod, Nat.reduceDiv, Int.reduceToNat, Int.reducePow, Int.reduceMul, Int.reduceAdd, Int.reduceSub, Int.reduceLE, Int.reduceLT, Int.reduceNeg, Int.reduceDiv, Int.reduceMod, Int.reduceEq, Int.reduceBEq, Int.reduceBNe, f10, f10b, f10r0, f10r1, f10r2, f10r3, f10r4, f10r5, f10r6, f10r7, f10r8, f10r10, hk, hk'] | (refine BrW.of (fun hb => ?_) (fun hb => ?_) <;> (have hb' := hb; try simp only [decide_eq_true_eq, decide_eq_false_iff_not, beq_iff_eq, bne_iff_ne, beq_eq_false_iff_ne, bne_eq_false_iff_eq, Bool.not_eq_true', Bool.not_eq_false', Bool.not_eq_true, Bool.not_eq_false, Bool.and_eq_true, Bool.or_eq_true, Bool.and_eq_false_iff, Bool.or_eq_false_iff, Int.not_lt, Int.not_le, ne_eq, gt_iff_lt, ge_iff_le] at hb') <;> (try (exfalso; omega))) | (refine altW.of ?_ ?_)
    refine loopW.of (by decide) (fun m e H'' => ∃ i : Nat, e = [(0, slv k o g a.length c), (1, slv k' o' g' b.length c'), (12, .int .i64 a.length), (13, .int .i64 i)] ∧ H'' = H ∧ i ≤ a.length ∧ m = a.length - i ∧ a.take i = b.take i) a.length ⟨0, rfl, rfl, by omega, rfl, rfl⟩ ?_
    rintro m e H'' ⟨i, rfl, rfl, hi, rfl, hinv⟩
    by_cases hlt : i < a.length
    · have hltb : i < b.length := by omega
      have e0 := Tbl.ld (enc := S.cells) (fun _ => rfl) hcs i hlt
      have e1 := Tbl.ld (enc := S.cells) (fun _ => rfl) hcs' i hltb
      have hsm := hsame (a.getD i s0) (b.getD i s0)
      by_cases hxy : a.getD i s0 = b.getD i s0
      · have hnext : a.take (i + 1) = b.take (i + 1) := by rw [take_snoc s0 a i hlt, take_snoc s0 b i hltb, hinv, hxy]
        rw [decide_eq_true hxy] at hsm
        clear hxy
        generalize a.getD i s0 = x at *
        generalize b.getD i s0 = y at *
        repeat' first | simp (disch := first | with_reducible assumption | omega) only [go_sem, Bool.true_and, Bool.and_true, Bool.and_self, Bool.false_and, Bool.and_false, Bool.true_or, Bool.or_true, Bool.false_or, Bool.or_false, ↓reduceIte, Nat.reduceEqDiff, Nat.reduceAdd, Nat.reduceMul, Nat.reduceSub, Nat.reduceBEq, Nat.reduceLeDiff, Nat.reduceLT, Nat.reduceMod, Nat.reduceDiv, Int.reduceToNat, Int.reducePow, Int.reduceMul, Int.reduceAdd, Int.reduceSub, Int.reduceLE, Int.reduceLT, Int.reduceNeg, Int.reduceDiv, Int.reduceMod, Int.reduceEq, Int.reduceBEq, Int.reduceBNe, f10, f10b, f10r0, f10r1, f10r2, f10r3, f10r4, f10r5, f10r6, f10r7, f10r8, f10r10, f10l0, hk, hk', ↓e0, ↓e1, ↓hsm] | (refine BrW.of (fun hb => ?_) (fun hb => ?_) <;> (have hb' := hb; try simp only [decide_eq_true_eq, decide_eq_false_iff_not, beq_iff_eq, bne_iff_ne, beq_eq_false_iff_ne, bne_eq_false_iff_eq, Bool.not_eq_true', Bool.not_eq_false', Bool.not_eq_true, Bool.not_eq_false, Bool.and_eq_true, Bool.or_eq_true, Bool.and_eq_false_iff, Bool.or_eq_false_iff, Int.not_lt, Int.not_le, ne_eq, gt_iff_lt, ge_iff_le] at hb') <;> (try (exfalso; omega))) | (refine altW.of ?_ ?_)
        refine RdW.keep [0, 1, 12, 13] (a.length - (i + 1)) (by omega) ?_
        simp (disch := first | with_reducible assumption | omega) only [go_sem, Bool.true_and, Bool.and_true, Bool.and_self, Bool.false_and, Bool.and_false, Bool.true_or, Bool.or_true, Bool.false_or, Bool.or_false, ↓reduceIte, Nat.reduceEqDiff, Nat.reduceAdd, Nat.reduceMul, Nat.reduceSub, Nat.reduceBEq, Nat.reduceLeDiff, Nat.reduceLT, Nat.reduceMod, Nat.reduceDiv, Int.reduceToNat, Int.reducePow, Int.reduceMul, Int.reduceAdd, Int.reduceSub, Int.reduceLE, Int.reduceLT, Int.reduceNeg, Int.reduceDiv, Int.reduceMod, Int.reduceEq, Int.reduceBEq, Int.reduceBNe]
        exact ⟨i + 1, rfl, by omega, rfl, hnext⟩
      · have hne : decide (a = b) = false := by simp; rintro rfl; exact hxy rfl
        rw [decide_eq_false hxy] at hsm
        clear hxy
        generalize a.getD i s0 = x at *
        generalize b.getD i s0 = y at *
        repeat' first | simp (disch := first | with_reducible assumption | omega) only [go_sem, Bool.true_and, Bool.and_true, Bool.and_self, Bool.false_and, Bool.and_false, Bool.true_or, Bool.or_true, Bool.false_or, Bool.or_false, ↓reduceIte, Nat.reduceEqDiff, Nat.reduceAdd, Nat.reduceMul, Nat.reduceSub, Nat.reduceBEq, Nat.reduceLeDiff, Nat.reduceLT, Nat.reduceMod, Nat.reduceDiv, Int.reduceToNat, Int.reducePow, Int.reduceMul, Int.reduceAdd, Int.reduceSub, Int.reduceLE, Int.reduceLT, Int.reduceNeg, Int.reduceDiv, Int.reduceMod, Int.reduceEq, Int.reduceBEq, Int.reduceBNe, f10, f10b, f10r0, f10r1, f10r2, f10r3, f10r4, f10r5, f10r6, f10r7, f10r8, f10r10, f10l0, f10, f10b, f10r0, f10r1, f10r2, f10r3, f10r4, f10r5, f10r6, f10r7, f10r8, f10r10, hk, hk', ↓e0, ↓e1, ↓hsm] | (refine BrW.of (fun hb => ?_) (fun hb => ?_) <;> (have hb' := hb; try simp only [decide_eq_true_eq, decide_eq_false_iff_not, beq_iff_eq, bne_iff_ne, beq_eq_false_iff_ne, bne_eq_false_iff_eq, Bool.not_eq_true', Bool.not_eq_false', Bool.not_eq_true, Bool.not_eq_false, Bool.and_eq_true, Bool.or_eq_true, Bool.and_eq_false_iff, Bool.or_eq_false_iff, Int.not_lt, Int.not_le, ne_eq, gt_iff_lt, ge_iff_le] at hb') <;> (try (exfalso; omega))) | (refine altW.of ?_ ?_)
        exact .here ⟨by rw [hne], rfl⟩
    · obtain rfl : i = a.length := by omega
      have heq : decide (a = b) = true := by
        rw [List.take_length, hl, List.take_length] at hinv
        simpa using hinv
      repeat' first | simp (disch := first | with_reducible assumption | omega) only [go_sem, Bool.true_and, Bool.and_true, Bool.and_self, Bool.false_and, Bool.and_false, Bool.true_or, Bool.or_true, Bool.false_or, Bool.or_false, ↓reduceIte, Nat.reduceEqDiff, Nat.reduceAdd, Nat.reduceMul, Nat.reduceSub, Nat.reduceBEq, Nat.reduceLeDiff, Nat.reduceLT, Nat.reduceMod, Nat.reduceDiv, Int.reduceToNat, Int.reducePow, Int.reduceMul, Int.reduceAdd, Int.reduceSub, Int.reduceLE, Int.reduceLT, Int.reduceNeg, Int.reduceDiv, Int.reduceMod, Int.reduceEq, Int.reduceBEq, Int.reduceBNe, f10, f10b, f10r0, f10r1, f10r2, f10r3, f10r4, f10r5, f10r6, f10r7, f10r8, f10r10, f10l0, f10, f10b, f10r0, f10r1, f10r2, f10r3, f10r4, f10r5, f10r6, f10r7, f10r8, f10r10, hk, hk'] | (refine BrW.of (fun hb => ?_) (fun hb => ?_) <;> (have hb' := hb; try simp only [decide_eq_true_eq, decide_eq_false_iff_not, beq_iff_eq, bne_iff_ne, beq_eq_false_iff_ne, bne_eq_false_iff_eq, Bool.not_eq_true', Bool.not_eq_false', Bool.not_eq_true, Bool.not_eq_false, Bool.and_eq_true, Bool.or_eq_true, Bool.and_eq_false_iff, Bool.or_eq_false_iff, Int.not_lt, Int.not_le, ne_eq, gt_iff_lt, ge_iff_le] at hb') <;> (try (exfalso; omega))) | (refine altW.of ?_ ?_)
      exact .here ⟨by rw [heq], rfl⟩
  · have hne : decide (a = b) = false := by simp; rintro rfl; exact hl rfl
    repeat' first | simp (disch := first | with_reducible assumption | omega) only [go_sem, Bool.true_and, Bool.and_true, Bool.and_self, Bool.false_and, Bool.and_false, Bool.true_or, Bool.or_true, Bool.false_or, Bool.or_false, ↓reduceIte, Nat.reduceEqDiff, Nat.reduceAdd, Nat.reduceMul, Nat.reduceSub, Nat.reduceBEq, Nat.reduceLeDiff, Nat.reduceLT, Nat.reduceMod, Nat.reduceDiv, Int.reduceToNat, Int.reducePow, Int.reduceMul, Int.reduceAdd, Int.reduceSub, Int.reduceLE, Int.reduceLT, Int.reduceNeg, Int.reduceDiv, Int.reduceMod, Int.reduceEq, Int.reduceBEq, Int.reduceBNe, f10, f10b, f10r0, f10r1, f10r2, f10r3, f10r4, f10r5, f10r6, f10r7, f10r8, f10r10, hk, hk'] | (refine BrW.of (fun hb => ?_) (fun hb => ?_) <;> (have hb' := hb; try simp only [decide_eq_true_eq, decide_eq_false_iff_not, beq_iff_eq, bne_iff_ne, beq_eq_false_iff_ne, bne_eq_false_iff_eq, Bool.not_eq_true', Bool.not_eq_false', Bool.not_eq_true, Bool.not_eq_false, Bool.and_eq_true, Bool.or_eq_true, Bool.and_eq_false_iff, Bool.or_eq_false_iff, Int.not_lt, Int.not_le, ne_eq, gt_iff_lt, ge_iff_le] at hb') <;> (try (exfalso; omega))) | (refine altW.of ?_ ?_)
    all_goals exact .here ⟨by rw [hne], rfl⟩

theorem same_S (x y : S) : sameS [false, false] (S.cells x) (S.cells y) = some (decide (x = y)) := by
  obtain ⟨a0, a1⟩ := x
  obtain ⟨d0, d1⟩ := y
  simp only [S.cells, sameS, if_true, Option.map_some]
  congr 1
  rw [Bool.eq_iff_iff]
  simp only [Bool.and_eq_true, beq_iff_eq, decide_eq_true_eq, S.mk.injEq, and_true, and_assoc]
theorem ok_two {a b : Int} : (([a, b] : List Int).length ≤ 16 ∧ ∀ k, k < ([a, b] : List Int).length → 1 ≤ ([a, b] : List Int).getD k 0 ∧ ([a, b] : List Int).getD k 0 ≤ 12) ↔ (1 ≤ a ∧ a ≤ 12) ∧ 1 ≤ b ∧ b ≤ 12 := by
  constructor
  · intro h
    exact ⟨h.2 0 (by simp), h.2 1 (by simp)⟩
  · intro h
    refine ⟨by simp, fun k hk => ?_⟩
    simp only [List.length_cons, List.length_nil] at hk
    rcases (by omega : k = 0 ∨ k = 1) with rfl | rfl
    · exact h.1
    · exact h.2
/-- Who is alone is sent at once. -/
theorem WfqAlone_args (H : Heap) (vals : List Value) (h : ArgsOk 1048576 H WfqAloneSh vals) : ACallK Try.prog 5 vals H fun v _ => v = .bool true := by
  obtain ⟨ww, _, rfl, a1, h⟩ := h.cons
  obtain ⟨_, _, rfl, a2, h⟩ := h.cons
  obtain ⟨_, _, rfl, a3, h⟩ := h.cons
  obtain rfl := h.nil
  obtain ⟨l, hT, hB, _⟩ := IsN.ofArg a1
  obtain ⟨wa, rfl, _⟩ := a2.cell.int_inv
  obtain ⟨wb, rfl, _⟩ := a3.cell.int_inv
  clear a1 a2 a3 h
  obtain ⟨ks, os, gs, cs, _, rfl, hsw, _⟩ := hT
  obtain ⟨ro, css, hk, _, hcs⟩ := Ints.cell hsw
  refine .walkW f5_ok (by simp; decide) (by decide) ?_
  repeat' first | simp (disch := first | with_reducible assumption | omega) only [go_sem, Bool.true_and, Bool.and_true, Bool.and_self, Bool.false_and, Bool.and_false, Bool.true_or, Bool.or_true, Bool.false_or, Bool.or_false, ↓reduceIte, Nat.reduceEqDiff, Nat.reduceAdd, Nat.reduceMul, Nat.reduceSub, Nat.reduceBEq, Nat.reduceLeDiff, Nat.reduceLT, Nat.reduceMod, Nat.reduceDiv, Int.reduceToNat, Int.reducePow, Int.reduceMul, Int.reduceAdd, Int.reduceSub, Int.reduceLE, Int.reduceLT, Int.reduceNeg, Int.reduceDiv, Int.reduceMod, Int.reduceEq, Int.reduceBEq, Int.reduceBNe, f5, f5b, f5r0, f5r1, f5r2, f5r3, f5r4, f5r5, f5r6, f5r7, f5r8, f5r10, f5r11, f5r12, f5r13, f5r14, f5r15, f5r16, f5r17, f5r18, f5r19, f5r20, f5r22, hk] | (refine BrW.of (fun hb => ?_) (fun hb => ?_) <;> (have hb' := hb; try simp only [decide_eq_true_eq, decide_eq_false_iff_not, beq_iff_eq, bne_iff_ne, beq_eq_false_iff_ne, bne_eq_false_iff_eq, Bool.not_eq_true', Bool.not_eq_false', Bool.not_eq_true, Bool.not_eq_false, Bool.and_eq_true, Bool.or_eq_true, Bool.and_eq_false_iff, Bool.or_eq_false_iff, Int.not_lt, Int.not_le, ne_eq, gt_iff_lt, ge_iff_le] at hb') <;> (try (exfalso; omega))) | (refine altW.of ?_ ?_) | (refine .of ((alive _).mono ?_); rintro v H ⟨rfl, rfl⟩)
  refine loopW.ghost 7 3 rfl ?_
  simp (disch := first | with_reducible assumption | omega) only [go_sem, Bool.true_and, Bool.and_true, Bool.and_self, Bool.false_and, Bool.and_false, Bool.true_or, Bool.or_true, Bool.false_or, Bool.or_false, ↓reduceIte, Nat.reduceEqDiff, Nat.reduceAdd, Nat.reduceMul, Nat.reduceSub, Nat.reduceBEq, Nat.reduceLeDiff, Nat.reduceLT, Nat.reduceMod, Nat.reduceDiv, Int.reduceToNat, Int.reducePow, Int.reduceMul, Int.reduceAdd, Int.reduceSub, Int.reduceLE, Int.reduceLT, Int.reduceNeg, Int.reduceDiv, Int.reduceMod, Int.reduceEq, Int.reduceBEq, Int.reduceBNe]
  refine loopW.of (by decide) (fun m e J => ∃ (i g' : Nat) (y : Heap), e = [(0, slv ks os gs l.length cs), (1, .int .i64 wa), (2, .int .i64 wb), (7, slv H.length 0 g' (i * 2) (i * 2)), (23, slv ks os gs l.length cs), (24, .int .i64 l.length), (25, .int .i64 i)] ∧ J = H ++ (.cells g' 3 false (flat' Op.cells (pairsO (l.take i))) :: y) ∧ i ≤ l.length ∧ m = l.length - i) l.length ⟨0, 0, [], rfl, rfl, by omega, rfl⟩ ?_
  rintro m e J ⟨i, g', y, rfl, rfl, hi, rfl⟩
  by_cases hlt : i < l.length
  · have e0 := hcs i hlt
    have hst : flat' Op.cells (pairsO (l.take i)) ++ [.int .i64 1, .int .i64 1, .int .i64 (l.getD i 0), .int .i64 2, .int .i64 0, .int .i64 0] = flat' Op.cells (pairsO (l.take (i + 1))) := by
      rw [take_snoc 0 l i hlt]; simp [pairsO, flat', Op.cells]
    have il : (flat' Op.cells (pairsO (l.take i))).length = i * 2 * 3 := by rw [flat'_length (s := 3) (fun _ => rfl), pairsO_len, List.length_take]; omega
    have hni : ¬ i * 2 + 2 ≤ i * 2 := by omega
    have htk : (flat' Op.cells (pairsO (l.take i))).take (i * 2 * 3) = flat' Op.cells (pairsO (l.take i)) := List.take_of_length_le (by omega)
    generalize l.getD i 0 = x at *
    generalize flat' Op.cells (pairsO (l.take i)) = F at *
    repeat' first | simp (disch := first | with_reducible assumption | omega) only [go_sem, Bool.true_and, Bool.and_true, Bool.and_self, Bool.false_and, Bool.and_false, Bool.true_or, Bool.or_true, Bool.false_or, Bool.or_false, ↓reduceIte, Nat.reduceEqDiff, Nat.reduceAdd, Nat.reduceMul, Nat.reduceSub, Nat.reduceBEq, Nat.reduceLeDiff, Nat.reduceLT, Nat.reduceMod, Nat.reduceDiv, Int.reduceToNat, Int.reducePow, Int.reduceMul, Int.reduceAdd, Int.reduceSub, Int.reduceLE, Int.reduceLT, Int.reduceNeg, Int.reduceDiv, Int.reduceMod, Int.reduceEq, Int.reduceBEq, Int.reduceBNe, f5, f5b, f5r0, f5r1, f5r2, f5r3, f5r4, f5r5, f5r6, f5r7, f5r8, f5r10, f5r11, f5r12, f5r13, f5r14, f5r15, f5r16, f5r17, f5r18, f5r19, f5r20, f5r22, f5l0, get_old hk, e0, il, hni, htk, hst] | (refine BrW.of (fun hb => ?_) (fun hb => ?_) <;> (have hb' := hb; try simp only [decide_eq_true_eq, decide_eq_false_iff_not, beq_iff_eq, bne_iff_ne, beq_eq_false_iff_ne, bne_eq_false_iff_eq, Bool.not_eq_true', Bool.not_eq_false', Bool.not_eq_true, Bool.not_eq_false, Bool.and_eq_true, Bool.or_eq_true, Bool.and_eq_false_iff, Bool.or_eq_false_iff, Int.not_lt, Int.not_le, ne_eq, gt_iff_lt, ge_iff_le] at hb') <;> (try (exfalso; omega))) | (refine altW.of ?_ ?_)
    refine RdW.keep [0, 1, 2, 7, 23, 24, 25] (l.length - (i + 1)) (by omega) ?_
    simp (disch := first | with_reducible assumption | omega) only [go_sem, Bool.true_and, Bool.and_true, Bool.and_self, Bool.false_and, Bool.and_false, Bool.true_or, Bool.or_true, Bool.false_or, Bool.or_false, ↓reduceIte, Nat.reduceEqDiff, Nat.reduceAdd, Nat.reduceMul, Nat.reduceSub, Nat.reduceBEq, Nat.reduceLeDiff, Nat.reduceLT, Nat.reduceMod, Nat.reduceDiv, Int.reduceToNat, Int.reducePow, Int.reduceMul, Int.reduceAdd, Int.reduceSub, Int.reduceLE, Int.reduceLT, Int.reduceNeg, Int.reduceDiv, Int.reduceMod, Int.reduceEq, Int.reduceBEq, Int.reduceBNe]
    exact ⟨i + 1, g' + 1, _, by rw [show (i + 1) * 2 = i * 2 + 2 by omega]; rfl, rfl, by omega, rfl⟩
  · obtain rfl : i = l.length := by omega
    rw [List.take_length]
    have hO : IsO (fun _ => True) (H ++ (.cells g' 3 false (flat' Op.cells (pairsO l)) :: y)) (slv H.length 0 g' (pairsO l).length (l.length * 2)) (pairsO l) := IsT.of trivial (Tbl.new (enc := Op.cells) (s := 3) (d := o0) (fun _ => rfl) _ _ _ false _ (by rw [get_new0])) (by rw [pairsO_len]; exact Nat.le_refl _)
    have hkG := get_old hk (.cells g' 3 false (flat' Op.cells (pairsO l)) :: y)
    generalize H ++ (.cells g' 3 false (flat' Op.cells (pairsO l)) :: y) = G at *
    rw [pairsO_len] at hO
    have hpl := pairsO_len l
    have hN := fun (u v : Int) (J : Heap) => (IsT.of (A := fun _ => True) (c := 2) trivial (Tbl.new (enc := ienc) (s := 1) (d := 0) (fun _ => rfl) (J ++ [.cells 0 1 false (ints [u, v])]) J.length 0 false [u, v] (by rw [flat'_ienc, get_new0])) (Nat.le_refl _) : IsN (fun _ => True) (J ++ [.cells 0 1 false (ints [u, v])]) (slv J.length 0 0 2 2) [u, v])
    have hcs0 := hcs
    clear hcs
    repeat' first | simp (disch := first | with_reducible assumption | omega) only [go_sem, Bool.true_and, Bool.and_true, Bool.and_self, Bool.false_and, Bool.and_false, Bool.true_or, Bool.or_true, Bool.false_or, Bool.or_false, ↓reduceIte, Nat.reduceEqDiff, Nat.reduceAdd, Nat.reduceMul, Nat.reduceSub, Nat.reduceBEq, Nat.reduceLeDiff, Nat.reduceLT, Nat.reduceMod, Nat.reduceDiv, Int.reduceToNat, Int.reducePow, Int.reduceMul, Int.reduceAdd, Int.reduceSub, Int.reduceLE, Int.reduceLT, Int.reduceNeg, Int.reduceDiv, Int.reduceMod, Int.reduceEq, Int.reduceBEq, Int.reduceBNe, f5, f5b, f5r0, f5r1, f5r2, f5r3, f5r4, f5r5, f5r6, f5r7, f5r8, f5r10, f5r11, f5r12, f5r13, f5r14, f5r15, f5r16, f5r17, f5r18, f5r19, f5r20, f5r22, f5l0, f5, f5b, f5r0, f5r1, f5r2, f5r3, f5r4, f5r5, f5r6, f5r7, f5r8, f5r10, f5r11, f5r12, f5r13, f5r14, f5r15, f5r16, f5r17, f5r18, f5r19, f5r20, f5r22] | (refine BrW.of (fun hb => ?_) (fun hb => ?_) <;> (have hb' := hb; try simp only [decide_eq_true_eq, decide_eq_false_iff_not, beq_iff_eq, bne_iff_ne, beq_eq_false_iff_ne, bne_eq_false_iff_eq, Bool.not_eq_true', Bool.not_eq_false', Bool.not_eq_true, Bool.not_eq_false, Bool.and_eq_true, Bool.or_eq_true, Bool.and_eq_false_iff, Bool.or_eq_false_iff, Int.not_lt, Int.not_le, ne_eq, gt_iff_lt, ge_iff_le] at hb') <;> (try (exfalso; omega))) | (refine altW.of ?_ ?_)
    refine .of ((Play_spec [wb, wa] (pairsO l) _ _ (fun _ => True) _ (hN wb wa G) (hO.app _) (by simp) (by omega)).mono ?_)
    rintro v G1 ⟨a, b, c, e, rfl, hLe, he, hn, hy⟩
    rw [ok_two] at he
    obtain ⟨x1, rfl⟩ := hLe
    have hO1 := hO.app ([.cells 0 1 false (ints [wb, wa])] ++ x1)
    have hkG1 := get_old hkG ([.cells 0 1 false (ints [wb, wa])] ++ x1)
    rw [← List.append_assoc] at hO1 hkG1
    clear hO hkG hk
    generalize G ++ [.cells 0 1 false (ints [wb, wa])] ++ x1 = G1 at *
    repeat' first | simp (disch := first | with_reducible assumption | omega) only [go_sem, Bool.true_and, Bool.and_true, Bool.and_self, Bool.false_and, Bool.and_false, Bool.true_or, Bool.or_true, Bool.false_or, Bool.or_false, ↓reduceIte, Nat.reduceEqDiff, Nat.reduceAdd, Nat.reduceMul, Nat.reduceSub, Nat.reduceBEq, Nat.reduceLeDiff, Nat.reduceLT, Nat.reduceMod, Nat.reduceDiv, Int.reduceToNat, Int.reducePow, Int.reduceMul, Int.reduceAdd, Int.reduceSub, Int.reduceLE, Int.reduceLT, Int.reduceNeg, Int.reduceDiv, Int.reduceMod, Int.reduceEq, Int.reduceBEq, Int.reduceBNe, f5, f5b, f5r0, f5r1, f5r2, f5r3, f5r4, f5r5, f5r6, f5r7, f5r8, f5r10, f5r11, f5r12, f5r13, f5r14, f5r15, f5r16, f5r17, f5r18, f5r19, f5r20, f5r22] | (refine BrW.of (fun hb => ?_) (fun hb => ?_) <;> (have hb' := hb; try simp only [decide_eq_true_eq, decide_eq_false_iff_not, beq_iff_eq, bne_iff_ne, beq_eq_false_iff_ne, bne_eq_false_iff_eq, Bool.not_eq_true', Bool.not_eq_false', Bool.not_eq_true, Bool.not_eq_false, Bool.and_eq_true, Bool.or_eq_true, Bool.and_eq_false_iff, Bool.or_eq_false_iff, Int.not_lt, Int.not_le, ne_eq, gt_iff_lt, ge_iff_le] at hb') <;> (try (exfalso; omega))) | (refine altW.of ?_ ?_)
    refine .of ((Play_spec [wa, wb] (pairsO l) _ _ (fun _ => True) _ (hN wa wb G1) (hO1.app _) (by simp) (by omega)).mono ?_)
    rintro v G2 ⟨a', b', c', e', rfl, hLe, he', hn', hy'⟩
    rw [ok_two] at he'
    obtain ⟨x2, rfl⟩ := hLe
    have hkG2 := get_old hkG1 ([.cells 0 1 false (ints [wa, wb])] ++ x2)
    rw [← List.append_assoc] at hkG2
    by_cases z : e = 0
    · have hz := he.1 z
      have z' : e' = 0 := he'.2 ⟨⟨hz.1.2, hz.1.1⟩, hz.2⟩
      subst z
      subst z'
      have hs1 := (((hy rfl).2.1).app [.cells 0 1 false (ints [wa, wb])]).app x2
      have hs2 := (hy' rfl).2.1
      rw [run_alone ⟨(ok_two.2 hz.1).1, (ok_two.2 hz.1).2, sum_bound (ok_two.2 hz.1).1 (ok_two.2 hz.1).2⟩ rfl] at hs1
      rw [run_alone ⟨(ok_two.2 ⟨hz.1.2, hz.1.1⟩).1, (ok_two.2 ⟨hz.1.2, hz.1.1⟩).2, sum_bound (ok_two.2 ⟨hz.1.2, hz.1.1⟩).1 (ok_two.2 ⟨hz.1.2, hz.1.1⟩).2⟩ rfl] at hs2
      clear he he' hn hn' hy hy' hz hO1 hN hkG1
      generalize G1 ++ [.cells 0 1 false (ints [wa, wb])] ++ x2 = G2 at *
      obtain ⟨k1, o1, g1, c1, _, rfl, ht1, _⟩ := hs1
      obtain ⟨k2, o2, g2, c2, _, rfl, ht2, _⟩ := hs2
      repeat' first | simp (disch := first | with_reducible assumption | omega) only [go_sem, Bool.true_and, Bool.and_true, Bool.and_self, Bool.false_and, Bool.and_false, Bool.true_or, Bool.or_true, Bool.false_or, Bool.or_false, ↓reduceIte, Nat.reduceEqDiff, Nat.reduceAdd, Nat.reduceMul, Nat.reduceSub, Nat.reduceBEq, Nat.reduceLeDiff, Nat.reduceLT, Nat.reduceMod, Nat.reduceDiv, Int.reduceToNat, Int.reducePow, Int.reduceMul, Int.reduceAdd, Int.reduceSub, Int.reduceLE, Int.reduceLT, Int.reduceNeg, Int.reduceDiv, Int.reduceMod, Int.reduceEq, Int.reduceBEq, Int.reduceBNe, f5, f5b, f5r0, f5r1, f5r2, f5r3, f5r4, f5r5, f5r6, f5r7, f5r8, f5r10, f5r11, f5r12, f5r13, f5r14, f5r15, f5r16, f5r17, f5r18, f5r19, f5r20, f5r22, hkG2] | (refine BrW.of (fun hb => ?_) (fun hb => ?_) <;> (have hb' := hb; try simp only [decide_eq_true_eq, decide_eq_false_iff_not, beq_iff_eq, bne_iff_ne, beq_eq_false_iff_ne, bne_eq_false_iff_eq, Bool.not_eq_true', Bool.not_eq_false', Bool.not_eq_true, Bool.not_eq_false, Bool.and_eq_true, Bool.or_eq_true, Bool.and_eq_false_iff, Bool.or_eq_false_iff, Int.not_lt, Int.not_le, ne_eq, gt_iff_lt, ge_iff_le] at hb') <;> (try (exfalso; omega))) | (refine altW.of ?_ ?_)
      refine loopW.ghost 18 2 rfl ?_
      simp (disch := first | with_reducible assumption | omega) only [go_sem, Bool.true_and, Bool.and_true, Bool.and_self, Bool.false_and, Bool.and_false, Bool.true_or, Bool.or_true, Bool.false_or, Bool.or_false, ↓reduceIte, Nat.reduceEqDiff, Nat.reduceAdd, Nat.reduceMul, Nat.reduceSub, Nat.reduceBEq, Nat.reduceLeDiff, Nat.reduceLT, Nat.reduceMod, Nat.reduceDiv, Int.reduceToNat, Int.reducePow, Int.reduceMul, Int.reduceAdd, Int.reduceSub, Int.reduceLE, Int.reduceLT, Int.reduceNeg, Int.reduceDiv, Int.reduceMod, Int.reduceEq, Int.reduceBEq, Int.reduceBNe]
      refine loopW.of (by decide) (fun m e J => ∃ (i g' : Nat) (y : Heap), e = [(11, slv k1 o1 g1 (valsS l).length c1), (15, slv k2 o2 g2 (valsS l).length c2), (18, slv G2.length 0 g' (valsS (l.take i)).length (valsS (l.take i)).length), (65, slv ks os gs l.length cs), (66, .int .i64 l.length), (67, .int .i64 i)] ∧ J = G2 ++ (.cells g' 2 false (flat' S.cells (valsS (l.take i))) :: y) ∧ i ≤ l.length ∧ m = l.length - i) l.length ⟨0, 0, [], rfl, rfl, by omega, rfl⟩ ?_
      rintro m e J ⟨i, g', y, rfl, rfl, hi, rfl⟩
      by_cases hlt : i < l.length
      · have e0 := hcs0 i hlt
        have hvs : valsS (l.take (i + 1)) = valsS (l.take i) ++ (if 1 ≤ l.getD i 0 ∧ l.getD i 0 ≤ 1500 then [⟨1, l.getD i 0⟩] else []) := by rw [take_snoc 0 l i hlt, valsS_snoc]
        have il := flatS_len (valsS (l.take i))
        have itk := flatS_take (valsS (l.take i))
        have isn := flatS_snoc (valsS (l.take i)) ⟨1, l.getD i 0⟩
        have hln := valsS_len (l.take i)
        have hni : ¬ (valsS (l.take i)).length + 1 ≤ (valsS (l.take i)).length := by omega
        rw [List.length_take] at hln
        clear hcs0
        simp only at isn
        generalize l.getD i 0 = x at *
        by_cases hx : 1 ≤ x ∧ x ≤ 1500
        · rw [if_pos hx] at hvs
          obtain ⟨hx1, hx2⟩ := hx
          rw [← hvs] at isn
          have hvl : (valsS (l.take (i + 1))).length = (valsS (l.take i)).length + 1 := by rw [hvs]; simp
          generalize hV : valsS (l.take (i + 1)) = V' at *
          generalize valsS (l.take i) = V at *
          generalize flat' S.cells V = F at *
          repeat' first | simp (disch := first | with_reducible assumption | omega) only [go_sem, Bool.true_and, Bool.and_true, Bool.and_self, Bool.false_and, Bool.and_false, Bool.true_or, Bool.or_true, Bool.false_or, Bool.or_false, ↓reduceIte, Nat.reduceEqDiff, Nat.reduceAdd, Nat.reduceMul, Nat.reduceSub, Nat.reduceBEq, Nat.reduceLeDiff, Nat.reduceLT, Nat.reduceMod, Nat.reduceDiv, Int.reduceToNat, Int.reducePow, Int.reduceMul, Int.reduceAdd, Int.reduceSub, Int.reduceLE, Int.reduceLT, Int.reduceNeg, Int.reduceDiv, Int.reduceMod, Int.reduceEq, Int.reduceBEq, Int.reduceBNe, f5, f5b, f5r0, f5r1, f5r2, f5r3, f5r4, f5r5, f5r6, f5r7, f5r8, f5r10, f5r11, f5r12, f5r13, f5r14, f5r15, f5r16, f5r17, f5r18, f5r19, f5r20, f5r22, f5l1, get_old hkG2, e0, il, hni, itk, isn] | (refine BrW.of (fun hb => ?_) (fun hb => ?_) <;> (have hb' := hb; try simp only [decide_eq_true_eq, decide_eq_false_iff_not, beq_iff_eq, bne_iff_ne, beq_eq_false_iff_ne, bne_eq_false_iff_eq, Bool.not_eq_true', Bool.not_eq_false', Bool.not_eq_true, Bool.not_eq_false, Bool.and_eq_true, Bool.or_eq_true, Bool.and_eq_false_iff, Bool.or_eq_false_iff, Int.not_lt, Int.not_le, ne_eq, gt_iff_lt, ge_iff_le] at hb') <;> (try (exfalso; omega))) | (refine altW.of ?_ ?_)
          refine RdW.keep [11, 15, 18, 65, 66, 67] (l.length - (i + 1)) (by omega) ?_
          simp (disch := first | with_reducible assumption | omega) only [go_sem, Bool.true_and, Bool.and_true, Bool.and_self, Bool.false_and, Bool.and_false, Bool.true_or, Bool.or_true, Bool.false_or, Bool.or_false, ↓reduceIte, Nat.reduceEqDiff, Nat.reduceAdd, Nat.reduceMul, Nat.reduceSub, Nat.reduceBEq, Nat.reduceLeDiff, Nat.reduceLT, Nat.reduceMod, Nat.reduceDiv, Int.reduceToNat, Int.reducePow, Int.reduceMul, Int.reduceAdd, Int.reduceSub, Int.reduceLE, Int.reduceLT, Int.reduceNeg, Int.reduceDiv, Int.reduceMod, Int.reduceEq, Int.reduceBEq, Int.reduceBNe]
          exact ⟨i + 1, g' + 1, _, by rw [hV, hvl]; rfl, by rw [hV], by omega, rfl⟩
        · rw [if_neg hx, List.append_nil] at hvs
          by_cases hx1 : 1 ≤ x
          · have hx2 : ¬ x ≤ 1500 := fun h => hx ⟨hx1, h⟩
            repeat' first | simp (disch := first | with_reducible assumption | omega) only [go_sem, Bool.true_and, Bool.and_true, Bool.and_self, Bool.false_and, Bool.and_false, Bool.true_or, Bool.or_true, Bool.false_or, Bool.or_false, ↓reduceIte, Nat.reduceEqDiff, Nat.reduceAdd, Nat.reduceMul, Nat.reduceSub, Nat.reduceBEq, Nat.reduceLeDiff, Nat.reduceLT, Nat.reduceMod, Nat.reduceDiv, Int.reduceToNat, Int.reducePow, Int.reduceMul, Int.reduceAdd, Int.reduceSub, Int.reduceLE, Int.reduceLT, Int.reduceNeg, Int.reduceDiv, Int.reduceMod, Int.reduceEq, Int.reduceBEq, Int.reduceBNe, f5, f5b, f5r0, f5r1, f5r2, f5r3, f5r4, f5r5, f5r6, f5r7, f5r8, f5r10, f5r11, f5r12, f5r13, f5r14, f5r15, f5r16, f5r17, f5r18, f5r19, f5r20, f5r22, f5l1, get_old hkG2, e0] | (refine BrW.of (fun hb => ?_) (fun hb => ?_) <;> (have hb' := hb; try simp only [decide_eq_true_eq, decide_eq_false_iff_not, beq_iff_eq, bne_iff_ne, beq_eq_false_iff_ne, bne_eq_false_iff_eq, Bool.not_eq_true', Bool.not_eq_false', Bool.not_eq_true, Bool.not_eq_false, Bool.and_eq_true, Bool.or_eq_true, Bool.and_eq_false_iff, Bool.or_eq_false_iff, Int.not_lt, Int.not_le, ne_eq, gt_iff_lt, ge_iff_le] at hb') <;> (try (exfalso; omega))) | (refine altW.of ?_ ?_)
            refine RdW.keep [11, 15, 18, 65, 66, 67] (l.length - (i + 1)) (by omega) ?_
            simp (disch := first | with_reducible assumption | omega) only [go_sem, Bool.true_and, Bool.and_true, Bool.and_self, Bool.false_and, Bool.and_false, Bool.true_or, Bool.or_true, Bool.false_or, Bool.or_false, ↓reduceIte, Nat.reduceEqDiff, Nat.reduceAdd, Nat.reduceMul, Nat.reduceSub, Nat.reduceBEq, Nat.reduceLeDiff, Nat.reduceLT, Nat.reduceMod, Nat.reduceDiv, Int.reduceToNat, Int.reducePow, Int.reduceMul, Int.reduceAdd, Int.reduceSub, Int.reduceLE, Int.reduceLT, Int.reduceNeg, Int.reduceDiv, Int.reduceMod, Int.reduceEq, Int.reduceBEq, Int.reduceBNe]
            exact ⟨i + 1, g', y, by rw [hvs]; rfl, by rw [hvs], by omega, rfl⟩
          · repeat' first | simp (disch := first | with_reducible assumption | omega) only [go_sem, Bool.true_and, Bool.and_true, Bool.and_self, Bool.false_and, Bool.and_false, Bool.true_or, Bool.or_true, Bool.false_or, Bool.or_false, ↓reduceIte, Nat.reduceEqDiff, Nat.reduceAdd, Nat.reduceMul, Nat.reduceSub, Nat.reduceBEq, Nat.reduceLeDiff, Nat.reduceLT, Nat.reduceMod, Nat.reduceDiv, Int.reduceToNat, Int.reducePow, Int.reduceMul, Int.reduceAdd, Int.reduceSub, Int.reduceLE, Int.reduceLT, Int.reduceNeg, Int.reduceDiv, Int.reduceMod, Int.reduceEq, Int.reduceBEq, Int.reduceBNe, f5, f5b, f5r0, f5r1, f5r2, f5r3, f5r4, f5r5, f5r6, f5r7, f5r8, f5r10, f5r11, f5r12, f5r13, f5r14, f5r15, f5r16, f5r17, f5r18, f5r19, f5r20, f5r22, f5l1, get_old hkG2, e0] | (refine BrW.of (fun hb => ?_) (fun hb => ?_) <;> (have hb' := hb; try simp only [decide_eq_true_eq, decide_eq_false_iff_not, beq_iff_eq, bne_iff_ne, beq_eq_false_iff_ne, bne_eq_false_iff_eq, Bool.not_eq_true', Bool.not_eq_false', Bool.not_eq_true, Bool.not_eq_false, Bool.and_eq_true, Bool.or_eq_true, Bool.and_eq_false_iff, Bool.or_eq_false_iff, Int.not_lt, Int.not_le, ne_eq, gt_iff_lt, ge_iff_le] at hb') <;> (try (exfalso; omega))) | (refine altW.of ?_ ?_)
            refine RdW.keep [11, 15, 18, 65, 66, 67] (l.length - (i + 1)) (by omega) ?_
            simp (disch := first | with_reducible assumption | omega) only [go_sem, Bool.true_and, Bool.and_true, Bool.and_self, Bool.false_and, Bool.and_false, Bool.true_or, Bool.or_true, Bool.false_or, Bool.or_false, ↓reduceIte, Nat.reduceEqDiff, Nat.reduceAdd, Nat.reduceMul, Nat.reduceSub, Nat.reduceBEq, Nat.reduceLeDiff, Nat.reduceLT, Nat.reduceMod, Nat.reduceDiv, Int.reduceToNat, Int.reducePow, Int.reduceMul, Int.reduceAdd, Int.reduceSub, Int.reduceLE, Int.reduceLT, Int.reduceNeg, Int.reduceDiv, Int.reduceMod, Int.reduceEq, Int.reduceBEq, Int.reduceBNe]
            exact ⟨i + 1, g', y, by rw [hvs]; rfl, by rw [hvs], by omega, rfl⟩
      · obtain rfl : i = l.length := by omega
        rw [List.take_length]
        have hv := valsS_len l
        have hE1 := EqualS_spec (valsS l) (valsS l) k1 o1 g1 c1 G2.length 0 g' (valsS l).length (G2 ++ (.cells g' 2 false (flat' S.cells (valsS l)) :: y)) (ht1.app _) (Tbl.new (enc := S.cells) (s := 2) (d := s0) (fun _ => rfl) _ _ _ false _ (by rw [get_new0])) (by omega) (by omega) same_S
        have hE2 := EqualS_spec (valsS l) (valsS l) k2 o2 g2 c2 G2.length 0 g' (valsS l).length (G2 ++ (.cells g' 2 false (flat' S.cells (valsS l)) :: y)) (ht2.app _) (Tbl.new (enc := S.cells) (s := 2) (d := s0) (fun _ => rfl) _ _ _ false _ (by rw [get_new0])) (by omega) (by omega) same_S
        rw [decide_eq_true rfl] at hE1 hE2
        repeat' first | simp (disch := first | with_reducible assumption | omega) only [go_sem, Bool.true_and, Bool.and_true, Bool.and_self, Bool.false_and, Bool.and_false, Bool.true_or, Bool.or_true, Bool.false_or, Bool.or_false, ↓reduceIte, Nat.reduceEqDiff, Nat.reduceAdd, Nat.reduceMul, Nat.reduceSub, Nat.reduceBEq, Nat.reduceLeDiff, Nat.reduceLT, Nat.reduceMod, Nat.reduceDiv, Int.reduceToNat, Int.reducePow, Int.reduceMul, Int.reduceAdd, Int.reduceSub, Int.reduceLE, Int.reduceLT, Int.reduceNeg, Int.reduceDiv, Int.reduceMod, Int.reduceEq, Int.reduceBEq, Int.reduceBNe, f5, f5b, f5r0, f5r1, f5r2, f5r3, f5r4, f5r5, f5r6, f5r7, f5r8, f5r10, f5r11, f5r12, f5r13, f5r14, f5r15, f5r16, f5r17, f5r18, f5r19, f5r20, f5r22, f5l1, f5, f5b, f5r0, f5r1, f5r2, f5r3, f5r4, f5r5, f5r6, f5r7, f5r8, f5r10, f5r11, f5r12, f5r13, f5r14, f5r15, f5r16, f5r17, f5r18, f5r19, f5r20, f5r22] | (refine BrW.of (fun hb => ?_) (fun hb => ?_) <;> (have hb' := hb; try simp only [decide_eq_true_eq, decide_eq_false_iff_not, beq_iff_eq, bne_iff_ne, beq_eq_false_iff_ne, bne_eq_false_iff_eq, Bool.not_eq_true', Bool.not_eq_false', Bool.not_eq_true, Bool.not_eq_false, Bool.and_eq_true, Bool.or_eq_true, Bool.and_eq_false_iff, Bool.or_eq_false_iff, Int.not_lt, Int.not_le, ne_eq, gt_iff_lt, ge_iff_le] at hb') <;> (try (exfalso; omega))) | (refine altW.of ?_ ?_) | (refine .of (hE1.mono ?_); rintro v J ⟨rfl, rfl⟩) | (refine .of (hE2.mono ?_); rintro v J ⟨rfl, rfl⟩)
        exact .here rfl
    · have z' : ¬ e' = 0 := fun h => z (he.2 (by have := he'.1 h; exact ⟨⟨this.1.2, this.1.1⟩, this.2⟩))
      have h2 := (hn z).2
      have h2' := (hn' z').2
      subst h2
      subst h2'
      repeat' first | simp (disch := first | with_reducible assumption | omega) only [go_sem, Bool.true_and, Bool.and_true, Bool.and_self, Bool.false_and, Bool.and_false, Bool.true_or, Bool.or_true, Bool.false_or, Bool.or_false, ↓reduceIte, Nat.reduceEqDiff, Nat.reduceAdd, Nat.reduceMul, Nat.reduceSub, Nat.reduceBEq, Nat.reduceLeDiff, Nat.reduceLT, Nat.reduceMod, Nat.reduceDiv, Int.reduceToNat, Int.reducePow, Int.reduceMul, Int.reduceAdd, Int.reduceSub, Int.reduceLE, Int.reduceLT, Int.reduceNeg, Int.reduceDiv, Int.reduceMod, Int.reduceEq, Int.reduceBEq, Int.reduceBNe, f5, f5b, f5r0, f5r1, f5r2, f5r3, f5r4, f5r5, f5r6, f5r7, f5r8, f5r10, f5r11, f5r12, f5r13, f5r14, f5r15, f5r16, f5r17, f5r18, f5r19, f5r20, f5r22] | (refine BrW.of (fun hb => ?_) (fun hb => ?_) <;> (have hb' := hb; try simp only [decide_eq_true_eq, decide_eq_false_iff_not, beq_iff_eq, bne_iff_ne, beq_eq_false_iff_ne, bne_eq_false_iff_eq, Bool.not_eq_true', Bool.not_eq_false', Bool.not_eq_true, Bool.not_eq_false, Bool.and_eq_true, Bool.or_eq_true, Bool.and_eq_false_iff, Bool.or_eq_false_iff, Int.not_lt, Int.not_le, ne_eq, gt_iff_lt, ge_iff_le] at hb') <;> (try (exfalso; omega))) | (refine altW.of ?_ ?_)
      exact .here rfl
end Go.Proofs.Ytdcodafidefloaa
