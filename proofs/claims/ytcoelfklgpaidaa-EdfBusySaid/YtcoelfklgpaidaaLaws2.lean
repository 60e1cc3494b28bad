import Derived.Test.YtcoelfklgpaidaaLaws
set_option linter.unusedSimpArgs false
set_option linter.unusedVariables false
set_option maxHeartbeats 2000000
set_option maxRecDepth 20000
namespace Go.Proofs.Ytcoelfklgpaidaa
open Go Go.Am
attribute [local irreducible] opsW Ww loopW callW drawW outW outDW gW cW BrW bothW vW resW DropW RdW dcallW altW Later.run

/-- The entries of a set of whole numbers, in the order in which they came. -/
def ents : Nat → List Int → List MapEntry
  | _, [] => []
  | b, x :: r => ⟨.int .i64 x, .bool true, b⟩ :: ents (b + 1) r
theorem ents_find (n : Int) : ∀ (xs : List Int) (b i : Nat), (xs.any (fun x => n == x) = true → ∃ j, mfind .i64 n (ents b xs) i = some (some (j, .bool true))) ∧ (xs.any (fun x => n == x) = false → mfind .i64 n (ents b xs) i = some none)
  | [], b, i => by simp [ents, mfind]
  | x :: r, b, i => by
    have ih := ents_find n r (b + 1) (i + 1)
    simp only [ents, mfind, if_true]
    by_cases h : n = x
    · simp [h]
    · have : (n == x) = false := by simpa using h
      simp only [List.any_cons, this, Bool.false_or, if_neg h]
      exact ih
theorem ents_look (n : Int) (xs : List Int) : lookV (.bool false) false (ents 0 xs) .i64 n = some (.bool (xs.any (fun x => n == x))) := by
  have := ents_find n xs 0 0
  unfold lookV
  cases h : xs.any (fun x => n == x) with
  | true => obtain ⟨j, hj⟩ := this.1 h; rw [hj]; rfl
  | false => rw [this.2 h]; rfl
theorem ents_app : ∀ (xs : List Int) (b : Nat) (n : Int), ents b xs ++ [⟨.int .i64 n, .bool true, b + xs.length⟩] = ents b (xs ++ [n])
  | [], b, n => rfl
  | x :: r, b, n => by
    have := ents_app r (b + 1) n
    simp only [ents, List.cons_append, List.length_cons]
    rw [← this, show b + 1 + r.length = b + (r.length + 1) by omega]
theorem ents_put (n : Int) (xs : List Int) (h : xs.any (fun x => n == x) = false) : putV (ents 0 xs) xs.length .i64 n (.bool true) = some (ents 0 (xs ++ [n]), xs.length + 1) := by
  unfold putV
  rw [(ents_find n xs 0 0).2 h]
  have := ents_app xs 0 n
  rw [Nat.zero_add] at this
  simp only [this]

def hadR (d : List Int) (i : Nat) : List Int := (d.take i).filter (fun x => x != -1)
theorem hadR_any {l : List S} {d : List Int} (h : Inv l 1000 d) {i : Nat} (hi : i < l.length) (hd : D d i ≠ -1) : (hadR d i).any (fun x => D d i == x) = false := by
  rw [Bool.eq_false_iff]
  intro ha
  obtain ⟨x, hx, he⟩ := List.any_eq_true.1 ha
  obtain ⟨hx, _⟩ := List.mem_filter.1 hx
  obtain ⟨j, hj, rfl⟩ := List.getElem_of_mem hx
  have hl := h.len
  simp only [List.length_take] at hj
  have hj2 : j < d.length := by omega
  simp at he
  have h1 := h.ok i hi
  have h2 : D d j = d[j] := by simp [D, hj2]
  have := h.one i j hi (by omega) (by omega) (by rw [h2, he])
  omega
theorem hadR_skip {d : List Int} {i : Nat} (hi : i < d.length) (hd : D d i = -1) : hadR d (i + 1) = hadR d i := by
  have : d[i] = -1 := by simpa [D, hi] using hd
  unfold hadR
  rw [List.take_add_one, List.getElem?_eq_getElem hi, this]
  simp
theorem hadR_add {d : List Int} {i : Nat} (hi : i < d.length) (hd : D d i ≠ -1) : hadR d (i + 1) = hadR d i ++ [D d i] := by
  have h : D d i = d[i] := by simp [D, hi]
  rw [h] at hd ⊢
  unfold hadR
  rw [List.take_add_one, List.getElem?_eq_getElem hi, List.filter_append]
  congr 1
  simp [hd]
theorem hadR_le (d : List Int) (i : Nat) : (hadR d i).length ≤ i := Nat.le_trans (List.length_filter_le _ _) (by simp; omega)

theorem EdfRight_args (H : Heap) (vals : List Value) (h : ArgsOk maxLen H EdfRightSh vals) : ACallK Try.prog 3 vals H fun v _ => v = .bool true := by
  obtain ⟨_, _, rfl, a1, h⟩ := h.cons
  obtain rfl := h.nil
  obtain ⟨k, c, l, rfl, hB, hlc, hs⟩ := jobs_of a1
  have hB' : l.length ≤ 9223372036854775807 := Nat.le_trans hB (by decide)
  clear a1 h hB
  refine .walkW f3_ok (by simp; decide) (by decide) ?_
  by_cases hw : wrongL l = 0
  · have hf := fine hw
    have hi := run_inv hf 1000
    have hdl := hi.len
    have hlen := hf.len
    obtain ⟨ro, cs, hk, hcs⟩ := hs.cell
    have hkl := hs.lt
    have hR := Run_spec l k 0 0 c H hs hw
    have hdd : ∀ i, i < l.length → (ints (run l 1000))[i]? = some (.int .i64 (D (run l 1000) i)) := fun i hi => ints_get _ i (by omega)
    generalize run l 1000 = d at *
    repeat' first | simp (disch := first | with_reducible assumption | omega) only [go_sem, Bool.true_and, Bool.and_true, Bool.and_self, Bool.false_and, Bool.and_false, Bool.true_or, Bool.or_true, Bool.false_or, Bool.or_false, ↓reduceIte, Nat.reduceEqDiff, Nat.reduceAdd, Nat.reduceMul, Nat.reduceSub, Nat.reduceBEq, Nat.reduceLeDiff, Nat.reduceLT, Nat.reduceMod, Nat.reduceDiv, Int.reduceToNat, Int.reducePow, Int.reduceMul, Int.reduceAdd, Int.reduceSub, Int.reduceLE, Int.reduceLT, Int.reduceNeg, Int.reduceDiv, Int.reduceMod, Int.reduceEq, Int.reduceBEq, Int.reduceBNe, f3, f3b, f3r0, f3r1, f3r2, f3r3, f3r4, f3r5, f3r6, f3r7, f3r8, f3r9, f3r10, f3r11, f3r12, f3r13, f3r14, f3r16] | (refine BrW.of (fun hb => ?_) (fun hb => ?_) <;> (have hb' := hb; try simp only [decide_eq_true_eq, decide_eq_false_iff_not, beq_iff_eq, bne_iff_ne, beq_eq_false_iff_ne, bne_eq_false_iff_eq, Bool.not_eq_true', Bool.not_eq_false', Bool.not_eq_true, Bool.not_eq_false, Bool.and_eq_true, Bool.or_eq_true, Bool.and_eq_false_iff, Bool.or_eq_false_iff, Int.not_lt, Int.not_le, ne_eq, gt_iff_lt, ge_iff_le] at hb') <;> (try (exfalso; omega))) | (refine altW.of ?_ ?_) | (refine .of ((alive _).mono ?_); rintro v H ⟨rfl, rfl⟩)
    refine .of (hR.mono ?_)
    rintro v J ⟨rfl, rfl⟩
    clear hR
    simp only [Nat.zero_add] at hcs
    repeat' first | simp (disch := first | with_reducible assumption | omega) only [go_sem, Bool.true_and, Bool.and_true, Bool.and_self, Bool.false_and, Bool.and_false, Bool.true_or, Bool.or_true, Bool.false_or, Bool.or_false, ↓reduceIte, Nat.reduceEqDiff, Nat.reduceAdd, Nat.reduceMul, Nat.reduceSub, Nat.reduceBEq, Nat.reduceLeDiff, Nat.reduceLT, Nat.reduceMod, Nat.reduceDiv, Int.reduceToNat, Int.reducePow, Int.reduceMul, Int.reduceAdd, Int.reduceSub, Int.reduceLE, Int.reduceLT, Int.reduceNeg, Int.reduceDiv, Int.reduceMod, Int.reduceEq, Int.reduceBEq, Int.reduceBNe, f3, f3b, f3r0, f3r1, f3r2, f3r3, f3r4, f3r5, f3r6, f3r7, f3r8, f3r9, f3r10, f3r11, f3r12, f3r13, f3r14, f3r16, hk, get_old hk] | (refine BrW.of (fun hb => ?_) (fun hb => ?_) <;> (have hb' := hb; try simp only [decide_eq_true_eq, decide_eq_false_iff_not, beq_iff_eq, bne_iff_ne, beq_eq_false_iff_ne, bne_eq_false_iff_eq, Bool.not_eq_true', Bool.not_eq_false', Bool.not_eq_true, Bool.not_eq_false, Bool.and_eq_true, Bool.or_eq_true, Bool.and_eq_false_iff, Bool.or_eq_false_iff, Int.not_lt, Int.not_le, ne_eq, gt_iff_lt, ge_iff_le] at hb') <;> (try (exfalso; omega))) | (refine altW.of ?_ ?_)
    refine loopW.of (by decide) (fun m e J => ∃ i : Nat, e = [(0, slv k 0 0 l.length c), (5, .map (some (H.length + 2))), (27, slv (H.length + 1) 0 0 l.length l.length), (28, .int .i64 l.length), (29, .int .i64 i)] ∧ J = H ++ [.cells 0 1 false [.int .i64 (-1)], .cells 0 1 false (ints d), .map (ents 0 (hadR d i)) (hadR d i).length] ∧ i ≤ l.length ∧ m = l.length - i) l.length ⟨0, rfl, rfl, by omega, rfl⟩ ?_
    rintro m e J ⟨i, rfl, rfl, hil, rfl⟩
    by_cases hlt : i < l.length
    · obtain ⟨e0, e1⟩ := hcs i hlt
      have e2 := hdd i hlt
      have hok := hi.ok i hlt
      by_cases hd : D d i = -1
      · have hsk := hadR_skip (d := d) (by omega) hd
        clear hcs hdd hi
        rw [hd] at e2
        repeat' first | simp (disch := first | with_reducible assumption | omega) only [go_sem, Bool.true_and, Bool.and_true, Bool.and_self, Bool.false_and, Bool.and_false, Bool.true_or, Bool.or_true, Bool.false_or, Bool.or_false, ↓reduceIte, Nat.reduceEqDiff, Nat.reduceAdd, Nat.reduceMul, Nat.reduceSub, Nat.reduceBEq, Nat.reduceLeDiff, Nat.reduceLT, Nat.reduceMod, Nat.reduceDiv, Int.reduceToNat, Int.reducePow, Int.reduceMul, Int.reduceAdd, Int.reduceSub, Int.reduceLE, Int.reduceLT, Int.reduceNeg, Int.reduceDiv, Int.reduceMod, Int.reduceEq, Int.reduceBEq, Int.reduceBNe, f3, f3b, f3r0, f3r1, f3r2, f3r3, f3r4, f3r5, f3r6, f3r7, f3r8, f3r9, f3r10, f3r11, f3r12, f3r13, f3r14, f3r16, f3l0, hk, get_old hk, e0, e1, e2] | (refine BrW.of (fun hb => ?_) (fun hb => ?_) <;> (have hb' := hb; try simp only [decide_eq_true_eq, decide_eq_false_iff_not, beq_iff_eq, bne_iff_ne, beq_eq_false_iff_ne, bne_eq_false_iff_eq, Bool.not_eq_true', Bool.not_eq_false', Bool.not_eq_true, Bool.not_eq_false, Bool.and_eq_true, Bool.or_eq_true, Bool.and_eq_false_iff, Bool.or_eq_false_iff, Int.not_lt, Int.not_le, ne_eq, gt_iff_lt, ge_iff_le] at hb') <;> (try (exfalso; omega))) | (refine altW.of ?_ ?_)
        refine RdW.keep [0, 5, 27, 28, 29] (l.length - (i + 1)) (by omega) ?_
        simp (disch := first | with_reducible assumption | omega) only [go_sem, Bool.true_and, Bool.and_true, Bool.and_self, Bool.false_and, Bool.and_false, Bool.true_or, Bool.or_true, Bool.false_or, Bool.or_false, ↓reduceIte, Nat.reduceEqDiff, Nat.reduceAdd, Nat.reduceMul, Nat.reduceSub, Nat.reduceBEq, Nat.reduceLeDiff, Nat.reduceLT, Nat.reduceMod, Nat.reduceDiv, Int.reduceToNat, Int.reducePow, Int.reduceMul, Int.reduceAdd, Int.reduceSub, Int.reduceLE, Int.reduceLT, Int.reduceNeg, Int.reduceDiv, Int.reduceMod, Int.reduceEq, Int.reduceBEq, Int.reduceBNe]
        exact ⟨i + 1, rfl, by rw [hsk], by omega, rfl⟩
      · have hno := hadR_any hi hlt hd
        have hlk := ents_look (D d i) (hadR d i)
        have hpt := ents_put (D d i) (hadR d i) hno
        rw [hno] at hlk
        have hadd := hadR_add (d := d) (by omega) hd
        have hok' : 0 ≤ D d i ∧ F l i ≤ D d i ∧ D d i < T l i := by omega
        clear hcs hdd hi hno hok
        generalize hh : hadR d i = hx at *
        generalize hh' : hadR d (i + 1) = hx' at *
        generalize D d i = x at *
        generalize F l i = a at *
        generalize T l i = b at *
        repeat' first | simp (disch := first | with_reducible assumption | omega) only [go_sem, Bool.true_and, Bool.and_true, Bool.and_self, Bool.false_and, Bool.and_false, Bool.true_or, Bool.or_true, Bool.false_or, Bool.or_false, ↓reduceIte, Nat.reduceEqDiff, Nat.reduceAdd, Nat.reduceMul, Nat.reduceSub, Nat.reduceBEq, Nat.reduceLeDiff, Nat.reduceLT, Nat.reduceMod, Nat.reduceDiv, Int.reduceToNat, Int.reducePow, Int.reduceMul, Int.reduceAdd, Int.reduceSub, Int.reduceLE, Int.reduceLT, Int.reduceNeg, Int.reduceDiv, Int.reduceMod, Int.reduceEq, Int.reduceBEq, Int.reduceBNe, f3, f3b, f3r0, f3r1, f3r2, f3r3, f3r4, f3r5, f3r6, f3r7, f3r8, f3r9, f3r10, f3r11, f3r12, f3r13, f3r14, f3r16, f3l0, hk, get_old hk, e0, e1, e2, mapAt, hlk, hpt] | (refine BrW.of (fun hb => ?_) (fun hb => ?_) <;> (have hb' := hb; try simp only [decide_eq_true_eq, decide_eq_false_iff_not, beq_iff_eq, bne_iff_ne, beq_eq_false_iff_ne, bne_eq_false_iff_eq, Bool.not_eq_true', Bool.not_eq_false', Bool.not_eq_true, Bool.not_eq_false, Bool.and_eq_true, Bool.or_eq_true, Bool.and_eq_false_iff, Bool.or_eq_false_iff, Int.not_lt, Int.not_le, ne_eq, gt_iff_lt, ge_iff_le] at hb') <;> (try (exfalso; omega))) | (refine altW.of ?_ ?_)
        refine RdW.keep [0, 5, 27, 28, 29] (l.length - (i + 1)) (by omega) ?_
        simp (disch := first | with_reducible assumption | omega) only [go_sem, Bool.true_and, Bool.and_true, Bool.and_self, Bool.false_and, Bool.and_false, Bool.true_or, Bool.or_true, Bool.false_or, Bool.or_false, ↓reduceIte, Nat.reduceEqDiff, Nat.reduceAdd, Nat.reduceMul, Nat.reduceSub, Nat.reduceBEq, Nat.reduceLeDiff, Nat.reduceLT, Nat.reduceMod, Nat.reduceDiv, Int.reduceToNat, Int.reducePow, Int.reduceMul, Int.reduceAdd, Int.reduceSub, Int.reduceLE, Int.reduceLT, Int.reduceNeg, Int.reduceDiv, Int.reduceMod, Int.reduceEq, Int.reduceBEq, Int.reduceBNe]
        exact ⟨i + 1, rfl, by rw [hh', hadd]; simp, by omega, rfl⟩
    · clear hcs hdd hi
      repeat' first | simp (disch := first | with_reducible assumption | omega) only [go_sem, Bool.true_and, Bool.and_true, Bool.and_self, Bool.false_and, Bool.and_false, Bool.true_or, Bool.or_true, Bool.false_or, Bool.or_false, ↓reduceIte, Nat.reduceEqDiff, Nat.reduceAdd, Nat.reduceMul, Nat.reduceSub, Nat.reduceBEq, Nat.reduceLeDiff, Nat.reduceLT, Nat.reduceMod, Nat.reduceDiv, Int.reduceToNat, Int.reducePow, Int.reduceMul, Int.reduceAdd, Int.reduceSub, Int.reduceLE, Int.reduceLT, Int.reduceNeg, Int.reduceDiv, Int.reduceMod, Int.reduceEq, Int.reduceBEq, Int.reduceBNe, f3, f3b, f3r0, f3r1, f3r2, f3r3, f3r4, f3r5, f3r6, f3r7, f3r8, f3r9, f3r10, f3r11, f3r12, f3r13, f3r14, f3r16, f3l0, f3, f3b, f3r0, f3r1, f3r2, f3r3, f3r4, f3r5, f3r6, f3r7, f3r8, f3r9, f3r10, f3r11, f3r12, f3r13, f3r14, f3r16, hk, get_old hk] | (refine BrW.of (fun hb => ?_) (fun hb => ?_) <;> (have hb' := hb; try simp only [decide_eq_true_eq, decide_eq_false_iff_not, beq_iff_eq, bne_iff_ne, beq_eq_false_iff_ne, bne_eq_false_iff_eq, Bool.not_eq_true', Bool.not_eq_false', Bool.not_eq_true, Bool.not_eq_false, Bool.and_eq_true, Bool.or_eq_true, Bool.and_eq_false_iff, Bool.or_eq_false_iff, Int.not_lt, Int.not_le, ne_eq, gt_iff_lt, ge_iff_le] at hb') <;> (try (exfalso; omega))) | (refine altW.of ?_ ?_)
      all_goals exact .here rfl
  · have hR := Run_bad l k 0 0 c H hs hB' hw
    generalize wrongL l = w at *
    repeat' first | simp (disch := first | with_reducible assumption | omega) only [go_sem, Bool.true_and, Bool.and_true, Bool.and_self, Bool.false_and, Bool.and_false, Bool.true_or, Bool.or_true, Bool.false_or, Bool.or_false, ↓reduceIte, Nat.reduceEqDiff, Nat.reduceAdd, Nat.reduceMul, Nat.reduceSub, Nat.reduceBEq, Nat.reduceLeDiff, Nat.reduceLT, Nat.reduceMod, Nat.reduceDiv, Int.reduceToNat, Int.reducePow, Int.reduceMul, Int.reduceAdd, Int.reduceSub, Int.reduceLE, Int.reduceLT, Int.reduceNeg, Int.reduceDiv, Int.reduceMod, Int.reduceEq, Int.reduceBEq, Int.reduceBNe, f3, f3b, f3r0, f3r1, f3r2, f3r3, f3r4, f3r5, f3r6, f3r7, f3r8, f3r9, f3r10, f3r11, f3r12, f3r13, f3r14, f3r16] | (refine BrW.of (fun hb => ?_) (fun hb => ?_) <;> (have hb' := hb; try simp only [decide_eq_true_eq, decide_eq_false_iff_not, beq_iff_eq, bne_iff_ne, beq_eq_false_iff_ne, bne_eq_false_iff_eq, Bool.not_eq_true', Bool.not_eq_false', Bool.not_eq_true, Bool.not_eq_false, Bool.and_eq_true, Bool.or_eq_true, Bool.and_eq_false_iff, Bool.or_eq_false_iff, Int.not_lt, Int.not_le, ne_eq, gt_iff_lt, ge_iff_le] at hb') <;> (try (exfalso; omega))) | (refine altW.of ?_ ?_) | (refine .of ((alive _).mono ?_); rintro v H ⟨rfl, rfl⟩)
    refine .of (hR.mono ?_)
    rintro v J ⟨rfl, rfl⟩
    repeat' first | simp (disch := first | with_reducible assumption | omega) only [go_sem, Bool.true_and, Bool.and_true, Bool.and_self, Bool.false_and, Bool.and_false, Bool.true_or, Bool.or_true, Bool.false_or, Bool.or_false, ↓reduceIte, Nat.reduceEqDiff, Nat.reduceAdd, Nat.reduceMul, Nat.reduceSub, Nat.reduceBEq, Nat.reduceLeDiff, Nat.reduceLT, Nat.reduceMod, Nat.reduceDiv, Int.reduceToNat, Int.reducePow, Int.reduceMul, Int.reduceAdd, Int.reduceSub, Int.reduceLE, Int.reduceLT, Int.reduceNeg, Int.reduceDiv, Int.reduceMod, Int.reduceEq, Int.reduceBEq, Int.reduceBNe, f3, f3b, f3r0, f3r1, f3r2, f3r3, f3r4, f3r5, f3r6, f3r7, f3r8, f3r9, f3r10, f3r11, f3r12, f3r13, f3r14, f3r16] | (refine BrW.of (fun hb => ?_) (fun hb => ?_) <;> (have hb' := hb; try simp only [decide_eq_true_eq, decide_eq_false_iff_not, beq_iff_eq, bne_iff_ne, beq_eq_false_iff_ne, bne_eq_false_iff_eq, Bool.not_eq_true', Bool.not_eq_false', Bool.not_eq_true, Bool.not_eq_false, Bool.and_eq_true, Bool.or_eq_true, Bool.and_eq_false_iff, Bool.or_eq_false_iff, Int.not_lt, Int.not_le, ne_eq, gt_iff_lt, ge_iff_le] at hb') <;> (try (exfalso; omega))) | (refine altW.of ?_ ?_)
    all_goals first | exact .here rfl | exact .here (by simp [hw]) | exact .here (by simp)
end Go.Proofs.Ytcoelfklgpaidaa
