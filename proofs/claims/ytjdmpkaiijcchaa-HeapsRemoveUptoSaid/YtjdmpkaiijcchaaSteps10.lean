import Derived.Test.YtjdmpkaiijcchaaLaws
set_option linter.unusedSimpArgs false
set_option linter.unusedVariables false
set_option maxHeartbeats 2000000
set_option maxRecDepth 20000
namespace Go.Proofs.Ytjdmpkaiijcchaa
open Go Go.Am
attribute [local irreducible] opsW Ww loopW callW drawW outW outDW gW cW BrW bothW vW resW DropW RdW dcallW altW forkW splitW Later.run

theorem IndexF_spec (p : Int → Bool) (fc : FuncId) (caps : List Value) (l : List Int) (k o g c : Nat) (H : Heap) (hs : Tbl Int ienc 1 0 H k o g l) (hl : l.length ≤ 9223372036854775807)
    (hf : ∀ i, i < l.length → ACallK Try.prog fc (Value.int .i64 (l.getD i 0) :: caps) H (fun v H' => v = .bool (p (l.getD i 0)) ∧ H' = H)) :
    ACallK Try.prog 25 [slv k o g l.length c, .func (.func fc) #[] caps.toArray] H (fun v H' => v = .int .i64 (idx p l) ∧ H' = H) := by
  obtain ⟨ro, cs, hk, hle, hcs⟩ := hs.at'
  refine .walkW f25_ok (by simp; decide) (by decide) ?_
  repeat' first | simp (disch := first | with_reducible assumption | omega) only [go_sem, Bool.true_and, Bool.and_true, Bool.and_self, Bool.false_and, Bool.and_false, Bool.true_or, Bool.or_true, Bool.false_or, Bool.or_false, ↓reduceIte, Nat.reduceEqDiff, Nat.reduceAdd, Nat.reduceMul, Nat.reduceSub, Nat.reduceBEq, Nat.reduceLeDiff, Nat.reduceLT, Nat.reduceMod, Nat.reduceDiv, Int.reduceToNat, Int.reducePow, Int.reduceMul, Int.reduceAdd, Int.reduceSub, Int.reduceLE, Int.reduceLT, Int.reduceNeg, Int.reduceDiv, Int.reduceMod, Int.reduceEq, Int.reduceBEq, Int.reduceBNe, f25, f25b, f25r0, f25r1, f25r2, f25r3, f25r4, f25r5, f25r6, f25r8, hk] | (refine BrW.of (fun hb => ?_) (fun hb => ?_) <;> (have hb' := hb; try simp only [decide_eq_true_eq, decide_eq_false_iff_not, beq_iff_eq, bne_iff_ne, beq_eq_false_iff_ne, bne_eq_false_iff_eq, Bool.not_eq_true', Bool.not_eq_false', Bool.not_eq_true, Bool.not_eq_false, Bool.and_eq_true, Bool.or_eq_true, Bool.and_eq_false_iff, Bool.or_eq_false_iff, Int.not_lt, Int.not_le, ne_eq, gt_iff_lt, ge_iff_le] at hb') <;> (try (exfalso; omega))) | (refine altW.of ?_ ?_)
  refine loopW.of (by decide) (fun m e H'' => ∃ i : Nat, e = [(0, slv k o g l.length c), (1, .func (.func fc) #[] caps.toArray), (7, .int .i64 l.length), (8, .int .i64 i)] ∧ H'' = H ∧ i ≤ l.length ∧ m = l.length - i ∧ idxGo p i (l.drop i) = idx p l) l.length ⟨0, rfl, rfl, by omega, rfl, rfl⟩ ?_
  rintro m e H'' ⟨i, rfl, rfl, hi, rfl, hinv⟩
  by_cases hlt : i < l.length
  · have hc := hf i hlt
    have e0 : cs[o + i]? = some (Value.int .i64 (l.getD i 0)) := by have := hcs i hlt 0 (by omega); simpa [ienc] using this
    rw [drop_cons 0 l i hlt] at hinv
    unfold idxGo at hinv
    clear hf hcs
    generalize l.getD i 0 = x at *
    cases hp : p x with
    | true =>
      rw [if_pos hp] at hinv
      rw [← hinv]
      rw [hp] at hc
      repeat' first | simp (disch := first | with_reducible assumption | omega) only [go_sem, Bool.true_and, Bool.and_true, Bool.and_self, Bool.false_and, Bool.and_false, Bool.true_or, Bool.or_true, Bool.false_or, Bool.or_false, ↓reduceIte, Nat.reduceEqDiff, Nat.reduceAdd, Nat.reduceMul, Nat.reduceSub, Nat.reduceBEq, Nat.reduceLeDiff, Nat.reduceLT, Nat.reduceMod, Nat.reduceDiv, Int.reduceToNat, Int.reducePow, Int.reduceMul, Int.reduceAdd, Int.reduceSub, Int.reduceLE, Int.reduceLT, Int.reduceNeg, Int.reduceDiv, Int.reduceMod, Int.reduceEq, Int.reduceBEq, Int.reduceBNe, f25, f25b, f25r0, f25r1, f25r2, f25r3, f25r4, f25r5, f25r6, f25r8, f25l0, f25, f25b, f25r0, f25r1, f25r2, f25r3, f25r4, f25r5, f25r6, f25r8, hk, e0] | (refine BrW.of (fun hb => ?_) (fun hb => ?_) <;> (have hb' := hb; try simp only [decide_eq_true_eq, decide_eq_false_iff_not, beq_iff_eq, bne_iff_ne, beq_eq_false_iff_ne, bne_eq_false_iff_eq, Bool.not_eq_true', Bool.not_eq_false', Bool.not_eq_true, Bool.not_eq_false, Bool.and_eq_true, Bool.or_eq_true, Bool.and_eq_false_iff, Bool.or_eq_false_iff, Int.not_lt, Int.not_le, ne_eq, gt_iff_lt, ge_iff_le] at hb') <;> (try (exfalso; omega))) | (refine altW.of ?_ ?_) | (refine .of (hc.mono ?_); rintro v _ ⟨rfl, rfl⟩)
      exact .here ⟨rfl, rfl⟩
    | false =>
      rw [if_neg (by simp [hp])] at hinv
      rw [hp] at hc
      repeat' first | simp (disch := first | with_reducible assumption | omega) only [go_sem, Bool.true_and, Bool.and_true, Bool.and_self, Bool.false_and, Bool.and_false, Bool.true_or, Bool.or_true, Bool.false_or, Bool.or_false, ↓reduceIte, Nat.reduceEqDiff, Nat.reduceAdd, Nat.reduceMul, Nat.reduceSub, Nat.reduceBEq, Nat.reduceLeDiff, Nat.reduceLT, Nat.reduceMod, Nat.reduceDiv, Int.reduceToNat, Int.reducePow, Int.reduceMul, Int.reduceAdd, Int.reduceSub, Int.reduceLE, Int.reduceLT, Int.reduceNeg, Int.reduceDiv, Int.reduceMod, Int.reduceEq, Int.reduceBEq, Int.reduceBNe, f25, f25b, f25r0, f25r1, f25r2, f25r3, f25r4, f25r5, f25r6, f25r8, f25l0, f25, f25b, f25r0, f25r1, f25r2, f25r3, f25r4, f25r5, f25r6, f25r8, hk, e0] | (refine BrW.of (fun hb => ?_) (fun hb => ?_) <;> (have hb' := hb; try simp only [decide_eq_true_eq, decide_eq_false_iff_not, beq_iff_eq, bne_iff_ne, beq_eq_false_iff_ne, bne_eq_false_iff_eq, Bool.not_eq_true', Bool.not_eq_false', Bool.not_eq_true, Bool.not_eq_false, Bool.and_eq_true, Bool.or_eq_true, Bool.and_eq_false_iff, Bool.or_eq_false_iff, Int.not_lt, Int.not_le, ne_eq, gt_iff_lt, ge_iff_le] at hb') <;> (try (exfalso; omega))) | (refine altW.of ?_ ?_) | (refine .of (hc.mono ?_); rintro v _ ⟨rfl, rfl⟩)
      refine RdW.keep [0, 1, 7, 8] (l.length - (i + 1)) (by omega) ?_
      simp (disch := first | with_reducible assumption | omega) only [go_sem, Bool.true_and, Bool.and_true, Bool.and_self, Bool.false_and, Bool.and_false, Bool.true_or, Bool.or_true, Bool.false_or, Bool.or_false, ↓reduceIte, Nat.reduceEqDiff, Nat.reduceAdd, Nat.reduceMul, Nat.reduceSub, Nat.reduceBEq, Nat.reduceLeDiff, Nat.reduceLT, Nat.reduceMod, Nat.reduceDiv, Int.reduceToNat, Int.reducePow, Int.reduceMul, Int.reduceAdd, Int.reduceSub, Int.reduceLE, Int.reduceLT, Int.reduceNeg, Int.reduceDiv, Int.reduceMod, Int.reduceEq, Int.reduceBEq, Int.reduceBNe]
      exact ⟨i + 1, rfl, by omega, rfl, hinv⟩
  · obtain rfl : i = l.length := by omega
    rw [List.drop_eq_nil_of_le (by omega)] at hinv
    have hx : idx p l = -1 := by rw [← hinv]; rfl
    repeat' first | simp (disch := first | with_reducible assumption | omega) only [go_sem, Bool.true_and, Bool.and_true, Bool.and_self, Bool.false_and, Bool.and_false, Bool.true_or, Bool.or_true, Bool.false_or, Bool.or_false, ↓reduceIte, Nat.reduceEqDiff, Nat.reduceAdd, Nat.reduceMul, Nat.reduceSub, Nat.reduceBEq, Nat.reduceLeDiff, Nat.reduceLT, Nat.reduceMod, Nat.reduceDiv, Int.reduceToNat, Int.reducePow, Int.reduceMul, Int.reduceAdd, Int.reduceSub, Int.reduceLE, Int.reduceLT, Int.reduceNeg, Int.reduceDiv, Int.reduceMod, Int.reduceEq, Int.reduceBEq, Int.reduceBNe, f25, f25b, f25r0, f25r1, f25r2, f25r3, f25r4, f25r5, f25r6, f25r8, f25l0, f25, f25b, f25r0, f25r1, f25r2, f25r3, f25r4, f25r5, f25r6, f25r8, hk] | (refine BrW.of (fun hb => ?_) (fun hb => ?_) <;> (have hb' := hb; try simp only [decide_eq_true_eq, decide_eq_false_iff_not, beq_iff_eq, bne_iff_ne, beq_eq_false_iff_ne, bne_eq_false_iff_eq, Bool.not_eq_true', Bool.not_eq_false', Bool.not_eq_true, Bool.not_eq_false, Bool.and_eq_true, Bool.or_eq_true, Bool.and_eq_false_iff, Bool.or_eq_false_iff, Int.not_lt, Int.not_le, ne_eq, gt_iff_lt, ge_iff_le] at hb') <;> (try (exfalso; omega))) | (refine altW.of ?_ ?_)
    exact .here ⟨by rw [hx], rfl⟩

theorem IndexI_spec (y : Int) (l : List Int) (k o g c : Nat) (H : Heap) (hs : Tbl Int ienc 1 0 H k o g l) (hl : l.length ≤ 9223372036854775807) :
    ACallK Try.prog 24 [slv k o g l.length c, Value.int .i64 y] H (fun v H' => v = .int .i64 (idx (fun x => y == x) l) ∧ H' = H) := by
  obtain ⟨ro, cs, hk, hle, hcs⟩ := hs.at'
  refine .walkW f24_ok (by simp; decide) (by decide) ?_
  repeat' first | simp (disch := first | with_reducible assumption | omega) only [go_sem, Bool.true_and, Bool.and_true, Bool.and_self, Bool.false_and, Bool.and_false, Bool.true_or, Bool.or_true, Bool.false_or, Bool.or_false, ↓reduceIte, Nat.reduceEqDiff, Nat.reduceAdd, Nat.reduceMul, Nat.reduceSub, Nat.reduceBEq, Nat.reduceLeDiff, Nat.reduceLT, Nat.reduceMod, Nat.reduceDiv, Int.reduceToNat, Int.reducePow, Int.reduceMul, Int.reduceAdd, Int.reduceSub, Int.reduceLE, Int.reduceLT, Int.reduceNeg, Int.reduceDiv, Int.reduceMod, Int.reduceEq, Int.reduceBEq, Int.reduceBNe, f24, f24b, f24r0, f24r1, f24r2, f24r3, f24r4, f24r5, f24r6, f24r8, hk] | (refine BrW.of (fun hb => ?_) (fun hb => ?_) <;> (have hb' := hb; try simp only [decide_eq_true_eq, decide_eq_false_iff_not, beq_iff_eq, bne_iff_ne, beq_eq_false_iff_ne, bne_eq_false_iff_eq, Bool.not_eq_true', Bool.not_eq_false', Bool.not_eq_true, Bool.not_eq_false, Bool.and_eq_true, Bool.or_eq_true, Bool.and_eq_false_iff, Bool.or_eq_false_iff, Int.not_lt, Int.not_le, ne_eq, gt_iff_lt, ge_iff_le] at hb') <;> (try (exfalso; omega))) | (refine altW.of ?_ ?_)
  refine loopW.of (by decide) (fun m e H'' => ∃ i : Nat, e = [(0, slv k o g l.length c), (1, Value.int .i64 y), (7, .int .i64 l.length), (8, .int .i64 i)] ∧ H'' = H ∧ i ≤ l.length ∧ m = l.length - i ∧ idxGo (fun x => y == x) i (l.drop i) = idx (fun x => y == x) l) l.length ⟨0, rfl, rfl, by omega, rfl, rfl⟩ ?_
  rintro m e H'' ⟨i, rfl, rfl, hi, rfl, hinv⟩
  by_cases hlt : i < l.length
  · have e0 : cs[o + i]? = some (Value.int .i64 (l.getD i 0)) := by have := hcs i hlt 0 (by omega); simpa [ienc] using this
    rw [drop_cons 0 l i hlt] at hinv
    unfold idxGo at hinv
    clear hcs
    generalize l.getD i 0 = x at *
    by_cases hp : (y == x) = true
    · rw [if_pos hp] at hinv
      rw [← hinv]
      repeat' first | simp (disch := first | with_reducible assumption | omega) only [go_sem, Bool.true_and, Bool.and_true, Bool.and_self, Bool.false_and, Bool.and_false, Bool.true_or, Bool.or_true, Bool.false_or, Bool.or_false, ↓reduceIte, Nat.reduceEqDiff, Nat.reduceAdd, Nat.reduceMul, Nat.reduceSub, Nat.reduceBEq, Nat.reduceLeDiff, Nat.reduceLT, Nat.reduceMod, Nat.reduceDiv, Int.reduceToNat, Int.reducePow, Int.reduceMul, Int.reduceAdd, Int.reduceSub, Int.reduceLE, Int.reduceLT, Int.reduceNeg, Int.reduceDiv, Int.reduceMod, Int.reduceEq, Int.reduceBEq, Int.reduceBNe, f24, f24b, f24r0, f24r1, f24r2, f24r3, f24r4, f24r5, f24r6, f24r8, f24l0, f24, f24b, f24r0, f24r1, f24r2, f24r3, f24r4, f24r5, f24r6, f24r8, hk, e0, hp] | (refine BrW.of (fun hb => ?_) (fun hb => ?_) <;> (have hb' := hb; try simp only [decide_eq_true_eq, decide_eq_false_iff_not, beq_iff_eq, bne_iff_ne, beq_eq_false_iff_ne, bne_eq_false_iff_eq, Bool.not_eq_true', Bool.not_eq_false', Bool.not_eq_true, Bool.not_eq_false, Bool.and_eq_true, Bool.or_eq_true, Bool.and_eq_false_iff, Bool.or_eq_false_iff, Int.not_lt, Int.not_le, ne_eq, gt_iff_lt, ge_iff_le] at hb') <;> (try (exfalso; omega))) | (refine altW.of ?_ ?_)
      exact .here ⟨rfl, rfl⟩
    · rw [if_neg hp] at hinv
      have hp' : (y == x) = false := by simpa using hp
      repeat' first | simp (disch := first | with_reducible assumption | omega) only [go_sem, Bool.true_and, Bool.and_true, Bool.and_self, Bool.false_and, Bool.and_false, Bool.true_or, Bool.or_true, Bool.false_or, Bool.or_false, ↓reduceIte, Nat.reduceEqDiff, Nat.reduceAdd, Nat.reduceMul, Nat.reduceSub, Nat.reduceBEq, Nat.reduceLeDiff, Nat.reduceLT, Nat.reduceMod, Nat.reduceDiv, Int.reduceToNat, Int.reducePow, Int.reduceMul, Int.reduceAdd, Int.reduceSub, Int.reduceLE, Int.reduceLT, Int.reduceNeg, Int.reduceDiv, Int.reduceMod, Int.reduceEq, Int.reduceBEq, Int.reduceBNe, f24, f24b, f24r0, f24r1, f24r2, f24r3, f24r4, f24r5, f24r6, f24r8, f24l0, f24, f24b, f24r0, f24r1, f24r2, f24r3, f24r4, f24r5, f24r6, f24r8, hk, e0, hp'] | (refine BrW.of (fun hb => ?_) (fun hb => ?_) <;> (have hb' := hb; try simp only [decide_eq_true_eq, decide_eq_false_iff_not, beq_iff_eq, bne_iff_ne, beq_eq_false_iff_ne, bne_eq_false_iff_eq, Bool.not_eq_true', Bool.not_eq_false', Bool.not_eq_true, Bool.not_eq_false, Bool.and_eq_true, Bool.or_eq_true, Bool.and_eq_false_iff, Bool.or_eq_false_iff, Int.not_lt, Int.not_le, ne_eq, gt_iff_lt, ge_iff_le] at hb') <;> (try (exfalso; omega))) | (refine altW.of ?_ ?_)
      refine RdW.keep [0, 1, 7, 8] (l.length - (i + 1)) (by omega) ?_
      simp (disch := first | with_reducible assumption | omega) only [go_sem, Bool.true_and, Bool.and_true, Bool.and_self, Bool.false_and, Bool.and_false, Bool.true_or, Bool.or_true, Bool.false_or, Bool.or_false, ↓reduceIte, Nat.reduceEqDiff, Nat.reduceAdd, Nat.reduceMul, Nat.reduceSub, Nat.reduceBEq, Nat.reduceLeDiff, Nat.reduceLT, Nat.reduceMod, Nat.reduceDiv, Int.reduceToNat, Int.reducePow, Int.reduceMul, Int.reduceAdd, Int.reduceSub, Int.reduceLE, Int.reduceLT, Int.reduceNeg, Int.reduceDiv, Int.reduceMod, Int.reduceEq, Int.reduceBEq, Int.reduceBNe]
      exact ⟨i + 1, rfl, by omega, rfl, hinv⟩
  · obtain rfl : i = l.length := by omega
    rw [List.drop_eq_nil_of_le (by omega)] at hinv
    have hx : idx (fun x => y == x) l = -1 := by rw [← hinv]; rfl
    repeat' first | simp (disch := first | with_reducible assumption | omega) only [go_sem, Bool.true_and, Bool.and_true, Bool.and_self, Bool.false_and, Bool.and_false, Bool.true_or, Bool.or_true, Bool.false_or, Bool.or_false, ↓reduceIte, Nat.reduceEqDiff, Nat.reduceAdd, Nat.reduceMul, Nat.reduceSub, Nat.reduceBEq, Nat.reduceLeDiff, Nat.reduceLT, Nat.reduceMod, Nat.reduceDiv, Int.reduceToNat, Int.reducePow, Int.reduceMul, Int.reduceAdd, Int.reduceSub, Int.reduceLE, Int.reduceLT, Int.reduceNeg, Int.reduceDiv, Int.reduceMod, Int.reduceEq, Int.reduceBEq, Int.reduceBNe, f24, f24b, f24r0, f24r1, f24r2, f24r3, f24r4, f24r5, f24r6, f24r8, f24l0, f24, f24b, f24r0, f24r1, f24r2, f24r3, f24r4, f24r5, f24r6, f24r8, hk] | (refine BrW.of (fun hb => ?_) (fun hb => ?_) <;> (have hb' := hb; try simp only [decide_eq_true_eq, decide_eq_false_iff_not, beq_iff_eq, bne_iff_ne, beq_eq_false_iff_ne, bne_eq_false_iff_eq, Bool.not_eq_true', Bool.not_eq_false', Bool.not_eq_true, Bool.not_eq_false, Bool.and_eq_true, Bool.or_eq_true, Bool.and_eq_false_iff, Bool.or_eq_false_iff, Int.not_lt, Int.not_le, ne_eq, gt_iff_lt, ge_iff_le] at hb') <;> (try (exfalso; omega))) | (refine altW.of ?_ ?_)
    exact .here ⟨by rw [hx], rfl⟩

theorem ContainsI_spec (y : Int) (l : List Int) (k o g c : Nat) (H : Heap) (hs : Tbl Int ienc 1 0 H k o g l) (hl : l.length ≤ 9223372036854775807) :
    ACallK Try.prog 11 [slv k o g l.length c, Value.int .i64 y] H (fun v H' => v = .bool (l.any (fun x => y == x)) ∧ H' = H) := by
  refine .walkW f11_ok (by simp; decide) (by decide) ?_
  repeat' first | simp (disch := first | with_reducible assumption | omega) only [go_sem, Bool.true_and, Bool.and_true, Bool.and_self, Bool.false_and, Bool.and_false, Bool.true_or, Bool.or_true, Bool.false_or, Bool.or_false, ↓reduceIte, Nat.reduceEqDiff, Nat.reduceAdd, Nat.reduceMul, Nat.reduceSub, Nat.reduceBEq, Nat.reduceLeDiff, Nat.reduceLT, Nat.reduceMod, Nat.reduceDiv, Int.reduceToNat, Int.reducePow, Int.reduceMul, Int.reduceAdd, Int.reduceSub, Int.reduceLE, Int.reduceLT, Int.reduceNeg, Int.reduceDiv, Int.reduceMod, Int.reduceEq, Int.reduceBEq, Int.reduceBNe, f11, f11b, f11r0, f11r1] | (refine BrW.of (fun hb => ?_) (fun hb => ?_) <;> (have hb' := hb; try simp only [decide_eq_true_eq, decide_eq_false_iff_not, beq_iff_eq, bne_iff_ne, beq_eq_false_iff_ne, bne_eq_false_iff_eq, Bool.not_eq_true', Bool.not_eq_false', Bool.not_eq_true, Bool.not_eq_false, Bool.and_eq_true, Bool.or_eq_true, Bool.and_eq_false_iff, Bool.or_eq_false_iff, Int.not_lt, Int.not_le, ne_eq, gt_iff_lt, ge_iff_le] at hb') <;> (try (exfalso; omega))) | (refine altW.of ?_ ?_) | (refine .of ((IndexI_spec y l k o g c H hs hl).mono ?_); rintro v _ ⟨rfl, rfl⟩)
  exact .here ⟨by rw [← idx_any], rfl⟩

theorem CloneI_spec (l : List Int) (k o g c : Nat) (H : Heap) (hs : Tbl Int ienc 1 0 H k o g l) (hl : l.length ≤ 1099511627776) (hc : l.length ≤ c) :
    ACallK Try.prog 13 [slv k o g l.length c] H (fun v H' => ∃ g', v = slv H.length 0 g' l.length l.length ∧ H' = H ++ [.cells g' 1 false (flat' ienc l)]) := by
  obtain ⟨ro, cs, hk, hle, hcs⟩ := hs.at'
  have ht := Tbl.cells (enc := ienc) (fun _ => rfl) hle hcs
  try simp only [Nat.mul_one] at ht
  refine .walkW f13_ok (by simp; decide) (by decide) ?_
  have hkn := get_old hk
  simp (disch := first | with_reducible assumption | omega) only [go_sem, Bool.true_and, Bool.and_true, Bool.and_self, Bool.false_and, Bool.and_false, Bool.true_or, Bool.or_true, Bool.false_or, Bool.or_false, ↓reduceIte, Nat.reduceEqDiff, Nat.reduceAdd, Nat.reduceMul, Nat.reduceSub, Nat.reduceBEq, Nat.reduceLeDiff, Nat.reduceLT, Nat.reduceMod, Nat.reduceDiv, Int.reduceToNat, Int.reducePow, Int.reduceMul, Int.reduceAdd, Int.reduceSub, Int.reduceLE, Int.reduceLT, Int.reduceNeg, Int.reduceDiv, Int.reduceMod, Int.reduceEq, Int.reduceBEq, Int.reduceBNe, f13, f13b, f13r0, f13r1, f13r2, f13r3, hk]
  refine .of ?_ (fun hn => ?_)
  · by_cases hz : l.length = 0
    · have hb : flat' ienc l = [] := by rw [List.length_eq_zero_iff.1 hz]; rfl
      simp (disch := first | with_reducible assumption | omega) only [go_sem, Bool.true_and, Bool.and_true, Bool.and_self, Bool.false_and, Bool.and_false, Bool.true_or, Bool.or_true, Bool.false_or, Bool.or_false, ↓reduceIte, Nat.reduceEqDiff, Nat.reduceAdd, Nat.reduceMul, Nat.reduceSub, Nat.reduceBEq, Nat.reduceLeDiff, Nat.reduceLT, Nat.reduceMod, Nat.reduceDiv, Int.reduceToNat, Int.reducePow, Int.reduceMul, Int.reduceAdd, Int.reduceSub, Int.reduceLE, Int.reduceLT, Int.reduceNeg, Int.reduceDiv, Int.reduceMod, Int.reduceEq, Int.reduceBEq, Int.reduceBNe, f13, f13b, f13r0, f13r1, f13r2, f13r3, hk, hkn, hz]
      exact .here ⟨0, by rw [hz], by rw [hb]⟩
    · have hz' : ¬ l.length ≤ 0 := by omega
      simp (disch := first | with_reducible assumption | omega) only [go_sem, Bool.true_and, Bool.and_true, Bool.and_self, Bool.false_and, Bool.and_false, Bool.true_or, Bool.or_true, Bool.false_or, Bool.or_false, ↓reduceIte, Nat.reduceEqDiff, Nat.reduceAdd, Nat.reduceMul, Nat.reduceSub, Nat.reduceBEq, Nat.reduceLeDiff, Nat.reduceLT, Nat.reduceMod, Nat.reduceDiv, Int.reduceToNat, Int.reducePow, Int.reduceMul, Int.reduceAdd, Int.reduceSub, Int.reduceLE, Int.reduceLT, Int.reduceNeg, Int.reduceDiv, Int.reduceMod, Int.reduceEq, Int.reduceBEq, Int.reduceBNe, f13, f13b, f13r0, f13r1, f13r2, f13r3, hk, hkn, hz, hz', ht, List.take_zero, List.drop_nil]
      exact .here ⟨1, rfl, rfl⟩
  · have hz : l.length = 0 := by have : c = 0 := by simpa using hn
                                 omega
    have hb : flat' ienc l = [] := by rw [List.length_eq_zero_iff.1 hz]; rfl
    simp (disch := first | with_reducible assumption | omega) only [go_sem, Bool.true_and, Bool.and_true, Bool.and_self, Bool.false_and, Bool.and_false, Bool.true_or, Bool.or_true, Bool.false_or, Bool.or_false, ↓reduceIte, Nat.reduceEqDiff, Nat.reduceAdd, Nat.reduceMul, Nat.reduceSub, Nat.reduceBEq, Nat.reduceLeDiff, Nat.reduceLT, Nat.reduceMod, Nat.reduceDiv, Int.reduceToNat, Int.reducePow, Int.reduceMul, Int.reduceAdd, Int.reduceSub, Int.reduceLE, Int.reduceLT, Int.reduceNeg, Int.reduceDiv, Int.reduceMod, Int.reduceEq, Int.reduceBEq, Int.reduceBNe, f13, f13b, f13r0, f13r1, f13r2, f13r3, hk]
    refine .ghost 1 false ⟨0, by rw [hz], by rw [hb]⟩

theorem isIt_spec (x id : Int) (K : Nat) (H : Heap) (hk : H[K]? = some (.cells 0 0 false [.int .i64 id])) : ACallK Try.prog 14 [.int .i64 x, .pointer (some ⟨K, 0, some 1⟩)] H (fun v H' => v = .bool (x == id) ∧ H' = H) := by
  refine .walkW f14_ok (by simp; decide) (by decide) ?_
  repeat' first | simp (disch := first | with_reducible assumption | omega) only [go_sem, Bool.true_and, Bool.and_true, Bool.and_self, Bool.false_and, Bool.and_false, Bool.true_or, Bool.or_true, Bool.false_or, Bool.or_false, ↓reduceIte, Nat.reduceEqDiff, Nat.reduceAdd, Nat.reduceMul, Nat.reduceSub, Nat.reduceBEq, Nat.reduceLeDiff, Nat.reduceLT, Nat.reduceMod, Nat.reduceDiv, Int.reduceToNat, Int.reducePow, Int.reduceMul, Int.reduceAdd, Int.reduceSub, Int.reduceLE, Int.reduceLT, Int.reduceNeg, Int.reduceDiv, Int.reduceMod, Int.reduceEq, Int.reduceBEq, Int.reduceBNe, f14, f14b, f14r0, f14r1, hk] | (refine BrW.of (fun hb => ?_) (fun hb => ?_) <;> (have hb' := hb; try simp only [decide_eq_true_eq, decide_eq_false_iff_not, beq_iff_eq, bne_iff_ne, beq_eq_false_iff_ne, bne_eq_false_iff_eq, Bool.not_eq_true', Bool.not_eq_false', Bool.not_eq_true, Bool.not_eq_false, Bool.and_eq_true, Bool.or_eq_true, Bool.and_eq_false_iff, Bool.or_eq_false_iff, Int.not_lt, Int.not_le, ne_eq, gt_iff_lt, ge_iff_le] at hb') <;> (try (exfalso; omega))) | (refine altW.of ?_ ?_)
  exact .here ⟨rfl, rfl⟩
theorem set_self {H : Heap} {k : Nat} {o : AObj} (h : H[k]? = some o) : H.set k o = H := by
  refine List.ext_getElem? fun j => ?_
  by_cases e : j = k
  · subst e; rw [List.getElem?_set_self (List.getElem?_eq_some_iff.1 h).1, h]
  · rw [List.getElem?_set_ne (Ne.symm e)]
theorem wr_zeros (C : List Int) (i : Nat) (hi : i ≤ C.length) : wr (ints C) i (List.replicate (C.length - i) [Value.int .i64 0]).flatten = ints (C.take i ++ List.replicate (C.length - i) 0) := by
  have h1 : (List.replicate (C.length - i) [Value.int IntKind.i64 0]).flatten = ints (List.replicate (C.length - i) 0) := by
    generalize C.length - i = m
    induction m with
    | zero => rfl
    | succ m ih => simp only [List.replicate_succ, List.flatten_cons, ih]; rfl
  have hl : (ints (List.replicate (C.length - i) 0)).length = C.length - i := by rw [ints_length, List.length_replicate]
  rw [h1]
  refine List.ext_getElem? fun j => ?_
  by_cases hj : j < i
  · rw [wr_miss _ _ _ _ (.inl hj), ← ints_app, List.getElem?_append_left (by rw [ints_length, List.length_take]; omega)]
    unfold ints
    rw [List.getElem?_map, List.getElem?_map, List.getElem?_take_of_lt hj]
  · by_cases hj2 : j < C.length
    · obtain ⟨d, rfl⟩ : ∃ d, j = i + d := ⟨j - i, by omega⟩
      rw [wr_hit _ _ _ _ (by omega) (by rw [hl, ints_length]; omega), ← ints_app, List.getElem?_append_right (by rw [ints_length, List.length_take]; omega), ints_length, List.length_take, Nat.min_eq_left (by omega), Nat.add_sub_cancel_left]
    · rw [wr_miss _ _ _ _ (.inr (by rw [hl]; omega)), List.getElem?_eq_none (by rw [ints_length]; omega), List.getElem?_eq_none (by rw [ints_length, List.length_append, List.length_take, List.length_replicate]; omega)]
def notI (id : Int) (x : Int) : Bool := !(x == id)
/-- The others stay. -/
theorem Del_spec (id : Int) (l : List Int) (k g K : Nat) (H : Heap) (hb9 : H[k]? = some (.cells g 1 false (ints l))) (hbox : H[K]? = some (.cells 0 0 false [.int .i64 id])) (hkK : k ≠ K) (hl : l.length ≤ 1099511627776) :
    ACallK Try.prog 12 [slv k 0 g l.length l.length, .func (.func 14) #[] #[.pointer (some ⟨K, 0, some 1⟩)]] H (fun v H' => ∃ C : List Int, v = slv k 0 g (l.filter (notI id)).length l.length ∧ H' = H.set k (.cells g 1 false (ints C)) ∧ (l.filter (notI id)).length ≤ C.length ∧ C.take (l.filter (notI id)).length = l.filter (notI id)) := by
  have hI := IndexF_spec (fun x => x == id) 14 [.pointer (some ⟨K, 0, some 1⟩)] l k 0 g l.length H (Ints.new H k g false l hb9) (by omega) (fun i hi => isIt_spec _ id K H hbox)
  have hix := idx_spec (fun x => x == id) 0 l
  have fl := ints_length l
  refine .walkW f12_ok (by simp; decide) (by decide) ?_
  rcases hix with ⟨h1, h2⟩ | ⟨i0, h1, h2, h3, h4⟩
  · rw [h1] at hI
    have hf : l.filter (notI id) = l := List.filter_eq_self.2 fun x hx => by unfold notI; rw [h2 x hx]; rfl
    repeat' first | simp (disch := first | with_reducible assumption | omega) only [go_sem, Bool.true_and, Bool.and_true, Bool.and_self, Bool.false_and, Bool.and_false, Bool.true_or, Bool.or_true, Bool.false_or, Bool.or_false, ↓reduceIte, Nat.reduceEqDiff, Nat.reduceAdd, Nat.reduceMul, Nat.reduceSub, Nat.reduceBEq, Nat.reduceLeDiff, Nat.reduceLT, Nat.reduceMod, Nat.reduceDiv, Int.reduceToNat, Int.reducePow, Int.reduceMul, Int.reduceAdd, Int.reduceSub, Int.reduceLE, Int.reduceLT, Int.reduceNeg, Int.reduceDiv, Int.reduceMod, Int.reduceEq, Int.reduceBEq, Int.reduceBNe, f12, f12b, f12r0, f12r1, f12r2, f12r3, f12r4, f12r5, f12r6, f12r7, f12r8, f12r9, f12r10, f12r12, f12r13] | (refine BrW.of (fun hb => ?_) (fun hb => ?_) <;> (have hb' := hb; try simp only [decide_eq_true_eq, decide_eq_false_iff_not, beq_iff_eq, bne_iff_ne, beq_eq_false_iff_ne, bne_eq_false_iff_eq, Bool.not_eq_true', Bool.not_eq_false', Bool.not_eq_true, Bool.not_eq_false, Bool.and_eq_true, Bool.or_eq_true, Bool.and_eq_false_iff, Bool.or_eq_false_iff, Int.not_lt, Int.not_le, ne_eq, gt_iff_lt, ge_iff_le] at hb') <;> (try (exfalso; omega))) | (refine altW.of ?_ ?_) | (refine .of (hI.mono ?_); rintro v J ⟨rfl, hJ⟩; obtain rfl := hJ.symm)
    exact .here ⟨l, by rw [hf], (set_self hb9).symm, by rw [hf]; exact Nat.le_refl _, by rw [hf, List.take_length]⟩
  · rw [h2] at hI
    have hfs : ∀ j, j < l.length → (l.take (j + 1)).filter (notI id) = (l.take j).filter (notI id) ++ (if notI id (l.getD j 0) = true then [l.getD j 0] else []) := fun j hj => by
      rw [take_snoc 0 l j hj, List.filter_append]
      congr 1
      rw [List.filter_cons]
      split <;> rfl
    have hf0 : ∀ j, j ≤ i0 → (l.take j).filter (notI id) = l.take j := fun j hj => List.filter_eq_self.2 fun x hx => by
      obtain ⟨p, hp, he⟩ := List.getElem_of_mem hx
      rw [List.length_take] at hp
      have := h4 p (by omega)
      rw [List.getD_eq_getElem?_getD, List.getElem?_eq_getElem (by omega)] at this
      rw [List.getElem_take] at he
      unfold notI
      rw [← he]
      simp only [Option.getD_some] at this
      rw [this]; rfl
    have hs0 : (l.take (i0 + 1)).filter (notI id) = l.take i0 := by
      have hn : ¬ notI id (l.getD i0 0) = true := by unfold notI; have h3 : (l.getD i0 0 == id) = true := h3; rw [h3]; decide
      rw [hfs i0 h1, hf0 i0 (Nat.le_refl _), if_neg hn, List.append_nil]
    repeat' first | simp (disch := first | with_reducible assumption | omega) only [go_sem, Bool.true_and, Bool.and_true, Bool.and_self, Bool.false_and, Bool.and_false, Bool.true_or, Bool.or_true, Bool.false_or, Bool.or_false, ↓reduceIte, Nat.reduceEqDiff, Nat.reduceAdd, Nat.reduceMul, Nat.reduceSub, Nat.reduceBEq, Nat.reduceLeDiff, Nat.reduceLT, Nat.reduceMod, Nat.reduceDiv, Int.reduceToNat, Int.reducePow, Int.reduceMul, Int.reduceAdd, Int.reduceSub, Int.reduceLE, Int.reduceLT, Int.reduceNeg, Int.reduceDiv, Int.reduceMod, Int.reduceEq, Int.reduceBEq, Int.reduceBNe, f12, f12b, f12r0, f12r1, f12r2, f12r3, f12r4, f12r5, f12r6, f12r7, f12r8, f12r9, f12r10, f12r12, f12r13] | (refine BrW.of (fun hb => ?_) (fun hb => ?_) <;> (have hb' := hb; try simp only [decide_eq_true_eq, decide_eq_false_iff_not, beq_iff_eq, bne_iff_ne, beq_eq_false_iff_ne, bne_eq_false_iff_eq, Bool.not_eq_true', Bool.not_eq_false', Bool.not_eq_true, Bool.not_eq_false, Bool.and_eq_true, Bool.or_eq_true, Bool.and_eq_false_iff, Bool.or_eq_false_iff, Int.not_lt, Int.not_le, ne_eq, gt_iff_lt, ge_iff_le] at hb') <;> (try (exfalso; omega))) | (refine altW.of ?_ ?_) | (refine .of (hI.mono ?_); rintro v J ⟨rfl, hJ⟩; obtain rfl := hJ.symm)
    all_goals first | (exfalso; omega) | skip
    refine loopW.of (by decide) (fun m e J => ∃ (i j : Nat) (C : List Int), e = [(0, slv k 0 g l.length l.length), (1, .func (.func 14) #[] #[.pointer (some ⟨K, 0, some 1⟩)]), (5, .int .i64 i), (6, .int .i64 j)] ∧ J = H.set k (.cells g 1 false (ints C)) ∧ i < j ∧ j ≤ l.length ∧ m = l.length - j ∧ C.length = l.length ∧ C.take i = (l.take j).filter (notI id) ∧ (∀ p, j ≤ p → C.getD p 0 = l.getD p 0)) (l.length - (i0 + 1)) ⟨i0, i0 + 1, l, by first | rfl | (simp), (set_self hb9).symm, by omega, by omega, rfl, rfl, hs0.symm, fun p hp => rfl⟩ ?_
    clear hI h4 hf0 hs0 h3 h2
    rintro m e J ⟨i, j, C, rfl, rfl, hij, hj, rfl, hC, hCt, hCd⟩
    have hbJ : ∀ X, (H.set k X)[k]? = some X := fun X => get_set_hit hb9
    have hKJ : ∀ X, (H.set k X)[K]? = _ := fun X => (get_set_miss (by omega)).trans hbox
    have flC := ints_length C
    by_cases hjl : j < l.length
    · have e0 := ints_get C j (by omega)
      rw [hCd j (Nat.le_refl _)] at e0
      have hfj := hfs j hjl
      have hcl := isIt_spec (l.getD j 0) id K (H.set k (.cells g 1 false (ints C))) (hKJ _)
      have hil : i = ((l.take j).filter (notI id)).length := by rw [← hCt, List.length_take]; omega
      by_cases hx : (l.getD j 0 == id) = true
      · rw [if_neg (by unfold notI; rw [hx]; decide), List.append_nil] at hfj
        rw [hx] at hcl
        clear hfs
        generalize l.getD j 0 = x at *
        rw [hC] at flC
        repeat' first | simp (disch := first | with_reducible assumption | omega) only [go_sem, Bool.true_and, Bool.and_true, Bool.and_self, Bool.false_and, Bool.and_false, Bool.true_or, Bool.or_true, Bool.false_or, Bool.or_false, ↓reduceIte, Nat.reduceEqDiff, Nat.reduceAdd, Nat.reduceMul, Nat.reduceSub, Nat.reduceBEq, Nat.reduceLeDiff, Nat.reduceLT, Nat.reduceMod, Nat.reduceDiv, Int.reduceToNat, Int.reducePow, Int.reduceMul, Int.reduceAdd, Int.reduceSub, Int.reduceLE, Int.reduceLT, Int.reduceNeg, Int.reduceDiv, Int.reduceMod, Int.reduceEq, Int.reduceBEq, Int.reduceBNe, f12, f12b, f12r0, f12r1, f12r2, f12r3, f12r4, f12r5, f12r6, f12r7, f12r8, f12r9, f12r10, f12r12, f12r13, f12l0, hbJ, e0, flC] | (refine BrW.of (fun hb => ?_) (fun hb => ?_) <;> (have hb' := hb; try simp only [decide_eq_true_eq, decide_eq_false_iff_not, beq_iff_eq, bne_iff_ne, beq_eq_false_iff_ne, bne_eq_false_iff_eq, Bool.not_eq_true', Bool.not_eq_false', Bool.not_eq_true, Bool.not_eq_false, Bool.and_eq_true, Bool.or_eq_true, Bool.and_eq_false_iff, Bool.or_eq_false_iff, Int.not_lt, Int.not_le, ne_eq, gt_iff_lt, ge_iff_le] at hb') <;> (try (exfalso; omega))) | (refine altW.of ?_ ?_) | (refine .of (hcl.mono ?_); rintro v _ ⟨rfl, rfl⟩)
        all_goals first | (exfalso; omega) | skip
        refine RdW.keep [0, 1, 5, 6] (l.length - (j + 1)) (by omega) ?_
        simp (disch := first | with_reducible assumption | omega) only [go_sem, Bool.true_and, Bool.and_true, Bool.and_self, Bool.false_and, Bool.and_false, Bool.true_or, Bool.or_true, Bool.false_or, Bool.or_false, ↓reduceIte, Nat.reduceEqDiff, Nat.reduceAdd, Nat.reduceMul, Nat.reduceSub, Nat.reduceBEq, Nat.reduceLeDiff, Nat.reduceLT, Nat.reduceMod, Nat.reduceDiv, Int.reduceToNat, Int.reducePow, Int.reduceMul, Int.reduceAdd, Int.reduceSub, Int.reduceLE, Int.reduceLT, Int.reduceNeg, Int.reduceDiv, Int.reduceMod, Int.reduceEq, Int.reduceBEq, Int.reduceBNe]
        exact ⟨i, j + 1, C, rfl, rfl, by omega, by omega, rfl, hC, by rw [hfj]; exact hCt, fun p hp => hCd p (by omega)⟩
      · have hx' : (l.getD j 0 == id) = false := by simpa using hx
        rw [if_pos (by unfold notI; rw [hx']; decide)] at hfj
        rw [hx'] at hcl
        have hset := ints_set C i (l.getD j 0)
        have hCt' : (C.set i (l.getD j 0)).take (i + 1) = (l.take (j + 1)).filter (notI id) := by
          rw [hfj, ← hCt, take_snoc 0 _ i (by rw [List.length_set]; omega)]
          congr 1
          · rw [List.take_set_of_le (Nat.le_refl _)]
          · rw [List.getD_eq_getElem?_getD, List.getElem?_set_self (by omega)]; rfl
        have hCd' : ∀ p, j + 1 ≤ p → (C.set i (l.getD j 0)).getD p 0 = l.getD p 0 := fun p hp => by
          rw [← hCd p (by omega), List.getD_eq_getElem?_getD, List.getElem?_set_ne (by omega), ← List.getD_eq_getElem?_getD]
        clear hfs
        generalize l.getD j 0 = x at *
        rw [hC] at flC
        repeat' first | simp (disch := first | with_reducible assumption | omega) only [go_sem, Bool.true_and, Bool.and_true, Bool.and_self, Bool.false_and, Bool.and_false, Bool.true_or, Bool.or_true, Bool.false_or, Bool.or_false, ↓reduceIte, Nat.reduceEqDiff, Nat.reduceAdd, Nat.reduceMul, Nat.reduceSub, Nat.reduceBEq, Nat.reduceLeDiff, Nat.reduceLT, Nat.reduceMod, Nat.reduceDiv, Int.reduceToNat, Int.reducePow, Int.reduceMul, Int.reduceAdd, Int.reduceSub, Int.reduceLE, Int.reduceLT, Int.reduceNeg, Int.reduceDiv, Int.reduceMod, Int.reduceEq, Int.reduceBEq, Int.reduceBNe, f12, f12b, f12r0, f12r1, f12r2, f12r3, f12r4, f12r5, f12r6, f12r7, f12r8, f12r9, f12r10, f12r12, f12r13, f12l0, hbJ, e0, flC, hset, List.set_set] | (refine BrW.of (fun hb => ?_) (fun hb => ?_) <;> (have hb' := hb; try simp only [decide_eq_true_eq, decide_eq_false_iff_not, beq_iff_eq, bne_iff_ne, beq_eq_false_iff_ne, bne_eq_false_iff_eq, Bool.not_eq_true', Bool.not_eq_false', Bool.not_eq_true, Bool.not_eq_false, Bool.and_eq_true, Bool.or_eq_true, Bool.and_eq_false_iff, Bool.or_eq_false_iff, Int.not_lt, Int.not_le, ne_eq, gt_iff_lt, ge_iff_le] at hb') <;> (try (exfalso; omega))) | (refine altW.of ?_ ?_) | (refine .of (hcl.mono ?_); rintro v _ ⟨rfl, rfl⟩)
        all_goals first | (exfalso; omega) | skip
        refine RdW.keep [0, 1, 5, 6] (l.length - (j + 1)) (by omega) ?_
        simp (disch := first | with_reducible assumption | omega) only [go_sem, Bool.true_and, Bool.and_true, Bool.and_self, Bool.false_and, Bool.and_false, Bool.true_or, Bool.or_true, Bool.false_or, Bool.or_false, ↓reduceIte, Nat.reduceEqDiff, Nat.reduceAdd, Nat.reduceMul, Nat.reduceSub, Nat.reduceBEq, Nat.reduceLeDiff, Nat.reduceLT, Nat.reduceMod, Nat.reduceDiv, Int.reduceToNat, Int.reducePow, Int.reduceMul, Int.reduceAdd, Int.reduceSub, Int.reduceLE, Int.reduceLT, Int.reduceNeg, Int.reduceDiv, Int.reduceMod, Int.reduceEq, Int.reduceBEq, Int.reduceBNe]
        exact ⟨i + 1, j + 1, C.set i x, rfl, rfl, by omega, by omega, rfl, by rw [List.length_set]; exact hC, hCt', hCd'⟩
    · obtain rfl : j = l.length := by omega
      rw [List.take_length] at hCt
      have hwr := wr_zeros C i (by omega)
      rw [hC] at hwr
      have hlen : (l.filter (notI id)).length = i := by rw [← hCt, List.length_take]; omega
      have hni : ¬ l.length - i = 0 := by omega
      have fl2 := ints_length (C.take i ++ List.replicate (l.length - i) 0)
      rw [List.length_append, List.length_take, List.length_replicate, Nat.min_eq_left (by omega), show i + (l.length - i) = l.length by omega] at fl2
      rw [hC] at flC
      rw [hlen]
      repeat' first | simp (disch := first | with_reducible assumption | omega) only [go_sem, Bool.true_and, Bool.and_true, Bool.and_self, Bool.false_and, Bool.and_false, Bool.true_or, Bool.or_true, Bool.false_or, Bool.or_false, ↓reduceIte, Nat.reduceEqDiff, Nat.reduceAdd, Nat.reduceMul, Nat.reduceSub, Nat.reduceBEq, Nat.reduceLeDiff, Nat.reduceLT, Nat.reduceMod, Nat.reduceDiv, Int.reduceToNat, Int.reducePow, Int.reduceMul, Int.reduceAdd, Int.reduceSub, Int.reduceLE, Int.reduceLT, Int.reduceNeg, Int.reduceDiv, Int.reduceMod, Int.reduceEq, Int.reduceBEq, Int.reduceBNe, f12, f12b, f12r0, f12r1, f12r2, f12r3, f12r4, f12r5, f12r6, f12r7, f12r8, f12r9, f12r10, f12r12, f12r13, f12l0, f12, f12b, f12r0, f12r1, f12r2, f12r3, f12r4, f12r5, f12r6, f12r7, f12r8, f12r9, f12r10, f12r12, f12r13, hbJ, flC, fl2, hwr, hni, List.set_set] | (refine BrW.of (fun hb => ?_) (fun hb => ?_) <;> (have hb' := hb; try simp only [decide_eq_true_eq, decide_eq_false_iff_not, beq_iff_eq, bne_iff_ne, beq_eq_false_iff_ne, bne_eq_false_iff_eq, Bool.not_eq_true', Bool.not_eq_false', Bool.not_eq_true, Bool.not_eq_false, Bool.and_eq_true, Bool.or_eq_true, Bool.and_eq_false_iff, Bool.or_eq_false_iff, Int.not_lt, Int.not_le, ne_eq, gt_iff_lt, ge_iff_le] at hb') <;> (try (exfalso; omega))) | (refine altW.of ?_ ?_)
      all_goals first | (exfalso; omega) | skip
      refine .here ⟨C.take i ++ List.replicate (l.length - i) 0, rfl, rfl, by rw [List.length_append, List.length_take]; omega, ?_⟩
      rw [List.take_append_of_le_length (by rw [List.length_take]; omega), List.take_take, Nat.min_self]
      exact hCt
end Go.Proofs.Ytjdmpkaiijcchaa
