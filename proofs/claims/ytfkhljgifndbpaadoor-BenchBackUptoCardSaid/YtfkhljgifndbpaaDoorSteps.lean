import Derived.Test.YtfkhljgifndbpaaDoorCon
import Derived.Test.YtfkhljgifndbpaaDoorPlain2
-- STRINGS
set_option linter.unusedSimpArgs false
set_option linter.unusedVariables false
set_option maxHeartbeats 4000000
set_option maxRecDepth 20000
namespace Go.Proofs.YtfkhljgifndbpaaDoor
open Go Go.Am
attribute [local irreducible] opsW Ww loopW callW drawW outW outDW gW cW BrW bothW vW resW DropW RdW dcallW altW forkW splitW Later.run

/-- All but one object are as they were. -/
def Fr (k : Nat) (H J : Heap) : Prop := H.length ≤ J.length ∧ ∀ j, j < H.length → j ≠ k → J[j]? = H[j]?
theorem words_spec (H : Heap) : ACallK Tryd.prog 19 [] H (fun v H' => v = slv H.length 0 0 3 3 ∧ H' = H ++ [.cells 0 1 false [str inB, str tickB, str pollB]]) := by
  refine .walkW f19_ok (by simp) (by decide) ?_
  repeat' first | simp (disch := first | with_reducible assumption | omega | (simp only [List.length_append, List.length_cons, List.length_nil]; omega)) only [go_sem, Bool.true_and, Bool.and_true, Bool.and_self, Bool.false_and, Bool.and_false, Bool.true_or, Bool.or_true, Bool.false_or, Bool.or_false, ↓reduceIte, Nat.reduceEqDiff, Nat.reduceAdd, Nat.reduceMul, Nat.reduceSub, Nat.reduceBEq, Nat.reduceLeDiff, Nat.reduceLT, Nat.reduceMod, Nat.reduceDiv, Int.reduceToNat, Int.reducePow, Int.reduceMul, Int.reduceAdd, Int.reduceSub, Int.reduceLE, Int.reduceLT, Int.reduceNeg, Int.reduceDiv, Int.reduceMod, Int.reduceEq, Int.reduceBEq, Int.reduceBNe, f19, f19b, f19r0, f19r1] | (refine BrW.of (fun hb => ?_) (fun hb => ?_) <;> (have hb' := hb; try simp only [decide_eq_true_eq, decide_eq_false_iff_not, beq_iff_eq, bne_iff_ne, beq_eq_false_iff_ne, bne_eq_false_iff_eq, Bool.not_eq_true', Bool.not_eq_false', Bool.not_eq_true, Bool.not_eq_false, Bool.and_eq_true, Bool.or_eq_true, Bool.and_eq_false_iff, Bool.or_eq_false_iff, Int.not_lt, Int.not_le, ne_eq, gt_iff_lt, ge_iff_le] at hb') <;> (try (exfalso; omega))) | (refine altW.of ?_ ?_)
  exact .here ⟨rfl, rfl⟩
theorem Fr.refl (k : Nat) (H : Heap) : Fr k H H := ⟨Nat.le_refl _, fun _ _ _ => rfl⟩
theorem Fr.app {k : Nat} {H J : Heap} (h : Fr k H J) (X : Heap) : Fr k H (J ++ X) := ⟨by simp; have := h.1; omega, fun j hj hk => by rw [List.getElem?_append_left (by have := h.1; omega)]; exact h.2 j hj hk⟩
theorem Fr.set {k : Nat} {H J : Heap} (h : Fr k H J) (o : AObj) : Fr k H (J.set k o) := ⟨by simp; exact h.1, fun j hj hk => by rw [List.getElem?_set_ne (Ne.symm hk)]; exact h.2 j hj hk⟩
/-- The first so many numbers laid. -/
def layN (xs : List Int) (base : List Value) : List Value := (xs.map fun x => .int .i64 x) ++ base.drop xs.length
theorem layN_len {xs : List Int} {base : List Value} (h : xs.length ≤ base.length) : (layN xs base).length = base.length := by simp [layN]; omega
theorem layN_set {xs : List Int} {base : List Value} (h : xs.length < base.length) (x : Int) : (layN xs base).set xs.length (.int .i64 x) = layN (xs ++ [x]) base := by
  unfold layN
  rw [List.set_append_right _ _ (by simp), List.length_map, Nat.sub_self, List.drop_eq_getElem_cons h, List.set_cons_zero]
  simp
theorem head_spec (l : Bs) (hl : l.length ≤ 40000000) (k g esz : Nat) (a b c : Int) (sl : Value) (H : Heap) (hk : H[k]? = some (.cells g esz false [.int .i64 a, .int .i64 b, .int .i64 c, sl])) :
    ACallK Tryd.prog 21 [str l, .pointer (some ⟨k, 0, some (g + 1)⟩)] H (fun v H' => Fr k H H' ∧ ((∃ x y z, headP l = some (x, y, z) ∧ v = .bool true ∧ H'[k]? = some (.cells g esz false [.int .i64 x, .int .i64 y, .int .i64 z, sl])) ∨ (headP l = none ∧ v = .bool false))) := by
  have hS := Split_spec 32 l (by omega) H
  have hkl := (List.getElem?_eq_some_iff.1 hk).1
  have hP : headP l = headW (words 32 l) := rfl
  have hWl : ∀ w ∈ words 32 l, w.length ≤ l.length := fun w hw => words_len 32 l w hw
  generalize words 32 l = W at *
  have hFr : Fr k H (H ++ [.cells 0 1 false (W.map str)]) := ⟨by simp, fun j hj _ => List.getElem?_append_left hj⟩
  refine .walkW f21_ok (by simp; decide) (by decide) ?_
  by_cases h4 : W.length = 4
  · obtain ⟨w0, w1, w2, w3, rfl⟩ : ∃ w0 w1 w2 w3, W = [w0, w1, w2, w3] := by
      match W, h4 with
      | [w0, w1, w2, w3], _ => exact ⟨w0, w1, w2, w3, rfl⟩
    clear h4
    simp only [List.map_cons, List.map_nil, List.length_cons, List.length_nil, Nat.zero_add, Nat.reduceAdd] at hS hFr
    by_cases hr : w0 = rateB
    · subst hr
      unfold rateB at hS hFr
      repeat' first | simp (disch := first | with_reducible assumption | omega | (simp only [List.length_append, List.length_cons, List.length_nil]; omega)) only [go_sem, Bool.true_and, Bool.and_true, Bool.and_self, Bool.false_and, Bool.and_false, Bool.true_or, Bool.or_true, Bool.false_or, Bool.or_false, ↓reduceIte, Nat.reduceEqDiff, Nat.reduceAdd, Nat.reduceMul, Nat.reduceSub, Nat.reduceBEq, Nat.reduceLeDiff, Nat.reduceLT, Nat.reduceMod, Nat.reduceDiv, Int.reduceToNat, Int.reducePow, Int.reduceMul, Int.reduceAdd, Int.reduceSub, Int.reduceLE, Int.reduceLT, Int.reduceNeg, Int.reduceDiv, Int.reduceMod, Int.reduceEq, Int.reduceBEq, Int.reduceBNe, f21, f21b, f21r0, f21r1, f21r2, f21r3, f21r4, f21r5, f21r6, f21r7, f21r8, f21r9, f21r10, f21r11, f21r13] | (refine BrW.of (fun hb => ?_) (fun hb => ?_) <;> (have hb' := hb; try simp only [decide_eq_true_eq, decide_eq_false_iff_not, beq_iff_eq, bne_iff_ne, beq_eq_false_iff_ne, bne_eq_false_iff_eq, Bool.not_eq_true', Bool.not_eq_false', Bool.not_eq_true, Bool.not_eq_false, Bool.and_eq_true, Bool.or_eq_true, Bool.and_eq_false_iff, Bool.or_eq_false_iff, Int.not_lt, Int.not_le, ne_eq, gt_iff_lt, ge_iff_le] at hb') <;> (try (exfalso; omega))) | (refine altW.of ?_ ?_) | (refine .of (hS.mono ?_); rintro v J ⟨rfl, rfl⟩)
      have hkA := get_old hk
      have hlw : ∀ i, i < 3 → ([w1, w2, w3].getD i []).length ≤ 281474976710656 := fun i hi => by
        have hm : [w1, w2, w3].getD i [] ∈ [rateB, w1, w2, w3] := by
          match i, hi with
          | 0, _ => simp
          | 1, _ => simp
          | 2, _ => simp
        have := hWl _ hm
        omega
      have hbad : ∀ i, i < 3 → numP ([w1, w2, w3].getD i []) = none → headP l = none := fun i hi hn => by
        rw [hP]
        show (if rateB = rateB then (match numP w1, numP w2, numP w3 with | some a, some b, some c => some (a, b, c) | _, _, _ => none) else none) = _
        rw [if_pos rfl]
        match i, hi with
        | 0, _ => have hn : numP w1 = none := hn; rw [hn]
        | 1, _ => have hn : numP w2 = none := hn; rw [hn]; cases numP w1 <;> rfl
        | 2, _ => have hn : numP w3 = none := hn; rw [hn]; cases numP w1 <;> cases numP w2 <;> rfl
      generalize hst : AObj.cells 0 1 false [str [114, 97, 116, 101], str w1, str w2, str w3] = st at *
      repeat' first | simp (disch := first | with_reducible assumption | omega | (simp only [List.length_append, List.length_cons, List.length_nil]; omega)) only [go_sem, Bool.true_and, Bool.and_true, Bool.and_self, Bool.false_and, Bool.and_false, Bool.true_or, Bool.or_true, Bool.false_or, Bool.or_false, ↓reduceIte, Nat.reduceEqDiff, Nat.reduceAdd, Nat.reduceMul, Nat.reduceSub, Nat.reduceBEq, Nat.reduceLeDiff, Nat.reduceLT, Nat.reduceMod, Nat.reduceDiv, Int.reduceToNat, Int.reducePow, Int.reduceMul, Int.reduceAdd, Int.reduceSub, Int.reduceLE, Int.reduceLT, Int.reduceNeg, Int.reduceDiv, Int.reduceMod, Int.reduceEq, Int.reduceBEq, Int.reduceBNe, f21, f21b, f21r0, f21r1, f21r2, f21r3, f21r4, f21r5, f21r6, f21r7, f21r8, f21r9, f21r10, f21r11, f21r13, hkA] | (refine BrW.of (fun hb => ?_) (fun hb => ?_) <;> (have hb' := hb; try simp only [decide_eq_true_eq, decide_eq_false_iff_not, beq_iff_eq, bne_iff_ne, beq_eq_false_iff_ne, bne_eq_false_iff_eq, Bool.not_eq_true', Bool.not_eq_false', Bool.not_eq_true, Bool.not_eq_false, Bool.and_eq_true, Bool.or_eq_true, Bool.and_eq_false_iff, Bool.or_eq_false_iff, Int.not_lt, Int.not_le, ne_eq, gt_iff_lt, ge_iff_le] at hb') <;> (try (exfalso; omega))) | (refine altW.of ?_ ?_)
      refine loopW.of (by decide) (fun m e J => ∃ (xs : List Int), e = [(5, slv H.length 0 0 4 4), (30, slv (H.length + 1) 0 0 3 3), (31, .int .i64 3), (32, .int .i64 xs.length)] ∧ J[k]? = some (.cells g esz false (layN xs [.int .i64 a, .int .i64 b, .int .i64 c, sl])) ∧ J[H.length]? = some st ∧
        J[H.length + 1]? = some (.cells 0 1 false [.pointer (some ⟨k, 0, some (g + 1)⟩), .pointer (some ⟨k, 1, some (g + 1)⟩), .pointer (some ⟨k, 2, some (g + 1)⟩)]) ∧ Fr k H J ∧ xs.length ≤ 3 ∧ m = 3 - xs.length ∧ (∀ j, j < xs.length → numP ([w1, w2, w3].getD j []) = some (xs.getD j 0))) 3
        ⟨[], rfl, hkA _, get_new0 _ _ _, by rw [get_new]; rfl, (Fr.refl _ _).app _, by simp, rfl, fun j hj => by simp at hj⟩ ?_
      rintro m e J ⟨xs, rfl, hJk, hJs, hJp, hF, hi, rfl, hnum⟩
      subst hst
      by_cases hlt : xs.length < 3
      · have e1 : [str [114, 97, 116, 101], str w1, str w2, str w3][xs.length + 1]? = some (str ([w1, w2, w3].getD xs.length [])) := by
          generalize xs.length = i at *
          match i, hlt with
          | 0, _ => rfl
          | 1, _ => rfl
          | 2, _ => rfl
        have e2 : [Value.pointer (some ⟨k, 0, some (g + 1)⟩), .pointer (some ⟨k, 1, some (g + 1)⟩), .pointer (some ⟨k, 2, some (g + 1)⟩)][xs.length]? = some (.pointer (some ⟨k, xs.length, some (g + 1)⟩)) := by
          generalize xs.length = i at *
          match i, hlt with
          | 0, _ => rfl
          | 1, _ => rfl
          | 2, _ => rfl
        have hix : ((xs.length : Int) + 1).toNat = xs.length + 1 := by omega
        have hwl : ([w1, w2, w3].getD xs.length []).length ≤ 281474976710656 := hlw xs.length hlt
        have hN := number_spec ([w1, w2, w3].getD xs.length []) hwl
        have hll := layN_len (xs := xs) (base := [.int .i64 a, .int .i64 b, .int .i64 c, sl]) (by simp; omega)
        have hls := layN_set (xs := xs) (base := [.int .i64 a, .int .i64 b, .int .i64 c, sl]) (by simp; omega)
        simp only [List.length_cons, List.length_nil, Nat.zero_add, Nat.reduceAdd] at hll
        cases hn : numP ([w1, w2, w3].getD xs.length []) with
        | none =>
          have hh : headP l = none := hbad xs.length hlt hn
          rw [hn] at hN
          simp only [Option.isSome_none] at hN
          repeat' first | simp (disch := first | with_reducible assumption | omega | (simp only [List.length_append, List.length_cons, List.length_nil]; omega)) only [go_sem, Bool.true_and, Bool.and_true, Bool.and_self, Bool.false_and, Bool.and_false, Bool.true_or, Bool.or_true, Bool.false_or, Bool.or_false, ↓reduceIte, Nat.reduceEqDiff, Nat.reduceAdd, Nat.reduceMul, Nat.reduceSub, Nat.reduceBEq, Nat.reduceLeDiff, Nat.reduceLT, Nat.reduceMod, Nat.reduceDiv, Int.reduceToNat, Int.reducePow, Int.reduceMul, Int.reduceAdd, Int.reduceSub, Int.reduceLE, Int.reduceLT, Int.reduceNeg, Int.reduceDiv, Int.reduceMod, Int.reduceEq, Int.reduceBEq, Int.reduceBNe, f21, f21b, f21r0, f21r1, f21r2, f21r3, f21r4, f21r5, f21r6, f21r7, f21r8, f21r9, f21r10, f21r11, f21r13, f21l0, f21, f21b, f21r0, f21r1, f21r2, f21r3, f21r4, f21r5, f21r6, f21r7, f21r8, f21r9, f21r10, f21r11, f21r13, hJs, hJp, hix, ↓e1, ↓e2] | (refine BrW.of (fun hb => ?_) (fun hb => ?_) <;> (have hb' := hb; try simp only [decide_eq_true_eq, decide_eq_false_iff_not, beq_iff_eq, bne_iff_ne, beq_eq_false_iff_ne, bne_eq_false_iff_eq, Bool.not_eq_true', Bool.not_eq_false', Bool.not_eq_true, Bool.not_eq_false, Bool.and_eq_true, Bool.or_eq_true, Bool.and_eq_false_iff, Bool.or_eq_false_iff, Int.not_lt, Int.not_le, ne_eq, gt_iff_lt, ge_iff_le] at hb') <;> (try (exfalso; omega))) | (refine altW.of ?_ ?_) | (refine .of ((hN _).mono ?_); rintro v J2 ⟨⟨n, rfl, _⟩, hq⟩; obtain rfl := hq.symm)
          refine .here ⟨hF, .inr ⟨hh, rfl⟩⟩
        | some n =>
          rw [hn] at hN
          simp only [Option.isSome_some] at hN
          repeat' first | simp (disch := first | with_reducible assumption | omega | (simp only [List.length_append, List.length_cons, List.length_nil]; omega)) only [go_sem, Bool.true_and, Bool.and_true, Bool.and_self, Bool.false_and, Bool.and_false, Bool.true_or, Bool.or_true, Bool.false_or, Bool.or_false, ↓reduceIte, Nat.reduceEqDiff, Nat.reduceAdd, Nat.reduceMul, Nat.reduceSub, Nat.reduceBEq, Nat.reduceLeDiff, Nat.reduceLT, Nat.reduceMod, Nat.reduceDiv, Int.reduceToNat, Int.reducePow, Int.reduceMul, Int.reduceAdd, Int.reduceSub, Int.reduceLE, Int.reduceLT, Int.reduceNeg, Int.reduceDiv, Int.reduceMod, Int.reduceEq, Int.reduceBEq, Int.reduceBNe, f21, f21b, f21r0, f21r1, f21r2, f21r3, f21r4, f21r5, f21r6, f21r7, f21r8, f21r9, f21r10, f21r11, f21r13, f21l0, hJs, hJp, hJk, hix, ↓e1, ↓e2, hll, hls] | (refine BrW.of (fun hb => ?_) (fun hb => ?_) <;> (have hb' := hb; try simp only [decide_eq_true_eq, decide_eq_false_iff_not, beq_iff_eq, bne_iff_ne, beq_eq_false_iff_ne, bne_eq_false_iff_eq, Bool.not_eq_true', Bool.not_eq_false', Bool.not_eq_true, Bool.not_eq_false, Bool.and_eq_true, Bool.or_eq_true, Bool.and_eq_false_iff, Bool.or_eq_false_iff, Int.not_lt, Int.not_le, ne_eq, gt_iff_lt, ge_iff_le] at hb') <;> (try (exfalso; omega))) | (refine altW.of ?_ ?_) | (refine .of ((hN _).mono ?_); rintro v J2 ⟨⟨n', rfl, hn'⟩, hq⟩; obtain rfl := hq.symm; obtain rfl := (hn' n rfl).symm)
          refine RdW.keep [5, 30, 31, 32] (3 - (xs.length + 1)) (by omega) ?_
          simp (disch := first | with_reducible assumption | omega | (simp only [List.length_append, List.length_cons, List.length_nil]; omega)) only [go_sem, Bool.true_and, Bool.and_true, Bool.and_self, Bool.false_and, Bool.and_false, Bool.true_or, Bool.or_true, Bool.false_or, Bool.or_false, ↓reduceIte, Nat.reduceEqDiff, Nat.reduceAdd, Nat.reduceMul, Nat.reduceSub, Nat.reduceBEq, Nat.reduceLeDiff, Nat.reduceLT, Nat.reduceMod, Nat.reduceDiv, Int.reduceToNat, Int.reducePow, Int.reduceMul, Int.reduceAdd, Int.reduceSub, Int.reduceLE, Int.reduceLT, Int.reduceNeg, Int.reduceDiv, Int.reduceMod, Int.reduceEq, Int.reduceBEq, Int.reduceBNe]
          refine ⟨xs ++ [n], by simp, get_set_hit hJk, (get_set_miss (by omega)).trans hJs, (get_set_miss (by omega)).trans hJp, hF.set _, by simp; omega, by simp, fun j hj => ?_⟩
          by_cases hjl : j < xs.length
          · rw [hnum j hjl]; simp [List.getD_eq_getElem?_getD, List.getElem?_append_left hjl]
          · have : j = xs.length := by simp at hj; omega
            subst this
            rw [hn]; simp [List.getD_eq_getElem?_getD]
      · have h3 : xs.length = 3 := by omega
        obtain ⟨x, y, z, rfl⟩ : ∃ x y z, xs = [x, y, z] := by
          match xs, h3 with
          | [x, y, z], _ => exact ⟨x, y, z, rfl⟩
        have n1 : numP w1 = some x := hnum 0 (by simp)
        have n2 : numP w2 = some y := hnum 1 (by simp)
        have n3 : numP w3 = some z := hnum 2 (by simp)
        have hh : headP l = some (x, y, z) := by
          rw [hP]
          show (if rateB = rateB then (match numP w1, numP w2, numP w3 with | some a, some b, some c => some (a, b, c) | _, _, _ => none) else none) = _
          rw [if_pos rfl, n1, n2, n3]
        simp only [List.length_cons, List.length_nil, Nat.zero_add, Nat.reduceAdd]
        repeat' first | simp (disch := first | with_reducible assumption | omega | (simp only [List.length_append, List.length_cons, List.length_nil]; omega)) only [go_sem, Bool.true_and, Bool.and_true, Bool.and_self, Bool.false_and, Bool.and_false, Bool.true_or, Bool.or_true, Bool.false_or, Bool.or_false, ↓reduceIte, Nat.reduceEqDiff, Nat.reduceAdd, Nat.reduceMul, Nat.reduceSub, Nat.reduceBEq, Nat.reduceLeDiff, Nat.reduceLT, Nat.reduceMod, Nat.reduceDiv, Int.reduceToNat, Int.reducePow, Int.reduceMul, Int.reduceAdd, Int.reduceSub, Int.reduceLE, Int.reduceLT, Int.reduceNeg, Int.reduceDiv, Int.reduceMod, Int.reduceEq, Int.reduceBEq, Int.reduceBNe, f21, f21b, f21r0, f21r1, f21r2, f21r3, f21r4, f21r5, f21r6, f21r7, f21r8, f21r9, f21r10, f21r11, f21r13, f21l0, f21, f21b, f21r0, f21r1, f21r2, f21r3, f21r4, f21r5, f21r6, f21r7, f21r8, f21r9, f21r10, f21r11, f21r13] | (refine BrW.of (fun hb => ?_) (fun hb => ?_) <;> (have hb' := hb; try simp only [decide_eq_true_eq, decide_eq_false_iff_not, beq_iff_eq, bne_iff_ne, beq_eq_false_iff_ne, bne_eq_false_iff_eq, Bool.not_eq_true', Bool.not_eq_false', Bool.not_eq_true, Bool.not_eq_false, Bool.and_eq_true, Bool.or_eq_true, Bool.and_eq_false_iff, Bool.or_eq_false_iff, Int.not_lt, Int.not_le, ne_eq, gt_iff_lt, ge_iff_le] at hb') <;> (try (exfalso; omega))) | (refine altW.of ?_ ?_)
        exact .here ⟨hF, .inl ⟨x, y, z, hh, rfl, hJk⟩⟩
    · have hn : headP l = none := by rw [hP]; show (if w0 = rateB then _ else none) = _; rw [if_neg hr]
      unfold rateB at hr
      repeat' first | simp (disch := first | with_reducible assumption | omega | (simp only [List.length_append, List.length_cons, List.length_nil]; omega)) only [go_sem, Bool.true_and, Bool.and_true, Bool.and_self, Bool.false_and, Bool.and_false, Bool.true_or, Bool.or_true, Bool.false_or, Bool.or_false, ↓reduceIte, Nat.reduceEqDiff, Nat.reduceAdd, Nat.reduceMul, Nat.reduceSub, Nat.reduceBEq, Nat.reduceLeDiff, Nat.reduceLT, Nat.reduceMod, Nat.reduceDiv, Int.reduceToNat, Int.reducePow, Int.reduceMul, Int.reduceAdd, Int.reduceSub, Int.reduceLE, Int.reduceLT, Int.reduceNeg, Int.reduceDiv, Int.reduceMod, Int.reduceEq, Int.reduceBEq, Int.reduceBNe, f21, f21b, f21r0, f21r1, f21r2, f21r3, f21r4, f21r5, f21r6, f21r7, f21r8, f21r9, f21r10, f21r11, f21r13, hr] | (refine BrW.of (fun hb => ?_) (fun hb => ?_) <;> (have hb' := hb; try simp only [decide_eq_true_eq, decide_eq_false_iff_not, beq_iff_eq, bne_iff_ne, beq_eq_false_iff_ne, bne_eq_false_iff_eq, Bool.not_eq_true', Bool.not_eq_false', Bool.not_eq_true, Bool.not_eq_false, Bool.and_eq_true, Bool.or_eq_true, Bool.and_eq_false_iff, Bool.or_eq_false_iff, Int.not_lt, Int.not_le, ne_eq, gt_iff_lt, ge_iff_le] at hb') <;> (try (exfalso; omega))) | (refine altW.of ?_ ?_) | (refine .of (hS.mono ?_); rintro v J ⟨rfl, rfl⟩)
      exact .here ⟨hFr, .inr ⟨hn, rfl⟩⟩
  · have hn : headP l = none := by
      rw [hP]
      unfold headW
      split
      · exact absurd rfl h4
      · rfl
    repeat' first | simp (disch := first | with_reducible assumption | omega | (simp only [List.length_append, List.length_cons, List.length_nil]; omega)) only [go_sem, Bool.true_and, Bool.and_true, Bool.and_self, Bool.false_and, Bool.and_false, Bool.true_or, Bool.or_true, Bool.false_or, Bool.or_false, ↓reduceIte, Nat.reduceEqDiff, Nat.reduceAdd, Nat.reduceMul, Nat.reduceSub, Nat.reduceBEq, Nat.reduceLeDiff, Nat.reduceLT, Nat.reduceMod, Nat.reduceDiv, Int.reduceToNat, Int.reducePow, Int.reduceMul, Int.reduceAdd, Int.reduceSub, Int.reduceLE, Int.reduceLT, Int.reduceNeg, Int.reduceDiv, Int.reduceMod, Int.reduceEq, Int.reduceBEq, Int.reduceBNe, f21, f21b, f21r0, f21r1, f21r2, f21r3, f21r4, f21r5, f21r6, f21r7, f21r8, f21r9, f21r10, f21r11, f21r13] | (refine BrW.of (fun hb => ?_) (fun hb => ?_) <;> (have hb' := hb; try simp only [decide_eq_true_eq, decide_eq_false_iff_not, beq_iff_eq, bne_iff_ne, beq_eq_false_iff_ne, bne_eq_false_iff_eq, Bool.not_eq_true', Bool.not_eq_false', Bool.not_eq_true, Bool.not_eq_false, Bool.and_eq_true, Bool.or_eq_true, Bool.and_eq_false_iff, Bool.or_eq_false_iff, Int.not_lt, Int.not_le, ne_eq, gt_iff_lt, ge_iff_le] at hb') <;> (try (exfalso; omega))) | (refine altW.of ?_ ?_) | (refine .of (hS.mono ?_); rintro v J ⟨rfl, rfl⟩)
    all_goals first | exact .here ⟨hFr, .inr ⟨hn, rfl⟩⟩ | (exfalso; omega)
end Go.Proofs.YtfkhljgifndbpaaDoor
