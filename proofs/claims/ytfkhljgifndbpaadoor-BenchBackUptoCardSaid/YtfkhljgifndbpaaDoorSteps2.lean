import Derived.Test.YtfkhljgifndbpaaDoorSteps
-- STRINGS
set_option linter.unusedSimpArgs false
set_option linter.unusedVariables false
set_option maxHeartbeats 4000000
set_option maxRecDepth 20000
namespace Go.Proofs.YtfkhljgifndbpaaDoor
open Go Go.Am
attribute [local irreducible] opsW Ww loopW callW drawW outW outDW gW cW BrW bothW vW resW DropW RdW dcallW altW forkW splitW Later.run

/-- The objects below b are as they were. -/
def FrB (b : Nat) (H J : Heap) : Prop := H.length ≤ J.length ∧ ∀ j, j < b → J[j]? = H[j]?
theorem FrB.trans {b : Nat} {H J K : Heap} (h : FrB b H J) (h' : FrB b J K) : FrB b H K := ⟨Nat.le_trans h.1 h'.1, fun j hj => (h'.2 j hj).trans (h.2 j hj)⟩
theorem FrB.refl (b : Nat) (H : Heap) : FrB b H H := ⟨Nat.le_refl _, fun _ _ => rfl⟩
theorem FrB.app {b : Nat} {H J : Heap} (h : FrB b H J) (hb : b ≤ H.length) (X : Heap) : FrB b H (J ++ X) := ⟨by simp; have := h.1; omega, fun j hj => by rw [List.getElem?_append_left (by have := h.1; omega)]; exact h.2 j hj⟩
theorem FrB.set {b : Nat} {H J : Heap} (h : FrB b H J) {k : Nat} (hk : b ≤ k) (o : AObj) : FrB b H (J.set k o) := ⟨by simp; exact h.1, fun j hj => by rw [List.getElem?_set_ne (by omega)]; exact h.2 j hj⟩
def oe (o : Int × Int) : List Value := [.int .i64 o.1, .int .i64 o.2]
/-- The row of what happens, at or beyond object b. -/
def OpsAt (b : Nat) (H : Heap) (v : Value) (os : List (Int × Int)) : Prop :=
  (os = [] ∧ v = .slice none 0 0) ∨ ∃ ko g, b ≤ ko ∧ v = slv ko 0 g os.length os.length ∧ H[ko]? = some (.cells g 2 false (flat' oe os))
theorem oe_len (os : List (Int × Int)) : (flat' oe os).length = os.length * 2 := flat'_length (enc := oe) (s := 2) (fun _ => rfl) os
def nameAt (i : Nat) : Bs := [inB, tickB, pollB].getD i []
theorem lineP_of {l : Bs} {i : Nat} {n : Int} (hi : i < 3) (hw : (cutAt 32 l).1 = nameAt i) (hn : numP (cutAt 32 l).2.1 = some n) : lineP l = some ((1 : Int) + i, n) := by
  unfold lineP
  rw [hw, hn]
  match i, hi with
  | 0, _ => rfl
  | 1, _ => rfl
  | 2, _ => rfl
theorem lineP_no {l : Bs} (h : ∀ i, i < 3 → ¬ ((cutAt 32 l).1 = nameAt i ∧ (numP (cutAt 32 l).2.1).isSome = true)) : lineP l = none := by
  unfold lineP
  cases hn : numP (cutAt 32 l).2.1 with
  | none => cases kindP (cutAt 32 l).1 <;> rfl
  | some n =>
    have hk : kindP (cutAt 32 l).1 = none := by
      have e0 : ¬ (cutAt 32 l).1 = inB := fun e => h 0 (by omega) ⟨e, by rw [hn]; rfl⟩
      have e1 : ¬ (cutAt 32 l).1 = tickB := fun e => h 1 (by omega) ⟨e, by rw [hn]; rfl⟩
      have e2 : ¬ (cutAt 32 l).1 = pollB := fun e => h 2 (by omega) ⟨e, by rw [hn]; rfl⟩
      unfold kindP
      rw [if_neg e0, if_neg e1, if_neg e2]
    rw [hk]
theorem cutAt_len (c : UInt8) (l : Bs) : (cutAt c l).1.length ≤ l.length ∧ (cutAt c l).2.1.length ≤ l.length := by
  rcases cut_cases c l with ⟨_, h, _⟩ | ⟨i, _, h, _⟩
  · rw [h]; simp
  · rw [h]; simp; omega
theorem line_spec (l : Bs) (hl : l.length ≤ 40000000) (k g esz : Nat) (x y z : Int) (sl : Value) (os : List (Int × Int)) (hos : os.length ≤ 40000000) (H : Heap) (hk : H[k]? = some (.cells g esz false [.int .i64 x, .int .i64 y, .int .i64 z, sl])) (hO : OpsAt (k + 1) H sl os) :
    ACallK Tryd.prog 22 [str l, .pointer (some ⟨k, 0, some (g + 1)⟩)] H (fun v H' => FrB k H H' ∧ ((∃ o sl', lineP l = some o ∧ v = .bool true ∧ H'[k]? = some (.cells g esz false [.int .i64 x, .int .i64 y, .int .i64 z, sl']) ∧ OpsAt (k + 1) H' sl' (os ++ [o])) ∨ (lineP l = none ∧ v = .bool false))) := by
  have hC := fun H => Cut_spec 32 l (by omega) H
  have hkl := (List.getElem?_eq_some_iff.1 hk).1
  have hlen := cutAt_len 32 l
  have hof := fun i n (hi : i < 3) => lineP_of (l := l) (i := i) (n := n) hi
  have hno := lineP_no (l := l)
  have hN := number_spec (cutAt 32 l).2.1 (by omega)
  generalize cutAt 32 l = ct at *
  obtain ⟨wd, rs, ff⟩ := ct
  simp only at *
  have hW := words_spec H
  have hk' := get_old hk
  refine .walkW f22_ok (by simp; decide) (by decide) ?_
  repeat' first | simp (disch := first | with_reducible assumption | omega | (simp only [List.length_append, List.length_cons, List.length_nil]; omega)) only [go_sem, Bool.true_and, Bool.and_true, Bool.and_self, Bool.false_and, Bool.and_false, Bool.true_or, Bool.or_true, Bool.false_or, Bool.or_false, ↓reduceIte, Nat.reduceEqDiff, Nat.reduceAdd, Nat.reduceMul, Nat.reduceSub, Nat.reduceBEq, Nat.reduceLeDiff, Nat.reduceLT, Nat.reduceMod, Nat.reduceDiv, Int.reduceToNat, Int.reducePow, Int.reduceMul, Int.reduceAdd, Int.reduceSub, Int.reduceLE, Int.reduceLT, Int.reduceNeg, Int.reduceDiv, Int.reduceMod, Int.reduceEq, Int.reduceBEq, Int.reduceBNe, f22, f22b, f22r0, f22r1, f22r2, f22r3, f22r4, f22r5, f22r6, f22r7, f22r8, f22r9, f22r11] | (refine BrW.of (fun hb => ?_) (fun hb => ?_) <;> (have hb' := hb; try simp only [decide_eq_true_eq, decide_eq_false_iff_not, beq_iff_eq, bne_iff_ne, beq_eq_false_iff_ne, bne_eq_false_iff_eq, Bool.not_eq_true', Bool.not_eq_false', Bool.not_eq_true, Bool.not_eq_false, Bool.and_eq_true, Bool.or_eq_true, Bool.and_eq_false_iff, Bool.or_eq_false_iff, Int.not_lt, Int.not_le, ne_eq, gt_iff_lt, ge_iff_le] at hb') <;> (try (exfalso; omega))) | (refine altW.of ?_ ?_) | (refine .of ((hC _).mono ?_); rintro v J ⟨rfl, hq⟩; obtain rfl := hq.symm) | (refine .of ((hN _).mono ?_); rintro v J ⟨⟨n, rfl, hn⟩, hq⟩; obtain rfl := hq.symm) | (refine .of (hW.mono ?_); rintro v J ⟨rfl, rfl⟩)
  refine loopW.of (by decide) (fun m e J => ∃ (i : Nat), e = [(1, .pointer (some ⟨k, 0, some (g + 1)⟩)), (5, str wd), (8, .int .i64 n), (9, .bool (numP rs).isSome), (23, slv H.length 0 0 3 3), (24, .int .i64 3), (25, .int .i64 i)] ∧ J = H ++ [.cells 0 1 false [str inB, str tickB, str pollB]] ∧ i ≤ 3 ∧ m = 3 - i ∧ ∀ j, j < i → ¬ (wd = nameAt j ∧ (numP rs).isSome = true)) 3
    ⟨0, rfl, rfl, by omega, rfl, fun j hj => by omega⟩ ?_
  rintro m e J ⟨i, rfl, rfl, hi, rfl, hinv⟩
  have hFr : FrB k H (H ++ [.cells 0 1 false [str inB, str tickB, str pollB]]) := (FrB.refl _ _).app (by omega) _
  by_cases hlt : i < 3
  · have e1 : [str inB, str tickB, str pollB][i]? = some (str (nameAt i)) := by
      match i, hlt with
      | 0, _ => rfl
      | 1, _ => rfl
      | 2, _ => rfl
    by_cases hs : (numP rs).isSome = true
    · obtain ⟨n', hn'⟩ := Option.isSome_iff_exists.1 hs
      obtain rfl := hn n' hn'
      by_cases hwd : nameAt i = wd
      · have hl := hof i n hlt hwd.symm hn'
        rcases hO with ⟨rfl, rfl⟩ | ⟨ko, go, hko, rfl, hkO⟩
        · repeat' first | simp (disch := first | with_reducible assumption | omega | (simp only [List.length_append, List.length_cons, List.length_nil]; omega)) only [go_sem, Bool.true_and, Bool.and_true, Bool.and_self, Bool.false_and, Bool.and_false, Bool.true_or, Bool.or_true, Bool.false_or, Bool.or_false, ↓reduceIte, Nat.reduceEqDiff, Nat.reduceAdd, Nat.reduceMul, Nat.reduceSub, Nat.reduceBEq, Nat.reduceLeDiff, Nat.reduceLT, Nat.reduceMod, Nat.reduceDiv, Int.reduceToNat, Int.reducePow, Int.reduceMul, Int.reduceAdd, Int.reduceSub, Int.reduceLE, Int.reduceLT, Int.reduceNeg, Int.reduceDiv, Int.reduceMod, Int.reduceEq, Int.reduceBEq, Int.reduceBNe, f22, f22b, f22r0, f22r1, f22r2, f22r3, f22r4, f22r5, f22r6, f22r7, f22r8, f22r9, f22r11, f22l0, f22, f22b, f22r0, f22r1, f22r2, f22r3, f22r4, f22r5, f22r6, f22r7, f22r8, f22r9, f22r11, hk', ↓e1, hs, hwd] | (refine BrW.of (fun hb => ?_) (fun hb => ?_) <;> (have hb' := hb; try simp only [decide_eq_true_eq, decide_eq_false_iff_not, beq_iff_eq, bne_iff_ne, beq_eq_false_iff_ne, bne_eq_false_iff_eq, Bool.not_eq_true', Bool.not_eq_false', Bool.not_eq_true, Bool.not_eq_false, Bool.and_eq_true, Bool.or_eq_true, Bool.and_eq_false_iff, Bool.or_eq_false_iff, Int.not_lt, Int.not_le, ne_eq, gt_iff_lt, ge_iff_le] at hb') <;> (try (exfalso; omega))) | (refine altW.of ?_ ?_)
          refine .here ⟨((FrB.refl _ _).app (by omega) _).set (Nat.le_refl _) _, .inl ⟨_, _, hl, rfl, get_set_hit (hk' _), .inr ⟨H.length + 2, 0, by omega, rfl, ?_⟩⟩⟩
          rw [get_set_miss (by omega), get_new]; rfl
        · have hkol := (List.getElem?_eq_some_iff.1 hkO).1
          have hkO' := get_old hkO
          have hkS : ∀ X A, ((H ++ X).set ko A)[k]? = some (.cells g esz false [.int .i64 x, .int .i64 y, .int .i64 z, slv ko 0 go os.length os.length]) := fun X A => by rw [List.getElem?_set_ne (by omega)]; exact hk' X
          have hcl := oe_len os
          have hni : ¬ os.length + 1 ≤ os.length := by omega
          have htk : (flat' oe os).take (os.length * 2) = flat' oe os := List.take_of_length_le (by omega)
          have eA : flat' oe (os ++ [((1 : Int) + i, n)]) = flat' oe os ++ [.int .i64 (1 + (i : Int)), .int .i64 n] := by rw [← flat'_app]; rfl
          generalize hFO : flat' oe os = FO at *
          repeat' first | simp (disch := first | with_reducible assumption | omega | (simp only [List.length_append, List.length_cons, List.length_nil]; omega)) only [go_sem, Bool.true_and, Bool.and_true, Bool.and_self, Bool.false_and, Bool.and_false, Bool.true_or, Bool.or_true, Bool.false_or, Bool.or_false, ↓reduceIte, Nat.reduceEqDiff, Nat.reduceAdd, Nat.reduceMul, Nat.reduceSub, Nat.reduceBEq, Nat.reduceLeDiff, Nat.reduceLT, Nat.reduceMod, Nat.reduceDiv, Int.reduceToNat, Int.reducePow, Int.reduceMul, Int.reduceAdd, Int.reduceSub, Int.reduceLE, Int.reduceLT, Int.reduceNeg, Int.reduceDiv, Int.reduceMod, Int.reduceEq, Int.reduceBEq, Int.reduceBNe, f22, f22b, f22r0, f22r1, f22r2, f22r3, f22r4, f22r5, f22r6, f22r7, f22r8, f22r9, f22r11, f22l0, f22, f22b, f22r0, f22r1, f22r2, f22r3, f22r4, f22r5, f22r6, f22r7, f22r8, f22r9, f22r11, hk', hkO', ↓e1, hs, hwd, hkS, hcl, hni, htk, List.length_set] | (refine BrW.of (fun hb => ?_) (fun hb => ?_) <;> (have hb' := hb; try simp only [decide_eq_true_eq, decide_eq_false_iff_not, beq_iff_eq, bne_iff_ne, beq_eq_false_iff_ne, bne_eq_false_iff_eq, Bool.not_eq_true', Bool.not_eq_false', Bool.not_eq_true, Bool.not_eq_false, Bool.and_eq_true, Bool.or_eq_true, Bool.and_eq_false_iff, Bool.or_eq_false_iff, Int.not_lt, Int.not_le, ne_eq, gt_iff_lt, ge_iff_le] at hb') <;> (try (exfalso; omega))) | (refine altW.of ?_ ?_)
          refine .here ⟨((((FrB.refl k H).app (by omega) _).set (by omega) _).set (Nat.le_refl _) _), .inl ⟨_, _, hl, rfl, get_set_hit (hkS _ _), .inr ⟨ko, go + 1, hko, by simp, ?_⟩⟩⟩
          rw [get_set_miss (by omega), eA]
          exact List.getElem?_set_self (by simp; omega)
      · repeat' first | simp (disch := first | with_reducible assumption | omega | (simp only [List.length_append, List.length_cons, List.length_nil]; omega)) only [go_sem, Bool.true_and, Bool.and_true, Bool.and_self, Bool.false_and, Bool.and_false, Bool.true_or, Bool.or_true, Bool.false_or, Bool.or_false, ↓reduceIte, Nat.reduceEqDiff, Nat.reduceAdd, Nat.reduceMul, Nat.reduceSub, Nat.reduceBEq, Nat.reduceLeDiff, Nat.reduceLT, Nat.reduceMod, Nat.reduceDiv, Int.reduceToNat, Int.reducePow, Int.reduceMul, Int.reduceAdd, Int.reduceSub, Int.reduceLE, Int.reduceLT, Int.reduceNeg, Int.reduceDiv, Int.reduceMod, Int.reduceEq, Int.reduceBEq, Int.reduceBNe, f22, f22b, f22r0, f22r1, f22r2, f22r3, f22r4, f22r5, f22r6, f22r7, f22r8, f22r9, f22r11, f22l0, hk', ↓e1, hs, hwd] | (refine BrW.of (fun hb => ?_) (fun hb => ?_) <;> (have hb' := hb; try simp only [decide_eq_true_eq, decide_eq_false_iff_not, beq_iff_eq, bne_iff_ne, beq_eq_false_iff_ne, bne_eq_false_iff_eq, Bool.not_eq_true', Bool.not_eq_false', Bool.not_eq_true, Bool.not_eq_false, Bool.and_eq_true, Bool.or_eq_true, Bool.and_eq_false_iff, Bool.or_eq_false_iff, Int.not_lt, Int.not_le, ne_eq, gt_iff_lt, ge_iff_le] at hb') <;> (try (exfalso; omega))) | (refine altW.of ?_ ?_)
        refine RdW.keep [1, 5, 8, 9, 23, 24, 25] (3 - (i + 1)) (by omega) ?_
        simp (disch := first | with_reducible assumption | omega | (simp only [List.length_append, List.length_cons, List.length_nil]; omega)) only [go_sem, Bool.true_and, Bool.and_true, Bool.and_self, Bool.false_and, Bool.and_false, Bool.true_or, Bool.or_true, Bool.false_or, Bool.or_false, ↓reduceIte, Nat.reduceEqDiff, Nat.reduceAdd, Nat.reduceMul, Nat.reduceSub, Nat.reduceBEq, Nat.reduceLeDiff, Nat.reduceLT, Nat.reduceMod, Nat.reduceDiv, Int.reduceToNat, Int.reducePow, Int.reduceMul, Int.reduceAdd, Int.reduceSub, Int.reduceLE, Int.reduceLT, Int.reduceNeg, Int.reduceDiv, Int.reduceMod, Int.reduceEq, Int.reduceBEq, Int.reduceBNe]
        refine ⟨i + 1, by first | (rw [hs]; done) | (rw [hs]; rfl), by omega, rfl, fun j hj => ?_⟩
        by_cases e : j = i
        · subst e; exact fun hh => hwd hh.1.symm
        · exact hinv j (by omega)
    · have hs' : (numP rs).isSome = false := by simpa using hs
      repeat' first | simp (disch := first | with_reducible assumption | omega | (simp only [List.length_append, List.length_cons, List.length_nil]; omega)) only [go_sem, Bool.true_and, Bool.and_true, Bool.and_self, Bool.false_and, Bool.and_false, Bool.true_or, Bool.or_true, Bool.false_or, Bool.or_false, ↓reduceIte, Nat.reduceEqDiff, Nat.reduceAdd, Nat.reduceMul, Nat.reduceSub, Nat.reduceBEq, Nat.reduceLeDiff, Nat.reduceLT, Nat.reduceMod, Nat.reduceDiv, Int.reduceToNat, Int.reducePow, Int.reduceMul, Int.reduceAdd, Int.reduceSub, Int.reduceLE, Int.reduceLT, Int.reduceNeg, Int.reduceDiv, Int.reduceMod, Int.reduceEq, Int.reduceBEq, Int.reduceBNe, f22, f22b, f22r0, f22r1, f22r2, f22r3, f22r4, f22r5, f22r6, f22r7, f22r8, f22r9, f22r11, f22l0, hk', ↓e1, hs'] | (refine BrW.of (fun hb => ?_) (fun hb => ?_) <;> (have hb' := hb; try simp only [decide_eq_true_eq, decide_eq_false_iff_not, beq_iff_eq, bne_iff_ne, beq_eq_false_iff_ne, bne_eq_false_iff_eq, Bool.not_eq_true', Bool.not_eq_false', Bool.not_eq_true, Bool.not_eq_false, Bool.and_eq_true, Bool.or_eq_true, Bool.and_eq_false_iff, Bool.or_eq_false_iff, Int.not_lt, Int.not_le, ne_eq, gt_iff_lt, ge_iff_le] at hb') <;> (try (exfalso; omega))) | (refine altW.of ?_ ?_)
      refine RdW.keep [1, 5, 8, 9, 23, 24, 25] (3 - (i + 1)) (by omega) ?_
      simp (disch := first | with_reducible assumption | omega | (simp only [List.length_append, List.length_cons, List.length_nil]; omega)) only [go_sem, Bool.true_and, Bool.and_true, Bool.and_self, Bool.false_and, Bool.and_false, Bool.true_or, Bool.or_true, Bool.false_or, Bool.or_false, ↓reduceIte, Nat.reduceEqDiff, Nat.reduceAdd, Nat.reduceMul, Nat.reduceSub, Nat.reduceBEq, Nat.reduceLeDiff, Nat.reduceLT, Nat.reduceMod, Nat.reduceDiv, Int.reduceToNat, Int.reducePow, Int.reduceMul, Int.reduceAdd, Int.reduceSub, Int.reduceLE, Int.reduceLT, Int.reduceNeg, Int.reduceDiv, Int.reduceMod, Int.reduceEq, Int.reduceBEq, Int.reduceBNe]
      refine ⟨i + 1, by first | (rw [hs']; done) | (rw [hs']; rfl), by omega, rfl, fun j hj => ?_⟩
      exact fun hh => hs hh.2
  · obtain rfl : i = 3 := by omega
    repeat' first | simp (disch := first | with_reducible assumption | omega | (simp only [List.length_append, List.length_cons, List.length_nil]; omega)) only [go_sem, Bool.true_and, Bool.and_true, Bool.and_self, Bool.false_and, Bool.and_false, Bool.true_or, Bool.or_true, Bool.false_or, Bool.or_false, ↓reduceIte, Nat.reduceEqDiff, Nat.reduceAdd, Nat.reduceMul, Nat.reduceSub, Nat.reduceBEq, Nat.reduceLeDiff, Nat.reduceLT, Nat.reduceMod, Nat.reduceDiv, Int.reduceToNat, Int.reducePow, Int.reduceMul, Int.reduceAdd, Int.reduceSub, Int.reduceLE, Int.reduceLT, Int.reduceNeg, Int.reduceDiv, Int.reduceMod, Int.reduceEq, Int.reduceBEq, Int.reduceBNe, f22, f22b, f22r0, f22r1, f22r2, f22r3, f22r4, f22r5, f22r6, f22r7, f22r8, f22r9, f22r11, f22l0, f22, f22b, f22r0, f22r1, f22r2, f22r3, f22r4, f22r5, f22r6, f22r7, f22r8, f22r9, f22r11] | (refine BrW.of (fun hb => ?_) (fun hb => ?_) <;> (have hb' := hb; try simp only [decide_eq_true_eq, decide_eq_false_iff_not, beq_iff_eq, bne_iff_ne, beq_eq_false_iff_ne, bne_eq_false_iff_eq, Bool.not_eq_true', Bool.not_eq_false', Bool.not_eq_true, Bool.not_eq_false, Bool.and_eq_true, Bool.or_eq_true, Bool.and_eq_false_iff, Bool.or_eq_false_iff, Int.not_lt, Int.not_le, ne_eq, gt_iff_lt, ge_iff_le] at hb') <;> (try (exfalso; omega))) | (refine altW.of ?_ ?_)
    exact .here ⟨hFr, .inr ⟨hno hinv, rfl⟩⟩
end Go.Proofs.YtfkhljgifndbpaaDoor
