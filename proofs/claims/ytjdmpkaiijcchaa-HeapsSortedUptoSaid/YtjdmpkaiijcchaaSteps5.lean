import Derived.Test.YtjdmpkaiijcchaaSteps4
set_option linter.unusedSimpArgs false
set_option linter.unusedVariables false
set_option maxHeartbeats 2000000
set_option maxRecDepth 20000
namespace Go.Proofs.Ytjdmpkaiijcchaa
open Go Go.Am
attribute [local irreducible] opsW Ww loopW callW drawW outW outDW gW cW BrW bothW vW resW DropW RdW dcallW altW forkW splitW Later.run

def Op.cells (o : Op) : List Value := [.int .i64 o.k, .int .i64 o.i, .int .u64 o.h, .int .u64 o.l]
def Op.val (o : Op) : Value := .agg #[.int .i64 o.k, .int .i64 o.i, .int .u64 o.h, .int .u64 o.l]
/-- A heap at work, that may be empty still. -/
def HS (B r P : Nat) (J : Heap) (L : List It) (n : Nat) (m : List T3) (c : Nat) : Prop :=
  (∃ q g, P ≤ q ∧ HQ B r q J L n g m c) ∨ (n = 0 ∧ J[B]? = some (.cells 0 0 false [.slice none 0 0, .map (some r)]) ∧ J[r]? = some (.map (m.map E) c) ∧ WM m c)
theorem HS.hr {B r P : Nat} {J : Heap} {L : List It} {n : Nat} {m : List T3} {c : Nat} (h : HS B r P J L n m c) : J[r]? = some (.map (m.map E) c) ∧ WM m c := by
  rcases h with ⟨q, g, _, h⟩ | ⟨_, _, h, h2⟩
  · exact ⟨h.hr, h.wm⟩
  · exact ⟨h, h2⟩
theorem HS.hB {B r P : Nat} {J : Heap} {L : List It} {n : Nat} {m : List T3} {c : Nat} (h : HS B r P J L n m c) : ∃ w, J[B]? = some (.cells 0 0 false [w, .map (some r)]) := by
  rcases h with ⟨q, g, _, h⟩ | ⟨_, h, _⟩
  · exact ⟨_, h.hB⟩
  · exact ⟨_, h⟩
theorem HS.app {B r P : Nat} {J : Heap} {L : List It} {n : Nat} {m : List T3} {c : Nat} (h : HS B r P J L n m c) (X : Heap) : HS B r P (J ++ X) L n m c := by
  rcases h with ⟨q, g, h1, h⟩ | ⟨h0, h1, h2, h3⟩
  · exact .inl ⟨q, g, h1, h.app X⟩
  · exact .inr ⟨h0, get_old h1 X, get_old h2 X, h3⟩
theorem HS.set {B r P : Nat} {J : Heap} {L : List It} {n : Nat} {m : List T3} {c : Nat} (h : HS B r P J L n m c) {j : Nat} (y : AObj) (h1 : j ≠ B) (h2 : j ≠ r) (h3 : j < P) : HS B r P (J.set j y) L n m c := by
  rcases h with ⟨q, g, h4, h⟩ | ⟨h0, h4, h5, h6⟩
  · exact .inl ⟨q, g, h4, h.set y h1 h2 (by omega)⟩
  · exact .inr ⟨h0, (get_set_miss (by omega)).trans h4, (get_set_miss (by omega)).trans h5, h6⟩
def itF (L : List It) : Nat → It := fun m => L.getD m i0
/-- What holds of a heap between two things. -/
structure HP (B r P : Nat) (J : Heap) (s : List It) (n : Nat) : Prop where
  ex : ∃ L m c, HS B r P J L n m c ∧ MI L n m ∧ Abs s (itF L) n
/-- All but the heap stays. -/
def Fr (B r P : Nat) (J J' : Heap) : Prop := J.length ≤ J'.length ∧ ∀ j, j < J.length → (P ≤ j → ∀ g cs, J[j]? = some (.cells g 3 false cs) → False) → j ≠ B → j ≠ r → J'[j]? = J[j]?
theorem Fr.app (B r P : Nat) {J : Heap} (hP : P ≤ J.length) (X : Heap) : Fr B r P J (J ++ X) := ⟨by simp, fun j hj _ _ _ => List.getElem?_append_left (by omega)⟩
theorem MI.has {L : List It} {n : Nat} {m : List T3} {s : List It} (h : MI L n m) (hA : Abs s (itF L) n) (id : Int) : (hasI s id = false ∧ lk m id = none) ∨ (hasI s id = true ∧ ∃ k : Nat, k < n ∧ lk m id = some (k : Int) ∧ (L.getD k i0).i = id) := by
  cases hl : lk m id with
  | none =>
    refine .inl ⟨?_, rfl⟩
    rw [Bool.eq_false_iff]
    intro hh
    obtain ⟨i, h1, h2⟩ := (hA.has id).1 hh
    have := h.at' i h1
    have h2 : (L.getD i i0).i = id := h2
    rw [h2, hl] at this
    cases this
  | some u =>
    obtain ⟨k, h1, h2, h3⟩ := h.fr id u hl
    exact .inr ⟨(hA.has id).2 ⟨k, h1, h3⟩, k, h1, by rw [h2], h3⟩
/-- Nothing is done. -/
theorem do_not (B r P : Nat) (J : Heap) (s : List It) (n : Nat) (o : Op) (h : HP B r P J s n) (hB : B < P) (hr : r < P) (hP : P ≤ J.length) (hn : n ≤ 10000000000)
    (hc : (o.k = 1 ∧ hasI s o.i = true) ∨ (o.k = 2 ∧ s = []) ∨ ((o.k = 3 ∨ o.k = 4) ∧ hasI s o.i = false) ∨ ¬ (o.k = 1 ∨ o.k = 2 ∨ o.k = 3 ∨ o.k = 4)) :
    ACallK Try.prog 21 [.pointer (some ⟨B, 0, some 1⟩), o.val] J (fun v J' => v = .tuple #[.int .i64 (doP s o).2.1, .int .i64 (doP s o).1] ∧ (∃ n', HP B r P J' (doP s o).2.2 n' ∧ n' ≤ n + 1) ∧ Fr B r P J J') := by
  have hh := h
  obtain ⟨L, m, c, hS, hM, hA⟩ := h
  have hhas := hM.has hA o.i
  obtain ⟨hmr, hw⟩ := hS.hr
  obtain ⟨w, hmB⟩ := hS.hB
  have hnil := hA.nil
  have hfin : ∀ X, (∃ n', HP B r P (J ++ X) s n' ∧ n' ≤ n + 1) ∧ Fr B r P J (J ++ X) := fun X => ⟨⟨n, ⟨L, m, c, hS.app X, hM, hA⟩, by omega⟩, Fr.app B r P hP X⟩
  have hlook := look_E m o.i
  obtain ⟨ok, oi, oh, ol⟩ := o
  simp only [Op.val] at *
  refine .walkW f21_ok (by simp; decide) (by decide) ?_
  rcases hc with ⟨rfl, hc⟩ | ⟨rfl, rfl⟩ | ⟨hk, hc⟩ | hk
  · have hd : doP s ⟨1, oi, oh, ol⟩ = (6, 0, s) := by unfold doP; rw [if_pos rfl, if_pos hc]
    rcases hhas with ⟨h1, _⟩ | ⟨_, k, h2, h3, h4⟩
    · rw [hc] at h1; cases h1
    · rw [h3] at hlook
      rw [hd]
      repeat' first | simp (disch := first | with_reducible assumption | omega) only [go_sem, Bool.true_and, Bool.and_true, Bool.and_self, Bool.false_and, Bool.and_false, Bool.true_or, Bool.or_true, Bool.false_or, Bool.or_false, ↓reduceIte, Nat.reduceEqDiff, Nat.reduceAdd, Nat.reduceMul, Nat.reduceSub, Nat.reduceBEq, Nat.reduceLeDiff, Nat.reduceLT, Nat.reduceMod, Nat.reduceDiv, Int.reduceToNat, Int.reducePow, Int.reduceMul, Int.reduceAdd, Int.reduceSub, Int.reduceLE, Int.reduceLT, Int.reduceNeg, Int.reduceDiv, Int.reduceMod, Int.reduceEq, Int.reduceBEq, Int.reduceBNe, f21, f21b, f21r0, f21r1, f21r2, f21r3, f21r4, f21r5, f21r6, f21r7, f21r8, f21r9, f21r10, f21r11, f21r12, f21r13, f21r14, f21r15, f21r16, f21r17, f21r18, f21r19, f21r20, f21r21, f21r22, hmB, hmr, get_old hmB, get_old hmr, mapAt, hlook] | (refine BrW.of (fun hb => ?_) (fun hb => ?_) <;> (have hb' := hb; try simp only [decide_eq_true_eq, decide_eq_false_iff_not, beq_iff_eq, bne_iff_ne, beq_eq_false_iff_ne, bne_eq_false_iff_eq, Bool.not_eq_true', Bool.not_eq_false', Bool.not_eq_true, Bool.not_eq_false, Bool.and_eq_true, Bool.or_eq_true, Bool.and_eq_false_iff, Bool.or_eq_false_iff, Int.not_lt, Int.not_le, ne_eq, gt_iff_lt, ge_iff_le] at hb') <;> (try (exfalso; omega))) | (refine altW.of ?_ ?_)
      all_goals first | exact .here ⟨rfl, hfin _⟩ | (exfalso; omega)
  · have hd : doP [] ⟨2, oi, oh, ol⟩ = (3, 0, []) := by unfold doP; rw [if_neg (by show ¬ (2 : Int) = 1; omega), if_pos rfl]
    have hn0 := hnil.1 rfl
    rw [hd]
    subst hn0
    have hl0 : ∃ u b, lookV (.int .i64 0) true (m.map E) .i64 oi = some (.tuple #[.int .i64 u, .bool b]) := by
      rw [hlook]; split
      · exact ⟨_, _, rfl⟩
      · exact ⟨_, _, rfl⟩
    obtain ⟨u, b, hl0⟩ := hl0
    rcases hS with ⟨q, g, h1, hQ⟩ | ⟨_, h2, _⟩
    · have fl := flI_len L
      have hq1 := hQ.hB
      have hq2 := hQ.hq
      repeat' first | simp (disch := first | with_reducible assumption | omega) only [go_sem, Bool.true_and, Bool.and_true, Bool.and_self, Bool.false_and, Bool.and_false, Bool.true_or, Bool.or_true, Bool.false_or, Bool.or_false, ↓reduceIte, Nat.reduceEqDiff, Nat.reduceAdd, Nat.reduceMul, Nat.reduceSub, Nat.reduceBEq, Nat.reduceLeDiff, Nat.reduceLT, Nat.reduceMod, Nat.reduceDiv, Int.reduceToNat, Int.reducePow, Int.reduceMul, Int.reduceAdd, Int.reduceSub, Int.reduceLE, Int.reduceLT, Int.reduceNeg, Int.reduceDiv, Int.reduceMod, Int.reduceEq, Int.reduceBEq, Int.reduceBNe, f21, f21b, f21r0, f21r1, f21r2, f21r3, f21r4, f21r5, f21r6, f21r7, f21r8, f21r9, f21r10, f21r11, f21r12, f21r13, f21r14, f21r15, f21r16, f21r17, f21r18, f21r19, f21r20, f21r21, f21r22, hq1, hmr, get_old hq1, get_old hmr, get_old hq2, fl, mapAt, hl0] | (refine BrW.of (fun hb => ?_) (fun hb => ?_) <;> (have hb' := hb; try simp only [decide_eq_true_eq, decide_eq_false_iff_not, beq_iff_eq, bne_iff_ne, beq_eq_false_iff_ne, bne_eq_false_iff_eq, Bool.not_eq_true', Bool.not_eq_false', Bool.not_eq_true, Bool.not_eq_false, Bool.and_eq_true, Bool.or_eq_true, Bool.and_eq_false_iff, Bool.or_eq_false_iff, Int.not_lt, Int.not_le, ne_eq, gt_iff_lt, ge_iff_le] at hb') <;> (try (exfalso; omega))) | (refine altW.of ?_ ?_)
      all_goals first | exact .here ⟨rfl, hfin _⟩ | (exfalso; omega)
    · repeat' first | simp (disch := first | with_reducible assumption | omega) only [go_sem, Bool.true_and, Bool.and_true, Bool.and_self, Bool.false_and, Bool.and_false, Bool.true_or, Bool.or_true, Bool.false_or, Bool.or_false, ↓reduceIte, Nat.reduceEqDiff, Nat.reduceAdd, Nat.reduceMul, Nat.reduceSub, Nat.reduceBEq, Nat.reduceLeDiff, Nat.reduceLT, Nat.reduceMod, Nat.reduceDiv, Int.reduceToNat, Int.reducePow, Int.reduceMul, Int.reduceAdd, Int.reduceSub, Int.reduceLE, Int.reduceLT, Int.reduceNeg, Int.reduceDiv, Int.reduceMod, Int.reduceEq, Int.reduceBEq, Int.reduceBNe, f21, f21b, f21r0, f21r1, f21r2, f21r3, f21r4, f21r5, f21r6, f21r7, f21r8, f21r9, f21r10, f21r11, f21r12, f21r13, f21r14, f21r15, f21r16, f21r17, f21r18, f21r19, f21r20, f21r21, f21r22, h2, hmr, get_old h2, get_old hmr, mapAt, hl0] | (refine BrW.of (fun hb => ?_) (fun hb => ?_) <;> (have hb' := hb; try simp only [decide_eq_true_eq, decide_eq_false_iff_not, beq_iff_eq, bne_iff_ne, beq_eq_false_iff_ne, bne_eq_false_iff_eq, Bool.not_eq_true', Bool.not_eq_false', Bool.not_eq_true, Bool.not_eq_false, Bool.and_eq_true, Bool.or_eq_true, Bool.and_eq_false_iff, Bool.or_eq_false_iff, Int.not_lt, Int.not_le, ne_eq, gt_iff_lt, ge_iff_le] at hb') <;> (try (exfalso; omega))) | (refine altW.of ?_ ?_)
      all_goals first | exact .here ⟨rfl, hfin _⟩ | (exfalso; omega)
  · have hd : doP s ⟨ok, oi, oh, ol⟩ = (3, 0, s) := by
      unfold doP
      try simp only at hk hc ⊢
      rcases hk with rfl | rfl
      · rw [if_neg (by omega), if_neg (by omega), if_pos rfl, if_neg (by rw [hc]; decide)]
      · rw [if_neg (by omega), if_neg (by omega), if_neg (by omega), if_pos rfl, if_neg (by rw [hc]; decide)]
    rcases hhas with ⟨_, h1⟩ | ⟨h2, _⟩
    · rw [h1] at hlook
      rw [hd]
      rcases hk with rfl | rfl
      · repeat' first | simp (disch := first | with_reducible assumption | omega) only [go_sem, Bool.true_and, Bool.and_true, Bool.and_self, Bool.false_and, Bool.and_false, Bool.true_or, Bool.or_true, Bool.false_or, Bool.or_false, ↓reduceIte, Nat.reduceEqDiff, Nat.reduceAdd, Nat.reduceMul, Nat.reduceSub, Nat.reduceBEq, Nat.reduceLeDiff, Nat.reduceLT, Nat.reduceMod, Nat.reduceDiv, Int.reduceToNat, Int.reducePow, Int.reduceMul, Int.reduceAdd, Int.reduceSub, Int.reduceLE, Int.reduceLT, Int.reduceNeg, Int.reduceDiv, Int.reduceMod, Int.reduceEq, Int.reduceBEq, Int.reduceBNe, f21, f21b, f21r0, f21r1, f21r2, f21r3, f21r4, f21r5, f21r6, f21r7, f21r8, f21r9, f21r10, f21r11, f21r12, f21r13, f21r14, f21r15, f21r16, f21r17, f21r18, f21r19, f21r20, f21r21, f21r22, hmB, hmr, get_old hmB, get_old hmr, mapAt, hlook] | (refine BrW.of (fun hb => ?_) (fun hb => ?_) <;> (have hb' := hb; try simp only [decide_eq_true_eq, decide_eq_false_iff_not, beq_iff_eq, bne_iff_ne, beq_eq_false_iff_ne, bne_eq_false_iff_eq, Bool.not_eq_true', Bool.not_eq_false', Bool.not_eq_true, Bool.not_eq_false, Bool.and_eq_true, Bool.or_eq_true, Bool.and_eq_false_iff, Bool.or_eq_false_iff, Int.not_lt, Int.not_le, ne_eq, gt_iff_lt, ge_iff_le] at hb') <;> (try (exfalso; omega))) | (refine altW.of ?_ ?_)
        all_goals first | exact .here ⟨rfl, hfin _⟩ | (exfalso; omega)
      · repeat' first | simp (disch := first | with_reducible assumption | omega) only [go_sem, Bool.true_and, Bool.and_true, Bool.and_self, Bool.false_and, Bool.and_false, Bool.true_or, Bool.or_true, Bool.false_or, Bool.or_false, ↓reduceIte, Nat.reduceEqDiff, Nat.reduceAdd, Nat.reduceMul, Nat.reduceSub, Nat.reduceBEq, Nat.reduceLeDiff, Nat.reduceLT, Nat.reduceMod, Nat.reduceDiv, Int.reduceToNat, Int.reducePow, Int.reduceMul, Int.reduceAdd, Int.reduceSub, Int.reduceLE, Int.reduceLT, Int.reduceNeg, Int.reduceDiv, Int.reduceMod, Int.reduceEq, Int.reduceBEq, Int.reduceBNe, f21, f21b, f21r0, f21r1, f21r2, f21r3, f21r4, f21r5, f21r6, f21r7, f21r8, f21r9, f21r10, f21r11, f21r12, f21r13, f21r14, f21r15, f21r16, f21r17, f21r18, f21r19, f21r20, f21r21, f21r22, hmB, hmr, get_old hmB, get_old hmr, mapAt, hlook] | (refine BrW.of (fun hb => ?_) (fun hb => ?_) <;> (have hb' := hb; try simp only [decide_eq_true_eq, decide_eq_false_iff_not, beq_iff_eq, bne_iff_ne, beq_eq_false_iff_ne, bne_eq_false_iff_eq, Bool.not_eq_true', Bool.not_eq_false', Bool.not_eq_true, Bool.not_eq_false, Bool.and_eq_true, Bool.or_eq_true, Bool.and_eq_false_iff, Bool.or_eq_false_iff, Int.not_lt, Int.not_le, ne_eq, gt_iff_lt, ge_iff_le] at hb') <;> (try (exfalso; omega))) | (refine altW.of ?_ ?_)
        all_goals first | exact .here ⟨rfl, hfin _⟩ | (exfalso; omega)
    · rw [hc] at h2; cases h2
  · have hd : doP s ⟨ok, oi, oh, ol⟩ = (5, 0, s) := by
      unfold doP
      rw [if_neg (fun h => hk (.inl h)), if_neg (fun h => hk (.inr (.inl h))), if_neg (fun h => hk (.inr (.inr (.inl h)))), if_neg (fun h => hk (.inr (.inr (.inr h))))]
    have k1 : (ok == 1) = false := by simp; omega
    have k2 : (ok == 2) = false := by simp; omega
    have k3 : (ok == 3) = false := by simp; omega
    have k4 : (ok == 4) = false := by simp; omega
    clear hk
    have hl0 : ∃ u b, lookV (.int .i64 0) true (m.map E) .i64 oi = some (.tuple #[.int .i64 u, .bool b]) := by
      rw [hlook]; split
      · exact ⟨_, _, rfl⟩
      · exact ⟨_, _, rfl⟩
    obtain ⟨u, b, hl0⟩ := hl0
    rw [hd]
    repeat' first | simp (disch := first | with_reducible assumption | omega) only [go_sem, Bool.true_and, Bool.and_true, Bool.and_self, Bool.false_and, Bool.and_false, Bool.true_or, Bool.or_true, Bool.false_or, Bool.or_false, ↓reduceIte, Nat.reduceEqDiff, Nat.reduceAdd, Nat.reduceMul, Nat.reduceSub, Nat.reduceBEq, Nat.reduceLeDiff, Nat.reduceLT, Nat.reduceMod, Nat.reduceDiv, Int.reduceToNat, Int.reducePow, Int.reduceMul, Int.reduceAdd, Int.reduceSub, Int.reduceLE, Int.reduceLT, Int.reduceNeg, Int.reduceDiv, Int.reduceMod, Int.reduceEq, Int.reduceBEq, Int.reduceBNe, f21, f21b, f21r0, f21r1, f21r2, f21r3, f21r4, f21r5, f21r6, f21r7, f21r8, f21r9, f21r10, f21r11, f21r12, f21r13, f21r14, f21r15, f21r16, f21r17, f21r18, f21r19, f21r20, f21r21, f21r22, hmB, hmr, get_old hmB, get_old hmr, mapAt, hl0, k1, k2, k3, k4] | (refine BrW.of (fun hb => ?_) (fun hb => ?_) <;> (have hb' := hb; try simp only [decide_eq_true_eq, decide_eq_false_iff_not, beq_iff_eq, bne_iff_ne, beq_eq_false_iff_ne, bne_eq_false_iff_eq, Bool.not_eq_true', Bool.not_eq_false', Bool.not_eq_true, Bool.not_eq_false, Bool.and_eq_true, Bool.or_eq_true, Bool.and_eq_false_iff, Bool.or_eq_false_iff, Int.not_lt, Int.not_le, ne_eq, gt_iff_lt, ge_iff_le] at hb') <;> (try (exfalso; omega))) | (refine altW.of ?_ ?_)
    all_goals first | exact .here ⟨rfl, hfin _⟩ | (exfalso; omega)
end Go.Proofs.Ytjdmpkaiijcchaa
