import Derived.Test.YtjdmpkaiijcchaaSteps
set_option linter.unusedSimpArgs false
set_option linter.unusedVariables false
set_option maxHeartbeats 2000000
set_option maxRecDepth 20000
namespace Go.Proofs.Ytjdmpkaiijcchaa
open Go Go.Am
attribute [local irreducible] opsW Ww loopW callW drawW outW outDW gW cW BrW bothW vW resW DropW RdW dcallW altW forkW splitW Later.run

def It.cells (x : It) : List Value := [.int .i64 x.i, .int .u64 x.h, .int .u64 x.l]
theorem flI_len (L : List It) : (flat' It.cells L).length = L.length * 3 := flat'_length (enc := It.cells) (s := 3) (fun _ => rfl) L
theorem flI_get {L : List It} {i : Nat} (h : i < L.length) : (flat' It.cells L)[i * 3]? = some (.int .i64 (L.getD i i0).i) ∧ (flat' It.cells L)[i * 3 + 1]? = some (.int .u64 (L.getD i i0).h) ∧ (flat' It.cells L)[i * 3 + 2]? = some (.int .u64 (L.getD i i0).l) := by
  have g := fun j hj => flat'_get (enc := It.cells) (s := 3) (fun _ => rfl) i0 L i j h hj
  have g0 := g 0 (by omega)
  have g1 := g 1 (by omega)
  have g2 := g 2 (by omega)
  simp only [It.cells, List.getElem?_cons_zero, List.getElem?_cons_succ, Nat.add_zero] at g0 g1 g2
  exact ⟨g0, g1, g2⟩
theorem flI_wr {L : List It} {i : Nat} (x : It) (h : i < L.length) : (((flat' It.cells L).set (i * 3) (.int .i64 x.i)).set (i * 3 + 1) (.int .u64 x.h)).set (i * 3 + 1 + 1) (.int .u64 x.l) = flat' It.cells (L.set i x) := flat'_wr (enc := It.cells) (s := 3) (fun _ => rfl) x L i h
theorem getI_set (L : List It) (i j : Nat) (x : It) (h : i < L.length) : (L.set i x).getD j i0 = if j = i then x else L.getD j i0 := by
  simp only [List.getD_eq_getElem?_getD]
  by_cases e : j = i
  · subst e; rw [if_pos rfl, List.getElem?_set_self h]; rfl
  · rw [if_neg e, List.getElem?_set_ne (Ne.symm e)]
def swL (L : List It) (i j : Nat) : List It := (L.set i (L.getD j i0)).set j (L.getD i i0)
theorem swL_len (L : List It) (i j : Nat) : (swL L i j).length = L.length := by simp [swL]
theorem swL_get (L : List It) {i j : Nat} (hi : i < L.length) (hj : j < L.length) (m : Nat) : (swL L i j).getD m i0 = sw (fun m => L.getD m i0) i j m := by
  unfold swL sw
  rw [getI_set _ _ _ _ (by simpa using hj), getI_set _ _ _ _ hi]
  by_cases e : m = j
  · subst e
    rw [if_pos rfl]
    by_cases e2 : m = i
    · subst e2; rw [if_pos rfl]
    · rw [if_neg e2, if_pos rfl]
  · rw [if_neg e, if_neg e]
/-- A heap at work. -/
structure HQ (B r q : Nat) (J : Heap) (L : List It) (n g : Nat) (m : List T3) (c : Nat) : Prop where
  hB : J[B]? = some (.cells 0 0 false [slv q 0 g n L.length, .map (some r)])
  hr : J[r]? = some (.map (m.map E) c)
  hq : J[q]? = some (.cells g 3 false (flat' It.cells L))
  nL : n ≤ L.length
  ne : B ≠ r ∧ B ≠ q ∧ r ≠ q
  wm : WM m c
/-- The map has where each one is. -/
structure MI (L : List It) (n : Nat) (m : List T3) : Prop where
  at' : ∀ i, i < n → lk m (L.getD i i0).i = some (i : Int)
  fr : ∀ id u, lk m id = some u → ∃ i : Nat, i < n ∧ u = i ∧ (L.getD i i0).i = id
theorem MI.one {L : List It} {n : Nat} {m : List T3} (h : MI L n m) {i j : Nat} (hi : i < n) (hj : j < n) (e : (L.getD i i0).i = (L.getD j i0).i) : i = j := by
  have h1 := h.at' i hi
  have h2 := h.at' j hj
  rw [e, h2] at h1
  have := Option.some.inj h1
  omega
def OkL (L : List It) (n : Nat) : Prop := ∀ i, i < n → (L.getD i i0).ok
theorem less_spec (B r q : Nat) (J : Heap) (L : List It) (n g : Nat) (m : List T3) (c : Nat) (h : HQ B r q J L n g m c) (hok : OkL L n) (hn : n ≤ 1000000000000) (i j : Nat) (hi : i < n) (hj : j < n) :
    ACallK Try.prog 38 [.pointer (some ⟨B, 0, some 1⟩), .int .i64 i, .int .i64 j] J (fun v J' => v = .bool (decide (rk (L.getD i i0) < rk (L.getD j i0))) ∧ J' = J) := by
  have hL := h.nL
  obtain ⟨a0, a1, a2⟩ := flI_get (L := L) (i := i) (by omega)
  obtain ⟨b0, b1, b2⟩ := flI_get (L := L) (i := j) (by omega)
  have hB := h.hB
  have hq := h.hq
  have fl := flI_len L
  have hC := fun H => Cmp_spec (L.getD i i0) (L.getD j i0) H
  have hl := less_iff (hok i hi) (hok j hj)
  generalize L.getD i i0 = x at *
  generalize L.getD j i0 = y at *
  generalize flat' It.cells L = X at *
  refine .walkW f38_ok (by simp; decide) (by decide) ?_
  by_cases hc : cmpK x y ≠ 0
  · rw [if_pos hc] at hl
    have hc' : (cmpK x y != 0) = true := by simpa using hc
    repeat' first | simp (disch := first | with_reducible assumption | omega) only [go_sem, Bool.true_and, Bool.and_true, Bool.and_self, Bool.false_and, Bool.and_false, Bool.true_or, Bool.or_true, Bool.false_or, Bool.or_false, ↓reduceIte, Nat.reduceEqDiff, Nat.reduceAdd, Nat.reduceMul, Nat.reduceSub, Nat.reduceBEq, Nat.reduceLeDiff, Nat.reduceLT, Nat.reduceMod, Nat.reduceDiv, Int.reduceToNat, Int.reducePow, Int.reduceMul, Int.reduceAdd, Int.reduceSub, Int.reduceLE, Int.reduceLT, Int.reduceNeg, Int.reduceDiv, Int.reduceMod, Int.reduceEq, Int.reduceBEq, Int.reduceBNe, f38, f38b, f38r0, f38r1, f38r2, f38r3, f38r4, hB, hq, a0, a1, a2, b0, b1, b2, fl, hc'] | (refine BrW.of (fun hb => ?_) (fun hb => ?_) <;> (have hb' := hb; try simp only [decide_eq_true_eq, decide_eq_false_iff_not, beq_iff_eq, bne_iff_ne, beq_eq_false_iff_ne, bne_eq_false_iff_eq, Bool.not_eq_true', Bool.not_eq_false', Bool.not_eq_true, Bool.not_eq_false, Bool.and_eq_true, Bool.or_eq_true, Bool.and_eq_false_iff, Bool.or_eq_false_iff, Int.not_lt, Int.not_le, ne_eq, gt_iff_lt, ge_iff_le] at hb') <;> (try (exfalso; omega))) | (refine altW.of ?_ ?_) | (refine .of ((hC _).mono ?_); rintro v _ ⟨rfl, rfl⟩)
    all_goals first | exact .here ⟨by rw [decide_eq_decide.2 hl], rfl⟩ | (exfalso; omega)
  · rw [if_neg hc] at hl
    have hc' : (cmpK x y != 0) = false := by simpa using hc
    repeat' first | simp (disch := first | with_reducible assumption | omega) only [go_sem, Bool.true_and, Bool.and_true, Bool.and_self, Bool.false_and, Bool.and_false, Bool.true_or, Bool.or_true, Bool.false_or, Bool.or_false, ↓reduceIte, Nat.reduceEqDiff, Nat.reduceAdd, Nat.reduceMul, Nat.reduceSub, Nat.reduceBEq, Nat.reduceLeDiff, Nat.reduceLT, Nat.reduceMod, Nat.reduceDiv, Int.reduceToNat, Int.reducePow, Int.reduceMul, Int.reduceAdd, Int.reduceSub, Int.reduceLE, Int.reduceLT, Int.reduceNeg, Int.reduceDiv, Int.reduceMod, Int.reduceEq, Int.reduceBEq, Int.reduceBNe, f38, f38b, f38r0, f38r1, f38r2, f38r3, f38r4, hB, hq, a0, a1, a2, b0, b1, b2, fl, hc'] | (refine BrW.of (fun hb => ?_) (fun hb => ?_) <;> (have hb' := hb; try simp only [decide_eq_true_eq, decide_eq_false_iff_not, beq_iff_eq, bne_iff_ne, beq_eq_false_iff_ne, bne_eq_false_iff_eq, Bool.not_eq_true', Bool.not_eq_false', Bool.not_eq_true, Bool.not_eq_false, Bool.and_eq_true, Bool.or_eq_true, Bool.and_eq_false_iff, Bool.or_eq_false_iff, Int.not_lt, Int.not_le, ne_eq, gt_iff_lt, ge_iff_le] at hb') <;> (try (exfalso; omega))) | (refine altW.of ?_ ?_) | (refine .of ((hC _).mono ?_); rintro v _ ⟨rfl, rfl⟩)
    all_goals first | exact .here ⟨by rw [decide_eq_decide.2 hl], rfl⟩ | (exfalso; omega)
theorem swap_spec (B r q : Nat) (J : Heap) (L : List It) (n g : Nat) (m : List T3) (c : Nat) (h : HQ B r q J L n g m c) (hM : MI L n m) (hn : n ≤ 1000000000000) (i j : Nat) (hi : i < n) (hj : j < n) :
    ACallK Try.prog 33 [.pointer (some ⟨B, 0, some 1⟩), .int .i64 i, .int .i64 j] J (fun v J' => v = .tuple #[] ∧ J' = (J.set q (.cells g 3 false (flat' It.cells (swL L i j)))).set r (.map ((st (st m (L.getD j i0).i i) (L.getD i i0).i j).map E) c)) := by
  have hL := h.nL
  obtain ⟨a0, a1, a2⟩ := flI_get (L := L) (i := i) (by omega)
  obtain ⟨b0, b1, b2⟩ := flI_get (L := L) (i := j) (by omega)
  have hB := h.hB
  have hq := h.hq
  have hr := h.hr
  obtain ⟨e1, e2, e3⟩ := h.ne
  have fl := flI_len L
  have w1 := flI_wr (L := L) (i := i) (L.getD j i0) (by omega)
  have fl1 := flI_len (L.set i (L.getD j i0))
  rw [List.length_set] at fl1
  have w2 := flI_wr (L := L.set i (L.getD j i0)) (i := j) (L.getD i i0) (by rw [List.length_set]; omega)
  have fl2 := flI_len ((L.set i (L.getD j i0)).set j (L.getD i i0))
  rw [List.length_set, List.length_set] at fl2
  have hsw := fun k => swL_get L (show i < L.length by omega) (show j < L.length by omega) k
  have s0 := (flI_get (L := swL L i j) (i := i) (by rw [swL_len]; omega)).1
  have s1 := (flI_get (L := swL L i j) (i := j) (by rw [swL_len]; omega)).1
  rw [hsw, sw_i] at s0
  rw [hsw, sw_j] at s1
  have l1 := hM.at' j hj
  have l2 := hM.at' i hi
  have y1 := entry_E m c _ _ l1
  have y2 := stamp_E m c h.wm _ _ (i : Int) l1
  have l3 : ∃ u, lk (st m (L.getD j i0).i i) (L.getD i i0).i = some u := by
    rw [lk_st]
    split
    · exact ⟨_, rfl⟩
    · exact ⟨_, l2⟩
  obtain ⟨u, l3⟩ := l3
  have y3 := entry_E (st m (L.getD j i0).i i) c _ _ l3
  have y4 := stamp_E (st m (L.getD j i0).i i) c (h.wm.st' _ _) _ _ (j : Int) l3
  have kB : ∀ X, (J.set q X)[B]? = _ := fun X => (get_set_miss (by omega)).trans hB
  have kq : ∀ X, (J.set q X)[q]? = some X := fun X => get_set_hit hq
  have kr : ∀ X, (J.set q X)[r]? = _ := fun X => (get_set_miss (by omega)).trans hr
  have kB2 : ∀ X Y, ((J.set q X).set r Y)[B]? = _ := fun X Y => (get_set_miss (by omega)).trans (kB X)
  have kq2 : ∀ X Y, ((J.set q X).set r Y)[q]? = some X := fun X Y => (get_set_miss (by omega)).trans (kq X)
  have kr2 : ∀ X Y, ((J.set q X).set r Y)[r]? = some Y := fun X Y => get_set_hit (kr X)
  have hsL : flat' It.cells ((L.set i (L.getD j i0)).set j (L.getD i i0)) = flat' It.cells (swL L i j) := rfl
  rw [hsL] at w2 fl2
  generalize (L.getD i i0) = x at *
  generalize (L.getD j i0) = y at *
  generalize flat' It.cells (swL L i j) = X2 at *
  generalize flat' It.cells (L.set i y) = X1 at *
  generalize flat' It.cells L = X at *
  generalize m.map E = es at *
  generalize (st m y.i i).map E = es1 at *
  generalize hes2 : (st (st m y.i i) x.i j).map E = es2 at *
  generalize bn m y.i = bm1 at *
  generalize bn (st m y.i i) x.i = bm2 at *
  refine .walkW f33_ok (by simp; decide) (by decide) ?_
  repeat' first | simp (disch := first | with_reducible assumption | omega) only [go_sem, Bool.true_and, Bool.and_true, Bool.and_self, Bool.false_and, Bool.and_false, Bool.true_or, Bool.or_true, Bool.false_or, Bool.or_false, ↓reduceIte, Nat.reduceEqDiff, Nat.reduceAdd, Nat.reduceMul, Nat.reduceSub, Nat.reduceBEq, Nat.reduceLeDiff, Nat.reduceLT, Nat.reduceMod, Nat.reduceDiv, Int.reduceToNat, Int.reducePow, Int.reduceMul, Int.reduceAdd, Int.reduceSub, Int.reduceLE, Int.reduceLT, Int.reduceNeg, Int.reduceDiv, Int.reduceMod, Int.reduceEq, Int.reduceBEq, Int.reduceBNe, f33, f33b, f33r0, f33r1, hB, hq, hr, a0, a1, a2, b0, b1, b2, fl, fl1, fl2, w1, w2, s0, s1, kB, kq, kr, kB2, kq2, kr2, y1, y2, y3, y4, mapAt, List.set_set] | (refine BrW.of (fun hb => ?_) (fun hb => ?_) <;> (have hb' := hb; try simp only [decide_eq_true_eq, decide_eq_false_iff_not, beq_iff_eq, bne_iff_ne, beq_eq_false_iff_ne, bne_eq_false_iff_eq, Bool.not_eq_true', Bool.not_eq_false', Bool.not_eq_true, Bool.not_eq_false, Bool.and_eq_true, Bool.or_eq_true, Bool.and_eq_false_iff, Bool.or_eq_false_iff, Int.not_lt, Int.not_le, ne_eq, gt_iff_lt, ge_iff_le] at hb') <;> (try (exfalso; omega))) | (refine altW.of ?_ ?_)
  all_goals first | exact .here ⟨rfl, rfl⟩ | (exfalso; omega)
end Go.Proofs.Ytjdmpkaiijcchaa
