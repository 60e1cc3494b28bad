import Derived.Test.YtjdmpkaiijcchaaSteps3
set_option linter.unusedSimpArgs false
set_option linter.unusedVariables false
set_option maxHeartbeats 2000000
set_option maxRecDepth 20000
namespace Go.Proofs.Ytjdmpkaiijcchaa
open Go Go.Am
attribute [local irreducible] opsW Ww loopW callW drawW outW outDW gW cW BrW bothW vW resW DropW RdW dcallW altW forkW splitW Later.run

theorem HQ.app {B r q : Nat} {J : Heap} {L : List It} {n g : Nat} {m : List T3} {c : Nat} (h : HQ B r q J L n g m c) (X : Heap) : HQ B r q (J ++ X) L n g m c :=
  ⟨get_old h.hB X, get_old h.hr X, get_old h.hq X, h.nL, h.ne, h.wm⟩
theorem HQ.set {B r q : Nat} {J : Heap} {L : List It} {n g : Nat} {m : List T3} {c : Nat} (h : HQ B r q J L n g m c) {j : Nat} (y : AObj) (h1 : j ≠ B) (h2 : j ≠ r) (h3 : j ≠ q) : HQ B r q (J.set j y) L n g m c :=
  ⟨(get_set_miss (by omega)).trans h.hB, (get_set_miss (by omega)).trans h.hr, (get_set_miss (by omega)).trans h.hq, h.nL, h.ne, h.wm⟩
theorem HQ.lt {B r q : Nat} {J : Heap} {L : List It} {n g : Nat} {m : List T3} {c : Nat} (h : HQ B r q J L n g m c) : B < J.length ∧ r < J.length ∧ q < J.length :=
  ⟨(List.getElem?_eq_some_iff.1 h.hB).1, (List.getElem?_eq_some_iff.1 h.hr).1, (List.getElem?_eq_some_iff.1 h.hq).1⟩
/-- The last one goes out of the map. -/
theorem MI.cut {L : List It} {n : Nat} {m : List T3} {c : Nat} (h : MI L (n + 1) m) (hw : WM m c) : MI L n (dl m (L.getD n i0).i) := by
  refine ⟨fun i hi => ?_, fun id u hu => ?_⟩
  · rw [lk_dl _ hw, if_neg (fun e => by have := h.one (show i < n + 1 by omega) (show n < n + 1 by omega) e; omega)]
    exact h.at' i (by omega)
  · rw [lk_dl _ hw] at hu
    by_cases e : id = (L.getD n i0).i
    · rw [if_pos e] at hu; cases hu
    · rw [if_neg e] at hu
      obtain ⟨i, h1, h2, h3⟩ := h.fr id u hu
      refine ⟨i, ?_, h2, h3⟩
      refine Classical.byContradiction fun hn => e ?_
      obtain rfl : i = n := by omega
      exact h3.symm
/-- An item is taken. -/
theorem take_spec (B r q : Nat) (J : Heap) (L : List It) (n g : Nat) (m : List T3) (c : Nat) (h : HQ B r q J L (n + 1) g m c) (hM : MI L (n + 1) m) (hok : OkL L (n + 1)) (hn : n ≤ 100000000000) (k : Nat) (hk : k < n + 1) (hH : HpI (fun m => rk (L.getD m i0)) (n + 1)) :
    ACallK Try.prog 22 [.pointer (some ⟨B, 0, some 1⟩), .int .i64 k] J (fun v J' => v = .agg (It.cells (L.getD k i0)).toArray ∧ ∃ L' m', HQ B r q J' L' n g m' c ∧ MI L' n m' ∧ OkL L' n ∧ HpI (fun m => rk (L'.getD m i0)) n ∧ (∀ y, (∃ i, i < n ∧ L'.getD i i0 = y) ↔ (∃ i, i < n + 1 ∧ L.getD i i0 = y) ∧ y ≠ L.getD k i0) ∧ L'.length = L.length ∧ J.length ≤ J'.length ∧ ∀ j, j < J.length → j ≠ B → j ≠ q → j ≠ r → J'[j]? = J[j]?) := by
  have hnL := h.nL
  obtain ⟨e1, e2, e3⟩ := h.ne
  obtain ⟨lB, lr, lq⟩ := h.lt
  have hB := h.hB
  have hq := h.hq
  have fl0 := flI_len L
  refine .walkW f22_ok (by simp; decide) (by decide) ?_
  have h4 := h.app [.cells 0 0 false [.int .i64 0, .int .u64 0, .int .u64 0]]
  have hS := swap_spec B r q _ L (n + 1) g m c h4 hM (by omega) k n hk (by omega)
  have hF := (FI.start h4 hM hok).swap hk (show n < n + 1 by omega)
  have hcn : ((n + 1 : Nat) : Int) - 1 = (n : Int) := by omega
  repeat' first | simp (disch := first | with_reducible assumption | omega) only [go_sem, Bool.true_and, Bool.and_true, Bool.and_self, Bool.false_and, Bool.and_false, Bool.true_or, Bool.or_true, Bool.false_or, Bool.or_false, ↓reduceIte, Nat.reduceEqDiff, Nat.reduceAdd, Nat.reduceMul, Nat.reduceSub, Nat.reduceBEq, Nat.reduceLeDiff, Nat.reduceLT, Nat.reduceMod, Nat.reduceDiv, Int.reduceToNat, Int.reducePow, Int.reduceMul, Int.reduceAdd, Int.reduceSub, Int.reduceLE, Int.reduceLT, Int.reduceNeg, Int.reduceDiv, Int.reduceMod, Int.reduceEq, Int.reduceBEq, Int.reduceBNe, f22, f22b, f22r0, f22r1, f22r2, f22r3, f22r4, f22r5, f22r6, f22r7, f22r8, hB, hq, get_old hB, get_old hq, fl0, hcn] | (refine BrW.of (fun hb => ?_) (fun hb => ?_) <;> (have hb' := hb; try simp only [decide_eq_true_eq, decide_eq_false_iff_not, beq_iff_eq, bne_iff_ne, beq_eq_false_iff_ne, bne_eq_false_iff_eq, Bool.not_eq_true', Bool.not_eq_false', Bool.not_eq_true, Bool.not_eq_false, Bool.and_eq_true, Bool.or_eq_true, Bool.and_eq_false_iff, Bool.or_eq_false_iff, Int.not_lt, Int.not_le, ne_eq, gt_iff_lt, ge_iff_le] at hb') <;> (try (exfalso; omega))) | (refine altW.of ?_ ?_)
  refine .of (hS.mono ?_)
  rintro v J1 ⟨rfl, hJ1⟩
  rw [← hJ1] at hF
  have hlast : ∀ i, (swL L k n).getD i i0 = sw (fun i => L.getD i i0) k n i := fun i => swL_get L (by omega) (by omega) i
  have hx : (swL L k n).getD n i0 = L.getD k i0 := by rw [hlast, sw_j]
  have hm1 := hF.mi
  have hw1 := hF.hq.wm
  have hcut := hm1.cut hw1
  have hlk := hm1.at' n (by omega)
  have hdel := del_E _ _ _ hlk
  have hrk : ∀ i, rk ((swL L k n).getD i i0) = sw (fun m => rk (L.getD m i0)) k n i := fun i => congrFun (rk_sw (L := L) (show k < L.length by omega) (show n < L.length by omega)) i
  have hmem1 := hF.mem
  have hok1 := hF.ok
  have hlen1 := hF.len
  rw [hx] at hcut hlk hdel
  have hq1 := hF.hq
  have hB1 := hq1.hB
  have hq1' := hq1.hq
  have hr1 := hq1.hr
  have fl1 := flI_len (swL L k n)
  obtain ⟨x0, x1, x2⟩ := flI_get (L := swL L k n) (i := n) (by omega)
  rw [hx] at x0 x1 x2
  have hj4 : J1[J.length]? = some (.cells 0 0 false [.int .i64 0, .int .u64 0, .int .u64 0]) := by
    rw [hF.old J.length (by omega) (by omega), get_new0]
  have hjl : J1.length = J.length + 1 := by rw [hF.jl]; simp
  have hold1 : ∀ j, j < J.length → j ≠ q → j ≠ r → J1[j]? = J[j]? := fun j h1 h2 h3 => by
    rw [hF.old j h2 h3, List.getElem?_append_left h1]
  have hone1 : ∀ i, i < n → (swL L k n).getD i i0 ≠ L.getD k i0 := fun i hi e => by
    have := hm1.one (show i < n + 1 by omega) (show n < n + 1 by omega) (by rw [e, hx])
    omega
  have hmem2 : ∀ y, (∃ i, i < n ∧ (swL L k n).getD i i0 = y) ↔ (∃ i, i < n + 1 ∧ L.getD i i0 = y) ∧ y ≠ L.getD k i0 := fun y => by
    rw [← hmem1 y]
    constructor
    · rintro ⟨i, h1, h2⟩
      exact ⟨⟨i, by omega, h2⟩, fun e => hone1 i h1 (by rw [h2, e])⟩
    · rintro ⟨⟨i, h1, h2⟩, h3⟩
      refine ⟨i, ?_, h2⟩
      refine Classical.byContradiction fun hh => h3 ?_
      obtain rfl : i = n := by omega
      rw [← h2, hx]
  have hUp : k < n → UpI (fun m => rk ((swL L k n).getD m i0)) n k := fun hkn => (hH.less (show n ≤ n + 1 by omega)).turn (fun j hj hne => by
    show rk ((swL L k n).getD j i0) = _
    rw [hrk, sw_ne _ hne (by omega)]) hkn
  have hHp : ¬ k < n → HpI (fun m => rk ((swL L k n).getD m i0)) n := fun hkn => (hH.less (show n ≤ n + 1 by omega)).congr fun j hj => by
    show rk ((swL L k n).getD j i0) = _
    rw [hrk, sw_ne _ (by omega) (by omega)]
  clear hmem1 hm1 hF hone1 hlast hrk hJ1 hS h4
  have hw2 := hw1.dl' (L.getD k i0).i
  generalize st (st m (L.getD n i0).i k) (L.getD k i0).i n = m1 at *
  generalize hL1 : swL L k n = L1 at *
  generalize hmm2 : dl m1 (L.getD k i0).i = m2 at *
  generalize L.getD k i0 = x at *
  have kB : ∀ X Y, ((J1 ++ X).set B Y)[B]? = some Y := fun X Y => get_set_hit (get_old hB1 X)
  have kq : ∀ X Y, ((J1 ++ X).set B Y)[q]? = _ := fun X Y => (get_set_miss (by omega)).trans (get_old hq1' X)
  have kr : ∀ X Y, ((J1 ++ X).set B Y)[r]? = _ := fun X Y => (get_set_miss (by omega)).trans (get_old hr1 X)
  have kX : ∀ X Y, ((J1 ++ [X]).set B Y)[J1.length]? = some X := fun X Y => (get_set_miss (by omega)).trans (get_new0 J1 X [])
  have kX2 : ∀ X Y Z, (((J1 ++ [X]).set B Y).set r Z)[J1.length]? = some X := fun X Y Z => (get_set_miss (by omega)).trans (kX X Y)
  have k4 : ∀ X Y Z, (((J1 ++ [X]).set B Y).set r Z)[J.length]? = _ := fun X Y Z => (get_set_miss (by omega)).trans ((get_set_miss (by omega)).trans (get_old hj4 [X]))
  have kH : HQ B r q (((J1 ++ [AObj.cells 0 0 false [.int .i64 x.i, .int .u64 x.h, .int .u64 x.l]]).set B (.cells 0 0 false [slv q 0 g n L1.length, .map (some r)])).set r (.map (m2.map E) c)) L1 n g m2 c :=
    ⟨(get_set_miss (by omega)).trans (kB _ _), get_set_hit (kr _ _), (get_set_miss (by omega)).trans (kq _ _), by omega, ⟨e1, e2, e3⟩, hw2⟩
  have kO : ∀ j, j < J.length → j ≠ B → j ≠ q → j ≠ r → (((J1 ++ [AObj.cells 0 0 false [.int .i64 x.i, .int .u64 x.h, .int .u64 x.l]]).set B (.cells 0 0 false [slv q 0 g n L1.length, .map (some r)])).set r (.map (m2.map E) c))[j]? = J[j]? := fun j h1 h2 h3 h4 => by
    rw [List.getElem?_set_ne (by omega), List.getElem?_set_ne (by omega), List.getElem?_append_left (by omega)]
    exact hold1 j h1 h3 h4
  have k44 : ∀ X Y Z W, ((((J1 ++ [X]).set B Y).set r Z).set J.length W)[J.length]? = some W := fun X Y Z W => get_set_hit (k4 X Y Z)
  have kl : (((J1 ++ [AObj.cells 0 0 false [.int .i64 x.i, .int .u64 x.h, .int .u64 x.l]]).set B (.cells 0 0 false [slv q 0 g n L1.length, .map (some r)])).set r (.map (m2.map E) c)).length = J.length + 2 := by simp [hjl]
  by_cases hkn : k < n
  · have hU := hUp hkn
    clear hUp hHp
    repeat' first | simp (disch := first | with_reducible assumption | omega) only [go_sem, Bool.true_and, Bool.and_true, Bool.and_self, Bool.false_and, Bool.and_false, Bool.true_or, Bool.or_true, Bool.false_or, Bool.or_false, ↓reduceIte, Nat.reduceEqDiff, Nat.reduceAdd, Nat.reduceMul, Nat.reduceSub, Nat.reduceBEq, Nat.reduceLeDiff, Nat.reduceLT, Nat.reduceMod, Nat.reduceDiv, Int.reduceToNat, Int.reducePow, Int.reduceMul, Int.reduceAdd, Int.reduceSub, Int.reduceLE, Int.reduceLT, Int.reduceNeg, Int.reduceDiv, Int.reduceMod, Int.reduceEq, Int.reduceBEq, Int.reduceBNe, f22, f22b, f22r0, f22r1, f22r2, f22r3, f22r4, f22r5, f22r6, f22r7, f22r8, hB1, hq1', get_old hB1, get_old hq1', get_old hr1, fl1, x0, x1, x2, kB, kq, kr, kX, mapAt, hdel] | (refine BrW.of (fun hb => ?_) (fun hb => ?_) <;> (have hb' := hb; try simp only [decide_eq_true_eq, decide_eq_false_iff_not, beq_iff_eq, bne_iff_ne, beq_eq_false_iff_ne, bne_eq_false_iff_eq, Bool.not_eq_true', Bool.not_eq_false', Bool.not_eq_true, Bool.not_eq_false, Bool.and_eq_true, Bool.or_eq_true, Bool.and_eq_false_iff, Bool.or_eq_false_iff, Int.not_lt, Int.not_le, ne_eq, gt_iff_lt, ge_iff_le] at hb') <;> (try (exfalso; omega))) | (refine altW.of ?_ ?_)
    refine .of ((fix_spec B r q _ L1 n g m2 c kH hcut (fun i hi => hok1 i (by omega)) (by omega) k hkn hU).mono ?_)
    rintro v J8 ⟨rfl, L8, m8, hF8, hH8⟩
    have t1 : J8[J1.length]? = _ := (hF8.old J1.length (by omega) (by omega)).trans (kX2 _ _ _)
    have t2 : J8[J.length]? = _ := (hF8.old J.length (by omega) (by omega)).trans (k4 _ _ _)
    have t3 : ∀ X, (J8.set J.length X)[J.length]? = some X := fun X => get_set_hit t2
    have t4 := hF8.jl
    repeat' first | simp (disch := first | with_reducible assumption | omega) only [go_sem, Bool.true_and, Bool.and_true, Bool.and_self, Bool.false_and, Bool.and_false, Bool.true_or, Bool.or_true, Bool.false_or, Bool.or_false, ↓reduceIte, Nat.reduceEqDiff, Nat.reduceAdd, Nat.reduceMul, Nat.reduceSub, Nat.reduceBEq, Nat.reduceLeDiff, Nat.reduceLT, Nat.reduceMod, Nat.reduceDiv, Int.reduceToNat, Int.reducePow, Int.reduceMul, Int.reduceAdd, Int.reduceSub, Int.reduceLE, Int.reduceLT, Int.reduceNeg, Int.reduceDiv, Int.reduceMod, Int.reduceEq, Int.reduceBEq, Int.reduceBNe, f22, f22b, f22r0, f22r1, f22r2, f22r3, f22r4, f22r5, f22r6, f22r7, f22r8, t1, t2, t3] | (refine BrW.of (fun hb => ?_) (fun hb => ?_) <;> (have hb' := hb; try simp only [decide_eq_true_eq, decide_eq_false_iff_not, beq_iff_eq, bne_iff_ne, beq_eq_false_iff_ne, bne_eq_false_iff_eq, Bool.not_eq_true', Bool.not_eq_false', Bool.not_eq_true, Bool.not_eq_false, Bool.and_eq_true, Bool.or_eq_true, Bool.and_eq_false_iff, Bool.or_eq_false_iff, Int.not_lt, Int.not_le, ne_eq, gt_iff_lt, ge_iff_le] at hb') <;> (try (exfalso; omega))) | (refine altW.of ?_ ?_)
    refine .here ⟨rfl, L8, m8, hF8.hq.set _ (by omega) (by omega) (by omega), hF8.mi, hF8.ok, hH8, fun y => (hF8.mem y).trans (hmem2 y), hF8.len.trans hlen1, by simp; omega, fun j h1 h2 h3 h4 => ?_⟩
    rw [List.getElem?_set_ne (by omega), hF8.old j h3 h4]
    exact kO j h1 h2 h3 h4
  · have hU := hHp hkn
    clear hUp hHp
    repeat' first | simp (disch := first | with_reducible assumption | omega) only [go_sem, Bool.true_and, Bool.and_true, Bool.and_self, Bool.false_and, Bool.and_false, Bool.true_or, Bool.or_true, Bool.false_or, Bool.or_false, ↓reduceIte, Nat.reduceEqDiff, Nat.reduceAdd, Nat.reduceMul, Nat.reduceSub, Nat.reduceBEq, Nat.reduceLeDiff, Nat.reduceLT, Nat.reduceMod, Nat.reduceDiv, Int.reduceToNat, Int.reducePow, Int.reduceMul, Int.reduceAdd, Int.reduceSub, Int.reduceLE, Int.reduceLT, Int.reduceNeg, Int.reduceDiv, Int.reduceMod, Int.reduceEq, Int.reduceBEq, Int.reduceBNe, f22, f22b, f22r0, f22r1, f22r2, f22r3, f22r4, f22r5, f22r6, f22r7, f22r8, hB1, hq1', get_old hB1, get_old hq1', get_old hr1, fl1, x0, x1, x2, kB, kq, kr, kX, kX2, k4, k44, mapAt, hdel] | (refine BrW.of (fun hb => ?_) (fun hb => ?_) <;> (have hb' := hb; try simp only [decide_eq_true_eq, decide_eq_false_iff_not, beq_iff_eq, bne_iff_ne, beq_eq_false_iff_ne, bne_eq_false_iff_eq, Bool.not_eq_true', Bool.not_eq_false', Bool.not_eq_true, Bool.not_eq_false, Bool.and_eq_true, Bool.or_eq_true, Bool.and_eq_false_iff, Bool.or_eq_false_iff, Int.not_lt, Int.not_le, ne_eq, gt_iff_lt, ge_iff_le] at hb') <;> (try (exfalso; omega))) | (refine altW.of ?_ ?_)
    refine .here ⟨rfl, L1, m2, kH.set _ (by omega) (by omega) (by omega), hcut, fun i hi => hok1 i (by omega), hU, hmem2, hlen1, by simp; omega, fun j h1 h2 h3 h4 => ?_⟩
    rw [List.getElem?_set_ne (by omega)]
    exact kO j h1 h2 h3 h4
end Go.Proofs.Ytjdmpkaiijcchaa
