import Derived.Test.YtknfaoonjmlncaaStepsT
import Derived.Test.YtknfaoonjmlncaaPlainH
import Derived.Test.YtknfaoonjmlncaaOwn
set_option linter.unusedSimpArgs false
set_option linter.unusedVariables false
set_option maxHeartbeats 2000000
set_option maxRecDepth 20000
namespace Go.Proofs.Ytknfaoonjmlncaa
open Go Go.Am
attribute [local irreducible] opsW Ww loopW callW drawW outW outDW gW cW BrW bothW vW resW DropW RdW dcallW altW Later.run

/-- A node's row. -/
structure Rw where
  x : Hn
  kv : Value
  wv : Value
def Rw.cells (r : Rw) : List Value := [.int .i64 r.x.up, .int .i64 r.x.w, r.kv, .int .i64 r.x.sum, .int .i64 r.x.leaf, .int .i64 r.x.bytes, .int .i64 r.x.bg, .int .i64 r.x.un, .int .i64 r.x.time, r.wv]
def r0 : Rw := ⟨⟨-1, 0, 0, 0, 0, 0, 0, 0⟩, .slice none 0 0, .slice none 0 0⟩
def updV (f : Nat → Value) (k : Nat) (v : Value) : Nat → Value := fun j => if j = k then v else f j
theorem updV_same (f : Nat → Value) (k : Nat) (v : Value) : updV f k v k = v := if_pos rfl
theorem updV_ne {f : Nat → Value} {k j : Nat} {v : Value} (h : j ≠ k) : updV f k v j = f j := if_neg h
theorem updV_self (f : Nat → Value) (k : Nat) : updV f k (f k) = f := funext fun j => by
  unfold updV; split
  · rename_i h; rw [h]
  · rfl
def tabR (n : Nat) (S : St) (kv wv : Nat → Value) : List Rw := (List.range n).map fun k => ⟨S k, kv k, wv k⟩
theorem tabR_length (n : Nat) (S : St) (kv wv : Nat → Value) : (tabR n S kv wv).length = n := by simp [tabR]
theorem tabR_get (n : Nat) (S : St) (kv wv : Nat → Value) (k : Nat) (h : k < n) : (tabR n S kv wv).getD k r0 = ⟨S k, kv k, wv k⟩ := by
  simp [tabR, List.getD_eq_getElem?_getD, h]
theorem tabR_set (n : Nat) (S : St) (kv wv : Nat → Value) (k : Nat) (h : k < n) (x : Hn) (u v : Value) : (tabR n S kv wv).set k ⟨x, u, v⟩ = tabR n (updS S k x) (updV kv k u) (updV wv k v) := by
  refine List.ext_getElem (by simp [tabR]) fun i h1 h2 => ?_
  simp only [tabR, List.getElem_set, List.getElem_map, List.getElem_range]
  by_cases e : k = i
  · subst e; rw [if_pos rfl, updS_same, updV_same, updV_same]
  · rw [if_neg e, updS_ne (Ne.symm e), updV_ne (Ne.symm e), updV_ne (Ne.symm e)]
theorem tabR_snoc (n : Nat) (S : St) (kv wv : Nat → Value) : tabR (n + 1) S kv wv = tabR n S kv wv ++ [⟨S n, kv n, wv n⟩] := by
  simp [tabR, List.range_succ]
theorem tabR_cong {n : Nat} {S S' : St} {kv kv' wv wv' : Nat → Value} (h : ∀ k, k < n → S k = S' k ∧ kv k = kv' k ∧ wv k = wv' k) : tabR n S kv wv = tabR n S' kv' wv' := by
  unfold tabR
  refine List.map_congr_left fun k hk => ?_
  have := h k (List.mem_range.1 hk)
  rw [this.1, this.2.1, this.2.2]
/-- All nodes' cells. -/
def cN (n : Nat) (S : St) (kv wv : Nat → Value) : List Value := flat' Rw.cells (tabR n S kv wv)
theorem cN_len (n : Nat) (S : St) (kv wv : Nat → Value) : (cN n S kv wv).length = n * 10 := by
  unfold cN; rw [flat'_length (enc := Rw.cells) (s := 10) (fun _ => rfl), tabR_length]
theorem cN_get (n : Nat) (S : St) (kv wv : Nat → Value) (k : Nat) (h : k < n) (j : Nat) (hj : j < 10) : (cN n S kv wv)[k * 10 + j]? = (Rw.cells ⟨S k, kv k, wv k⟩)[j]? := by
  unfold cN
  rw [flat'_get (enc := Rw.cells) (s := 10) (fun _ => rfl) r0 _ k j (by rw [tabR_length]; exact h) hj, tabR_get _ _ _ _ _ h]
theorem cN_set (n : Nat) (S : St) (kv wv : Nat → Value) (k : Nat) (h : k < n) (j : Nat) (hj : j < 10) (v : Value) (x : Hn) (u w : Value) (he : Rw.cells ⟨x, u, w⟩ = (Rw.cells ⟨S k, kv k, wv k⟩).set j v) : (cN n S kv wv).set (k * 10 + j) v = cN n (updS S k x) (updV kv k u) (updV wv k w) := by
  unfold cN
  rw [← tabR_set _ _ _ _ _ h]
  exact flat'_set (enc := Rw.cells) (s := 10) (fun _ => rfl) r0 (a' := ⟨x, u, w⟩) (v := v) _ k j (by rw [tabR_length]; exact h) hj (by rw [tabR_get _ _ _ _ _ h]; exact he)
theorem cN_setX (n : Nat) (S : St) (kv wv : Nat → Value) (k : Nat) (h : k < n) (j : Nat) (hj : j < 10) (v : Value) (x : Hn) (he : Rw.cells ⟨x, kv k, wv k⟩ = (Rw.cells ⟨S k, kv k, wv k⟩).set j v) : (cN n S kv wv).set (k * 10 + j) v = cN n (updS S k x) kv wv := by
  rw [cN_set n S kv wv k h j hj v x _ _ he, updV_self, updV_self]
theorem cN_ld (n : Nat) (S : St) (kv wv : Nat → Value) (k : Nat) (h : k < n) : ldV (cN n S kv wv) (k * 10) 10 = some (Rw.cells ⟨S k, kv k, wv k⟩) := by
  unfold cN
  rw [flat'_ld (enc := Rw.cells) (s := 10) (fun _ => rfl) r0 _ k (by rw [tabR_length]; exact h), tabR_get _ _ _ _ _ h]
theorem g0 {n k : Nat} (h : k < n) (S : St) (kv wv : Nat → Value) : (cN n S kv wv)[k * 10]? = some (.int .i64 (S k).up) := cN_get n S kv wv k h 0 (by omega)
theorem g1 {n k : Nat} (h : k < n) (S : St) (kv wv : Nat → Value) : (cN n S kv wv)[k * 10 + 1]? = some (.int .i64 (S k).w) := cN_get n S kv wv k h 1 (by omega)
theorem g2 {n k : Nat} (h : k < n) (S : St) (kv wv : Nat → Value) : (cN n S kv wv)[k * 10 + 2]? = some (kv k) := cN_get n S kv wv k h 2 (by omega)
theorem g3 {n k : Nat} (h : k < n) (S : St) (kv wv : Nat → Value) : (cN n S kv wv)[k * 10 + 3]? = some (.int .i64 (S k).sum) := cN_get n S kv wv k h 3 (by omega)
theorem g4 {n k : Nat} (h : k < n) (S : St) (kv wv : Nat → Value) : (cN n S kv wv)[k * 10 + 4]? = some (.int .i64 (S k).leaf) := cN_get n S kv wv k h 4 (by omega)
theorem g5 {n k : Nat} (h : k < n) (S : St) (kv wv : Nat → Value) : (cN n S kv wv)[k * 10 + 5]? = some (.int .i64 (S k).bytes) := cN_get n S kv wv k h 5 (by omega)
theorem g6 {n k : Nat} (h : k < n) (S : St) (kv wv : Nat → Value) : (cN n S kv wv)[k * 10 + 6]? = some (.int .i64 (S k).bg) := cN_get n S kv wv k h 6 (by omega)
theorem g7 {n k : Nat} (h : k < n) (S : St) (kv wv : Nat → Value) : (cN n S kv wv)[k * 10 + 7]? = some (.int .i64 (S k).un) := cN_get n S kv wv k h 7 (by omega)
theorem g8 {n k : Nat} (h : k < n) (S : St) (kv wv : Nat → Value) : (cN n S kv wv)[k * 10 + 8]? = some (.int .i64 (S k).time) := cN_get n S kv wv k h 8 (by omega)
theorem g9 {n k : Nat} (h : k < n) (S : St) (kv wv : Nat → Value) : (cN n S kv wv)[k * 10 + 9]? = some (wv k) := cN_get n S kv wv k h 9 (by omega)
theorem s4 {n k : Nat} (h : k < n) (S : St) (kv wv : Nat → Value) (v : Int) : (cN n S kv wv).set (k * 10 + 4) (.int .i64 v) = cN n (updS S k { S k with leaf := v }) kv wv := cN_setX n S kv wv k h 4 (by omega) _ _ rfl
theorem s5 {n k : Nat} (h : k < n) (S : St) (kv wv : Nat → Value) (v : Int) : (cN n S kv wv).set (k * 10 + 5) (.int .i64 v) = cN n (updS S k { S k with bytes := v }) kv wv := cN_setX n S kv wv k h 5 (by omega) _ _ rfl
theorem s6 {n k : Nat} (h : k < n) (S : St) (kv wv : Nat → Value) (v : Int) : (cN n S kv wv).set (k * 10 + 6) (.int .i64 v) = cN n (updS S k { S k with bg := v }) kv wv := cN_setX n S kv wv k h 6 (by omega) _ _ rfl
theorem s7 {n k : Nat} (h : k < n) (S : St) (kv wv : Nat → Value) (v : Int) : (cN n S kv wv).set (k * 10 + 7) (.int .i64 v) = cN n (updS S k { S k with un := v }) kv wv := cN_setX n S kv wv k h 7 (by omega) _ _ rfl
theorem s8 {n k : Nat} (h : k < n) (S : St) (kv wv : Nat → Value) (v : Int) : (cN n S kv wv).set (k * 10 + 8) (.int .i64 v) = cN n (updS S k { S k with time := v }) kv wv := cN_setX n S kv wv k h 8 (by omega) _ _ rfl
theorem s3 {n k : Nat} (h : k < n) (S : St) (kv wv : Nat → Value) (v : Int) : (cN n S kv wv).set (k * 10 + 3) (.int .i64 v) = cN n (updS S k { S k with sum := v }) kv wv := cN_setX n S kv wv k h 3 (by omega) _ _ rfl
theorem s2 {n k : Nat} (h : k < n) (S : St) (kv wv : Nat → Value) (v : Value) : (cN n S kv wv).set (k * 10 + 2) v = cN n S (updV kv k v) wv := by
  rw [cN_set n S kv wv k h 2 (by omega) v (S k) v (wv k) rfl, updV_self]
  congr 1
  funext j; unfold updS; split
  · rename_i e; rw [e]
  · rfl
theorem s9 {n k : Nat} (h : k < n) (S : St) (kv wv : Nat → Value) (v : Value) : (cN n S kv wv).set (k * 10 + 9) v = cN n S kv (updV wv k v) := by
  rw [cN_set n S kv wv k h 9 (by omega) v (S k) (kv k) v rfl, updV_self]
  congr 1
  funext j; unfold updS; split
  · rename_i e; rw [e]
  · rfl

theorem offer_spec (B F gF n : Nat) (S : St) (kv wv : Nat → Value) (M : Int) (k : Nat) (lf b : Int) (a : Bool) (J : Heap) (hB : J[B]? = some (.cells 0 0 false [slv F 0 gF n n])) (hF : J[F]? = some (.cells gF 10 false (cN n S kv wv))) (hBF : B ≠ F) (hn : n ≤ 16) (hok : OkS n M S) (hM : M ≤ 1000000000000000) (hk : k < n) (hb : 0 ≤ b ∧ b ≤ 1500) :
    ACallK Try.prog 25 [.pointer (some ⟨B, 0, some 1⟩), .int .i64 k, .int .i64 lf, .int .i64 b, .bool a] J (fun v J' => v = .tuple #[] ∧ J' = J.set F (.cells gF 10 false (cN n (updS S k (offH S k lf b a)) kv wv))) := by
  have hFl := (List.getElem?_eq_some_iff.1 hF).1
  have nF := fun y => (get_set_hit (x := y) hF)
  have nB := fun y => (get_set_miss (H := J) (x := y) (j := F) (k := B) (by omega)).trans hB
  have ss : ∀ y z : AObj, (J.set F y).set F z = J.set F z := fun y z => by simp
  have e1 := g1 hk
  have e0 := g0 hk
  have e6 := g6 hk
  have e7 := g7 hk
  have t4 := s4 hk
  have t5 := s5 hk
  have t6 := s6 hk
  have t7 := s7 hk
  have hl := cN_len n
  have hw := hok.w k hk
  have ht := hok.t k hk
  have hw1 : ¬ (S k).w = 0 := by omega
  refine .walkW f25_ok (by simp; decide) (by decide) ?_
  rcases hok.up_lt hk with hu | ⟨p, hu, hp⟩
  · repeat' first | simp (disch := first | with_reducible assumption | omega) only [go_sem, Bool.true_and, Bool.and_true, Bool.and_self, Bool.false_and, Bool.and_false, Bool.true_or, Bool.or_true, Bool.false_or, Bool.or_false, ↓reduceIte, Nat.reduceEqDiff, Nat.reduceAdd, Nat.reduceMul, Nat.reduceSub, Nat.reduceBEq, Nat.reduceLeDiff, Nat.reduceLT, Nat.reduceMod, Nat.reduceDiv, Int.reduceToNat, Int.reducePow, Int.reduceMul, Int.reduceAdd, Int.reduceSub, Int.reduceLE, Int.reduceLT, Int.reduceNeg, Int.reduceDiv, Int.reduceMod, Int.reduceEq, Int.reduceBEq, Int.reduceBNe, f25, f25b, f25r0, f25r1, f25r2, f25r3, f25r4, f25r5, f25r6, f25r7, hB, hF, nF, nB, ss, e0, e1, e6, e7, t4, t5, t6, t7, hl, updS_same, updS_updS, hu] | (refine BrW.of (fun hb => ?_) (fun hb => ?_) <;> (have hb' := hb; try simp only [decide_eq_true_eq, decide_eq_false_iff_not, beq_iff_eq, bne_iff_ne, beq_eq_false_iff_ne, bne_eq_false_iff_eq, Bool.not_eq_true', Bool.not_eq_false', Bool.not_eq_true, Bool.not_eq_false, Bool.and_eq_true, Bool.or_eq_true, Bool.and_eq_false_iff, Bool.or_eq_false_iff, Int.not_lt, Int.not_le, ne_eq, gt_iff_lt, ge_iff_le] at hb') <;> (try (exfalso; omega))) | (refine altW.of ?_ ?_)
    exact .here ⟨rfl, by simp [offH, hu]⟩
  · have hpn : p < n := by omega
    have f3 := g3 hpn
    have f8 := g8 hpn
    have hps := hok.sum p hpn
    have hpt := hok.t p hpn
    have htag := tag_bound hps hw hb
    have hne : ∀ x, updS S k x p = S p := fun x => updS_ne (by omega)
    cases a
    all_goals
      repeat' first | simp (disch := first | with_reducible assumption | omega) only [go_sem, Bool.true_and, Bool.and_true, Bool.and_self, Bool.false_and, Bool.and_false, Bool.true_or, Bool.or_true, Bool.false_or, Bool.or_false, ↓reduceIte, Nat.reduceEqDiff, Nat.reduceAdd, Nat.reduceMul, Nat.reduceSub, Nat.reduceBEq, Nat.reduceLeDiff, Nat.reduceLT, Nat.reduceMod, Nat.reduceDiv, Int.reduceToNat, Int.reducePow, Int.reduceMul, Int.reduceAdd, Int.reduceSub, Int.reduceLE, Int.reduceLT, Int.reduceNeg, Int.reduceDiv, Int.reduceMod, Int.reduceEq, Int.reduceBEq, Int.reduceBNe, f25, f25b, f25r0, f25r1, f25r2, f25r3, f25r4, f25r5, f25r6, f25r7, hB, hF, nF, nB, ss, e0, e1, e6, e7, t4, t5, t6, t7, hl, updS_same, updS_updS, hu, f3, f8, hne, hw1] | (refine BrW.of (fun hb => ?_) (fun hb => ?_) <;> (have hb' := hb; try simp only [decide_eq_true_eq, decide_eq_false_iff_not, beq_iff_eq, bne_iff_ne, beq_eq_false_iff_ne, bne_eq_false_iff_eq, Bool.not_eq_true', Bool.not_eq_false', Bool.not_eq_true, Bool.not_eq_false, Bool.and_eq_true, Bool.or_eq_true, Bool.and_eq_false_iff, Bool.or_eq_false_iff, Int.not_lt, Int.not_le, ne_eq, gt_iff_lt, ge_iff_le] at hb') <;> (try (exfalso; omega))) | (refine altW.of ?_ ?_)
      exact .here ⟨rfl, by simp [offH, hu, show ¬ (p : Int) < 0 by omega]⟩
end Go.Proofs.Ytknfaoonjmlncaa
