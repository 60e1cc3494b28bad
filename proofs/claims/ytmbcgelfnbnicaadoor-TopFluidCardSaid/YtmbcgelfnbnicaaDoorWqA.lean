import Derived.Test.YtmbcgelfnbnicaaDoorFns
import Derived.Test.YtmbcgelfnbnicaaDoorLib
import Derived.Test.YtmbcgelfnbnicaaDoorSl
import Derived.Test.YtmbcgelfnbnicaaDoorOwn
import Derived.Test.YtmbcgelfnbnicaaDoorWqPlain
set_option linter.unusedSimpArgs false
set_option linter.unusedVariables false
set_option maxHeartbeats 2000000
set_option maxRecDepth 20000
namespace Go.Proofs.YtmbcgelfnbnicaaDoor.Wq
open Go Go.Am
attribute [local irreducible] opsW Ww loopW callW drawW outW outDW gW cW BrW bothW vW resW DropW RdW dcallW altW forkW splitW Later.run

/-- A flow's row. -/
structure Rw where
  v : Value
  b : Int
  u : Int
def r0 : Rw := ⟨.slice none 0 0, 0, 0⟩
def Rw.cells (r : Rw) : List Value := [r.v, .int .i64 r.b, .int .i64 r.u]
theorem getD_setR (l : List Rw) (i k : Nat) (x : Rw) (h : i < l.length) : (l.set i x).getD k r0 = if i = k then x else l.getD k r0 := by
  simp only [List.getD_eq_getElem?_getD]
  by_cases e : i = k
  · subst e; rw [if_pos rfl, List.getElem?_set_self h]; rfl
  · rw [if_neg e, List.getElem?_set_ne e]
/-- The node at N, its flows at F, their packets from P on. -/
structure WN (P N F : Nat) (ws : List Int) (S : Int) (nd : Nd) (J : Heap) : Prop where
  ne : F < N ∧ N < P
  at' : ∃ (kw ow gw cw : Nat) (ro : Bool) (csw : List Value) (rs : List Rw),
    J[N]? = some (.cells 0 0 false [slv kw ow gw ws.length cw, slv F 0 0 nd.fl.length nd.fl.length, .int .i64 S, .int .i64 nd.t]) ∧
    (kw < F) ∧ J[kw]? = some (.cells gw 1 ro csw) ∧ (∀ i, i < ws.length → csw[ow + i]? = some (.int .i64 (ws.getD i 0))) ∧
    J[F]? = some (.cells 0 3 false (flat' Rw.cells rs)) ∧ rs.length = nd.fl.length ∧ (∀ k, k < nd.fl.length → (rs.getD k r0).b = (nd.fl.getD k f0).b ∧ (rs.getD k r0).u = (nd.fl.getD k f0).u) ∧
    Own P nd.fl.length (fun k => (rs.getD k r0).v) (fun k => (nd.fl.getD k f0).q) J
  len : nd.fl.length = ws.length
/-- What else there is stays. -/
def Fr (P N F : Nat) (J J' : Heap) : Prop := J.length ≤ J'.length ∧ ∀ j, j < P → j ≠ N → j ≠ F → J'[j]? = J[j]?
theorem Fr.refl (P N F : Nat) (J : Heap) : Fr P N F J J := ⟨Nat.le_refl _, fun _ _ _ _ => rfl⟩
theorem Fr.trans {P N F : Nat} {J J' J'' : Heap} (h : Fr P N F J J') (h' : Fr P N F J' J'') : Fr P N F J J'' := ⟨Nat.le_trans h.1 h'.1, fun j a b c => (h'.2 j a b c).trans (h.2 j a b c)⟩

theorem Wrong_spec (ws : List Int) (ww : Value) (A : Nat → Prop) (H : Heap) (hw0 : IsN A H ww ws) (hwl : ws.length ≤ 9223372036854775807) :
    ACallK Tryd.prog 13 [ww] H (fun v H' => ∃ e, v = .int .i64 e ∧ (e = 0 ↔ ws.length ≤ 16 ∧ ∀ k, k < ws.length → 1 ≤ ws.getD k 0 ∧ ws.getD k 0 ≤ 12) ∧ (e = 0 ∨ e = 2) ∧ H' = H) := by
  obtain ⟨k, o, g, c, _, rfl, hs, hc⟩ := hw0
  obtain ⟨ro, cs, hk, hcl, hcs⟩ := Ints.cell hs
  refine .walkW f13_ok (by simp; decide) (by decide) ?_
  by_cases h2 : ws.length ≤ 16
  · repeat' first | simp (disch := first | with_reducible assumption | omega) only [go_sem, Bool.true_and, Bool.and_true, Bool.and_self, Bool.false_and, Bool.and_false, Bool.true_or, Bool.or_true, Bool.false_or, Bool.or_false, ↓reduceIte, Nat.reduceEqDiff, Nat.reduceAdd, Nat.reduceMul, Nat.reduceSub, Nat.reduceBEq, Nat.reduceLeDiff, Nat.reduceLT, Nat.reduceMod, Nat.reduceDiv, Int.reduceToNat, Int.reducePow, Int.reduceMul, Int.reduceAdd, Int.reduceSub, Int.reduceLE, Int.reduceLT, Int.reduceNeg, Int.reduceDiv, Int.reduceMod, Int.reduceEq, Int.reduceBEq, Int.reduceBNe, f13, f13b, f13r0, f13r1, f13r2, f13r3, f13r4, f13r5, f13r6, f13r7, f13r8, f13r10, hk] | (refine BrW.of (fun hb => ?_) (fun hb => ?_) <;> (have hb' := hb; try simp only [decide_eq_true_eq, decide_eq_false_iff_not, beq_iff_eq, bne_iff_ne, beq_eq_false_iff_ne, bne_eq_false_iff_eq, Bool.not_eq_true', Bool.not_eq_false', Bool.not_eq_true, Bool.not_eq_false, Bool.and_eq_true, Bool.or_eq_true, Bool.and_eq_false_iff, Bool.or_eq_false_iff, Int.not_lt, Int.not_le, ne_eq, gt_iff_lt, ge_iff_le] at hb') <;> (try (exfalso; omega))) | (refine altW.of ?_ ?_)
    refine loopW.of (by decide) (fun m e J => ∃ i : Nat, e = [(8, slv k o g ws.length c), (9, .int .i64 ws.length), (10, .int .i64 i)] ∧ J = H ∧ i ≤ ws.length ∧ m = ws.length - i ∧ ∀ q, q < i → 1 ≤ ws.getD q 0 ∧ ws.getD q 0 ≤ 12) ws.length ⟨0, rfl, rfl, by omega, rfl, fun q hq => by omega⟩ ?_
    rintro m e J ⟨i, rfl, rfl, hi, rfl, hinv⟩
    by_cases hlt : i < ws.length
    · have e0 := hcs i hlt
      have hno : (ws.length ≤ 16 ∧ ∀ k, k < ws.length → 1 ≤ ws.getD k 0 ∧ ws.getD k 0 ≤ 12) → 1 ≤ ws.getD i 0 ∧ ws.getD i 0 ≤ 12 := fun h => h.2 i hlt
      have hnext : (1 ≤ ws.getD i 0 ∧ ws.getD i 0 ≤ 12) → ∀ q, q < i + 1 → 1 ≤ ws.getD q 0 ∧ ws.getD q 0 ≤ 12 := fun h q hq => by
        by_cases e : q = i
        · subst e; exact h
        · exact hinv q (by omega)
      generalize hG : (ws.length ≤ 16 ∧ ∀ k, k < ws.length → 1 ≤ ws.getD k 0 ∧ ws.getD k 0 ≤ 12) = G at *
      clear hinv hcs hG
      generalize ws.getD i 0 = w at *
      by_cases hg : 1 ≤ w ∧ w ≤ 12
      · have hnext := hnext hg
        clear hno
        obtain ⟨q1, q2⟩ := hg
        repeat' first | simp (disch := first | with_reducible assumption | omega) only [go_sem, Bool.true_and, Bool.and_true, Bool.and_self, Bool.false_and, Bool.and_false, Bool.true_or, Bool.or_true, Bool.false_or, Bool.or_false, ↓reduceIte, Nat.reduceEqDiff, Nat.reduceAdd, Nat.reduceMul, Nat.reduceSub, Nat.reduceBEq, Nat.reduceLeDiff, Nat.reduceLT, Nat.reduceMod, Nat.reduceDiv, Int.reduceToNat, Int.reducePow, Int.reduceMul, Int.reduceAdd, Int.reduceSub, Int.reduceLE, Int.reduceLT, Int.reduceNeg, Int.reduceDiv, Int.reduceMod, Int.reduceEq, Int.reduceBEq, Int.reduceBNe, f13, f13b, f13r0, f13r1, f13r2, f13r3, f13r4, f13r5, f13r6, f13r7, f13r8, f13r10, f13l0, hk, e0] | (refine BrW.of (fun hb => ?_) (fun hb => ?_) <;> (have hb' := hb; try simp only [decide_eq_true_eq, decide_eq_false_iff_not, beq_iff_eq, bne_iff_ne, beq_eq_false_iff_ne, bne_eq_false_iff_eq, Bool.not_eq_true', Bool.not_eq_false', Bool.not_eq_true, Bool.not_eq_false, Bool.and_eq_true, Bool.or_eq_true, Bool.and_eq_false_iff, Bool.or_eq_false_iff, Int.not_lt, Int.not_le, ne_eq, gt_iff_lt, ge_iff_le] at hb') <;> (try (exfalso; omega))) | (refine altW.of ?_ ?_)
        refine RdW.keep [8, 9, 10] (ws.length - (i + 1)) (by omega) ?_
        simp (disch := first | with_reducible assumption | omega) only [go_sem, Bool.true_and, Bool.and_true, Bool.and_self, Bool.false_and, Bool.and_false, Bool.true_or, Bool.or_true, Bool.false_or, Bool.or_false, ↓reduceIte, Nat.reduceEqDiff, Nat.reduceAdd, Nat.reduceMul, Nat.reduceSub, Nat.reduceBEq, Nat.reduceLeDiff, Nat.reduceLT, Nat.reduceMod, Nat.reduceDiv, Int.reduceToNat, Int.reducePow, Int.reduceMul, Int.reduceAdd, Int.reduceSub, Int.reduceLE, Int.reduceLT, Int.reduceNeg, Int.reduceDiv, Int.reduceMod, Int.reduceEq, Int.reduceBEq, Int.reduceBNe]
        exact ⟨i + 1, rfl, by omega, rfl, hnext⟩
      · have hno : ¬ G := fun h => hg (hno h)
        clear hnext
        have hg' : w < 1 ∨ (1 ≤ w ∧ 12 < w) := by omega
        clear hg
        rcases hg' with hg | hg
        · repeat' first | simp (disch := first | with_reducible assumption | omega) only [go_sem, Bool.true_and, Bool.and_true, Bool.and_self, Bool.false_and, Bool.and_false, Bool.true_or, Bool.or_true, Bool.false_or, Bool.or_false, ↓reduceIte, Nat.reduceEqDiff, Nat.reduceAdd, Nat.reduceMul, Nat.reduceSub, Nat.reduceBEq, Nat.reduceLeDiff, Nat.reduceLT, Nat.reduceMod, Nat.reduceDiv, Int.reduceToNat, Int.reducePow, Int.reduceMul, Int.reduceAdd, Int.reduceSub, Int.reduceLE, Int.reduceLT, Int.reduceNeg, Int.reduceDiv, Int.reduceMod, Int.reduceEq, Int.reduceBEq, Int.reduceBNe, f13, f13b, f13r0, f13r1, f13r2, f13r3, f13r4, f13r5, f13r6, f13r7, f13r8, f13r10, f13l0, f13, f13b, f13r0, f13r1, f13r2, f13r3, f13r4, f13r5, f13r6, f13r7, f13r8, f13r10, hk, e0] | (refine BrW.of (fun hb => ?_) (fun hb => ?_) <;> (have hb' := hb; try simp only [decide_eq_true_eq, decide_eq_false_iff_not, beq_iff_eq, bne_iff_ne, beq_eq_false_iff_ne, bne_eq_false_iff_eq, Bool.not_eq_true', Bool.not_eq_false', Bool.not_eq_true, Bool.not_eq_false, Bool.and_eq_true, Bool.or_eq_true, Bool.and_eq_false_iff, Bool.or_eq_false_iff, Int.not_lt, Int.not_le, ne_eq, gt_iff_lt, ge_iff_le] at hb') <;> (try (exfalso; omega))) | (refine altW.of ?_ ?_)
          all_goals exact .here ⟨2, rfl, ⟨fun h => by omega, fun h => absurd h hno⟩, .inr rfl, rfl⟩
        · repeat' first | simp (disch := first | with_reducible assumption | omega) only [go_sem, Bool.true_and, Bool.and_true, Bool.and_self, Bool.false_and, Bool.and_false, Bool.true_or, Bool.or_true, Bool.false_or, Bool.or_false, ↓reduceIte, Nat.reduceEqDiff, Nat.reduceAdd, Nat.reduceMul, Nat.reduceSub, Nat.reduceBEq, Nat.reduceLeDiff, Nat.reduceLT, Nat.reduceMod, Nat.reduceDiv, Int.reduceToNat, Int.reducePow, Int.reduceMul, Int.reduceAdd, Int.reduceSub, Int.reduceLE, Int.reduceLT, Int.reduceNeg, Int.reduceDiv, Int.reduceMod, Int.reduceEq, Int.reduceBEq, Int.reduceBNe, f13, f13b, f13r0, f13r1, f13r2, f13r3, f13r4, f13r5, f13r6, f13r7, f13r8, f13r10, f13l0, f13, f13b, f13r0, f13r1, f13r2, f13r3, f13r4, f13r5, f13r6, f13r7, f13r8, f13r10, hk, e0] | (refine BrW.of (fun hb => ?_) (fun hb => ?_) <;> (have hb' := hb; try simp only [decide_eq_true_eq, decide_eq_false_iff_not, beq_iff_eq, bne_iff_ne, beq_eq_false_iff_ne, bne_eq_false_iff_eq, Bool.not_eq_true', Bool.not_eq_false', Bool.not_eq_true, Bool.not_eq_false, Bool.and_eq_true, Bool.or_eq_true, Bool.and_eq_false_iff, Bool.or_eq_false_iff, Int.not_lt, Int.not_le, ne_eq, gt_iff_lt, ge_iff_le] at hb') <;> (try (exfalso; omega))) | (refine altW.of ?_ ?_)
          all_goals exact .here ⟨2, rfl, ⟨fun h => by omega, fun h => absurd h hno⟩, .inr rfl, rfl⟩
    · obtain rfl : i = ws.length := by omega
      clear hcs
      repeat' first | simp (disch := first | with_reducible assumption | omega) only [go_sem, Bool.true_and, Bool.and_true, Bool.and_self, Bool.false_and, Bool.and_false, Bool.true_or, Bool.or_true, Bool.false_or, Bool.or_false, ↓reduceIte, Nat.reduceEqDiff, Nat.reduceAdd, Nat.reduceMul, Nat.reduceSub, Nat.reduceBEq, Nat.reduceLeDiff, Nat.reduceLT, Nat.reduceMod, Nat.reduceDiv, Int.reduceToNat, Int.reducePow, Int.reduceMul, Int.reduceAdd, Int.reduceSub, Int.reduceLE, Int.reduceLT, Int.reduceNeg, Int.reduceDiv, Int.reduceMod, Int.reduceEq, Int.reduceBEq, Int.reduceBNe, f13, f13b, f13r0, f13r1, f13r2, f13r3, f13r4, f13r5, f13r6, f13r7, f13r8, f13r10, f13l0, f13, f13b, f13r0, f13r1, f13r2, f13r3, f13r4, f13r5, f13r6, f13r7, f13r8, f13r10] | (refine BrW.of (fun hb => ?_) (fun hb => ?_) <;> (have hb' := hb; try simp only [decide_eq_true_eq, decide_eq_false_iff_not, beq_iff_eq, bne_iff_ne, beq_eq_false_iff_ne, bne_eq_false_iff_eq, Bool.not_eq_true', Bool.not_eq_false', Bool.not_eq_true, Bool.not_eq_false, Bool.and_eq_true, Bool.or_eq_true, Bool.and_eq_false_iff, Bool.or_eq_false_iff, Int.not_lt, Int.not_le, ne_eq, gt_iff_lt, ge_iff_le] at hb') <;> (try (exfalso; omega))) | (refine altW.of ?_ ?_)
      exact .here ⟨0, rfl, ⟨fun _ => ⟨h2, hinv⟩, fun _ => rfl⟩, .inl rfl, rfl⟩
  · repeat' first | simp (disch := first | with_reducible assumption | omega) only [go_sem, Bool.true_and, Bool.and_true, Bool.and_self, Bool.false_and, Bool.and_false, Bool.true_or, Bool.or_true, Bool.false_or, Bool.or_false, ↓reduceIte, Nat.reduceEqDiff, Nat.reduceAdd, Nat.reduceMul, Nat.reduceSub, Nat.reduceBEq, Nat.reduceLeDiff, Nat.reduceLT, Nat.reduceMod, Nat.reduceDiv, Int.reduceToNat, Int.reducePow, Int.reduceMul, Int.reduceAdd, Int.reduceSub, Int.reduceLE, Int.reduceLT, Int.reduceNeg, Int.reduceDiv, Int.reduceMod, Int.reduceEq, Int.reduceBEq, Int.reduceBNe, f13, f13b, f13r0, f13r1, f13r2, f13r3, f13r4, f13r5, f13r6, f13r7, f13r8, f13r10, hk] | (refine BrW.of (fun hb => ?_) (fun hb => ?_) <;> (have hb' := hb; try simp only [decide_eq_true_eq, decide_eq_false_iff_not, beq_iff_eq, bne_iff_ne, beq_eq_false_iff_ne, bne_eq_false_iff_eq, Bool.not_eq_true', Bool.not_eq_false', Bool.not_eq_true, Bool.not_eq_false, Bool.and_eq_true, Bool.or_eq_true, Bool.and_eq_false_iff, Bool.or_eq_false_iff, Int.not_lt, Int.not_le, ne_eq, gt_iff_lt, ge_iff_le] at hb') <;> (try (exfalso; omega))) | (refine altW.of ?_ ?_)
    all_goals exact .here ⟨2, rfl, ⟨fun h => by omega, fun h => absurd h.1 h2⟩, .inr rfl, rfl⟩

/-- The first packet gets its tags. -/
theorem head_spec (N F kw ow gw cw : Nat) (ro : Bool) (csw : List Value) (ws : List Int) (S t fr x : Int) (rs : List Rw) (k q o g n c : Nat) (rq : Bool) (cs : List Value) (J : Heap) (hN : J[N]? = some (.cells 0 0 false [slv kw ow gw ws.length cw, slv F 0 0 rs.length rs.length, .int .i64 S, .int .i64 t]))
    (hF : J[F]? = some (.cells 0 3 false (flat' Rw.cells rs))) (hW : J[kw]? = some (.cells gw 1 ro csw)) (hw : csw[ow + k]? = some (.int .i64 (ws.getD k 0))) (hk : k < rs.length) (hkw : k < ws.length) (hv : (rs.getD k r0).v = slv q o g n c) (hQ : J[q]? = some (.cells g 1 rq cs)) (hx : cs[o]? = some (.int .i64 x)) (hn : 0 < n)
    (hNF : N ≠ F) (hqF : q ≠ F) (hwF : kw ≠ F) (hS : 0 ≤ S ∧ S ≤ 192) (hwk : 1 ≤ ws.getD k 0 ∧ ws.getD k 0 ≤ 12) (hx0 : 0 ≤ x ∧ x ≤ 1500) (hfr : 0 ≤ fr ∧ fr ≤ 1000000000000000) :
    ACallK Tryd.prog 47 [.pointer (some ⟨N, 0, some 1⟩), .int .i64 k, .int .i64 fr] J (fun v J' => v = .tuple #[] ∧ J' = J.set F (.cells 0 3 false (flat' Rw.cells (rs.set k ⟨slv q o g n c, fr, fr + x * (27720 / ws.getD k 0) * S⟩)))) := by
  have hb0 := tag_bound hS hwk hx0
  have l0 := flat'_length (enc := Rw.cells) (s := 3) (fun _ => rfl) rs
  have g0 := flat'_get (enc := Rw.cells) (s := 3) (fun _ => rfl) r0 rs k 0 hk (by omega)
  have s1 := flat'_set (enc := Rw.cells) (s := 3) (fun _ => rfl) r0 (a' := ⟨slv q o g n c, fr, (rs.getD k r0).u⟩) (v := .int .i64 fr) rs k 1 hk (by omega) (by show [slv q o g n c, _, _] = [(rs.getD k r0).v, _, _]; rw [hv])
  have l1 := flat'_length (enc := Rw.cells) (s := 3) (fun _ => rfl) (rs.set k ⟨slv q o g n c, fr, (rs.getD k r0).u⟩)
  have g1 := flat'_get (enc := Rw.cells) (s := 3) (fun _ => rfl) r0 (rs.set k ⟨slv q o g n c, fr, (rs.getD k r0).u⟩) k 0 (by simpa using hk) (by omega)
  have s2 := flat'_set (enc := Rw.cells) (s := 3) (fun _ => rfl) r0 (a' := ⟨slv q o g n c, fr, fr + x * (27720 / ws.getD k 0) * S⟩) (v := .int .i64 (fr + x * (27720 / ws.getD k 0) * S)) (rs.set k ⟨slv q o g n c, fr, (rs.getD k r0).u⟩) k 2 (by simpa using hk) (by omega) (by rw [getD_setR _ _ _ _ hk, if_pos rfl]; rfl)
  rw [getD_setR _ _ _ _ hk, if_pos rfl] at g1
  rw [List.length_set] at l1
  rw [List.set_set] at s2
  simp only [Rw.cells, hv, List.getElem?_cons_zero, Nat.add_zero] at g0 g1
  generalize hX0 : flat' Rw.cells rs = X0 at *
  generalize hX1 : flat' Rw.cells (rs.set k ⟨slv q o g n c, fr, (rs.getD k r0).u⟩) = X1 at *
  generalize hX2 : flat' Rw.cells (rs.set k ⟨slv q o g n c, fr, fr + x * (27720 / ws.getD k 0) * S⟩) = X2 at *
  generalize ws.getD k 0 = w at *
  clear hX0 hX1 hX2
  have hFl := (List.getElem?_eq_some_iff.1 hF).1
  have nF := fun y => (get_set_hit (x := y) hF)
  have nN := fun y => (get_set_miss (H := J) (x := y) (j := F) (k := N) (by omega)).trans hN
  have nQ := fun y => (get_set_miss (H := J) (x := y) (j := F) (k := q) (by omega)).trans hQ
  have nW := fun y => (get_set_miss (H := J) (x := y) (j := F) (k := kw) (by omega)).trans hW
  have ss : ∀ y z : AObj, (J.set F y).set F z = J.set F z := fun y z => by simp
  have hw1 : ¬ w = 0 := by omega
  have e3 : k * 3 + 1 + 1 ≤ X0.length := by omega
  have e4 : k * 3 + 2 + 1 ≤ X1.length := by omega
  refine .walkW f47_ok (by simp; decide) (by decide) ?_
  repeat' first | simp (disch := first | with_reducible assumption | omega) only [go_sem, Bool.true_and, Bool.and_true, Bool.and_self, Bool.false_and, Bool.and_false, Bool.true_or, Bool.or_true, Bool.false_or, Bool.or_false, ↓reduceIte, Nat.reduceEqDiff, Nat.reduceAdd, Nat.reduceMul, Nat.reduceSub, Nat.reduceBEq, Nat.reduceLeDiff, Nat.reduceLT, Nat.reduceMod, Nat.reduceDiv, Int.reduceToNat, Int.reducePow, Int.reduceMul, Int.reduceAdd, Int.reduceSub, Int.reduceLE, Int.reduceLT, Int.reduceNeg, Int.reduceDiv, Int.reduceMod, Int.reduceEq, Int.reduceBEq, Int.reduceBNe, f47, f47b, f47r0, f47r1, f47r2, hN, hF, hQ, hW, hw, hx, nF, nN, nQ, nW, s1, s2, g0, g1, hw1, ss] | (refine BrW.of (fun hb => ?_) (fun hb => ?_) <;> (have hb' := hb; try simp only [decide_eq_true_eq, decide_eq_false_iff_not, beq_iff_eq, bne_iff_ne, beq_eq_false_iff_ne, bne_eq_false_iff_eq, Bool.not_eq_true', Bool.not_eq_false', Bool.not_eq_true, Bool.not_eq_false, Bool.and_eq_true, Bool.or_eq_true, Bool.and_eq_false_iff, Bool.or_eq_false_iff, Int.not_lt, Int.not_le, ne_eq, gt_iff_lt, ge_iff_le] at hb') <;> (try (exfalso; omega))) | (refine altW.of ?_ ?_)
  exact .here ⟨rfl, rfl⟩


theorem flatR_len (rs : List Rw) : (flat' Rw.cells rs).length = rs.length * 3 := flat'_length (enc := Rw.cells) (s := 3) (fun _ => rfl) rs
theorem flatR_ld (rs : List Rw) (i : Nat) (h : i < rs.length) : ldV (flat' Rw.cells rs) (i * 3) 3 = some (Rw.cells (rs.getD i r0)) := flat'_ld (enc := Rw.cells) (s := 3) (fun _ => rfl) r0 rs i h
theorem get_app {H : Heap} {k : Nat} (h : k < H.length) (X : Heap) : (H ++ X)[k]? = H[k]? := List.getElem?_append_left h

/-- All but the node stays. -/
def FrN (N : Nat) (J J' : Heap) : Prop := J.length ≤ J'.length ∧ ∀ j, j < J.length → j ≠ N → J'[j]? = J[j]?
theorem FrN.fr {P N F : Nat} {J J' : Heap} (h : FrN N J J') (hP : P ≤ J.length) : Fr P N F J J' := ⟨h.1, fun j a b _ => h.2 j (by omega) b⟩
theorem WN.app {P N F : Nat} {ws : List Int} {S : Int} {nd : Nd} {J : Heap} (h : WN P N F ws S nd J) (X : Heap) : WN P N F ws S nd (J ++ X) := by
  obtain ⟨hne, ⟨kw, ow, gw, cw, row, csw, rs, hN, hkw, hWc, hcw, hF, hrl, hrs, hOwn⟩, hlen⟩ := h
  exact ⟨hne, ⟨kw, ow, gw, cw, row, csw, rs, get_old hN X, hkw, get_old hWc X, hcw, get_old hF X, hrl, hrs, hOwn.app X⟩, hlen⟩
/-- The flow whose first packet goes next. -/
theorem pick_spec (P N F : Nat) (ws : List Int) (S M : Int) (nd : Nd) (J : Heap) (hW : WN P N F ws S nd J) (hok : OkN M nd) (hM : M ≤ 1000000000000000) (hn : nd.fl.length ≤ 16) (hPJ : P ≤ J.length) :
    ACallK Tryd.prog 46 [.pointer (some ⟨N, 0, some 1⟩)] J (fun v J' => v = .int .i64 (pickK nd) ∧ WN P N F ws S ⟨nd.fl, pickT nd⟩ J' ∧ FrN N J J') := by
  obtain ⟨hne, ⟨kw, ow, gw, cw, row, csw, rs, hN, hkw, hWc, hcw, hF, hrl, hrs, hOwn⟩, hlen⟩ := hW
  have hNl := (List.getElem?_eq_some_iff.1 hN).1
  have hFl := (List.getElem?_eq_some_iff.1 hF).1
  have fl1 := flatR_len rs
  refine .walkW f46_ok (by simp; decide) (by decide) ?_
  repeat' first | simp (disch := first | with_reducible assumption | omega) only [go_sem, Bool.true_and, Bool.and_true, Bool.and_self, Bool.false_and, Bool.and_false, Bool.true_or, Bool.or_true, Bool.false_or, Bool.or_false, ↓reduceIte, Nat.reduceEqDiff, Nat.reduceAdd, Nat.reduceMul, Nat.reduceSub, Nat.reduceBEq, Nat.reduceLeDiff, Nat.reduceLT, Nat.reduceMod, Nat.reduceDiv, Int.reduceToNat, Int.reducePow, Int.reduceMul, Int.reduceAdd, Int.reduceSub, Int.reduceLE, Int.reduceLT, Int.reduceNeg, Int.reduceDiv, Int.reduceMod, Int.reduceEq, Int.reduceBEq, Int.reduceBNe, f46, f46b, f46r0, f46r1, f46r2, f46r3, f46r4, f46r5, f46r6, f46r7, f46r9, f46r10, f46r11, f46r12, f46r13, f46r14, f46r15, f46r16, f46r17, f46r18, f46r20, hN, hF] | (refine BrW.of (fun hb => ?_) (fun hb => ?_) <;> (have hb' := hb; try simp only [decide_eq_true_eq, decide_eq_false_iff_not, beq_iff_eq, bne_iff_ne, beq_eq_false_iff_ne, bne_eq_false_iff_eq, Bool.not_eq_true', Bool.not_eq_false', Bool.not_eq_true, Bool.not_eq_false, Bool.and_eq_true, Bool.or_eq_true, Bool.and_eq_false_iff, Bool.or_eq_false_iff, Int.not_lt, Int.not_le, ne_eq, gt_iff_lt, ge_iff_le] at hb') <;> (try (exfalso; omega))) | (refine altW.of ?_ ?_)
  refine loopW.of (by decide) (fun m e J' => ∃ (i : Nat) (X : Heap), e = [(0, .pointer (some ⟨N, 0, some 1⟩)), (3, .int .i64 (leastN nd.fl i)), (12, slv F 0 0 nd.fl.length nd.fl.length), (13, .int .i64 nd.fl.length), (14, .int .i64 i)] ∧ J' = J ++ X ∧ i ≤ nd.fl.length ∧ m = nd.fl.length - i) nd.fl.length ⟨0, [], rfl, by simp, by omega, rfl⟩ ?_
  rintro m e J' ⟨i, X, rfl, rfl, hi, rfl⟩
  by_cases hlt : i < nd.fl.length
  · have e0 := flatR_ld rs i (by omega)
    have hri := hrs i hlt
    have hfi := hok.f i
    have hst : leastN nd.fl (i + 1) = if (nd.fl.getD i f0).q ≠ [] ∧ (leastN nd.fl i < 0 ∨ (nd.fl.getD i f0).b < leastN nd.fl i) then (nd.fl.getD i f0).b else leastN nd.fl i := rfl
    obtain ⟨q, o, g, cs, hX⟩ := hOwn
    have hat := hX.at' i hlt
    have hcs := leastN_cases nd.fl i
    have hlb : -1 ≤ leastN nd.fl i ∧ leastN nd.fl i ≤ M := by
      rcases hcs with ⟨h, _⟩ | ⟨k, _, _, h⟩
      · have := hok.t; omega
      · have := hok.f k; omega
    clear hcs
    generalize rs.getD i r0 = r at *
    obtain ⟨v, b, u⟩ := r
    simp only [Rw.cells] at e0 hri hat
    obtain ⟨rfl, rfl⟩ := hri
    generalize leastN nd.fl i = L at *
    clear hX hrs hcw
    generalize (nd.fl.getD i f0) = f at *
    rcases hat with ⟨rfl, hq⟩ | ⟨rfl, _, hQ, hd, _⟩
    · rw [if_neg (fun h => h.1 hq)] at hst
      repeat' first | simp (disch := first | with_reducible assumption | omega) only [go_sem, Bool.true_and, Bool.and_true, Bool.and_self, Bool.false_and, Bool.and_false, Bool.true_or, Bool.or_true, Bool.false_or, Bool.or_false, ↓reduceIte, Nat.reduceEqDiff, Nat.reduceAdd, Nat.reduceMul, Nat.reduceSub, Nat.reduceBEq, Nat.reduceLeDiff, Nat.reduceLT, Nat.reduceMod, Nat.reduceDiv, Int.reduceToNat, Int.reducePow, Int.reduceMul, Int.reduceAdd, Int.reduceSub, Int.reduceLE, Int.reduceLT, Int.reduceNeg, Int.reduceDiv, Int.reduceMod, Int.reduceEq, Int.reduceBEq, Int.reduceBNe, f46, f46b, f46r0, f46r1, f46r2, f46r3, f46r4, f46r5, f46r6, f46r7, f46r9, f46r10, f46r11, f46r12, f46r13, f46r14, f46r15, f46r16, f46r17, f46r18, f46r20, f46l0, hF, get_old hF, ↓e0] | (refine BrW.of (fun hb => ?_) (fun hb => ?_) <;> (have hb' := hb; try simp only [decide_eq_true_eq, decide_eq_false_iff_not, beq_iff_eq, bne_iff_ne, beq_eq_false_iff_ne, bne_eq_false_iff_eq, Bool.not_eq_true', Bool.not_eq_false', Bool.not_eq_true, Bool.not_eq_false, Bool.and_eq_true, Bool.or_eq_true, Bool.and_eq_false_iff, Bool.or_eq_false_iff, Int.not_lt, Int.not_le, ne_eq, gt_iff_lt, ge_iff_le] at hb') <;> (try (exfalso; omega))) | (refine altW.of ?_ ?_)
      refine RdW.keep [0, 3, 12, 13, 14] (nd.fl.length - (i + 1)) (by omega) ?_
      simp (disch := first | with_reducible assumption | omega) only [go_sem, Bool.true_and, Bool.and_true, Bool.and_self, Bool.false_and, Bool.and_false, Bool.true_or, Bool.or_true, Bool.false_or, Bool.or_false, ↓reduceIte, Nat.reduceEqDiff, Nat.reduceAdd, Nat.reduceMul, Nat.reduceSub, Nat.reduceBEq, Nat.reduceLeDiff, Nat.reduceLT, Nat.reduceMod, Nat.reduceDiv, Int.reduceToNat, Int.reducePow, Int.reduceMul, Int.reduceAdd, Int.reduceSub, Int.reduceLE, Int.reduceLT, Int.reduceNeg, Int.reduceDiv, Int.reduceMod, Int.reduceEq, Int.reduceBEq, Int.reduceBNe]
      exact ⟨i + 1, _, by rw [hst]; rfl, rfl, by omega, rfl⟩
    · by_cases hq : f.q = []
      · rw [if_neg (fun h => h.1 hq)] at hst
        rw [hq] at e0
        simp only [List.length_nil] at *
        repeat' first | simp (disch := first | with_reducible assumption | omega) only [go_sem, Bool.true_and, Bool.and_true, Bool.and_self, Bool.false_and, Bool.and_false, Bool.true_or, Bool.or_true, Bool.false_or, Bool.or_false, ↓reduceIte, Nat.reduceEqDiff, Nat.reduceAdd, Nat.reduceMul, Nat.reduceSub, Nat.reduceBEq, Nat.reduceLeDiff, Nat.reduceLT, Nat.reduceMod, Nat.reduceDiv, Int.reduceToNat, Int.reducePow, Int.reduceMul, Int.reduceAdd, Int.reduceSub, Int.reduceLE, Int.reduceLT, Int.reduceNeg, Int.reduceDiv, Int.reduceMod, Int.reduceEq, Int.reduceBEq, Int.reduceBNe, f46, f46b, f46r0, f46r1, f46r2, f46r3, f46r4, f46r5, f46r6, f46r7, f46r9, f46r10, f46r11, f46r12, f46r13, f46r14, f46r15, f46r16, f46r17, f46r18, f46r20, f46l0, hF, get_old hF, ↓e0, hQ, get_old hQ] | (refine BrW.of (fun hb => ?_) (fun hb => ?_) <;> (have hb' := hb; try simp only [decide_eq_true_eq, decide_eq_false_iff_not, beq_iff_eq, bne_iff_ne, beq_eq_false_iff_ne, bne_eq_false_iff_eq, Bool.not_eq_true', Bool.not_eq_false', Bool.not_eq_true, Bool.not_eq_false, Bool.and_eq_true, Bool.or_eq_true, Bool.and_eq_false_iff, Bool.or_eq_false_iff, Int.not_lt, Int.not_le, ne_eq, gt_iff_lt, ge_iff_le] at hb') <;> (try (exfalso; omega))) | (refine altW.of ?_ ?_)
        refine RdW.keep [0, 3, 12, 13, 14] (nd.fl.length - (i + 1)) (by omega) ?_
        simp (disch := first | with_reducible assumption | omega) only [go_sem, Bool.true_and, Bool.and_true, Bool.and_self, Bool.false_and, Bool.and_false, Bool.true_or, Bool.or_true, Bool.false_or, Bool.or_false, ↓reduceIte, Nat.reduceEqDiff, Nat.reduceAdd, Nat.reduceMul, Nat.reduceSub, Nat.reduceBEq, Nat.reduceLeDiff, Nat.reduceLT, Nat.reduceMod, Nat.reduceDiv, Int.reduceToNat, Int.reducePow, Int.reduceMul, Int.reduceAdd, Int.reduceSub, Int.reduceLE, Int.reduceLT, Int.reduceNeg, Int.reduceDiv, Int.reduceMod, Int.reduceEq, Int.reduceBEq, Int.reduceBNe]
        exact ⟨i + 1, _, by rw [hst]; rfl, rfl, by omega, rfl⟩
      · have hql : 0 < f.q.length := List.length_pos_iff.2 hq
        by_cases hlb2 : L < 0 ∨ f.b < L
        · rw [if_pos ⟨hq, hlb2⟩] at hst
          rcases hlb2 with hc | hc
          · repeat' first | simp (disch := first | with_reducible assumption | omega) only [go_sem, Bool.true_and, Bool.and_true, Bool.and_self, Bool.false_and, Bool.and_false, Bool.true_or, Bool.or_true, Bool.false_or, Bool.or_false, ↓reduceIte, Nat.reduceEqDiff, Nat.reduceAdd, Nat.reduceMul, Nat.reduceSub, Nat.reduceBEq, Nat.reduceLeDiff, Nat.reduceLT, Nat.reduceMod, Nat.reduceDiv, Int.reduceToNat, Int.reducePow, Int.reduceMul, Int.reduceAdd, Int.reduceSub, Int.reduceLE, Int.reduceLT, Int.reduceNeg, Int.reduceDiv, Int.reduceMod, Int.reduceEq, Int.reduceBEq, Int.reduceBNe, f46, f46b, f46r0, f46r1, f46r2, f46r3, f46r4, f46r5, f46r6, f46r7, f46r9, f46r10, f46r11, f46r12, f46r13, f46r14, f46r15, f46r16, f46r17, f46r18, f46r20, f46l0, hF, get_old hF, ↓e0, hQ, get_old hQ] | (refine BrW.of (fun hb => ?_) (fun hb => ?_) <;> (have hb' := hb; try simp only [decide_eq_true_eq, decide_eq_false_iff_not, beq_iff_eq, bne_iff_ne, beq_eq_false_iff_ne, bne_eq_false_iff_eq, Bool.not_eq_true', Bool.not_eq_false', Bool.not_eq_true, Bool.not_eq_false, Bool.and_eq_true, Bool.or_eq_true, Bool.and_eq_false_iff, Bool.or_eq_false_iff, Int.not_lt, Int.not_le, ne_eq, gt_iff_lt, ge_iff_le] at hb') <;> (try (exfalso; omega))) | (refine altW.of ?_ ?_)
            all_goals (refine RdW.keep [0, 3, 12, 13, 14] (nd.fl.length - (i + 1)) (by omega) ?_; simp (disch := first | with_reducible assumption | omega) only [go_sem, Bool.true_and, Bool.and_true, Bool.and_self, Bool.false_and, Bool.and_false, Bool.true_or, Bool.or_true, Bool.false_or, Bool.or_false, ↓reduceIte, Nat.reduceEqDiff, Nat.reduceAdd, Nat.reduceMul, Nat.reduceSub, Nat.reduceBEq, Nat.reduceLeDiff, Nat.reduceLT, Nat.reduceMod, Nat.reduceDiv, Int.reduceToNat, Int.reducePow, Int.reduceMul, Int.reduceAdd, Int.reduceSub, Int.reduceLE, Int.reduceLT, Int.reduceNeg, Int.reduceDiv, Int.reduceMod, Int.reduceEq, Int.reduceBEq, Int.reduceBNe]; exact ⟨i + 1, _, by rw [hst]; rfl, rfl, by omega, rfl⟩)
          · repeat' first | simp (disch := first | with_reducible assumption | omega) only [go_sem, Bool.true_and, Bool.and_true, Bool.and_self, Bool.false_and, Bool.and_false, Bool.true_or, Bool.or_true, Bool.false_or, Bool.or_false, ↓reduceIte, Nat.reduceEqDiff, Nat.reduceAdd, Nat.reduceMul, Nat.reduceSub, Nat.reduceBEq, Nat.reduceLeDiff, Nat.reduceLT, Nat.reduceMod, Nat.reduceDiv, Int.reduceToNat, Int.reducePow, Int.reduceMul, Int.reduceAdd, Int.reduceSub, Int.reduceLE, Int.reduceLT, Int.reduceNeg, Int.reduceDiv, Int.reduceMod, Int.reduceEq, Int.reduceBEq, Int.reduceBNe, f46, f46b, f46r0, f46r1, f46r2, f46r3, f46r4, f46r5, f46r6, f46r7, f46r9, f46r10, f46r11, f46r12, f46r13, f46r14, f46r15, f46r16, f46r17, f46r18, f46r20, f46l0, hF, get_old hF, ↓e0, hQ, get_old hQ] | (refine BrW.of (fun hb => ?_) (fun hb => ?_) <;> (have hb' := hb; try simp only [decide_eq_true_eq, decide_eq_false_iff_not, beq_iff_eq, bne_iff_ne, beq_eq_false_iff_ne, bne_eq_false_iff_eq, Bool.not_eq_true', Bool.not_eq_false', Bool.not_eq_true, Bool.not_eq_false, Bool.and_eq_true, Bool.or_eq_true, Bool.and_eq_false_iff, Bool.or_eq_false_iff, Int.not_lt, Int.not_le, ne_eq, gt_iff_lt, ge_iff_le] at hb') <;> (try (exfalso; omega))) | (refine altW.of ?_ ?_)
            all_goals (refine RdW.keep [0, 3, 12, 13, 14] (nd.fl.length - (i + 1)) (by omega) ?_; simp (disch := first | with_reducible assumption | omega) only [go_sem, Bool.true_and, Bool.and_true, Bool.and_self, Bool.false_and, Bool.and_false, Bool.true_or, Bool.or_true, Bool.false_or, Bool.or_false, ↓reduceIte, Nat.reduceEqDiff, Nat.reduceAdd, Nat.reduceMul, Nat.reduceSub, Nat.reduceBEq, Nat.reduceLeDiff, Nat.reduceLT, Nat.reduceMod, Nat.reduceDiv, Int.reduceToNat, Int.reducePow, Int.reduceMul, Int.reduceAdd, Int.reduceSub, Int.reduceLE, Int.reduceLT, Int.reduceNeg, Int.reduceDiv, Int.reduceMod, Int.reduceEq, Int.reduceBEq, Int.reduceBNe]; exact ⟨i + 1, _, by rw [hst]; rfl, rfl, by omega, rfl⟩)
        · rw [if_neg (fun h => hlb2 h.2)] at hst
          repeat' first | simp (disch := first | with_reducible assumption | omega) only [go_sem, Bool.true_and, Bool.and_true, Bool.and_self, Bool.false_and, Bool.and_false, Bool.true_or, Bool.or_true, Bool.false_or, Bool.or_false, ↓reduceIte, Nat.reduceEqDiff, Nat.reduceAdd, Nat.reduceMul, Nat.reduceSub, Nat.reduceBEq, Nat.reduceLeDiff, Nat.reduceLT, Nat.reduceMod, Nat.reduceDiv, Int.reduceToNat, Int.reducePow, Int.reduceMul, Int.reduceAdd, Int.reduceSub, Int.reduceLE, Int.reduceLT, Int.reduceNeg, Int.reduceDiv, Int.reduceMod, Int.reduceEq, Int.reduceBEq, Int.reduceBNe, f46, f46b, f46r0, f46r1, f46r2, f46r3, f46r4, f46r5, f46r6, f46r7, f46r9, f46r10, f46r11, f46r12, f46r13, f46r14, f46r15, f46r16, f46r17, f46r18, f46r20, f46l0, hF, get_old hF, ↓e0, hQ, get_old hQ] | (refine BrW.of (fun hb => ?_) (fun hb => ?_) <;> (have hb' := hb; try simp only [decide_eq_true_eq, decide_eq_false_iff_not, beq_iff_eq, bne_iff_ne, beq_eq_false_iff_ne, bne_eq_false_iff_eq, Bool.not_eq_true', Bool.not_eq_false', Bool.not_eq_true, Bool.not_eq_false, Bool.and_eq_true, Bool.or_eq_true, Bool.and_eq_false_iff, Bool.or_eq_false_iff, Int.not_lt, Int.not_le, ne_eq, gt_iff_lt, ge_iff_le] at hb') <;> (try (exfalso; omega))) | (refine altW.of ?_ ?_)
          all_goals (refine RdW.keep [0, 3, 12, 13, 14] (nd.fl.length - (i + 1)) (by omega) ?_; simp (disch := first | with_reducible assumption | omega) only [go_sem, Bool.true_and, Bool.and_true, Bool.and_self, Bool.false_and, Bool.and_false, Bool.true_or, Bool.or_true, Bool.false_or, Bool.or_false, ↓reduceIte, Nat.reduceEqDiff, Nat.reduceAdd, Nat.reduceMul, Nat.reduceSub, Nat.reduceBEq, Nat.reduceLeDiff, Nat.reduceLT, Nat.reduceMod, Nat.reduceDiv, Int.reduceToNat, Int.reducePow, Int.reduceMul, Int.reduceAdd, Int.reduceSub, Int.reduceLE, Int.reduceLT, Int.reduceNeg, Int.reduceDiv, Int.reduceMod, Int.reduceEq, Int.reduceBEq, Int.reduceBNe]; exact ⟨i + 1, _, by rw [hst]; rfl, rfl, by omega, rfl⟩)
  · obtain rfl : i = nd.fl.length := by omega
    have hpb := pickT_bound hok
    by_cases hL : leastN nd.fl nd.fl.length < 0
    · have hK : pickK nd = -1 := by unfold pickK; rw [if_pos hL]
      have hT : pickT nd = nd.t := by unfold pickT; rw [if_pos hL]
      rw [hK, hT]
      generalize leastN nd.fl nd.fl.length = L at *
      repeat' first | simp (disch := first | with_reducible assumption | omega) only [go_sem, Bool.true_and, Bool.and_true, Bool.and_self, Bool.false_and, Bool.and_false, Bool.true_or, Bool.or_true, Bool.false_or, Bool.or_false, ↓reduceIte, Nat.reduceEqDiff, Nat.reduceAdd, Nat.reduceMul, Nat.reduceSub, Nat.reduceBEq, Nat.reduceLeDiff, Nat.reduceLT, Nat.reduceMod, Nat.reduceDiv, Int.reduceToNat, Int.reducePow, Int.reduceMul, Int.reduceAdd, Int.reduceSub, Int.reduceLE, Int.reduceLT, Int.reduceNeg, Int.reduceDiv, Int.reduceMod, Int.reduceEq, Int.reduceBEq, Int.reduceBNe, f46, f46b, f46r0, f46r1, f46r2, f46r3, f46r4, f46r5, f46r6, f46r7, f46r9, f46r10, f46r11, f46r12, f46r13, f46r14, f46r15, f46r16, f46r17, f46r18, f46r20, f46l0, f46, f46b, f46r0, f46r1, f46r2, f46r3, f46r4, f46r5, f46r6, f46r7, f46r9, f46r10, f46r11, f46r12, f46r13, f46r14, f46r15, f46r16, f46r17, f46r18, f46r20] | (refine BrW.of (fun hb => ?_) (fun hb => ?_) <;> (have hb' := hb; try simp only [decide_eq_true_eq, decide_eq_false_iff_not, beq_iff_eq, bne_iff_ne, beq_eq_false_iff_ne, bne_eq_false_iff_eq, Bool.not_eq_true', Bool.not_eq_false', Bool.not_eq_true, Bool.not_eq_false, Bool.and_eq_true, Bool.or_eq_true, Bool.and_eq_false_iff, Bool.or_eq_false_iff, Int.not_lt, Int.not_le, ne_eq, gt_iff_lt, ge_iff_le] at hb') <;> (try (exfalso; omega))) | (refine altW.of ?_ ?_)
      refine .here ⟨rfl, ⟨hne, ⟨kw, ow, gw, cw, row, csw, rs, get_old hN X, hkw, get_old hWc X, hcw, get_old hF X, hrl, hrs, hOwn.app X⟩, hlen⟩, by simp, fun j hj _ => get_app hj X⟩
    · have hK : pickK nd = bestN nd.fl (pickT nd) nd.fl.length := by unfold pickK; rw [if_neg hL]
      have hT : pickT nd = max nd.t (leastN nd.fl nd.fl.length) := by unfold pickT; rw [if_neg hL]
      have hlb : leastN nd.fl nd.fl.length ≤ M := by
        rcases leastN_cases nd.fl nd.fl.length with ⟨h, _⟩ | ⟨k, _, _, h⟩
        · have := hok.t; omega
        · have := hok.f k; omega
      have htb := hok.t
      rw [hK]
      generalize hT2 : pickT nd = T at *
      generalize leastN nd.fl nd.fl.length = L at *
      subst hT
      have nN := fun y => get_set_hit (x := y) (get_old hN X)
      have nF := fun y => (get_set_miss (H := J ++ X) (x := y) (j := N) (k := F) (by omega)).trans (get_old hF X)
      repeat' first | simp (disch := first | with_reducible assumption | omega) only [go_sem, Bool.true_and, Bool.and_true, Bool.and_self, Bool.false_and, Bool.and_false, Bool.true_or, Bool.or_true, Bool.false_or, Bool.or_false, ↓reduceIte, Nat.reduceEqDiff, Nat.reduceAdd, Nat.reduceMul, Nat.reduceSub, Nat.reduceBEq, Nat.reduceLeDiff, Nat.reduceLT, Nat.reduceMod, Nat.reduceDiv, Int.reduceToNat, Int.reducePow, Int.reduceMul, Int.reduceAdd, Int.reduceSub, Int.reduceLE, Int.reduceLT, Int.reduceNeg, Int.reduceDiv, Int.reduceMod, Int.reduceEq, Int.reduceBEq, Int.reduceBNe, f46, f46b, f46r0, f46r1, f46r2, f46r3, f46r4, f46r5, f46r6, f46r7, f46r9, f46r10, f46r11, f46r12, f46r13, f46r14, f46r15, f46r16, f46r17, f46r18, f46r20, f46l0, f46, f46b, f46r0, f46r1, f46r2, f46r3, f46r4, f46r5, f46r6, f46r7, f46r9, f46r10, f46r11, f46r12, f46r13, f46r14, f46r15, f46r16, f46r17, f46r18, f46r20, hN, get_old hN, nN, nF] | (refine BrW.of (fun hb => ?_) (fun hb => ?_) <;> (have hb' := hb; try simp only [decide_eq_true_eq, decide_eq_false_iff_not, beq_iff_eq, bne_iff_ne, beq_eq_false_iff_ne, bne_eq_false_iff_eq, Bool.not_eq_true', Bool.not_eq_false', Bool.not_eq_true, Bool.not_eq_false, Bool.and_eq_true, Bool.or_eq_true, Bool.and_eq_false_iff, Bool.or_eq_false_iff, Int.not_lt, Int.not_le, ne_eq, gt_iff_lt, ge_iff_le] at hb') <;> (try (exfalso; omega))) | (refine altW.of ?_ ?_)
      have hOwn2 : Own P nd.fl.length (fun k => (rs.getD k r0).v) (fun k => (nd.fl.getD k f0).q) ((J ++ X).set N (AObj.cells 0 0 false [slv kw ow gw ws.length cw, slv F 0 0 nd.fl.length nd.fl.length, .int .i64 S, .int .i64 (max nd.t L)])) :=
        hOwn.agree fun k hk o ho => (get_set_miss (by omega)).trans (get_old ho X)
      have hW2 : ((J ++ X).set N (AObj.cells 0 0 false [slv kw ow gw ws.length cw, slv F 0 0 nd.fl.length nd.fl.length, .int .i64 S, .int .i64 (max nd.t L)]))[kw]? = some (.cells gw 1 row csw) := (get_set_miss (by omega)).trans (get_old hWc X)
      have hFr : FrN N J ((J ++ X).set N (AObj.cells 0 0 false [slv kw ow gw ws.length cw, slv F 0 0 nd.fl.length nd.fl.length, .int .i64 S, .int .i64 (max nd.t L)])) :=
        ⟨by simp, fun j hj h1 => by rw [List.getElem?_set_ne (by omega), get_app hj]⟩
      have hG1 := nN (AObj.cells 0 0 false [slv kw ow gw ws.length cw, slv F 0 0 nd.fl.length nd.fl.length, .int .i64 S, .int .i64 (max nd.t L)])
      have hG2 := nF (AObj.cells 0 0 false [slv kw ow gw ws.length cw, slv F 0 0 nd.fl.length nd.fl.length, .int .i64 S, .int .i64 (max nd.t L)])
      generalize (J ++ X).set N (AObj.cells 0 0 false [slv kw ow gw ws.length cw, slv F 0 0 nd.fl.length nd.fl.length, .int .i64 S, .int .i64 (max nd.t L)]) = G at *
      generalize max nd.t L = T at *
      clear nN nF
      refine loopW.of (by decide) (fun m e J' => ∃ (i : Nat) (Y : Heap), e = [(0, .pointer (some ⟨N, 0, some 1⟩)), (6, .int .i64 (bestN nd.fl T i)), (49, slv F 0 0 nd.fl.length nd.fl.length), (50, .int .i64 nd.fl.length), (51, .int .i64 i)] ∧ J' = G ++ Y ∧ i ≤ nd.fl.length ∧ m = nd.fl.length - i) nd.fl.length ⟨0, [], rfl, by simp, by omega, rfl⟩ ?_
      rintro m e J' ⟨i, Y, rfl, rfl, hi, rfl⟩
      by_cases hlt : i < nd.fl.length
      · have e0 := flatR_ld rs i (by omega)
        have hri := hrs i hlt
        have hfi := hok.f i
        have hst : bestN nd.fl T (i + 1) = if ((nd.fl.getD i f0).q ≠ [] ∧ (nd.fl.getD i f0).b ≤ T) ∧ (bestN nd.fl T i < 0 ∨ (nd.fl.getD i f0).u < (nd.fl.getD (bestN nd.fl T i).toNat f0).u) then (i : Int) else bestN nd.fl T i := rfl
        obtain ⟨q, o, g, cs, hX⟩ := hOwn2
        have hat := hX.at' i hlt
        have hbc : bestN nd.fl T i = -1 ∨ ∃ k' : Nat, k' < i ∧ bestN nd.fl T i = k' := by
          rcases bestN_cases nd.fl T i with ⟨h, _⟩ | ⟨k', h1, _, _, h4⟩
          · exact .inl h
          · exact .inr ⟨k', h1, h4⟩
        have hrow : ∀ k', k' < i → (flat' Rw.cells rs)[k' * 3 + 2]? = some (.int .i64 (nd.fl.getD k' f0).u) := fun k' hk' => by
          rw [flat'_get (enc := Rw.cells) (s := 3) (fun _ => rfl) r0 rs k' 2 (by omega) (by omega), ← (hrs k' (by omega)).2]; rfl
        generalize rs.getD i r0 = r at *
        obtain ⟨v, b, u⟩ := r
        simp only [Rw.cells] at e0 hri hat
        obtain ⟨rfl, rfl⟩ := hri
        generalize hB : bestN nd.fl T i = B at *
        have hu : ∀ k', True := fun k' : Nat => trivial
        clear hX hrs hcw hB
        rcases hat with ⟨rfl, hq⟩ | ⟨rfl, _, hQ, hd, _⟩
        · rw [if_neg (fun h => h.1.1 hq)] at hst
          repeat' first | simp (disch := first | with_reducible assumption | omega) only [go_sem, Bool.true_and, Bool.and_true, Bool.and_self, Bool.false_and, Bool.and_false, Bool.true_or, Bool.or_true, Bool.false_or, Bool.or_false, ↓reduceIte, Nat.reduceEqDiff, Nat.reduceAdd, Nat.reduceMul, Nat.reduceSub, Nat.reduceBEq, Nat.reduceLeDiff, Nat.reduceLT, Nat.reduceMod, Nat.reduceDiv, Int.reduceToNat, Int.reducePow, Int.reduceMul, Int.reduceAdd, Int.reduceSub, Int.reduceLE, Int.reduceLT, Int.reduceNeg, Int.reduceDiv, Int.reduceMod, Int.reduceEq, Int.reduceBEq, Int.reduceBNe, f46, f46b, f46r0, f46r1, f46r2, f46r3, f46r4, f46r5, f46r6, f46r7, f46r9, f46r10, f46r11, f46r12, f46r13, f46r14, f46r15, f46r16, f46r17, f46r18, f46r20, f46l1, hG2, get_old hG2, hG1, get_old hG1, ↓e0] | (refine BrW.of (fun hb => ?_) (fun hb => ?_) <;> (have hb' := hb; try simp only [decide_eq_true_eq, decide_eq_false_iff_not, beq_iff_eq, bne_iff_ne, beq_eq_false_iff_ne, bne_eq_false_iff_eq, Bool.not_eq_true', Bool.not_eq_false', Bool.not_eq_true, Bool.not_eq_false, Bool.and_eq_true, Bool.or_eq_true, Bool.and_eq_false_iff, Bool.or_eq_false_iff, Int.not_lt, Int.not_le, ne_eq, gt_iff_lt, ge_iff_le] at hb') <;> (try (exfalso; omega))) | (refine altW.of ?_ ?_)
          refine RdW.keep [0, 6, 49, 50, 51] (nd.fl.length - (i + 1)) (by omega) ?_
          simp (disch := first | with_reducible assumption | omega) only [go_sem, Bool.true_and, Bool.and_true, Bool.and_self, Bool.false_and, Bool.and_false, Bool.true_or, Bool.or_true, Bool.false_or, Bool.or_false, ↓reduceIte, Nat.reduceEqDiff, Nat.reduceAdd, Nat.reduceMul, Nat.reduceSub, Nat.reduceBEq, Nat.reduceLeDiff, Nat.reduceLT, Nat.reduceMod, Nat.reduceDiv, Int.reduceToNat, Int.reducePow, Int.reduceMul, Int.reduceAdd, Int.reduceSub, Int.reduceLE, Int.reduceLT, Int.reduceNeg, Int.reduceDiv, Int.reduceMod, Int.reduceEq, Int.reduceBEq, Int.reduceBNe]
          exact ⟨i + 1, _, by rw [hst]; rfl, rfl, by omega, rfl⟩
        · by_cases hq : (nd.fl.getD i f0).q = []
          · rw [if_neg (fun h => h.1.1 hq)] at hst
            rw [hq] at e0
            simp only [List.length_nil] at *
            repeat' first | simp (disch := first | with_reducible assumption | omega) only [go_sem, Bool.true_and, Bool.and_true, Bool.and_self, Bool.false_and, Bool.and_false, Bool.true_or, Bool.or_true, Bool.false_or, Bool.or_false, ↓reduceIte, Nat.reduceEqDiff, Nat.reduceAdd, Nat.reduceMul, Nat.reduceSub, Nat.reduceBEq, Nat.reduceLeDiff, Nat.reduceLT, Nat.reduceMod, Nat.reduceDiv, Int.reduceToNat, Int.reducePow, Int.reduceMul, Int.reduceAdd, Int.reduceSub, Int.reduceLE, Int.reduceLT, Int.reduceNeg, Int.reduceDiv, Int.reduceMod, Int.reduceEq, Int.reduceBEq, Int.reduceBNe, f46, f46b, f46r0, f46r1, f46r2, f46r3, f46r4, f46r5, f46r6, f46r7, f46r9, f46r10, f46r11, f46r12, f46r13, f46r14, f46r15, f46r16, f46r17, f46r18, f46r20, f46l1, hG2, get_old hG2, hG1, get_old hG1, ↓e0, hQ, get_old hQ] | (refine BrW.of (fun hb => ?_) (fun hb => ?_) <;> (have hb' := hb; try simp only [decide_eq_true_eq, decide_eq_false_iff_not, beq_iff_eq, bne_iff_ne, beq_eq_false_iff_ne, bne_eq_false_iff_eq, Bool.not_eq_true', Bool.not_eq_false', Bool.not_eq_true, Bool.not_eq_false, Bool.and_eq_true, Bool.or_eq_true, Bool.and_eq_false_iff, Bool.or_eq_false_iff, Int.not_lt, Int.not_le, ne_eq, gt_iff_lt, ge_iff_le] at hb') <;> (try (exfalso; omega))) | (refine altW.of ?_ ?_)
            refine RdW.keep [0, 6, 49, 50, 51] (nd.fl.length - (i + 1)) (by omega) ?_
            simp (disch := first | with_reducible assumption | omega) only [go_sem, Bool.true_and, Bool.and_true, Bool.and_self, Bool.false_and, Bool.and_false, Bool.true_or, Bool.or_true, Bool.false_or, Bool.or_false, ↓reduceIte, Nat.reduceEqDiff, Nat.reduceAdd, Nat.reduceMul, Nat.reduceSub, Nat.reduceBEq, Nat.reduceLeDiff, Nat.reduceLT, Nat.reduceMod, Nat.reduceDiv, Int.reduceToNat, Int.reducePow, Int.reduceMul, Int.reduceAdd, Int.reduceSub, Int.reduceLE, Int.reduceLT, Int.reduceNeg, Int.reduceDiv, Int.reduceMod, Int.reduceEq, Int.reduceBEq, Int.reduceBNe]
            exact ⟨i + 1, _, by rw [hst]; rfl, rfl, by omega, rfl⟩
          · have hql : 0 < (nd.fl.getD i f0).q.length := List.length_pos_iff.2 hq
            by_cases hbT : (nd.fl.getD i f0).b ≤ T
            · rcases hbc with rfl | ⟨k', hk', rfl⟩
              · rw [if_pos ⟨⟨hq, hbT⟩, .inl (by omega)⟩] at hst
                clear hrow
                generalize (nd.fl.getD i f0) = f at *
                repeat' first | simp (disch := first | with_reducible assumption | omega) only [go_sem, Bool.true_and, Bool.and_true, Bool.and_self, Bool.false_and, Bool.and_false, Bool.true_or, Bool.or_true, Bool.false_or, Bool.or_false, ↓reduceIte, Nat.reduceEqDiff, Nat.reduceAdd, Nat.reduceMul, Nat.reduceSub, Nat.reduceBEq, Nat.reduceLeDiff, Nat.reduceLT, Nat.reduceMod, Nat.reduceDiv, Int.reduceToNat, Int.reducePow, Int.reduceMul, Int.reduceAdd, Int.reduceSub, Int.reduceLE, Int.reduceLT, Int.reduceNeg, Int.reduceDiv, Int.reduceMod, Int.reduceEq, Int.reduceBEq, Int.reduceBNe, f46, f46b, f46r0, f46r1, f46r2, f46r3, f46r4, f46r5, f46r6, f46r7, f46r9, f46r10, f46r11, f46r12, f46r13, f46r14, f46r15, f46r16, f46r17, f46r18, f46r20, f46l1, hG2, get_old hG2, hG1, get_old hG1, ↓e0, hQ, get_old hQ] | (refine BrW.of (fun hb => ?_) (fun hb => ?_) <;> (have hb' := hb; try simp only [decide_eq_true_eq, decide_eq_false_iff_not, beq_iff_eq, bne_iff_ne, beq_eq_false_iff_ne, bne_eq_false_iff_eq, Bool.not_eq_true', Bool.not_eq_false', Bool.not_eq_true, Bool.not_eq_false, Bool.and_eq_true, Bool.or_eq_true, Bool.and_eq_false_iff, Bool.or_eq_false_iff, Int.not_lt, Int.not_le, ne_eq, gt_iff_lt, ge_iff_le] at hb') <;> (try (exfalso; omega))) | (refine altW.of ?_ ?_)
                all_goals (refine RdW.keep [0, 6, 49, 50, 51] (nd.fl.length - (i + 1)) (by omega) ?_; simp (disch := first | with_reducible assumption | omega) only [go_sem, Bool.true_and, Bool.and_true, Bool.and_self, Bool.false_and, Bool.and_false, Bool.true_or, Bool.or_true, Bool.false_or, Bool.or_false, ↓reduceIte, Nat.reduceEqDiff, Nat.reduceAdd, Nat.reduceMul, Nat.reduceSub, Nat.reduceBEq, Nat.reduceLeDiff, Nat.reduceLT, Nat.reduceMod, Nat.reduceDiv, Int.reduceToNat, Int.reducePow, Int.reduceMul, Int.reduceAdd, Int.reduceSub, Int.reduceLE, Int.reduceLT, Int.reduceNeg, Int.reduceDiv, Int.reduceMod, Int.reduceEq, Int.reduceBEq, Int.reduceBNe]; exact ⟨i + 1, _, by rw [hst]; rfl, rfl, by omega, rfl⟩)
              · have hr := hrow k' hk'
                rw [Int.toNat_natCast] at hst
                generalize (nd.fl.getD k' f0).u = uk at *
                by_cases huk : (nd.fl.getD i f0).u < uk
                · rw [if_pos ⟨⟨hq, hbT⟩, .inr huk⟩] at hst
                  clear hrow
                  generalize (nd.fl.getD i f0) = f at *
                  repeat' first | simp (disch := first | with_reducible assumption | omega) only [go_sem, Bool.true_and, Bool.and_true, Bool.and_self, Bool.false_and, Bool.and_false, Bool.true_or, Bool.or_true, Bool.false_or, Bool.or_false, ↓reduceIte, Nat.reduceEqDiff, Nat.reduceAdd, Nat.reduceMul, Nat.reduceSub, Nat.reduceBEq, Nat.reduceLeDiff, Nat.reduceLT, Nat.reduceMod, Nat.reduceDiv, Int.reduceToNat, Int.reducePow, Int.reduceMul, Int.reduceAdd, Int.reduceSub, Int.reduceLE, Int.reduceLT, Int.reduceNeg, Int.reduceDiv, Int.reduceMod, Int.reduceEq, Int.reduceBEq, Int.reduceBNe, f46, f46b, f46r0, f46r1, f46r2, f46r3, f46r4, f46r5, f46r6, f46r7, f46r9, f46r10, f46r11, f46r12, f46r13, f46r14, f46r15, f46r16, f46r17, f46r18, f46r20, f46l1, hG2, get_old hG2, hG1, get_old hG1, ↓e0, hQ, get_old hQ, hr] | (refine BrW.of (fun hb => ?_) (fun hb => ?_) <;> (have hb' := hb; try simp only [decide_eq_true_eq, decide_eq_false_iff_not, beq_iff_eq, bne_iff_ne, beq_eq_false_iff_ne, bne_eq_false_iff_eq, Bool.not_eq_true', Bool.not_eq_false', Bool.not_eq_true, Bool.not_eq_false, Bool.and_eq_true, Bool.or_eq_true, Bool.and_eq_false_iff, Bool.or_eq_false_iff, Int.not_lt, Int.not_le, ne_eq, gt_iff_lt, ge_iff_le] at hb') <;> (try (exfalso; omega))) | (refine altW.of ?_ ?_)
                  all_goals (refine RdW.keep [0, 6, 49, 50, 51] (nd.fl.length - (i + 1)) (by omega) ?_; simp (disch := first | with_reducible assumption | omega) only [go_sem, Bool.true_and, Bool.and_true, Bool.and_self, Bool.false_and, Bool.and_false, Bool.true_or, Bool.or_true, Bool.false_or, Bool.or_false, ↓reduceIte, Nat.reduceEqDiff, Nat.reduceAdd, Nat.reduceMul, Nat.reduceSub, Nat.reduceBEq, Nat.reduceLeDiff, Nat.reduceLT, Nat.reduceMod, Nat.reduceDiv, Int.reduceToNat, Int.reducePow, Int.reduceMul, Int.reduceAdd, Int.reduceSub, Int.reduceLE, Int.reduceLT, Int.reduceNeg, Int.reduceDiv, Int.reduceMod, Int.reduceEq, Int.reduceBEq, Int.reduceBNe]; exact ⟨i + 1, _, by rw [hst]; rfl, rfl, by omega, rfl⟩)
                · rw [if_neg (fun h => by rcases h.2 with h | h <;> omega)] at hst
                  clear hrow
                  generalize (nd.fl.getD i f0) = f at *
                  repeat' first | simp (disch := first | with_reducible assumption | omega) only [go_sem, Bool.true_and, Bool.and_true, Bool.and_self, Bool.false_and, Bool.and_false, Bool.true_or, Bool.or_true, Bool.false_or, Bool.or_false, ↓reduceIte, Nat.reduceEqDiff, Nat.reduceAdd, Nat.reduceMul, Nat.reduceSub, Nat.reduceBEq, Nat.reduceLeDiff, Nat.reduceLT, Nat.reduceMod, Nat.reduceDiv, Int.reduceToNat, Int.reducePow, Int.reduceMul, Int.reduceAdd, Int.reduceSub, Int.reduceLE, Int.reduceLT, Int.reduceNeg, Int.reduceDiv, Int.reduceMod, Int.reduceEq, Int.reduceBEq, Int.reduceBNe, f46, f46b, f46r0, f46r1, f46r2, f46r3, f46r4, f46r5, f46r6, f46r7, f46r9, f46r10, f46r11, f46r12, f46r13, f46r14, f46r15, f46r16, f46r17, f46r18, f46r20, f46l1, hG2, get_old hG2, hG1, get_old hG1, ↓e0, hQ, get_old hQ, hr] | (refine BrW.of (fun hb => ?_) (fun hb => ?_) <;> (have hb' := hb; try simp only [decide_eq_true_eq, decide_eq_false_iff_not, beq_iff_eq, bne_iff_ne, beq_eq_false_iff_ne, bne_eq_false_iff_eq, Bool.not_eq_true', Bool.not_eq_false', Bool.not_eq_true, Bool.not_eq_false, Bool.and_eq_true, Bool.or_eq_true, Bool.and_eq_false_iff, Bool.or_eq_false_iff, Int.not_lt, Int.not_le, ne_eq, gt_iff_lt, ge_iff_le] at hb') <;> (try (exfalso; omega))) | (refine altW.of ?_ ?_)
                  all_goals (refine RdW.keep [0, 6, 49, 50, 51] (nd.fl.length - (i + 1)) (by omega) ?_; simp (disch := first | with_reducible assumption | omega) only [go_sem, Bool.true_and, Bool.and_true, Bool.and_self, Bool.false_and, Bool.and_false, Bool.true_or, Bool.or_true, Bool.false_or, Bool.or_false, ↓reduceIte, Nat.reduceEqDiff, Nat.reduceAdd, Nat.reduceMul, Nat.reduceSub, Nat.reduceBEq, Nat.reduceLeDiff, Nat.reduceLT, Nat.reduceMod, Nat.reduceDiv, Int.reduceToNat, Int.reducePow, Int.reduceMul, Int.reduceAdd, Int.reduceSub, Int.reduceLE, Int.reduceLT, Int.reduceNeg, Int.reduceDiv, Int.reduceMod, Int.reduceEq, Int.reduceBEq, Int.reduceBNe]; exact ⟨i + 1, _, by rw [hst]; rfl, rfl, by omega, rfl⟩)
            · rw [if_neg (fun h => hbT h.1.2)] at hst
              clear hrow
              generalize (nd.fl.getD i f0) = f at *
              repeat' first | simp (disch := first | with_reducible assumption | omega) only [go_sem, Bool.true_and, Bool.and_true, Bool.and_self, Bool.false_and, Bool.and_false, Bool.true_or, Bool.or_true, Bool.false_or, Bool.or_false, ↓reduceIte, Nat.reduceEqDiff, Nat.reduceAdd, Nat.reduceMul, Nat.reduceSub, Nat.reduceBEq, Nat.reduceLeDiff, Nat.reduceLT, Nat.reduceMod, Nat.reduceDiv, Int.reduceToNat, Int.reducePow, Int.reduceMul, Int.reduceAdd, Int.reduceSub, Int.reduceLE, Int.reduceLT, Int.reduceNeg, Int.reduceDiv, Int.reduceMod, Int.reduceEq, Int.reduceBEq, Int.reduceBNe, f46, f46b, f46r0, f46r1, f46r2, f46r3, f46r4, f46r5, f46r6, f46r7, f46r9, f46r10, f46r11, f46r12, f46r13, f46r14, f46r15, f46r16, f46r17, f46r18, f46r20, f46l1, hG2, get_old hG2, hG1, get_old hG1, ↓e0, hQ, get_old hQ] | (refine BrW.of (fun hb => ?_) (fun hb => ?_) <;> (have hb' := hb; try simp only [decide_eq_true_eq, decide_eq_false_iff_not, beq_iff_eq, bne_iff_ne, beq_eq_false_iff_ne, bne_eq_false_iff_eq, Bool.not_eq_true', Bool.not_eq_false', Bool.not_eq_true, Bool.not_eq_false, Bool.and_eq_true, Bool.or_eq_true, Bool.and_eq_false_iff, Bool.or_eq_false_iff, Int.not_lt, Int.not_le, ne_eq, gt_iff_lt, ge_iff_le] at hb') <;> (try (exfalso; omega))) | (refine altW.of ?_ ?_)
              all_goals (refine RdW.keep [0, 6, 49, 50, 51] (nd.fl.length - (i + 1)) (by omega) ?_; simp (disch := first | with_reducible assumption | omega) only [go_sem, Bool.true_and, Bool.and_true, Bool.and_self, Bool.false_and, Bool.and_false, Bool.true_or, Bool.or_true, Bool.false_or, Bool.or_false, ↓reduceIte, Nat.reduceEqDiff, Nat.reduceAdd, Nat.reduceMul, Nat.reduceSub, Nat.reduceBEq, Nat.reduceLeDiff, Nat.reduceLT, Nat.reduceMod, Nat.reduceDiv, Int.reduceToNat, Int.reducePow, Int.reduceMul, Int.reduceAdd, Int.reduceSub, Int.reduceLE, Int.reduceLT, Int.reduceNeg, Int.reduceDiv, Int.reduceMod, Int.reduceEq, Int.reduceBEq, Int.reduceBNe]; exact ⟨i + 1, _, by rw [hst]; rfl, rfl, by omega, rfl⟩)
      · obtain rfl : i = nd.fl.length := by omega
        repeat' first | simp (disch := first | with_reducible assumption | omega) only [go_sem, Bool.true_and, Bool.and_true, Bool.and_self, Bool.false_and, Bool.and_false, Bool.true_or, Bool.or_true, Bool.false_or, Bool.or_false, ↓reduceIte, Nat.reduceEqDiff, Nat.reduceAdd, Nat.reduceMul, Nat.reduceSub, Nat.reduceBEq, Nat.reduceLeDiff, Nat.reduceLT, Nat.reduceMod, Nat.reduceDiv, Int.reduceToNat, Int.reducePow, Int.reduceMul, Int.reduceAdd, Int.reduceSub, Int.reduceLE, Int.reduceLT, Int.reduceNeg, Int.reduceDiv, Int.reduceMod, Int.reduceEq, Int.reduceBEq, Int.reduceBNe, f46, f46b, f46r0, f46r1, f46r2, f46r3, f46r4, f46r5, f46r6, f46r7, f46r9, f46r10, f46r11, f46r12, f46r13, f46r14, f46r15, f46r16, f46r17, f46r18, f46r20, f46l1, f46, f46b, f46r0, f46r1, f46r2, f46r3, f46r4, f46r5, f46r6, f46r7, f46r9, f46r10, f46r11, f46r12, f46r13, f46r14, f46r15, f46r16, f46r17, f46r18, f46r20] | (refine BrW.of (fun hb => ?_) (fun hb => ?_) <;> (have hb' := hb; try simp only [decide_eq_true_eq, decide_eq_false_iff_not, beq_iff_eq, bne_iff_ne, beq_eq_false_iff_ne, bne_eq_false_iff_eq, Bool.not_eq_true', Bool.not_eq_false', Bool.not_eq_true, Bool.not_eq_false, Bool.and_eq_true, Bool.or_eq_true, Bool.and_eq_false_iff, Bool.or_eq_false_iff, Int.not_lt, Int.not_le, ne_eq, gt_iff_lt, ge_iff_le] at hb') <;> (try (exfalso; omega))) | (refine altW.of ?_ ?_)
        exact .here ⟨rfl, ⟨hne, ⟨kw, ow, gw, cw, row, csw, rs, get_old hG1 Y, hkw, get_old hW2 Y, hcw, get_old hG2 Y, hrl, hrs, hOwn2.app Y⟩, hlen⟩, ⟨by have := hFr.1; simp; omega, fun j hj h1 => (get_app (by have := hFr.1; omega) Y).trans (hFr.2 j hj h1)⟩⟩


theorem ints_nil : ints [] = [] := rfl
theorem getD_setL (l : List Rw) (k j : Nat) (x : Rw) (hk : k < l.length) (h : j ≠ k) : (l.set k x).getD j r0 = l.getD j r0 := by rw [getD_setR _ _ _ _ hk, if_neg (Ne.symm h)]
theorem drop_ints {cs : List Value} {o : Nat} {l : List Int} (hd : cs.drop o = ints l) : (cs.drop o).take l.length = ints l := by rw [hd]; exact ints_take l _ (Nat.le_refl _)
theorem drop_len {cs : List Value} {o : Nat} {l : List Int} (hd : cs.drop o = ints l) (ho : o ≤ cs.length) : o + l.length = cs.length := by
  have := congrArg List.length hd
  rw [List.length_drop, ints_length] at this
  omega
/-- The node's parts, put together again. -/
theorem WN.mk' {P N F : Nat} {ws : List Int} {S : Int} {nd nd' : Nd} {J' : Heap} {kw ow gw cw : Nat} {row : Bool} {csw : List Value} {rs' : List Rw} (hne : F < N ∧ N < P) (hlen : nd.fl.length = ws.length) (hl2 : nd'.fl.length = nd.fl.length)
    (hN : J'[N]? = some (.cells 0 0 false [slv kw ow gw ws.length cw, slv F 0 0 nd.fl.length nd.fl.length, .int .i64 S, .int .i64 nd'.t])) (hkw : kw < F) (hWc : J'[kw]? = some (.cells gw 1 row csw)) (hcw : ∀ i, i < ws.length → csw[ow + i]? = some (.int .i64 (ws.getD i 0)))
    (hF : J'[F]? = some (.cells 0 3 false (flat' Rw.cells rs'))) (hrl : rs'.length = nd.fl.length) (hrs : ∀ k, k < nd.fl.length → (rs'.getD k r0).b = (nd'.fl.getD k f0).b ∧ (rs'.getD k r0).u = (nd'.fl.getD k f0).u) (hOwn : Own P nd.fl.length (fun k => (rs'.getD k r0).v) (fun k => (nd'.fl.getD k f0).q) J') : WN P N F ws S nd' J' :=
  ⟨hne, ⟨kw, ow, gw, cw, row, csw, rs', by rw [hl2]; exact hN, hkw, hWc, hcw, hF, by rw [hl2]; exact hrl, fun k hk => hrs k (by omega), by rw [hl2]; exact hOwn⟩, by rw [hl2]; exact hlen⟩

theorem in_spec (P N F : Nat) (ws : List Int) (S M : Int) (nd : Nd) (k : Nat) (x : Int) (J : Heap) (hW : WN P N F ws S nd J) (hok : OkN M nd) (hM : M ≤ 1000000000000000) (hw : okW ws S) (hk : k < nd.fl.length) (hx : 1 ≤ x ∧ x ≤ 1500) (hql : (nd.fl.getD k f0).q.length ≤ 1000000) (hPJ : P ≤ J.length) :
    ACallK Tryd.prog 34 [.pointer (some ⟨N, 0, some 1⟩), .int .i64 k, .int .i64 x] J (fun v J' => v = .tuple #[] ∧ WN P N F ws S (inN ws S nd k x) J' ∧ Fr P N F J J') := by
  obtain ⟨hne, ⟨kw, ow, gw, cw, row, csw, rs, hN, hkw, hWc, hcw, hF, hrl, hrs, hOwn⟩, hlen⟩ := hW
  have hNl := (List.getElem?_eq_some_iff.1 hN).1
  have hFl := (List.getElem?_eq_some_iff.1 hF).1
  have fl1 := flatR_len rs
  have hrk := hrs k hk
  have hfk := hok.f k
  have htk := hok.t
  have hn16 : nd.fl.length ≤ 16 := by have := hw.1; omega
  have hwk := hw.2.1 k (by omega)
  have hwc := hcw k (by omega)
  obtain ⟨q, o, g, cs, hX⟩ := hOwn
  have hat := hX.at' k hk
  have g0 := flat'_get (enc := Rw.cells) (s := 3) (fun _ => rfl) r0 rs k 0 (by omega) (by omega)
  simp only [Rw.cells, List.getElem?_cons_zero, Nat.add_zero] at g0
  have hset : ∀ v' : Value, (flat' Rw.cells rs).set (k * 3) v' = flat' Rw.cells (rs.set k ⟨v', (rs.getD k r0).b, (rs.getD k r0).u⟩) := fun v' => by
    have := flat'_set (enc := Rw.cells) (s := 3) (fun _ => rfl) r0 (a' := ⟨v', (rs.getD k r0).b, (rs.getD k r0).u⟩) (v := v') rs k 0 (by omega) (by omega) rfl
    simpa using this
  have hget : ∀ r : Rw, (flat' Rw.cells (rs.set k r))[k * 3]? = some r.v := fun r => by
    have := flat'_get (enc := Rw.cells) (s := 3) (fun _ => rfl) r0 (rs.set k r) k 0 (by rw [List.length_set]; omega) (by omega)
    rw [getD_setR _ _ _ _ (by omega), if_pos rfl] at this
    simpa [Rw.cells] using this
  have hget2 : ∀ r : Rw, (flat' Rw.cells (rs.set k r))[k * 3 + 2]? = some (.int .i64 r.u) := fun r => by
    have := flat'_get (enc := Rw.cells) (s := 3) (fun _ => rfl) r0 (rs.set k r) k 2 (by rw [List.length_set]; omega) (by omega)
    rw [getD_setR _ _ _ _ (by omega), if_pos rfl] at this
    simpa [Rw.cells] using this
  have hgl : ∀ r : Rw, (flat' Rw.cells (rs.set k r)).length = nd.fl.length * 3 := fun r => by rw [flatR_len, List.length_set, hrl]
  rw [hrl] at fl1
  refine .walkW f34_ok (by simp; decide) (by decide) ?_

  generalize hX0 : flat' Rw.cells rs = X0 at *
  rcases hat with ⟨hv, hq⟩ | ⟨hv, hqP, hQ, hd, ho⟩
  · rw [hv] at g0
    have nN : ∀ X y, ((J ++ X).set F y)[N]? = _ := fun X y => (get_set_miss (by omega)).trans (get_old hN X)
    have nF : ∀ X y, ((J ++ X).set F y)[F]? = some y := fun X y => get_set_hit (get_old hF X)
    have nL : ∀ A B y, ((J ++ [A, B]).set F y)[J.length + 1]? = some B := fun A B y => (get_set_miss (by omega)).trans (by rw [get_new]; rfl)
    repeat' first | simp (disch := first | with_reducible assumption | omega) only [go_sem, Bool.true_and, Bool.and_true, Bool.and_self, Bool.false_and, Bool.and_false, Bool.true_or, Bool.or_true, Bool.false_or, Bool.or_false, ↓reduceIte, Nat.reduceEqDiff, Nat.reduceAdd, Nat.reduceMul, Nat.reduceSub, Nat.reduceBEq, Nat.reduceLeDiff, Nat.reduceLT, Nat.reduceMod, Nat.reduceDiv, Int.reduceToNat, Int.reducePow, Int.reduceMul, Int.reduceAdd, Int.reduceSub, Int.reduceLE, Int.reduceLT, Int.reduceNeg, Int.reduceDiv, Int.reduceMod, Int.reduceEq, Int.reduceBEq, Int.reduceBNe, f34, f34b, f34r0, f34r1, f34r2, f34r3, hN, hF, get_old hF, g0, hset, nN, nF, hget, hget2, hgl, nL] | (refine BrW.of (fun hb => ?_) (fun hb => ?_) <;> (have hb' := hb; try simp only [decide_eq_true_eq, decide_eq_false_iff_not, beq_iff_eq, bne_iff_ne, beq_eq_false_iff_ne, bne_eq_false_iff_eq, Bool.not_eq_true', Bool.not_eq_false', Bool.not_eq_true, Bool.not_eq_false, Bool.and_eq_true, Bool.or_eq_true, Bool.and_eq_false_iff, Bool.or_eq_false_iff, Int.not_lt, Int.not_le, ne_eq, gt_iff_lt, ge_iff_le] at hb') <;> (try (exfalso; omega))) | (refine altW.of ?_ ?_)
    have hfr : 0 ≤ max (rs.getD k r0).u nd.t ∧ max (rs.getD k r0).u nd.t ≤ 1000000000000000 := by omega
    have hin : inN ws S nd k x = ⟨nd.fl.set k ⟨[x], max (rs.getD k r0).u nd.t, max (rs.getD k r0).u nd.t + x * (27720 / ws.getD k 0) * S⟩, nd.t⟩ := by
      unfold inN; rw [if_pos hq, hrk.2]; rfl
    rw [hin]
    refine callW.ex _ _ (head_spec N F kw ow gw cw row csw ws S nd.t (max (rs.getD k r0).u nd.t) x _ k (J.length + 1) 0 0 1 1 false [.int .i64 x] _ (by rw [List.length_set, hrl]; exact nN _ _) (nF _ _) ((get_set_miss (by omega)).trans (get_old hWc _)) hwc (by rw [List.length_set]; omega) (by omega) (by rw [getD_setR _ _ _ _ (by omega), if_pos rfl]) (nL _ _ _) rfl (by omega) (by omega) (by omega) (by omega) hw.2.2 hwk (by omega) hfr) ?_
    repeat' first | simp (disch := first | with_reducible assumption | omega) only [go_sem, Bool.true_and, Bool.and_true, Bool.and_self, Bool.false_and, Bool.and_false, Bool.true_or, Bool.or_true, Bool.false_or, Bool.or_false, ↓reduceIte, Nat.reduceEqDiff, Nat.reduceAdd, Nat.reduceMul, Nat.reduceSub, Nat.reduceBEq, Nat.reduceLeDiff, Nat.reduceLT, Nat.reduceMod, Nat.reduceDiv, Int.reduceToNat, Int.reducePow, Int.reduceMul, Int.reduceAdd, Int.reduceSub, Int.reduceLE, Int.reduceLT, Int.reduceNeg, Int.reduceDiv, Int.reduceMod, Int.reduceEq, Int.reduceBEq, Int.reduceBNe, f34, f34b, f34r0, f34r1, f34r2, f34r3] | (refine BrW.of (fun hb => ?_) (fun hb => ?_) <;> (have hb' := hb; try simp only [decide_eq_true_eq, decide_eq_false_iff_not, beq_iff_eq, bne_iff_ne, beq_eq_false_iff_ne, bne_eq_false_iff_eq, Bool.not_eq_true', Bool.not_eq_false', Bool.not_eq_true, Bool.not_eq_false, Bool.and_eq_true, Bool.or_eq_true, Bool.and_eq_false_iff, Bool.or_eq_false_iff, Int.not_lt, Int.not_le, ne_eq, gt_iff_lt, ge_iff_le] at hb') <;> (try (exfalso; omega))) | (refine altW.of ?_ ?_)
    rw [List.set_set, List.set_set]
    refine .here ⟨rfl, WN.mk' hne hlen (by simp) (nN _ _) hkw ((get_set_miss (by omega)).trans (get_old hWc _)) hcw (nF _ _) (by rw [List.length_set]; exact hrl) (fun j hj => ?_) ?_, by simp, fun j hj h1 h2 => by rw [List.getElem?_set_ne (by omega), get_app (by omega)]⟩
    · simp only
      rw [getD_setR _ _ _ _ (by omega), getD_setF]
      by_cases e : k = j
      · rw [if_pos e, if_pos ⟨e, hk⟩]; exact ⟨rfl, rfl⟩
      · rw [if_neg e, if_neg (fun h => e h.1)]; exact hrs j hj
    · refine hX.step (f := k) (q' := J.length + 1) (o' := 0) (g' := 0) (cs' := [.int .i64 x]) (l' := [x]) (by rw [getD_setR _ _ _ _ (by omega), if_pos rfl]; rfl) (by rw [getD_setF, if_pos ⟨rfl, hk⟩]) (fun j _ h => by rw [getD_setR _ _ _ _ (by omega), if_neg (Ne.symm h)]) (fun j _ h => by rw [getD_setF, if_neg (fun hh => h hh.1.symm)]) (by omega) (nL _ _ _) rfl (by simp) (fun j hj h1 h2 => by have := hX.lt hj h2; omega) (fun j hj h1 h2 => by have := hX.lt hj h2; have := hX.ge hj h2; rw [List.getElem?_set_ne (by omega), get_app (by omega)])
  · rw [hv] at g0
    have hql2 := drop_len hd ho
    have hdt := drop_ints hd
    have il := ints_length (nd.fl.getD k f0).q
    have is := ints_snoc (nd.fl.getD k f0).q x
    have hqJ := (List.getElem?_eq_some_iff.1 hQ).1
    have hni : ¬ (nd.fl.getD k f0).q.length + 1 ≤ (nd.fl.getD k f0).q.length := by omega
    have nB : ∀ B y, ((J ++ [B]).set (q k) y)[J.length]? = some B := fun B y => (get_set_miss (by omega)).trans (get_new0 J B [])
    have nF0 : ∀ X y, ((J ++ X).set (q k) y)[F]? = _ := fun X y => (get_set_miss (by omega)).trans (get_old hF X)
    have nN0 : ∀ X y, ((J ++ X).set (q k) y)[N]? = _ := fun X y => (get_set_miss (by omega)).trans (get_old hN X)
    have nN : ∀ X y z, (((J ++ X).set (q k) y).set F z)[N]? = _ := fun X y z => (get_set_miss (by omega)).trans (nN0 X y)
    have nF : ∀ X y z, (((J ++ X).set (q k) y).set F z)[F]? = some z := fun X y z => get_set_hit (nF0 X y)
    have nQ : ∀ X y z, (((J ++ X).set (q k) y).set F z)[q k]? = some y := fun X y z => (get_set_miss (by omega)).trans (get_set_hit (get_old hQ X))
    have nW : ∀ X y z, (((J ++ X).set (q k) y).set F z)[kw]? = _ := fun X y z => (get_set_miss (by omega)).trans ((get_set_miss (by omega)).trans (get_old hWc X))
    have hFr : ∀ X y z, Fr P N F J (((J ++ X).set (q k) y).set F z) := fun X y z => ⟨by simp, fun j hj h1 h2 => by rw [List.getElem?_set_ne (by omega), List.getElem?_set_ne (by omega), get_app (by omega)]⟩
    have hst : ∀ (B : AObj) (r' : Rw) (f' : Fq) (l' : List Int), r'.v = slv (q k) 0 (g k + 1) l'.length l'.length → f'.q = l' → Own P nd.fl.length (fun j => ((rs.set k r').getD j r0).v) (fun j => ((nd.fl.set k f').getD j f0).q) (((J ++ [B]).set (q k) (.cells (g k + 1) 1 false (ints l'))).set F (.cells 0 3 false (flat' Rw.cells (rs.set k r')))) := fun B r' f' l' h1 h2 => by
      refine hX.step (f := k) (q' := q k) (o' := 0) (g' := g k + 1) (cs' := ints l') (l' := l') (by rw [getD_setR _ _ _ _ (by omega), if_pos rfl]; exact h1) (by rw [getD_setF, if_pos ⟨rfl, hk⟩]; exact h2) (fun j _ h => by rw [getD_setR _ _ _ _ (by omega), if_neg (Ne.symm h)]) (fun j _ h => by rw [getD_setF, if_neg (fun hh => h hh.1.symm)]) hqP (nQ _ _ _) (by rw [List.drop_zero]) (by omega) (fun j hj h1 h2 => hX.inj j k hj hk h1 h2 (by rw [hv]; exact slv_ne _ _ _ _ _)) (fun j hj h1 h2 => by
        have := hX.lt hj h2
        have := hX.ge hj h2
        have := hX.inj j k hj hk h1 h2 (by rw [hv]; exact slv_ne _ _ _ _ _)
        rw [List.getElem?_set_ne (by omega), List.getElem?_set_ne (by omega), get_app (by omega)])
    have hrs' : ∀ (r' : Rw) (f' : Fq), r'.b = f'.b → r'.u = f'.u → ∀ j, j < nd.fl.length → ((rs.set k r').getD j r0).b = ((nd.fl.set k f').getD j f0).b ∧ ((rs.set k r').getD j r0).u = ((nd.fl.set k f').getD j f0).u := fun r' f' h1 h2 j hj => by
      rw [getD_setR _ _ _ _ (by omega), getD_setF]
      by_cases e : k = j
      · rw [if_pos e, if_pos ⟨e, hk⟩]; exact ⟨h1, h2⟩
      · rw [if_neg e, if_neg (fun h => e h.1)]; exact hrs j hj
    by_cases hq : (nd.fl.getD k f0).q = []
    · have hfr : 0 ≤ max (rs.getD k r0).u nd.t ∧ max (rs.getD k r0).u nd.t ≤ 1000000000000000 := by omega
      have hin : inN ws S nd k x = ⟨nd.fl.set k ⟨[x], max (rs.getD k r0).u nd.t, max (rs.getD k r0).u nd.t + x * (27720 / ws.getD k 0) * S⟩, nd.t⟩ := by
        unfold inN; rw [if_pos hq, hrk.2]; rfl
      rw [hin]
      rw [hq] at hdt is g0 hql2
      simp only [List.length_nil, List.nil_append] at hdt is g0 hql2
      have hix : ints [x] = [.int .i64 x] := rfl
      repeat' first | simp (disch := first | with_reducible assumption | omega) only [go_sem, Bool.true_and, Bool.and_true, Bool.and_self, Bool.false_and, Bool.and_false, Bool.true_or, Bool.or_true, Bool.false_or, Bool.or_false, ↓reduceIte, Nat.reduceEqDiff, Nat.reduceAdd, Nat.reduceMul, Nat.reduceSub, Nat.reduceBEq, Nat.reduceLeDiff, Nat.reduceLT, Nat.reduceMod, Nat.reduceDiv, Int.reduceToNat, Int.reducePow, Int.reduceMul, Int.reduceAdd, Int.reduceSub, Int.reduceLE, Int.reduceLT, Int.reduceNeg, Int.reduceDiv, Int.reduceMod, Int.reduceEq, Int.reduceBEq, Int.reduceBNe, f34, f34b, f34r0, f34r1, f34r2, f34r3, hN, hF, get_old hF, g0, hset, nN, nF, nN0, nF0, nB, nQ, hget, hget2, hgl, hQ, get_old hQ, hdt, ints_nil, fl1] | (refine BrW.of (fun hb => ?_) (fun hb => ?_) <;> (have hb' := hb; try simp only [decide_eq_true_eq, decide_eq_false_iff_not, beq_iff_eq, bne_iff_ne, beq_eq_false_iff_ne, bne_eq_false_iff_eq, Bool.not_eq_true', Bool.not_eq_false', Bool.not_eq_true, Bool.not_eq_false, Bool.and_eq_true, Bool.or_eq_true, Bool.and_eq_false_iff, Bool.or_eq_false_iff, Int.not_lt, Int.not_le, ne_eq, gt_iff_lt, ge_iff_le] at hb') <;> (try (exfalso; omega))) | (refine altW.of ?_ ?_)
      refine callW.ex _ _ (head_spec N F kw ow gw cw row csw ws S nd.t (max (rs.getD k r0).u nd.t) x _ k (q k) 0 (g k + 1) 1 1 false [.int .i64 x] _ (by rw [List.length_set, hrl]; exact nN _ _ _) (nF _ _ _) (nW _ _ _) hwc (by rw [List.length_set]; omega) (by omega) (by rw [getD_setR _ _ _ _ (by omega), if_pos rfl]) (nQ _ _ _) rfl (by omega) (by omega) (by omega) (by omega) hw.2.2 hwk (by omega) hfr) ?_
      repeat' first | simp (disch := first | with_reducible assumption | omega) only [go_sem, Bool.true_and, Bool.and_true, Bool.and_self, Bool.false_and, Bool.and_false, Bool.true_or, Bool.or_true, Bool.false_or, Bool.or_false, ↓reduceIte, Nat.reduceEqDiff, Nat.reduceAdd, Nat.reduceMul, Nat.reduceSub, Nat.reduceBEq, Nat.reduceLeDiff, Nat.reduceLT, Nat.reduceMod, Nat.reduceDiv, Int.reduceToNat, Int.reducePow, Int.reduceMul, Int.reduceAdd, Int.reduceSub, Int.reduceLE, Int.reduceLT, Int.reduceNeg, Int.reduceDiv, Int.reduceMod, Int.reduceEq, Int.reduceBEq, Int.reduceBNe, f34, f34b, f34r0, f34r1, f34r2, f34r3] | (refine BrW.of (fun hb => ?_) (fun hb => ?_) <;> (have hb' := hb; try simp only [decide_eq_true_eq, decide_eq_false_iff_not, beq_iff_eq, bne_iff_ne, beq_eq_false_iff_ne, bne_eq_false_iff_eq, Bool.not_eq_true', Bool.not_eq_false', Bool.not_eq_true, Bool.not_eq_false, Bool.and_eq_true, Bool.or_eq_true, Bool.and_eq_false_iff, Bool.or_eq_false_iff, Int.not_lt, Int.not_le, ne_eq, gt_iff_lt, ge_iff_le] at hb') <;> (try (exfalso; omega))) | (refine altW.of ?_ ?_)
      rw [List.set_set, List.set_set]
      exact .here ⟨rfl, WN.mk' hne hlen (by simp) (nN _ _ _) hkw (nW _ _ _) hcw (nF _ _ _) (by rw [List.length_set]; exact hrl) (hrs' _ _ rfl rfl) (hst _ _ _ [x] rfl rfl), hFr _ _ _⟩
    · have hin : inN ws S nd k x = ⟨nd.fl.set k ⟨(nd.fl.getD k f0).q ++ [x], (nd.fl.getD k f0).b, (nd.fl.getD k f0).u⟩, nd.t⟩ := by
        unfold inN; rw [if_neg hq]
      rw [hin]
      have hq0 : 0 < (nd.fl.getD k f0).q.length := List.length_pos_iff.2 hq
      repeat' first | simp (disch := first | with_reducible assumption | omega) only [go_sem, Bool.true_and, Bool.and_true, Bool.and_self, Bool.false_and, Bool.and_false, Bool.true_or, Bool.or_true, Bool.false_or, Bool.or_false, ↓reduceIte, Nat.reduceEqDiff, Nat.reduceAdd, Nat.reduceMul, Nat.reduceSub, Nat.reduceBEq, Nat.reduceLeDiff, Nat.reduceLT, Nat.reduceMod, Nat.reduceDiv, Int.reduceToNat, Int.reducePow, Int.reduceMul, Int.reduceAdd, Int.reduceSub, Int.reduceLE, Int.reduceLT, Int.reduceNeg, Int.reduceDiv, Int.reduceMod, Int.reduceEq, Int.reduceBEq, Int.reduceBNe, f34, f34b, f34r0, f34r1, f34r2, f34r3, hN, hF, get_old hF, g0, hset, nN, nF, nN0, nF0, nB, nQ, hget, hget2, hgl, hQ, get_old hQ, hdt, is, il, hni, fl1] | (refine BrW.of (fun hb => ?_) (fun hb => ?_) <;> (have hb' := hb; try simp only [decide_eq_true_eq, decide_eq_false_iff_not, beq_iff_eq, bne_iff_ne, beq_eq_false_iff_ne, bne_eq_false_iff_eq, Bool.not_eq_true', Bool.not_eq_false', Bool.not_eq_true, Bool.not_eq_false, Bool.and_eq_true, Bool.or_eq_true, Bool.and_eq_false_iff, Bool.or_eq_false_iff, Int.not_lt, Int.not_le, ne_eq, gt_iff_lt, ge_iff_le] at hb') <;> (try (exfalso; omega))) | (refine altW.of ?_ ?_)
      exact .here ⟨rfl, WN.mk' hne hlen (by simp) (nN _ _ _) hkw (nW _ _ _) hcw (nF _ _ _) (by rw [List.length_set]; exact hrl) (hrs' _ _ hrk.1 hrk.2) (hst _ _ _ ((nd.fl.getD k f0).q ++ [x]) (by simp) rfl), hFr _ _ _⟩

end Go.Proofs.YtmbcgelfnbnicaaDoor.Wq
