import Derived.Test.YtdcodafidefloaaTab
import Derived.Test.YtdcodafidefloaaPlain
import Derived.Test.YtdcodafidefloaaOwn
set_option linter.unusedSimpArgs false
set_option linter.unusedVariables false
set_option maxHeartbeats 2000000
set_option maxRecDepth 20000
namespace Go.Proofs.Ytdcodafidefloaa
open Go Go.Am
attribute [local irreducible] opsW Ww loopW callW drawW outW outDW gW cW BrW bothW vW resW DropW RdW dcallW altW Later.run

/-- A flow's row. -/
structure Rw where
  v : Value
  b : Int
  u : Int
def r0 : Rw := ⟨.slice none 0 0, 0, 0⟩
def Rw.cells (r : Rw) : List Value := [r.v, .int .i64 r.b, .int .i64 r.u]
theorem getD_setR (l : List Rw) (i k : Nat) (x : Rw) (h : i < l.length) : (l.set i x).getD k r0 = if i = k then x else l.getD k r0 := by
  simp only [List.getD_eq_getElem?_getD]
  by_cases e : i = k
  · subst e; rw [if_pos rfl, List.getElem?_set_self h]; rfl
  · rw [if_neg e, List.getElem?_set_ne e]
/-- The node at N, its flows at F, their packets from P on. -/
structure WN (P N F : Nat) (ws : List Int) (S : Int) (nd : Nd) (J : Heap) : Prop where
  ne : F < N ∧ N < P
  at' : ∃ (kw ow gw cw : Nat) (ro : Bool) (csw : List Value) (rs : List Rw),
    J[N]? = some (.cells 0 0 false [slv kw ow gw ws.length cw, slv F 0 0 nd.fl.length nd.fl.length, .int .i64 S, .int .i64 nd.t]) ∧
    (kw < F) ∧ J[kw]? = some (.cells gw 1 ro csw) ∧ (∀ i, i < ws.length → csw[ow + i]? = some (.int .i64 (ws.getD i 0))) ∧
    J[F]? = some (.cells 0 3 false (flat' Rw.cells rs)) ∧ rs.length = nd.fl.length ∧ (∀ k, k < nd.fl.length → (rs.getD k r0).b = (nd.fl.getD k f0).b ∧ (rs.getD k r0).u = (nd.fl.getD k f0).u) ∧
    Own P nd.fl.length (fun k => (rs.getD k r0).v) (fun k => (nd.fl.getD k f0).q) J
  len : nd.fl.length = ws.length
/-- What else there is stays. -/
def Fr (P N F : Nat) (J J' : Heap) : Prop := J.length ≤ J'.length ∧ ∀ j, j < P → j ≠ N → j ≠ F → J'[j]? = J[j]?
theorem Fr.refl (P N F : Nat) (J : Heap) : Fr P N F J J := ⟨Nat.le_refl _, fun _ _ _ _ => rfl⟩
theorem Fr.trans {P N F : Nat} {J J' J'' : Heap} (h : Fr P N F J J') (h' : Fr P N F J' J'') : Fr P N F J J'' := ⟨Nat.le_trans h.1 h'.1, fun j a b c => (h'.2 j a b c).trans (h.2 j a b c)⟩

theorem Wrong_spec (ws : List Int) (ww : Value) (A : Nat → Prop) (H : Heap) (hw0 : IsN A H ww ws) (hwl : ws.length ≤ 9223372036854775807) :
    ACallK Try.prog 12 [ww] H (fun v H' => ∃ e, v = .int .i64 e ∧ (e = 0 ↔ ws.length ≤ 16 ∧ ∀ k, k < ws.length → 1 ≤ ws.getD k 0 ∧ ws.getD k 0 ≤ 12) ∧ (e = 0 ∨ e = 2) ∧ H' = H) := by
  obtain ⟨k, o, g, c, _, rfl, hs, hc⟩ := hw0
  obtain ⟨ro, cs, hk, hcl, hcs⟩ := Ints.cell hs
  refine .walkW f12_ok (by simp; decide) (by decide) ?_
  by_cases h2 : ws.length ≤ 16
  · repeat' first | simp (disch := first | with_reducible assumption | omega) only [go_sem, Bool.true_and, Bool.and_true, Bool.and_self, Bool.false_and, Bool.and_false, Bool.true_or, Bool.or_true, Bool.false_or, Bool.or_false, ↓reduceIte, Nat.reduceEqDiff, Nat.reduceAdd, Nat.reduceMul, Nat.reduceSub, Nat.reduceBEq, Nat.reduceLeDiff, Nat.reduceLT, Nat.reduceMod, Nat.reduceDiv, Int.reduceToNat, Int.reducePow, Int.reduceMul, Int.reduceAdd, Int.reduceSub, Int.reduceLE, Int.reduceLT, Int.reduceNeg, Int.reduceDiv, Int.reduceMod, Int.reduceEq, Int.reduceBEq, Int.reduceBNe, f12, f12b, f12r0, f12r1, f12r2, f12r3, f12r4, f12r5, f12r6, f12r7, f12r8, f12r10, hk] | (refine BrW.of (fun hb => ?_) (fun hb => ?_) <;> (have hb' := hb; try simp only [decide_eq_true_eq, decide_eq_false_iff_not, beq_iff_eq, bne_iff_ne, beq_eq_false_iff_ne, bne_eq_false_iff_eq, Bool.not_eq_true', Bool.not_eq_false', Bool.not_eq_true, Bool.not_eq_false, Bool.and_eq_true, Bool.or_eq_true, Bool.and_eq_false_iff, Bool.or_eq_false_iff, Int.not_lt, Int.not_le, ne_eq, gt_iff_lt, ge_iff_le] at hb') <;> (try (exfalso; omega))) | (refine altW.of ?_ ?_)
    refine loopW.of (by decide) (fun m e J => ∃ i : Nat, e = [(8, slv k o g ws.length c), (9, .int .i64 ws.length), (10, .int .i64 i)] ∧ J = H ∧ i ≤ ws.length ∧ m = ws.length - i ∧ ∀ q, q < i → 1 ≤ ws.getD q 0 ∧ ws.getD q 0 ≤ 12) ws.length ⟨0, rfl, rfl, by omega, rfl, fun q hq => by omega⟩ ?_
    rintro m e J ⟨i, rfl, rfl, hi, rfl, hinv⟩
    by_cases hlt : i < ws.length
    · have e0 := hcs i hlt
      have hno : (ws.length ≤ 16 ∧ ∀ k, k < ws.length → 1 ≤ ws.getD k 0 ∧ ws.getD k 0 ≤ 12) → 1 ≤ ws.getD i 0 ∧ ws.getD i 0 ≤ 12 := fun h => h.2 i hlt
      have hnext : (1 ≤ ws.getD i 0 ∧ ws.getD i 0 ≤ 12) → ∀ q, q < i + 1 → 1 ≤ ws.getD q 0 ∧ ws.getD q 0 ≤ 12 := fun h q hq => by
        by_cases e : q = i
        · subst e; exact h
        · exact hinv q (by omega)
      generalize hG : (ws.length ≤ 16 ∧ ∀ k, k < ws.length → 1 ≤ ws.getD k 0 ∧ ws.getD k 0 ≤ 12) = G at *
      clear hinv hcs hG
      generalize ws.getD i 0 = w at *
      by_cases hg : 1 ≤ w ∧ w ≤ 12
      · have hnext := hnext hg
        clear hno
        obtain ⟨q1, q2⟩ := hg
        repeat' first | simp (disch := first | with_reducible assumption | omega) only [go_sem, Bool.true_and, Bool.and_true, Bool.and_self, Bool.false_and, Bool.and_false, Bool.true_or, Bool.or_true, Bool.false_or, Bool.or_false, ↓reduceIte, Nat.reduceEqDiff, Nat.reduceAdd, Nat.reduceMul, Nat.reduceSub, Nat.reduceBEq, Nat.reduceLeDiff, Nat.reduceLT, Nat.reduceMod, Nat.reduceDiv, Int.reduceToNat, Int.reducePow, Int.reduceMul, Int.reduceAdd, Int.reduceSub, Int.reduceLE, Int.reduceLT, Int.reduceNeg, Int.reduceDiv, Int.reduceMod, Int.reduceEq, Int.reduceBEq, Int.reduceBNe, f12, f12b, f12r0, f12r1, f12r2, f12r3, f12r4, f12r5, f12r6, f12r7, f12r8, f12r10, f12l0, hk, e0] | (refine BrW.of (fun hb => ?_) (fun hb => ?_) <;> (have hb' := hb; try simp only [decide_eq_true_eq, decide_eq_false_iff_not, beq_iff_eq, bne_iff_ne, beq_eq_false_iff_ne, bne_eq_false_iff_eq, Bool.not_eq_true', Bool.not_eq_false', Bool.not_eq_true, Bool.not_eq_false, Bool.and_eq_true, Bool.or_eq_true, Bool.and_eq_false_iff, Bool.or_eq_false_iff, Int.not_lt, Int.not_le, ne_eq, gt_iff_lt, ge_iff_le] at hb') <;> (try (exfalso; omega))) | (refine altW.of ?_ ?_)
        refine RdW.keep [8, 9, 10] (ws.length - (i + 1)) (by omega) ?_
        simp (disch := first | with_reducible assumption | omega) only [go_sem, Bool.true_and, Bool.and_true, Bool.and_self, Bool.false_and, Bool.and_false, Bool.true_or, Bool.or_true, Bool.false_or, Bool.or_false, ↓reduceIte, Nat.reduceEqDiff, Nat.reduceAdd, Nat.reduceMul, Nat.reduceSub, Nat.reduceBEq, Nat.reduceLeDiff, Nat.reduceLT, Nat.reduceMod, Nat.reduceDiv, Int.reduceToNat, Int.reducePow, Int.reduceMul, Int.reduceAdd, Int.reduceSub, Int.reduceLE, Int.reduceLT, Int.reduceNeg, Int.reduceDiv, Int.reduceMod, Int.reduceEq, Int.reduceBEq, Int.reduceBNe]
        exact ⟨i + 1, rfl, by omega, rfl, hnext⟩
      · have hno : ¬ G := fun h => hg (hno h)
        clear hnext
        have hg' : w < 1 ∨ (1 ≤ w ∧ 12 < w) := by omega
        clear hg
        rcases hg' with hg | hg
        · repeat' first | simp (disch := first | with_reducible assumption | omega) only [go_sem, Bool.true_and, Bool.and_true, Bool.and_self, Bool.false_and, Bool.and_false, Bool.true_or, Bool.or_true, Bool.false_or, Bool.or_false, ↓reduceIte, Nat.reduceEqDiff, Nat.reduceAdd, Nat.reduceMul, Nat.reduceSub, Nat.reduceBEq, Nat.reduceLeDiff, Nat.reduceLT, Nat.reduceMod, Nat.reduceDiv, Int.reduceToNat, Int.reducePow, Int.reduceMul, Int.reduceAdd, Int.reduceSub, Int.reduceLE, Int.reduceLT, Int.reduceNeg, Int.reduceDiv, Int.reduceMod, Int.reduceEq, Int.reduceBEq, Int.reduceBNe, f12, f12b, f12r0, f12r1, f12r2, f12r3, f12r4, f12r5, f12r6, f12r7, f12r8, f12r10, f12l0, f12, f12b, f12r0, f12r1, f12r2, f12r3, f12r4, f12r5, f12r6, f12r7, f12r8, f12r10, hk, e0] | (refine BrW.of (fun hb => ?_) (fun hb => ?_) <;> (have hb' := hb; try simp only [decide_eq_true_eq, decide_eq_false_iff_not, beq_iff_eq, bne_iff_ne, beq_eq_false_iff_ne, bne_eq_false_iff_eq, Bool.not_eq_true', Bool.not_eq_false', Bool.not_eq_true, Bool.not_eq_false, Bool.and_eq_true, Bool.or_eq_true, Bool.and_eq_false_iff, Bool.or_eq_false_iff, Int.not_lt, Int.not_le, ne_eq, gt_iff_lt, ge_iff_le] at hb') <;> (try (exfalso; omega))) | (refine altW.of ?_ ?_)
          all_goals exact .here ⟨2, rfl, ⟨fun h => by omega, fun h => absurd h hno⟩, .inr rfl, rfl⟩
        · repeat' first | simp (disch := first | with_reducible assumption | omega) only [go_sem, Bool.true_and, Bool.and_true, Bool.and_self, Bool.false_and, Bool.and_false, Bool.true_or, Bool.or_true, Bool.false_or, Bool.or_false, ↓reduceIte, Nat.reduceEqDiff, Nat.reduceAdd, Nat.reduceMul, Nat.reduceSub, Nat.reduceBEq, Nat.reduceLeDiff, Nat.reduceLT, Nat.reduceMod, Nat.reduceDiv, Int.reduceToNat, Int.reducePow, Int.reduceMul, Int.reduceAdd, Int.reduceSub, Int.reduceLE, Int.reduceLT, Int.reduceNeg, Int.reduceDiv, Int.reduceMod, Int.reduceEq, Int.reduceBEq, Int.reduceBNe, f12, f12b, f12r0, f12r1, f12r2, f12r3, f12r4, f12r5, f12r6, f12r7, f12r8, f12r10, f12l0, f12, f12b, f12r0, f12r1, f12r2, f12r3, f12r4, f12r5, f12r6, f12r7, f12r8, f12r10, hk, e0] | (refine BrW.of (fun hb => ?_) (fun hb => ?_) <;> (have hb' := hb; try simp only [decide_eq_true_eq, decide_eq_false_iff_not, beq_iff_eq, bne_iff_ne, beq_eq_false_iff_ne, bne_eq_false_iff_eq, Bool.not_eq_true', Bool.not_eq_false', Bool.not_eq_true, Bool.not_eq_false, Bool.and_eq_true, Bool.or_eq_true, Bool.and_eq_false_iff, Bool.or_eq_false_iff, Int.not_lt, Int.not_le, ne_eq, gt_iff_lt, ge_iff_le] at hb') <;> (try (exfalso; omega))) | (refine altW.of ?_ ?_)
          all_goals exact .here ⟨2, rfl, ⟨fun h => by omega, fun h => absurd h hno⟩, .inr rfl, rfl⟩
    · obtain rfl : i = ws.length := by omega
      clear hcs
      repeat' first | simp (disch := first | with_reducible assumption | omega) only [go_sem, Bool.true_and, Bool.and_true, Bool.and_self, Bool.false_and, Bool.and_false, Bool.true_or, Bool.or_true, Bool.false_or, Bool.or_false, ↓reduceIte, Nat.reduceEqDiff, Nat.reduceAdd, Nat.reduceMul, Nat.reduceSub, Nat.reduceBEq, Nat.reduceLeDiff, Nat.reduceLT, Nat.reduceMod, Nat.reduceDiv, Int.reduceToNat, Int.reducePow, Int.reduceMul, Int.reduceAdd, Int.reduceSub, Int.reduceLE, Int.reduceLT, Int.reduceNeg, Int.reduceDiv, Int.reduceMod, Int.reduceEq, Int.reduceBEq, Int.reduceBNe, f12, f12b, f12r0, f12r1, f12r2, f12r3, f12r4, f12r5, f12r6, f12r7, f12r8, f12r10, f12l0, f12, f12b, f12r0, f12r1, f12r2, f12r3, f12r4, f12r5, f12r6, f12r7, f12r8, f12r10] | (refine BrW.of (fun hb => ?_) (fun hb => ?_) <;> (have hb' := hb; try simp only [decide_eq_true_eq, decide_eq_false_iff_not, beq_iff_eq, bne_iff_ne, beq_eq_false_iff_ne, bne_eq_false_iff_eq, Bool.not_eq_true', Bool.not_eq_false', Bool.not_eq_true, Bool.not_eq_false, Bool.and_eq_true, Bool.or_eq_true, Bool.and_eq_false_iff, Bool.or_eq_false_iff, Int.not_lt, Int.not_le, ne_eq, gt_iff_lt, ge_iff_le] at hb') <;> (try (exfalso; omega))) | (refine altW.of ?_ ?_)
      exact .here ⟨0, rfl, ⟨fun _ => ⟨h2, hinv⟩, fun _ => rfl⟩, .inl rfl, rfl⟩
  · repeat' first | simp (disch := first | with_reducible assumption | omega) only [go_sem, Bool.true_and, Bool.and_true, Bool.and_self, Bool.false_and, Bool.and_false, Bool.true_or, Bool.or_true, Bool.false_or, Bool.or_false, ↓reduceIte, Nat.reduceEqDiff, Nat.reduceAdd, Nat.reduceMul, Nat.reduceSub, Nat.reduceBEq, Nat.reduceLeDiff, Nat.reduceLT, Nat.reduceMod, Nat.reduceDiv, Int.reduceToNat, Int.reducePow, Int.reduceMul, Int.reduceAdd, Int.reduceSub, Int.reduceLE, Int.reduceLT, Int.reduceNeg, Int.reduceDiv, Int.reduceMod, Int.reduceEq, Int.reduceBEq, Int.reduceBNe, f12, f12b, f12r0, f12r1, f12r2, f12r3, f12r4, f12r5, f12r6, f12r7, f12r8, f12r10, hk] | (refine BrW.of (fun hb => ?_) (fun hb => ?_) <;> (have hb' := hb; try simp only [decide_eq_true_eq, decide_eq_false_iff_not, beq_iff_eq, bne_iff_ne, beq_eq_false_iff_ne, bne_eq_false_iff_eq, Bool.not_eq_true', Bool.not_eq_false', Bool.not_eq_true, Bool.not_eq_false, Bool.and_eq_true, Bool.or_eq_true, Bool.and_eq_false_iff, Bool.or_eq_false_iff, Int.not_lt, Int.not_le, ne_eq, gt_iff_lt, ge_iff_le] at hb') <;> (try (exfalso; omega))) | (refine altW.of ?_ ?_)
    all_goals exact .here ⟨2, rfl, ⟨fun h => by omega, fun h => absurd h.1 h2⟩, .inr rfl, rfl⟩

/-- The first packet gets its tags. -/
theorem head_spec (N F kw ow gw cw : Nat) (ro : Bool) (csw : List Value) (ws : List Int) (S t fr x : Int) (rs : List Rw) (k q o g n c : Nat) (rq : Bool) (cs : List Value) (J : Heap) (hN : J[N]? = some (.cells 0 0 false [slv kw ow gw ws.length cw, slv F 0 0 rs.length rs.length, .int .i64 S, .int .i64 t]))
    (hF : J[F]? = some (.cells 0 3 false (flat' Rw.cells rs))) (hW : J[kw]? = some (.cells gw 1 ro csw)) (hw : csw[ow + k]? = some (.int .i64 (ws.getD k 0))) (hk : k < rs.length) (hkw : k < ws.length) (hv : (rs.getD k r0).v = slv q o g n c) (hQ : J[q]? = some (.cells g 1 rq cs)) (hx : cs[o]? = some (.int .i64 x)) (hn : 0 < n)
    (hNF : N ≠ F) (hqF : q ≠ F) (hwF : kw ≠ F) (hS : 0 ≤ S ∧ S ≤ 192) (hwk : 1 ≤ ws.getD k 0 ∧ ws.getD k 0 ≤ 12) (hx0 : 0 ≤ x ∧ x ≤ 1500) (hfr : 0 ≤ fr ∧ fr ≤ 1000000000000000) :
    ACallK Try.prog 16 [.pointer (some ⟨N, 0, some 1⟩), .int .i64 k, .int .i64 fr] J (fun v J' => v = .tuple #[] ∧ J' = J.set F (.cells 0 3 false (flat' Rw.cells (rs.set k ⟨slv q o g n c, fr, fr + x * (27720 / ws.getD k 0) * S⟩)))) := by
  have hb0 := tag_bound hS hwk hx0
  have l0 := flat'_length (enc := Rw.cells) (s := 3) (fun _ => rfl) rs
  have g0 := flat'_get (enc := Rw.cells) (s := 3) (fun _ => rfl) r0 rs k 0 hk (by omega)
  have s1 := flat'_set (enc := Rw.cells) (s := 3) (fun _ => rfl) r0 (a' := ⟨slv q o g n c, fr, (rs.getD k r0).u⟩) (v := .int .i64 fr) rs k 1 hk (by omega) (by show [slv q o g n c, _, _] = [(rs.getD k r0).v, _, _]; rw [hv])
  have l1 := flat'_length (enc := Rw.cells) (s := 3) (fun _ => rfl) (rs.set k ⟨slv q o g n c, fr, (rs.getD k r0).u⟩)
  have g1 := flat'_get (enc := Rw.cells) (s := 3) (fun _ => rfl) r0 (rs.set k ⟨slv q o g n c, fr, (rs.getD k r0).u⟩) k 0 (by simpa using hk) (by omega)
  have s2 := flat'_set (enc := Rw.cells) (s := 3) (fun _ => rfl) r0 (a' := ⟨slv q o g n c, fr, fr + x * (27720 / ws.getD k 0) * S⟩) (v := .int .i64 (fr + x * (27720 / ws.getD k 0) * S)) (rs.set k ⟨slv q o g n c, fr, (rs.getD k r0).u⟩) k 2 (by simpa using hk) (by omega) (by rw [getD_setR _ _ _ _ hk, if_pos rfl]; rfl)
  rw [getD_setR _ _ _ _ hk, if_pos rfl] at g1
  rw [List.length_set] at l1
  rw [List.set_set] at s2
  simp only [Rw.cells, hv, List.getElem?_cons_zero, Nat.add_zero] at g0 g1
  generalize hX0 : flat' Rw.cells rs = X0 at *
  generalize hX1 : flat' Rw.cells (rs.set k ⟨slv q o g n c, fr, (rs.getD k r0).u⟩) = X1 at *
  generalize hX2 : flat' Rw.cells (rs.set k ⟨slv q o g n c, fr, fr + x * (27720 / ws.getD k 0) * S⟩) = X2 at *
  generalize ws.getD k 0 = w at *
  clear hX0 hX1 hX2
  have hFl := (List.getElem?_eq_some_iff.1 hF).1
  have nF := fun y => (get_set_hit (x := y) hF)
  have nN := fun y => (get_set_miss (H := J) (x := y) (j := F) (k := N) (by omega)).trans hN
  have nQ := fun y => (get_set_miss (H := J) (x := y) (j := F) (k := q) (by omega)).trans hQ
  have nW := fun y => (get_set_miss (H := J) (x := y) (j := F) (k := kw) (by omega)).trans hW
  have ss : ∀ y z : AObj, (J.set F y).set F z = J.set F z := fun y z => by simp
  have hw1 : ¬ w = 0 := by omega
  have e3 : k * 3 + 1 + 1 ≤ X0.length := by omega
  have e4 : k * 3 + 2 + 1 ≤ X1.length := by omega
  refine .walkW f16_ok (by simp; decide) (by decide) ?_
  repeat' first | simp (disch := first | with_reducible assumption | omega) only [go_sem, Bool.true_and, Bool.and_true, Bool.and_self, Bool.false_and, Bool.and_false, Bool.true_or, Bool.or_true, Bool.false_or, Bool.or_false, ↓reduceIte, Nat.reduceEqDiff, Nat.reduceAdd, Nat.reduceMul, Nat.reduceSub, Nat.reduceBEq, Nat.reduceLeDiff, Nat.reduceLT, Nat.reduceMod, Nat.reduceDiv, Int.reduceToNat, Int.reducePow, Int.reduceMul, Int.reduceAdd, Int.reduceSub, Int.reduceLE, Int.reduceLT, Int.reduceNeg, Int.reduceDiv, Int.reduceMod, Int.reduceEq, Int.reduceBEq, Int.reduceBNe, f16, f16b, f16r0, f16r1, f16r2, hN, hF, hQ, hW, hw, hx, nF, nN, nQ, nW, s1, s2, g0, g1, hw1, ss] | (refine BrW.of (fun hb => ?_) (fun hb => ?_) <;> (have hb' := hb; try simp only [decide_eq_true_eq, decide_eq_false_iff_not, beq_iff_eq, bne_iff_ne, beq_eq_false_iff_ne, bne_eq_false_iff_eq, Bool.not_eq_true', Bool.not_eq_false', Bool.not_eq_true, Bool.not_eq_false, Bool.and_eq_true, Bool.or_eq_true, Bool.and_eq_false_iff, Bool.or_eq_false_iff, Int.not_lt, Int.not_le, ne_eq, gt_iff_lt, ge_iff_le] at hb') <;> (try (exfalso; omega))) | (refine altW.of ?_ ?_)
  exact .here ⟨rfl, rfl⟩
end Go.Proofs.Ytdcodafidefloaa
