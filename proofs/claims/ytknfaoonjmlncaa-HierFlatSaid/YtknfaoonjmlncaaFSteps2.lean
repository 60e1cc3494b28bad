import Derived.Test.YtknfaoonjmlncaaFSteps
set_option linter.unusedSimpArgs false
set_option linter.unusedVariables false
set_option maxHeartbeats 2000000
set_option maxRecDepth 20000
namespace Go.Proofs.Ytknfaoonjmlncaa.Q
open Go Go.Am
attribute [local irreducible] opsW Ww loopW callW drawW outW outDW gW cW BrW bothW vW resW DropW RdW dcallW altW Later.run

theorem ints_nil : ints [] = [] := rfl
theorem getD_setL (l : List Rw) (k j : Nat) (x : Rw) (hk : k < l.length) (h : j ≠ k) : (l.set k x).getD j r0 = l.getD j r0 := by rw [getD_setR _ _ _ _ hk, if_neg (Ne.symm h)]
theorem drop_ints {cs : List Value} {o : Nat} {l : List Int} (hd : cs.drop o = ints l) : (cs.drop o).take l.length = ints l := by rw [hd]; exact ints_take l _ (Nat.le_refl _)
theorem drop_len {cs : List Value} {o : Nat} {l : List Int} (hd : cs.drop o = ints l) (ho : o ≤ cs.length) : o + l.length = cs.length := by
  have := congrArg List.length hd
  rw [List.length_drop, ints_length] at this
  omega
/-- The node's parts, put together again. -/
theorem WN.mk' {P N F : Nat} {ws : List Int} {S : Int} {nd nd' : Nd} {J' : Heap} {kw ow gw cw : Nat} {row : Bool} {csw : List Value} {rs' : List Rw} (hne : F < N ∧ N < P) (hlen : nd.fl.length = ws.length) (hl2 : nd'.fl.length = nd.fl.length)
    (hN : J'[N]? = some (.cells 0 0 false [slv kw ow gw ws.length cw, slv F 0 0 nd.fl.length nd.fl.length, .int .i64 S, .int .i64 nd'.t])) (hkw : kw < F) (hWc : J'[kw]? = some (.cells gw 1 row csw)) (hcw : ∀ i, i < ws.length → csw[ow + i]? = some (.int .i64 (ws.getD i 0)))
    (hF : J'[F]? = some (.cells 0 3 false (flat' Rw.cells rs'))) (hrl : rs'.length = nd.fl.length) (hrs : ∀ k, k < nd.fl.length → (rs'.getD k r0).b = (nd'.fl.getD k f0).b ∧ (rs'.getD k r0).u = (nd'.fl.getD k f0).u) (hOwn : Own P nd.fl.length (fun k => (rs'.getD k r0).v) (fun k => (nd'.fl.getD k f0).q) J') : WN P N F ws S nd' J' :=
  ⟨hne, ⟨kw, ow, gw, cw, row, csw, rs', by rw [hl2]; exact hN, hkw, hWc, hcw, hF, by rw [hl2]; exact hrl, fun k hk => hrs k (by omega), by rw [hl2]; exact hOwn⟩, by rw [hl2]; exact hlen⟩

theorem in_spec (P N F : Nat) (ws : List Int) (S M : Int) (nd : Nd) (k : Nat) (x : Int) (J : Heap) (hW : WN P N F ws S nd J) (hok : OkN M nd) (hM : M ≤ 1000000000000000) (hw : okW ws S) (hk : k < nd.fl.length) (hx : 1 ≤ x ∧ x ≤ 1500) (hql : (nd.fl.getD k f0).q.length ≤ 1000000) (hPJ : P ≤ J.length) :
    ACallK Try.prog 19 [.pointer (some ⟨N, 0, some 1⟩), .int .i64 k, .int .i64 x] J (fun v J' => v = .tuple #[] ∧ WN P N F ws S (inN ws S nd k x) J' ∧ Fr P N F J J') := by
  obtain ⟨hne, ⟨kw, ow, gw, cw, row, csw, rs, hN, hkw, hWc, hcw, hF, hrl, hrs, hOwn⟩, hlen⟩ := hW
  have hNl := (List.getElem?_eq_some_iff.1 hN).1
  have hFl := (List.getElem?_eq_some_iff.1 hF).1
  have fl1 := flatR_len rs
  have hrk := hrs k hk
  have hfk := hok.f k
  have htk := hok.t
  have hn16 : nd.fl.length ≤ 16 := by have := hw.1; omega
  have hwk := hw.2.1 k (by omega)
  have hwc := hcw k (by omega)
  obtain ⟨q, o, g, cs, hX⟩ := hOwn
  have hat := hX.at' k hk
  have g0 := flat'_get (enc := Rw.cells) (s := 3) (fun _ => rfl) r0 rs k 0 (by omega) (by omega)
  simp only [Rw.cells, List.getElem?_cons_zero, Nat.add_zero] at g0
  have hset : ∀ v' : Value, (flat' Rw.cells rs).set (k * 3) v' = flat' Rw.cells (rs.set k ⟨v', (rs.getD k r0).b, (rs.getD k r0).u⟩) := fun v' => by
    have := flat'_set (enc := Rw.cells) (s := 3) (fun _ => rfl) r0 (a' := ⟨v', (rs.getD k r0).b, (rs.getD k r0).u⟩) (v := v') rs k 0 (by omega) (by omega) rfl
    simpa using this
  have hget : ∀ r : Rw, (flat' Rw.cells (rs.set k r))[k * 3]? = some r.v := fun r => by
    have := flat'_get (enc := Rw.cells) (s := 3) (fun _ => rfl) r0 (rs.set k r) k 0 (by rw [List.length_set]; omega) (by omega)
    rw [getD_setR _ _ _ _ (by omega), if_pos rfl] at this
    simpa [Rw.cells] using this
  have hget2 : ∀ r : Rw, (flat' Rw.cells (rs.set k r))[k * 3 + 2]? = some (.int .i64 r.u) := fun r => by
    have := flat'_get (enc := Rw.cells) (s := 3) (fun _ => rfl) r0 (rs.set k r) k 2 (by rw [List.length_set]; omega) (by omega)
    rw [getD_setR _ _ _ _ (by omega), if_pos rfl] at this
    simpa [Rw.cells] using this
  have hgl : ∀ r : Rw, (flat' Rw.cells (rs.set k r)).length = nd.fl.length * 3 := fun r => by rw [flatR_len, List.length_set, hrl]
  rw [hrl] at fl1
  refine .walkW f19_ok (by simp; decide) (by decide) ?_

  generalize hX0 : flat' Rw.cells rs = X0 at *
  rcases hat with ⟨hv, hq⟩ | ⟨hv, hqP, hQ, hd, ho⟩
  · rw [hv] at g0
    have nN : ∀ X y, ((J ++ X).set F y)[N]? = _ := fun X y => (get_set_miss (by omega)).trans (get_old hN X)
    have nF : ∀ X y, ((J ++ X).set F y)[F]? = some y := fun X y => get_set_hit (get_old hF X)
    have nL : ∀ A B y, ((J ++ [A, B]).set F y)[J.length + 1]? = some B := fun A B y => (get_set_miss (by omega)).trans (by rw [get_new]; rfl)
    repeat' first | simp (disch := first | with_reducible assumption | omega) only [go_sem, Bool.true_and, Bool.and_true, Bool.and_self, Bool.false_and, Bool.and_false, Bool.true_or, Bool.or_true, Bool.false_or, Bool.or_false, ↓reduceIte, Nat.reduceEqDiff, Nat.reduceAdd, Nat.reduceMul, Nat.reduceSub, Nat.reduceBEq, Nat.reduceLeDiff, Nat.reduceLT, Nat.reduceMod, Nat.reduceDiv, Int.reduceToNat, Int.reducePow, Int.reduceMul, Int.reduceAdd, Int.reduceSub, Int.reduceLE, Int.reduceLT, Int.reduceNeg, Int.reduceDiv, Int.reduceMod, Int.reduceEq, Int.reduceBEq, Int.reduceBNe, f19, f19b, f19r0, f19r1, f19r2, f19r3, hN, hF, get_old hF, g0, hset, nN, nF, hget, hget2, hgl, nL] | (refine BrW.of (fun hb => ?_) (fun hb => ?_) <;> (have hb' := hb; try simp only [decide_eq_true_eq, decide_eq_false_iff_not, beq_iff_eq, bne_iff_ne, beq_eq_false_iff_ne, bne_eq_false_iff_eq, Bool.not_eq_true', Bool.not_eq_false', Bool.not_eq_true, Bool.not_eq_false, Bool.and_eq_true, Bool.or_eq_true, Bool.and_eq_false_iff, Bool.or_eq_false_iff, Int.not_lt, Int.not_le, ne_eq, gt_iff_lt, ge_iff_le] at hb') <;> (try (exfalso; omega))) | (refine altW.of ?_ ?_)
    have hfr : 0 ≤ max (rs.getD k r0).u nd.t ∧ max (rs.getD k r0).u nd.t ≤ 1000000000000000 := by omega
    have hin : inN ws S nd k x = ⟨nd.fl.set k ⟨[x], max (rs.getD k r0).u nd.t, max (rs.getD k r0).u nd.t + x * (27720 / ws.getD k 0) * S⟩, nd.t⟩ := by
      unfold inN; rw [if_pos hq, hrk.2]; rfl
    rw [hin]
    refine callW.ex _ _ (head_spec N F kw ow gw cw row csw ws S nd.t (max (rs.getD k r0).u nd.t) x _ k (J.length + 1) 0 0 1 1 false [.int .i64 x] _ (by rw [List.length_set, hrl]; exact nN _ _) (nF _ _) ((get_set_miss (by omega)).trans (get_old hWc _)) hwc (by rw [List.length_set]; omega) (by omega) (by rw [getD_setR _ _ _ _ (by omega), if_pos rfl]) (nL _ _ _) rfl (by omega) (by omega) (by omega) (by omega) hw.2.2 hwk (by omega) hfr) ?_
    repeat' first | simp (disch := first | with_reducible assumption | omega) only [go_sem, Bool.true_and, Bool.and_true, Bool.and_self, Bool.false_and, Bool.and_false, Bool.true_or, Bool.or_true, Bool.false_or, Bool.or_false, ↓reduceIte, Nat.reduceEqDiff, Nat.reduceAdd, Nat.reduceMul, Nat.reduceSub, Nat.reduceBEq, Nat.reduceLeDiff, Nat.reduceLT, Nat.reduceMod, Nat.reduceDiv, Int.reduceToNat, Int.reducePow, Int.reduceMul, Int.reduceAdd, Int.reduceSub, Int.reduceLE, Int.reduceLT, Int.reduceNeg, Int.reduceDiv, Int.reduceMod, Int.reduceEq, Int.reduceBEq, Int.reduceBNe, f19, f19b, f19r0, f19r1, f19r2, f19r3] | (refine BrW.of (fun hb => ?_) (fun hb => ?_) <;> (have hb' := hb; try simp only [decide_eq_true_eq, decide_eq_false_iff_not, beq_iff_eq, bne_iff_ne, beq_eq_false_iff_ne, bne_eq_false_iff_eq, Bool.not_eq_true', Bool.not_eq_false', Bool.not_eq_true, Bool.not_eq_false, Bool.and_eq_true, Bool.or_eq_true, Bool.and_eq_false_iff, Bool.or_eq_false_iff, Int.not_lt, Int.not_le, ne_eq, gt_iff_lt, ge_iff_le] at hb') <;> (try (exfalso; omega))) | (refine altW.of ?_ ?_)
    rw [List.set_set, List.set_set]
    refine .here ⟨rfl, WN.mk' hne hlen (by simp) (nN _ _) hkw ((get_set_miss (by omega)).trans (get_old hWc _)) hcw (nF _ _) (by rw [List.length_set]; exact hrl) (fun j hj => ?_) ?_, by simp, fun j hj h1 h2 => by rw [List.getElem?_set_ne (by omega), get_app (by omega)]⟩
    · simp only
      rw [getD_setR _ _ _ _ (by omega), getD_setF]
      by_cases e : k = j
      · rw [if_pos e, if_pos ⟨e, hk⟩]; exact ⟨rfl, rfl⟩
      · rw [if_neg e, if_neg (fun h => e h.1)]; exact hrs j hj
    · refine hX.step (f := k) (q' := J.length + 1) (o' := 0) (g' := 0) (cs' := [.int .i64 x]) (l' := [x]) (by rw [getD_setR _ _ _ _ (by omega), if_pos rfl]; rfl) (by rw [getD_setF, if_pos ⟨rfl, hk⟩]) (fun j _ h => by rw [getD_setR _ _ _ _ (by omega), if_neg (Ne.symm h)]) (fun j _ h => by rw [getD_setF, if_neg (fun hh => h hh.1.symm)]) (by omega) (nL _ _ _) rfl (by simp) (fun j hj h1 h2 => by have := hX.lt hj h2; omega) (fun j hj h1 h2 => by have := hX.lt hj h2; have := hX.ge hj h2; rw [List.getElem?_set_ne (by omega), get_app (by omega)])
  · rw [hv] at g0
    have hql2 := drop_len hd ho
    have hdt := drop_ints hd
    have il := ints_length (nd.fl.getD k f0).q
    have is := ints_snoc (nd.fl.getD k f0).q x
    have hqJ := (List.getElem?_eq_some_iff.1 hQ).1
    have hni : ¬ (nd.fl.getD k f0).q.length + 1 ≤ (nd.fl.getD k f0).q.length := by omega
    have nB : ∀ B y, ((J ++ [B]).set (q k) y)[J.length]? = some B := fun B y => (get_set_miss (by omega)).trans (get_new0 J B [])
    have nF0 : ∀ X y, ((J ++ X).set (q k) y)[F]? = _ := fun X y => (get_set_miss (by omega)).trans (get_old hF X)
    have nN0 : ∀ X y, ((J ++ X).set (q k) y)[N]? = _ := fun X y => (get_set_miss (by omega)).trans (get_old hN X)
    have nN : ∀ X y z, (((J ++ X).set (q k) y).set F z)[N]? = _ := fun X y z => (get_set_miss (by omega)).trans (nN0 X y)
    have nF : ∀ X y z, (((J ++ X).set (q k) y).set F z)[F]? = some z := fun X y z => get_set_hit (nF0 X y)
    have nQ : ∀ X y z, (((J ++ X).set (q k) y).set F z)[q k]? = some y := fun X y z => (get_set_miss (by omega)).trans (get_set_hit (get_old hQ X))
    have nW : ∀ X y z, (((J ++ X).set (q k) y).set F z)[kw]? = _ := fun X y z => (get_set_miss (by omega)).trans ((get_set_miss (by omega)).trans (get_old hWc X))
    have hFr : ∀ X y z, Fr P N F J (((J ++ X).set (q k) y).set F z) := fun X y z => ⟨by simp, fun j hj h1 h2 => by rw [List.getElem?_set_ne (by omega), List.getElem?_set_ne (by omega), get_app (by omega)]⟩
    have hst : ∀ (B : AObj) (r' : Rw) (f' : Fq) (l' : List Int), r'.v = slv (q k) 0 (g k + 1) l'.length l'.length → f'.q = l' → Own P nd.fl.length (fun j => ((rs.set k r').getD j r0).v) (fun j => ((nd.fl.set k f').getD j f0).q) (((J ++ [B]).set (q k) (.cells (g k + 1) 1 false (ints l'))).set F (.cells 0 3 false (flat' Rw.cells (rs.set k r')))) := fun B r' f' l' h1 h2 => by
      refine hX.step (f := k) (q' := q k) (o' := 0) (g' := g k + 1) (cs' := ints l') (l' := l') (by rw [getD_setR _ _ _ _ (by omega), if_pos rfl]; exact h1) (by rw [getD_setF, if_pos ⟨rfl, hk⟩]; exact h2) (fun j _ h => by rw [getD_setR _ _ _ _ (by omega), if_neg (Ne.symm h)]) (fun j _ h => by rw [getD_setF, if_neg (fun hh => h hh.1.symm)]) hqP (nQ _ _ _) (by rw [List.drop_zero]) (by omega) (fun j hj h1 h2 => hX.inj j k hj hk h1 h2 (by rw [hv]; exact slv_ne _ _ _ _ _)) (fun j hj h1 h2 => by
        have := hX.lt hj h2
        have := hX.ge hj h2
        have := hX.inj j k hj hk h1 h2 (by rw [hv]; exact slv_ne _ _ _ _ _)
        rw [List.getElem?_set_ne (by omega), List.getElem?_set_ne (by omega), get_app (by omega)])
    have hrs' : ∀ (r' : Rw) (f' : Fq), r'.b = f'.b → r'.u = f'.u → ∀ j, j < nd.fl.length → ((rs.set k r').getD j r0).b = ((nd.fl.set k f').getD j f0).b ∧ ((rs.set k r').getD j r0).u = ((nd.fl.set k f').getD j f0).u := fun r' f' h1 h2 j hj => by
      rw [getD_setR _ _ _ _ (by omega), getD_setF]
      by_cases e : k = j
      · rw [if_pos e, if_pos ⟨e, hk⟩]; exact ⟨h1, h2⟩
      · rw [if_neg e, if_neg (fun h => e h.1)]; exact hrs j hj
    by_cases hq : (nd.fl.getD k f0).q = []
    · have hfr : 0 ≤ max (rs.getD k r0).u nd.t ∧ max (rs.getD k r0).u nd.t ≤ 1000000000000000 := by omega
      have hin : inN ws S nd k x = ⟨nd.fl.set k ⟨[x], max (rs.getD k r0).u nd.t, max (rs.getD k r0).u nd.t + x * (27720 / ws.getD k 0) * S⟩, nd.t⟩ := by
        unfold inN; rw [if_pos hq, hrk.2]; rfl
      rw [hin]
      rw [hq] at hdt is g0 hql2
      simp only [List.length_nil, List.nil_append] at hdt is g0 hql2
      have hix : ints [x] = [.int .i64 x] := rfl
      repeat' first | simp (disch := first | with_reducible assumption | omega) only [go_sem, Bool.true_and, Bool.and_true, Bool.and_self, Bool.false_and, Bool.and_false, Bool.true_or, Bool.or_true, Bool.false_or, Bool.or_false, ↓reduceIte, Nat.reduceEqDiff, Nat.reduceAdd, Nat.reduceMul, Nat.reduceSub, Nat.reduceBEq, Nat.reduceLeDiff, Nat.reduceLT, Nat.reduceMod, Nat.reduceDiv, Int.reduceToNat, Int.reducePow, Int.reduceMul, Int.reduceAdd, Int.reduceSub, Int.reduceLE, Int.reduceLT, Int.reduceNeg, Int.reduceDiv, Int.reduceMod, Int.reduceEq, Int.reduceBEq, Int.reduceBNe, f19, f19b, f19r0, f19r1, f19r2, f19r3, hN, hF, get_old hF, g0, hset, nN, nF, nN0, nF0, nB, nQ, hget, hget2, hgl, hQ, get_old hQ, hdt, ints_nil, fl1] | (refine BrW.of (fun hb => ?_) (fun hb => ?_) <;> (have hb' := hb; try simp only [decide_eq_true_eq, decide_eq_false_iff_not, beq_iff_eq, bne_iff_ne, beq_eq_false_iff_ne, bne_eq_false_iff_eq, Bool.not_eq_true', Bool.not_eq_false', Bool.not_eq_true, Bool.not_eq_false, Bool.and_eq_true, Bool.or_eq_true, Bool.and_eq_false_iff, Bool.or_eq_false_iff, Int.not_lt, Int.not_le, ne_eq, gt_iff_lt, ge_iff_le] at hb') <;> (try (exfalso; omega))) | (refine altW.of ?_ ?_)
      refine callW.ex _ _ (head_spec N F kw ow gw cw row csw ws S nd.t (max (rs.getD k r0).u nd.t) x _ k (q k) 0 (g k + 1) 1 1 false [.int .i64 x] _ (by rw [List.length_set, hrl]; exact nN _ _ _) (nF _ _ _) (nW _ _ _) hwc (by rw [List.length_set]; omega) (by omega) (by rw [getD_setR _ _ _ _ (by omega), if_pos rfl]) (nQ _ _ _) rfl (by omega) (by omega) (by omega) (by omega) hw.2.2 hwk (by omega) hfr) ?_
      repeat' first | simp (disch := first | with_reducible assumption | omega) only [go_sem, Bool.true_and, Bool.and_true, Bool.and_self, Bool.false_and, Bool.and_false, Bool.true_or, Bool.or_true, Bool.false_or, Bool.or_false, ↓reduceIte, Nat.reduceEqDiff, Nat.reduceAdd, Nat.reduceMul, Nat.reduceSub, Nat.reduceBEq, Nat.reduceLeDiff, Nat.reduceLT, Nat.reduceMod, Nat.reduceDiv, Int.reduceToNat, Int.reducePow, Int.reduceMul, Int.reduceAdd, Int.reduceSub, Int.reduceLE, Int.reduceLT, Int.reduceNeg, Int.reduceDiv, Int.reduceMod, Int.reduceEq, Int.reduceBEq, Int.reduceBNe, f19, f19b, f19r0, f19r1, f19r2, f19r3] | (refine BrW.of (fun hb => ?_) (fun hb => ?_) <;> (have hb' := hb; try simp only [decide_eq_true_eq, decide_eq_false_iff_not, beq_iff_eq, bne_iff_ne, beq_eq_false_iff_ne, bne_eq_false_iff_eq, Bool.not_eq_true', Bool.not_eq_false', Bool.not_eq_true, Bool.not_eq_false, Bool.and_eq_true, Bool.or_eq_true, Bool.and_eq_false_iff, Bool.or_eq_false_iff, Int.not_lt, Int.not_le, ne_eq, gt_iff_lt, ge_iff_le] at hb') <;> (try (exfalso; omega))) | (refine altW.of ?_ ?_)
      rw [List.set_set, List.set_set]
      exact .here ⟨rfl, WN.mk' hne hlen (by simp) (nN _ _ _) hkw (nW _ _ _) hcw (nF _ _ _) (by rw [List.length_set]; exact hrl) (hrs' _ _ rfl rfl) (hst _ _ _ [x] rfl rfl), hFr _ _ _⟩
    · have hin : inN ws S nd k x = ⟨nd.fl.set k ⟨(nd.fl.getD k f0).q ++ [x], (nd.fl.getD k f0).b, (nd.fl.getD k f0).u⟩, nd.t⟩ := by
        unfold inN; rw [if_neg hq]
      rw [hin]
      have hq0 : 0 < (nd.fl.getD k f0).q.length := List.length_pos_iff.2 hq
      repeat' first | simp (disch := first | with_reducible assumption | omega) only [go_sem, Bool.true_and, Bool.and_true, Bool.and_self, Bool.false_and, Bool.and_false, Bool.true_or, Bool.or_true, Bool.false_or, Bool.or_false, ↓reduceIte, Nat.reduceEqDiff, Nat.reduceAdd, Nat.reduceMul, Nat.reduceSub, Nat.reduceBEq, Nat.reduceLeDiff, Nat.reduceLT, Nat.reduceMod, Nat.reduceDiv, Int.reduceToNat, Int.reducePow, Int.reduceMul, Int.reduceAdd, Int.reduceSub, Int.reduceLE, Int.reduceLT, Int.reduceNeg, Int.reduceDiv, Int.reduceMod, Int.reduceEq, Int.reduceBEq, Int.reduceBNe, f19, f19b, f19r0, f19r1, f19r2, f19r3, hN, hF, get_old hF, g0, hset, nN, nF, nN0, nF0, nB, nQ, hget, hget2, hgl, hQ, get_old hQ, hdt, is, il, hni, fl1] | (refine BrW.of (fun hb => ?_) (fun hb => ?_) <;> (have hb' := hb; try simp only [decide_eq_true_eq, decide_eq_false_iff_not, beq_iff_eq, bne_iff_ne, beq_eq_false_iff_ne, bne_eq_false_iff_eq, Bool.not_eq_true', Bool.not_eq_false', Bool.not_eq_true, Bool.not_eq_false, Bool.and_eq_true, Bool.or_eq_true, Bool.and_eq_false_iff, Bool.or_eq_false_iff, Int.not_lt, Int.not_le, ne_eq, gt_iff_lt, ge_iff_le] at hb') <;> (try (exfalso; omega))) | (refine altW.of ?_ ?_)
      exact .here ⟨rfl, WN.mk' hne hlen (by simp) (nN _ _ _) hkw (nW _ _ _) hcw (nF _ _ _) (by rw [List.length_set]; exact hrl) (hrs' _ _ hrk.1 hrk.2) (hst _ _ _ ((nd.fl.getD k f0).q ++ [x]) (by simp) rfl), hFr _ _ _⟩


theorem out_spec (P N F : Nat) (ws : List Int) (S M : Int) (nd : Nd) (J : Heap) (hW : WN P N F ws S nd J) (hok : OkN M nd) (hM : M ≤ 1000000000000000) (hw : okW ws S) (hql : ∀ k, (nd.fl.getD k f0).q.length ≤ 1000000) (hPJ : P ≤ J.length) :
    ACallK Try.prog 18 [.pointer (some ⟨N, 0, some 1⟩)] J (fun v J' => Fr P N F J J' ∧ ((pickK nd < 0 ∧ v = .tuple #[.agg #[.int .i64 0, .int .i64 0], .bool false] ∧ WN P N F ws S ⟨nd.fl, pickT nd⟩ J') ∨
      ∃ k : Nat, k < nd.fl.length ∧ pickK nd = k ∧ (nd.fl.getD k f0).q ≠ [] ∧ v = .tuple #[.agg #[.int .i64 k, .int .i64 (headQ (nd.fl.getD k f0).q)], .bool true] ∧ WN P N F ws S (outN ws S nd k) J')) := by
  have hn16 : nd.fl.length ≤ 16 := by have := hw.1; have := hW.len; omega
  have hpk := pick_spec P N F ws S M nd (J ++ [.cells 0 0 false [.int .i64 0, .int .i64 0]]) (hW.app _) hok hM hn16 (by simp; omega)
  refine .walkW f18_ok (by simp; decide) (by decide) ?_
  repeat' first | simp (disch := first | with_reducible assumption | omega) only [go_sem, Bool.true_and, Bool.and_true, Bool.and_self, Bool.false_and, Bool.and_false, Bool.true_or, Bool.or_true, Bool.false_or, Bool.or_false, ↓reduceIte, Nat.reduceEqDiff, Nat.reduceAdd, Nat.reduceMul, Nat.reduceSub, Nat.reduceBEq, Nat.reduceLeDiff, Nat.reduceLT, Nat.reduceMod, Nat.reduceDiv, Int.reduceToNat, Int.reducePow, Int.reduceMul, Int.reduceAdd, Int.reduceSub, Int.reduceLE, Int.reduceLT, Int.reduceNeg, Int.reduceDiv, Int.reduceMod, Int.reduceEq, Int.reduceBEq, Int.reduceBNe, f18, f18b, f18r0, f18r1, f18r2, f18r3, f18r4, f18r5, f18r6, f18r7, f18r8, f18r9, f18r10] | (refine BrW.of (fun hb => ?_) (fun hb => ?_) <;> (have hb' := hb; try simp only [decide_eq_true_eq, decide_eq_false_iff_not, beq_iff_eq, bne_iff_ne, beq_eq_false_iff_ne, bne_eq_false_iff_eq, Bool.not_eq_true', Bool.not_eq_false', Bool.not_eq_true, Bool.not_eq_false, Bool.and_eq_true, Bool.or_eq_true, Bool.and_eq_false_iff, Bool.or_eq_false_iff, Int.not_lt, Int.not_le, ne_eq, gt_iff_lt, ge_iff_le] at hb') <;> (try (exfalso; omega))) | (refine altW.of ?_ ?_)
  refine .of (hpk.mono ?_)
  rintro v J1 ⟨rfl, hW1, hF1⟩
  have hA0 := (hF1.2 J.length (by simp) (by have := hW.ne; omega)).trans (get_new0 J (AObj.cells 0 0 false [.int .i64 0, .int .i64 0]) [])
  have hJl : J.length + 1 ≤ J1.length := by have := hF1.1; simpa using this
  have hFrJ : Fr P N F J J1 := ⟨by omega, fun j hj h1 _ => (hF1.2 j (by simp; omega) h1).trans (get_app (by omega) _)⟩
  have hpb := pickT_bound hok
  have hcase : pickK nd < 0 ∨ ∃ k : Nat, k < nd.fl.length ∧ pickK nd = k ∧ (nd.fl.getD k f0).q ≠ [] := by
    unfold pickK
    split
    · left; omega
    · rcases bestN_cases nd.fl (pickT nd) nd.fl.length with ⟨h, _⟩ | ⟨k, h1, h2, _, h4⟩
      · left; omega
      · exact .inr ⟨k, h1, h4, h2⟩
  clear hpk
  rcases hcase with hneg | ⟨k, hk, hkk, hq⟩
  · have hneg2 := hneg
    have hs := set_selfH hA0
    repeat' first | simp (disch := first | with_reducible assumption | omega) only [go_sem, Bool.true_and, Bool.and_true, Bool.and_self, Bool.false_and, Bool.and_false, Bool.true_or, Bool.or_true, Bool.false_or, Bool.or_false, ↓reduceIte, Nat.reduceEqDiff, Nat.reduceAdd, Nat.reduceMul, Nat.reduceSub, Nat.reduceBEq, Nat.reduceLeDiff, Nat.reduceLT, Nat.reduceMod, Nat.reduceDiv, Int.reduceToNat, Int.reducePow, Int.reduceMul, Int.reduceAdd, Int.reduceSub, Int.reduceLE, Int.reduceLT, Int.reduceNeg, Int.reduceDiv, Int.reduceMod, Int.reduceEq, Int.reduceBEq, Int.reduceBNe, f18, f18b, f18r0, f18r1, f18r2, f18r3, f18r4, f18r5, f18r6, f18r7, f18r8, f18r9, f18r10, hA0, hs] | (refine BrW.of (fun hb => ?_) (fun hb => ?_) <;> (have hb' := hb; try simp only [decide_eq_true_eq, decide_eq_false_iff_not, beq_iff_eq, bne_iff_ne, beq_eq_false_iff_ne, bne_eq_false_iff_eq, Bool.not_eq_true', Bool.not_eq_false', Bool.not_eq_true, Bool.not_eq_false, Bool.and_eq_true, Bool.or_eq_true, Bool.and_eq_false_iff, Bool.or_eq_false_iff, Int.not_lt, Int.not_le, ne_eq, gt_iff_lt, ge_iff_le] at hb') <;> (try (exfalso; omega))) | (refine altW.of ?_ ?_)
    exact .here ⟨hFrJ, .inl ⟨hneg2, rfl, hW1⟩⟩
  · rw [hkk]
    obtain ⟨hne, ⟨kw, ow, gw, cw, row, csw, rs, hN, hkw, hWc, hcw, hF, hrl, hrs, hOwn⟩, hlen⟩ := hW1
    simp only at hrl hrs hOwn hlen hN
    have hNl := (List.getElem?_eq_some_iff.1 hN).1
    have hFl := (List.getElem?_eq_some_iff.1 hF).1
    have hrk := hrs k hk
    have hfk := hok.f k
    have hwk := hw.2.1 k (by omega)
    have hwc := hcw k (by omega)
    obtain ⟨q, o, g, cs, hX⟩ := hOwn
    rcases hX.at' k hk with ⟨_, hq0⟩ | ⟨hv, hqP, hQ, hd, ho⟩
    · exact (hq hq0).elim
    · have hqJ := (List.getElem?_eq_some_iff.1 hQ).1
      have hql2 := drop_len hd ho
      have hqn : 0 < (nd.fl.getD k f0).q.length := List.length_pos_iff.2 hq
      have hqm := hql k
      have hx0 : (cs k)[o k]? = some (.int .i64 (headQ (nd.fl.getD k f0).q)) := by
        have h1 := congrArg (fun l => l[0]?) hd
        simp only [List.getElem?_drop, Nat.add_zero] at h1
        rw [h1]
        cases hl : (nd.fl.getD k f0).q with
        | nil => exact (hq hl).elim
        | cons y r => rfl
      have hdt : (cs k).drop (o k + 1) = ints (nd.fl.getD k f0).q.tail := by
        have h1 := congrArg (List.drop 1) hd
        rw [List.drop_drop] at h1
        rw [h1]
        cases hl : (nd.fl.getD k f0).q with
        | nil => exact (hq hl).elim
        | cons y r => rfl
      have htl : (nd.fl.getD k f0).q.tail.length = (nd.fl.getD k f0).q.length - 1 := List.length_tail
      have hhb := headQ_bound hfk.2.2
      have hqJL : q k ≠ J.length := fun e => by
        rw [e, hA0] at hQ
        have := congrArg (Option.map fun o : AObj => match o with | .cells _ e _ _ => e | _ => 0) hQ
        simp at this
      have hJJ : J.length ≠ J1.length := by omega
      have g0 := flat'_get (enc := Rw.cells) (s := 3) (fun _ => rfl) r0 rs k 0 (by omega) (by omega)
      simp only [Rw.cells, List.getElem?_cons_zero, Nat.add_zero, hv] at g0
      have fl1 := flatR_len rs
      rw [hrl] at fl1
      have hset : ∀ v' : Value, (flat' Rw.cells rs).set (k * 3) v' = flat' Rw.cells (rs.set k ⟨v', (rs.getD k r0).b, (rs.getD k r0).u⟩) := fun v' => by
        have := flat'_set (enc := Rw.cells) (s := 3) (fun _ => rfl) r0 (a' := ⟨v', (rs.getD k r0).b, (rs.getD k r0).u⟩) (v := v') rs k 0 (by omega) (by omega) rfl
        simpa using this
      have hget : ∀ r : Rw, (flat' Rw.cells (rs.set k r))[k * 3]? = some r.v := fun r => by
        have := flat'_get (enc := Rw.cells) (s := 3) (fun _ => rfl) r0 (rs.set k r) k 0 (by rw [List.length_set]; omega) (by omega)
        rw [getD_setR _ _ _ _ (by omega), if_pos rfl] at this
        simpa [Rw.cells] using this
      have hget2 : ∀ r : Rw, (flat' Rw.cells (rs.set k r))[k * 3 + 2]? = some (.int .i64 r.u) := fun r => by
        have := flat'_get (enc := Rw.cells) (s := 3) (fun _ => rfl) r0 (rs.set k r) k 2 (by rw [List.length_set]; omega) (by omega)
        rw [getD_setR _ _ _ _ (by omega), if_pos rfl] at this
        simpa [Rw.cells] using this
      have hgl : ∀ r : Rw, (flat' Rw.cells (rs.set k r)).length = nd.fl.length * 3 := fun r => by rw [flatR_len, List.length_set, hrl]
      have hJ1P : P < J1.length := by omega
      -- what is found after each store
      have b1 : ∀ B y, ((J1 ++ [B]).set F y)[N]? = _ := fun B y => (get_set_miss (by omega)).trans (get_old hN [B])
      have b2 : ∀ B y, ((J1 ++ [B]).set F y)[F]? = some y := fun B y => get_set_hit (get_old hF [B])
      have b3 : ∀ B y, ((J1 ++ [B]).set F y)[q k]? = _ := fun B y => (get_set_miss (by omega)).trans (get_old hQ [B])
      have b4 : ∀ B y, ((J1 ++ [B]).set F y)[J1.length]? = some B := fun B y => (get_set_miss (by omega)).trans (get_new0 J1 B [])
      have c1 : ∀ B y z, (((J1 ++ [B]).set F y).set N z)[N]? = some z := fun B y z => get_set_hit (b1 B y)
      have c2 : ∀ B y z, (((J1 ++ [B]).set F y).set N z)[F]? = some y := fun B y z => (get_set_miss (by omega)).trans (b2 B y)
      have c3 : ∀ B y z, (((J1 ++ [B]).set F y).set N z)[q k]? = _ := fun B y z => (get_set_miss (by omega)).trans (b3 B y)
      have c4 : ∀ B y z, (((J1 ++ [B]).set F y).set N z)[J1.length]? = some B := fun B y z => (get_set_miss (by omega)).trans (b4 B y)
      have c5 : ∀ B y z, (((J1 ++ [B]).set F y).set N z)[J.length]? = _ := fun B y z => (get_set_miss (by omega)).trans ((get_set_miss (by omega)).trans (get_old hA0 [B]))
      have c6 : ∀ B y z, (((J1 ++ [B]).set F y).set N z)[kw]? = _ := fun B y z => (get_set_miss (by omega)).trans ((get_set_miss (by omega)).trans (get_old hWc [B]))
      have d4 : ∀ B y z w, ((((J1 ++ [B]).set F y).set N z).set F w)[J1.length]? = some B := fun B y z w => (get_set_miss (by omega)).trans (c4 B y z)
      have d5 : ∀ B y z w, ((((J1 ++ [B]).set F y).set N z).set F w)[J.length]? = _ := fun B y z w => (get_set_miss (by omega)).trans (c5 B y z)
      have e4 : ∀ B y z w, ((((J1 ++ [B]).set F y).set N z).set J.length w)[J.length]? = some w := fun B y z w => get_set_hit (c5 B y z)
      have e5 : ∀ B y z w u, (((((J1 ++ [B]).set F y).set N z).set F w).set J.length u)[J.length]? = some u := fun B y z w u => get_set_hit (d5 B y z w)
      have hrs' : ∀ (r' : Rw) (f' : Fq), r'.b = f'.b → r'.u = f'.u → ∀ j, j < nd.fl.length → ((rs.set k r').getD j r0).b = ((nd.fl.set k f').getD j f0).b ∧ ((rs.set k r').getD j r0).u = ((nd.fl.set k f').getD j f0).u := fun r' f' h1 h2 j hj => by
        rw [getD_setR _ _ _ _ (by omega), getD_setF]
        by_cases e : k = j
        · rw [if_pos e, if_pos ⟨e, hk⟩]; exact ⟨h1, h2⟩
        · rw [if_neg e, if_neg (fun h => e h.1)]; exact hrs j hj
      have hst : ∀ (G : Heap) (r' : Rw) (f' : Fq), r'.v = slv (q k) (o k + 1) (g k) ((nd.fl.getD k f0).q.length - 1) ((nd.fl.getD k f0).q.length - 1) → f'.q = (nd.fl.getD k f0).q.tail → (∀ j, P ≤ j → j < J1.length → j ≠ J.length → G[j]? = J1[j]?) → Own P nd.fl.length (fun j => ((rs.set k r').getD j r0).v) (fun j => ((nd.fl.set k f').getD j f0).q) G := fun G r' f' h1 h2 hG => by
        have hnJ : ∀ j, j < nd.fl.length → (rs.getD j r0).v ≠ .slice none 0 0 → q j ≠ J.length := fun j hj hjn e => by
          rcases hX.at' j hj with ⟨h, _⟩ | ⟨_, _, h, _⟩
          · exact hjn h
          · rw [e, hA0] at h
            have := congrArg (Option.map fun o : AObj => match o with | .cells _ e _ _ => e | _ => 0) h
            simp at this
        refine hX.step (f := k) (q' := q k) (o' := o k + 1) (g' := g k) (cs' := cs k) (l' := (nd.fl.getD k f0).q.tail) (by rw [getD_setR _ _ _ _ (by omega), if_pos rfl, htl]; exact h1) (by rw [getD_setF, if_pos ⟨rfl, hk⟩]; exact h2) (fun j _ h => by rw [getD_setR _ _ _ _ (by omega), if_neg (Ne.symm h)]) (fun j _ h => by rw [getD_setF, if_neg (fun hh => h hh.1.symm)]) hqP (by rw [hG _ hqP hqJ hqJL]; exact hQ) hdt (by omega) (fun j hj h1 h2 => hX.inj j k hj hk h1 h2 (by rw [hv]; exact slv_ne _ _ _ _ _)) (fun j hj h1 h2 => hG _ (hX.ge hj h2) (hX.lt hj h2) (hnJ j hj h2))
      by_cases ht : (nd.fl.getD k f0).q.tail = []
      · have hl1 : (nd.fl.getD k f0).q.length - 1 = 0 := by rw [← htl, ht]; rfl
        have hout : outN ws S nd k = ⟨nd.fl.set k ⟨(nd.fl.getD k f0).q.tail, (nd.fl.getD k f0).b, (nd.fl.getD k f0).u⟩, pickT nd + headQ (nd.fl.getD k f0).q * 27720⟩ := by
          unfold outN tailF; rw [if_pos ht, ht]
        generalize hT : pickT nd = T at *
        repeat' first | simp (disch := first | with_reducible assumption | omega) only [go_sem, Bool.true_and, Bool.and_true, Bool.and_self, Bool.false_and, Bool.and_false, Bool.true_or, Bool.or_true, Bool.false_or, Bool.or_false, ↓reduceIte, Nat.reduceEqDiff, Nat.reduceAdd, Nat.reduceMul, Nat.reduceSub, Nat.reduceBEq, Nat.reduceLeDiff, Nat.reduceLT, Nat.reduceMod, Nat.reduceDiv, Int.reduceToNat, Int.reducePow, Int.reduceMul, Int.reduceAdd, Int.reduceSub, Int.reduceLE, Int.reduceLT, Int.reduceNeg, Int.reduceDiv, Int.reduceMod, Int.reduceEq, Int.reduceBEq, Int.reduceBNe, f18, f18b, f18r0, f18r1, f18r2, f18r3, f18r4, f18r5, f18r6, f18r7, f18r8, f18r9, f18r10, hN, hF, get_old hF, get_old hN, g0, hset, hget, hget2, hgl, hQ, get_old hQ, hx0, fl1, b1, b2, b3, b4, c1, c2, c3, c4, c5, e4, hl1] | (refine BrW.of (fun hb => ?_) (fun hb => ?_) <;> (have hb' := hb; try simp only [decide_eq_true_eq, decide_eq_false_iff_not, beq_iff_eq, bne_iff_ne, beq_eq_false_iff_ne, bne_eq_false_iff_eq, Bool.not_eq_true', Bool.not_eq_false', Bool.not_eq_true, Bool.not_eq_false, Bool.and_eq_true, Bool.or_eq_true, Bool.and_eq_false_iff, Bool.or_eq_false_iff, Int.not_lt, Int.not_le, ne_eq, gt_iff_lt, ge_iff_le] at hb') <;> (try (exfalso; omega))) | (refine altW.of ?_ ?_)
        refine .here ⟨⟨by simp; omega, fun j hj h1 h2 => by rw [List.getElem?_set_ne (by omega), List.getElem?_set_ne (by omega), List.getElem?_set_ne (by omega), get_app (by omega)]; exact hFrJ.2 j hj h1 h2⟩, .inr ⟨k, hk, rfl, hq, rfl, ?_⟩⟩
        rw [hout]
        exact WN.mk' hne hlen (by simp) ((get_set_miss (by omega)).trans (c1 _ _ _)) hkw ((get_set_miss (by omega)).trans (c6 _ _ _)) hcw ((get_set_miss (by omega)).trans (c2 _ _ _)) (by rw [List.length_set]; exact hrl) (hrs' _ _ hrk.1 hrk.2) (hst _ _ _ (by rw [hl1]) rfl (fun j h1 h2 h3 => by rw [List.getElem?_set_ne (by omega), List.getElem?_set_ne (by omega), List.getElem?_set_ne (by omega), get_app h2]))
      · have hl1 : 0 < (nd.fl.getD k f0).q.length - 1 := by rw [← htl]; exact List.length_pos_iff.2 ht
        have hout : outN ws S nd k = ⟨nd.fl.set k ⟨(nd.fl.getD k f0).q.tail, (rs.getD k r0).u, (rs.getD k r0).u + headQ (nd.fl.getD k f0).q.tail * (27720 / ws.getD k 0) * S⟩, pickT nd + headQ (nd.fl.getD k f0).q * 27720⟩ := by
          unfold outN tailF; rw [if_neg ht, hrk.2]; rfl
        have hx1 : (cs k)[o k + 1]? = some (.int .i64 (headQ (nd.fl.getD k f0).q.tail)) := by
          have h1 := congrArg (fun l => l[0]?) hdt
          simp only [List.getElem?_drop, Nat.add_zero] at h1
          rw [h1]
          cases hl : (nd.fl.getD k f0).q.tail with
          | nil => exact (ht hl).elim
          | cons y r => rfl
        have hhb2 := headQ_bound (l := (nd.fl.getD k f0).q.tail) (fun y hy => hfk.2.2 y (List.mem_of_mem_tail hy))
        generalize hT : pickT nd = T at *
        repeat' first | simp (disch := first | with_reducible assumption | omega) only [go_sem, Bool.true_and, Bool.and_true, Bool.and_self, Bool.false_and, Bool.and_false, Bool.true_or, Bool.or_true, Bool.false_or, Bool.or_false, ↓reduceIte, Nat.reduceEqDiff, Nat.reduceAdd, Nat.reduceMul, Nat.reduceSub, Nat.reduceBEq, Nat.reduceLeDiff, Nat.reduceLT, Nat.reduceMod, Nat.reduceDiv, Int.reduceToNat, Int.reducePow, Int.reduceMul, Int.reduceAdd, Int.reduceSub, Int.reduceLE, Int.reduceLT, Int.reduceNeg, Int.reduceDiv, Int.reduceMod, Int.reduceEq, Int.reduceBEq, Int.reduceBNe, f18, f18b, f18r0, f18r1, f18r2, f18r3, f18r4, f18r5, f18r6, f18r7, f18r8, f18r9, f18r10, hN, hF, get_old hF, get_old hN, g0, hset, hget, hget2, hgl, hQ, get_old hQ, hx0, fl1, b1, b2, b3, b4, c1, c2, c3, c4, c5, e4, hl1] | (refine BrW.of (fun hb => ?_) (fun hb => ?_) <;> (have hb' := hb; try simp only [decide_eq_true_eq, decide_eq_false_iff_not, beq_iff_eq, bne_iff_ne, beq_eq_false_iff_ne, bne_eq_false_iff_eq, Bool.not_eq_true', Bool.not_eq_false', Bool.not_eq_true, Bool.not_eq_false, Bool.and_eq_true, Bool.or_eq_true, Bool.and_eq_false_iff, Bool.or_eq_false_iff, Int.not_lt, Int.not_le, ne_eq, gt_iff_lt, ge_iff_le] at hb') <;> (try (exfalso; omega))) | (refine altW.of ?_ ?_)
        refine .of ((head_spec N F kw ow gw cw row csw ws S (T + headQ (nd.fl.getD k f0).q * 27720) (rs.getD k r0).u (headQ (nd.fl.getD k f0).q.tail) _ k (q k) (o k + 1) (g k) _ _ false (cs k) _ (by rw [List.length_set, hrl]; exact c1 _ _ _) (c2 _ _ _) (c6 _ _ _) hwc (by rw [List.length_set]; omega) (by omega) (by rw [getD_setR _ _ _ _ (by omega), if_pos rfl]) (c3 _ _ _) hx1 hl1 (by omega) (by omega) (by omega) hw.2.2 hwk hhb2 (by omega)).mono ?_)
        rintro v _ ⟨rfl, rfl⟩
        rw [List.set_set]
        repeat' first | simp (disch := first | with_reducible assumption | omega) only [go_sem, Bool.true_and, Bool.and_true, Bool.and_self, Bool.false_and, Bool.and_false, Bool.true_or, Bool.or_true, Bool.false_or, Bool.or_false, ↓reduceIte, Nat.reduceEqDiff, Nat.reduceAdd, Nat.reduceMul, Nat.reduceSub, Nat.reduceBEq, Nat.reduceLeDiff, Nat.reduceLT, Nat.reduceMod, Nat.reduceDiv, Int.reduceToNat, Int.reducePow, Int.reduceMul, Int.reduceAdd, Int.reduceSub, Int.reduceLE, Int.reduceLT, Int.reduceNeg, Int.reduceDiv, Int.reduceMod, Int.reduceEq, Int.reduceBEq, Int.reduceBNe, f18, f18b, f18r0, f18r1, f18r2, f18r3, f18r4, f18r5, f18r6, f18r7, f18r8, f18r9, f18r10, d4, d5, e5] | (refine BrW.of (fun hb => ?_) (fun hb => ?_) <;> (have hb' := hb; try simp only [decide_eq_true_eq, decide_eq_false_iff_not, beq_iff_eq, bne_iff_ne, beq_eq_false_iff_ne, bne_eq_false_iff_eq, Bool.not_eq_true', Bool.not_eq_false', Bool.not_eq_true, Bool.not_eq_false, Bool.and_eq_true, Bool.or_eq_true, Bool.and_eq_false_iff, Bool.or_eq_false_iff, Int.not_lt, Int.not_le, ne_eq, gt_iff_lt, ge_iff_le] at hb') <;> (try (exfalso; omega))) | (refine altW.of ?_ ?_)
        refine .here ⟨⟨by simp; omega, fun j hj h1 h2 => by rw [List.getElem?_set_ne (by omega), List.getElem?_set_ne (by omega), List.getElem?_set_ne (by omega), List.getElem?_set_ne (by omega), get_app (by omega)]; exact hFrJ.2 j hj h1 h2⟩, .inr ⟨k, hk, rfl, hq, rfl, ?_⟩⟩
        rw [hout]
        have c2' : ∀ B y z w, ((((J1 ++ [B]).set F y).set N z).set F w)[F]? = some w := fun B y z w => get_set_hit (c2 B y z)
        exact WN.mk' hne hlen (by simp) ((get_set_miss (by omega)).trans ((get_set_miss (by omega)).trans (c1 _ _ _))) hkw ((get_set_miss (by omega)).trans ((get_set_miss (by omega)).trans (c6 _ _ _))) hcw ((get_set_miss (by omega)).trans (c2' _ _ _ _)) (by rw [List.length_set]; exact hrl) (hrs' _ _ rfl rfl) (hst _ _ _ rfl rfl (fun j h1 h2 h3 => by rw [List.getElem?_set_ne (by omega), List.getElem?_set_ne (by omega), List.getElem?_set_ne (by omega), List.getElem?_set_ne (by omega), get_app h2]))

end Go.Proofs.Ytknfaoonjmlncaa.Q
