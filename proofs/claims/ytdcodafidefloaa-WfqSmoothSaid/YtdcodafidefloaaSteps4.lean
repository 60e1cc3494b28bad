import Derived.Test.YtdcodafidefloaaSteps3
set_option linter.unusedSimpArgs false
set_option linter.unusedVariables false
set_option maxHeartbeats 2000000
set_option maxRecDepth 20000
namespace Go.Proofs.Ytdcodafidefloaa
open Go Go.Am
attribute [local irreducible] opsW Ww loopW callW drawW outW outDW gW cW BrW bothW vW resW DropW RdW dcallW altW Later.run

theorem out_spec (P N F : Nat) (ws : List Int) (S M : Int) (nd : Nd) (J : Heap) (hW : WN P N F ws S nd J) (hok : OkN M nd) (hM : M ≤ 1000000000000000) (hw : okW ws S) (hql : ∀ k, (nd.fl.getD k f0).q.length ≤ 1000000) (hPJ : P ≤ J.length) :
    ACallK Try.prog 13 [.pointer (some ⟨N, 0, some 1⟩)] J (fun v J' => Fr P N F J J' ∧ ((pickK nd < 0 ∧ v = .tuple #[.agg #[.int .i64 0, .int .i64 0], .bool false] ∧ WN P N F ws S ⟨nd.fl, pickT nd⟩ J') ∨
      ∃ k : Nat, k < nd.fl.length ∧ pickK nd = k ∧ (nd.fl.getD k f0).q ≠ [] ∧ v = .tuple #[.agg #[.int .i64 k, .int .i64 (headQ (nd.fl.getD k f0).q)], .bool true] ∧ WN P N F ws S (outN ws S nd k) J')) := by
  have hn16 : nd.fl.length ≤ 16 := by have := hw.1; have := hW.len; omega
  have hpk := pick_spec P N F ws S M nd (J ++ [.cells 0 0 false [.int .i64 0, .int .i64 0]]) (hW.app _) hok hM hn16 (by simp; omega)
  refine .walkW f13_ok (by simp; decide) (by decide) ?_
  repeat' first | simp (disch := first | with_reducible assumption | omega) only [go_sem, Bool.true_and, Bool.and_true, Bool.and_self, Bool.false_and, Bool.and_false, Bool.true_or, Bool.or_true, Bool.false_or, Bool.or_false, ↓reduceIte, Nat.reduceEqDiff, Nat.reduceAdd, Nat.reduceMul, Nat.reduceSub, Nat.reduceBEq, Nat.reduceLeDiff, Nat.reduceLT, Nat.reduceMod, Nat.reduceDiv, Int.reduceToNat, Int.reducePow, Int.reduceMul, Int.reduceAdd, Int.reduceSub, Int.reduceLE, Int.reduceLT, Int.reduceNeg, Int.reduceDiv, Int.reduceMod, Int.reduceEq, Int.reduceBEq, Int.reduceBNe, f13, f13b, f13r0, f13r1, f13r2, f13r3, f13r4, f13r5, f13r6, f13r7, f13r8, f13r9, f13r10] | (refine BrW.of (fun hb => ?_) (fun hb => ?_) <;> (have hb' := hb; try simp only [decide_eq_true_eq, decide_eq_false_iff_not, beq_iff_eq, bne_iff_ne, beq_eq_false_iff_ne, bne_eq_false_iff_eq, Bool.not_eq_true', Bool.not_eq_false', Bool.not_eq_true, Bool.not_eq_false, Bool.and_eq_true, Bool.or_eq_true, Bool.and_eq_false_iff, Bool.or_eq_false_iff, Int.not_lt, Int.not_le, ne_eq, gt_iff_lt, ge_iff_le] at hb') <;> (try (exfalso; omega))) | (refine altW.of ?_ ?_)
  refine .of (hpk.mono ?_)
  rintro v J1 ⟨rfl, hW1, hF1⟩
  have hA0 := (hF1.2 J.length (by simp) (by have := hW.ne; omega)).trans (get_new0 J (AObj.cells 0 0 false [.int .i64 0, .int .i64 0]) [])
  have hJl : J.length + 1 ≤ J1.length := by have := hF1.1; simpa using this
  have hFrJ : Fr P N F J J1 := ⟨by omega, fun j hj h1 _ => (hF1.2 j (by simp; omega) h1).trans (get_app (by omega) _)⟩
  have hpb := pickT_bound hok
  have hcase : pickK nd < 0 ∨ ∃ k : Nat, k < nd.fl.length ∧ pickK nd = k ∧ (nd.fl.getD k f0).q ≠ [] := by
    unfold pickK
    split
    · left; omega
    · rcases bestN_cases nd.fl (pickT nd) nd.fl.length with ⟨h, _⟩ | ⟨k, h1, h2, _, h4⟩
      · left; omega
      · exact .inr ⟨k, h1, h4, h2⟩
  clear hpk
  rcases hcase with hneg | ⟨k, hk, hkk, hq⟩
  · have hneg2 := hneg
    have hs := set_selfH hA0
    repeat' first | simp (disch := first | with_reducible assumption | omega) only [go_sem, Bool.true_and, Bool.and_true, Bool.and_self, Bool.false_and, Bool.and_false, Bool.true_or, Bool.or_true, Bool.false_or, Bool.or_false, ↓reduceIte, Nat.reduceEqDiff, Nat.reduceAdd, Nat.reduceMul, Nat.reduceSub, Nat.reduceBEq, Nat.reduceLeDiff, Nat.reduceLT, Nat.reduceMod, Nat.reduceDiv, Int.reduceToNat, Int.reducePow, Int.reduceMul, Int.reduceAdd, Int.reduceSub, Int.reduceLE, Int.reduceLT, Int.reduceNeg, Int.reduceDiv, Int.reduceMod, Int.reduceEq, Int.reduceBEq, Int.reduceBNe, f13, f13b, f13r0, f13r1, f13r2, f13r3, f13r4, f13r5, f13r6, f13r7, f13r8, f13r9, f13r10, hA0, hs] | (refine BrW.of (fun hb => ?_) (fun hb => ?_) <;> (have hb' := hb; try simp only [decide_eq_true_eq, decide_eq_false_iff_not, beq_iff_eq, bne_iff_ne, beq_eq_false_iff_ne, bne_eq_false_iff_eq, Bool.not_eq_true', Bool.not_eq_false', Bool.not_eq_true, Bool.not_eq_false, Bool.and_eq_true, Bool.or_eq_true, Bool.and_eq_false_iff, Bool.or_eq_false_iff, Int.not_lt, Int.not_le, ne_eq, gt_iff_lt, ge_iff_le] at hb') <;> (try (exfalso; omega))) | (refine altW.of ?_ ?_)
    exact .here ⟨hFrJ, .inl ⟨hneg2, rfl, hW1⟩⟩
  · rw [hkk]
    obtain ⟨hne, ⟨kw, ow, gw, cw, row, csw, rs, hN, hkw, hWc, hcw, hF, hrl, hrs, hOwn⟩, hlen⟩ := hW1
    simp only at hrl hrs hOwn hlen hN
    have hNl := (List.getElem?_eq_some_iff.1 hN).1
    have hFl := (List.getElem?_eq_some_iff.1 hF).1
    have hrk := hrs k hk
    have hfk := hok.f k
    have hwk := hw.2.1 k (by omega)
    have hwc := hcw k (by omega)
    obtain ⟨q, o, g, cs, hX⟩ := hOwn
    rcases hX.at' k hk with ⟨_, hq0⟩ | ⟨hv, hqP, hQ, hd, ho⟩
    · exact (hq hq0).elim
    · have hqJ := (List.getElem?_eq_some_iff.1 hQ).1
      have hql2 := drop_len hd ho
      have hqn : 0 < (nd.fl.getD k f0).q.length := List.length_pos_iff.2 hq
      have hqm := hql k
      have hx0 : (cs k)[o k]? = some (.int .i64 (headQ (nd.fl.getD k f0).q)) := by
        have h1 := congrArg (fun l => l[0]?) hd
        simp only [List.getElem?_drop, Nat.add_zero] at h1
        rw [h1]
        cases hl : (nd.fl.getD k f0).q with
        | nil => exact (hq hl).elim
        | cons y r => rfl
      have hdt : (cs k).drop (o k + 1) = ints (nd.fl.getD k f0).q.tail := by
        have h1 := congrArg (List.drop 1) hd
        rw [List.drop_drop] at h1
        rw [h1]
        cases hl : (nd.fl.getD k f0).q with
        | nil => exact (hq hl).elim
        | cons y r => rfl
      have htl : (nd.fl.getD k f0).q.tail.length = (nd.fl.getD k f0).q.length - 1 := List.length_tail
      have hhb := headQ_bound hfk.2.2
      have hqJL : q k ≠ J.length := fun e => by
        rw [e, hA0] at hQ
        have := congrArg (Option.map fun o : AObj => match o with | .cells _ e _ _ => e | _ => 0) hQ
        simp at this
      have hJJ : J.length ≠ J1.length := by omega
      have g0 := flat'_get (enc := Rw.cells) (s := 3) (fun _ => rfl) r0 rs k 0 (by omega) (by omega)
      simp only [Rw.cells, List.getElem?_cons_zero, Nat.add_zero, hv] at g0
      have fl1 := flatR_len rs
      rw [hrl] at fl1
      have hset : ∀ v' : Value, (flat' Rw.cells rs).set (k * 3) v' = flat' Rw.cells (rs.set k ⟨v', (rs.getD k r0).b, (rs.getD k r0).u⟩) := fun v' => by
        have := flat'_set (enc := Rw.cells) (s := 3) (fun _ => rfl) r0 (a' := ⟨v', (rs.getD k r0).b, (rs.getD k r0).u⟩) (v := v') rs k 0 (by omega) (by omega) rfl
        simpa using this
      have hget : ∀ r : Rw, (flat' Rw.cells (rs.set k r))[k * 3]? = some r.v := fun r => by
        have := flat'_get (enc := Rw.cells) (s := 3) (fun _ => rfl) r0 (rs.set k r) k 0 (by rw [List.length_set]; omega) (by omega)
        rw [getD_setR _ _ _ _ (by omega), if_pos rfl] at this
        simpa [Rw.cells] using this
      have hget2 : ∀ r : Rw, (flat' Rw.cells (rs.set k r))[k * 3 + 2]? = some (.int .i64 r.u) := fun r => by
        have := flat'_get (enc := Rw.cells) (s := 3) (fun _ => rfl) r0 (rs.set k r) k 2 (by rw [List.length_set]; omega) (by omega)
        rw [getD_setR _ _ _ _ (by omega), if_pos rfl] at this
        simpa [Rw.cells] using this
      have hgl : ∀ r : Rw, (flat' Rw.cells (rs.set k r)).length = nd.fl.length * 3 := fun r => by rw [flatR_len, List.length_set, hrl]
      have hJ1P : P < J1.length := by omega
      -- what is found after each store
      have b1 : ∀ B y, ((J1 ++ [B]).set F y)[N]? = _ := fun B y => (get_set_miss (by omega)).trans (get_old hN [B])
      have b2 : ∀ B y, ((J1 ++ [B]).set F y)[F]? = some y := fun B y => get_set_hit (get_old hF [B])
      have b3 : ∀ B y, ((J1 ++ [B]).set F y)[q k]? = _ := fun B y => (get_set_miss (by omega)).trans (get_old hQ [B])
      have b4 : ∀ B y, ((J1 ++ [B]).set F y)[J1.length]? = some B := fun B y => (get_set_miss (by omega)).trans (get_new0 J1 B [])
      have c1 : ∀ B y z, (((J1 ++ [B]).set F y).set N z)[N]? = some z := fun B y z => get_set_hit (b1 B y)
      have c2 : ∀ B y z, (((J1 ++ [B]).set F y).set N z)[F]? = some y := fun B y z => (get_set_miss (by omega)).trans (b2 B y)
      have c3 : ∀ B y z, (((J1 ++ [B]).set F y).set N z)[q k]? = _ := fun B y z => (get_set_miss (by omega)).trans (b3 B y)
      have c4 : ∀ B y z, (((J1 ++ [B]).set F y).set N z)[J1.length]? = some B := fun B y z => (get_set_miss (by omega)).trans (b4 B y)
      have c5 : ∀ B y z, (((J1 ++ [B]).set F y).set N z)[J.length]? = _ := fun B y z => (get_set_miss (by omega)).trans ((get_set_miss (by omega)).trans (get_old hA0 [B]))
      have c6 : ∀ B y z, (((J1 ++ [B]).set F y).set N z)[kw]? = _ := fun B y z => (get_set_miss (by omega)).trans ((get_set_miss (by omega)).trans (get_old hWc [B]))
      have d4 : ∀ B y z w, ((((J1 ++ [B]).set F y).set N z).set F w)[J1.length]? = some B := fun B y z w => (get_set_miss (by omega)).trans (c4 B y z)
      have d5 : ∀ B y z w, ((((J1 ++ [B]).set F y).set N z).set F w)[J.length]? = _ := fun B y z w => (get_set_miss (by omega)).trans (c5 B y z)
      have e4 : ∀ B y z w, ((((J1 ++ [B]).set F y).set N z).set J.length w)[J.length]? = some w := fun B y z w => get_set_hit (c5 B y z)
      have e5 : ∀ B y z w u, (((((J1 ++ [B]).set F y).set N z).set F w).set J.length u)[J.length]? = some u := fun B y z w u => get_set_hit (d5 B y z w)
      have hrs' : ∀ (r' : Rw) (f' : Fq), r'.b = f'.b → r'.u = f'.u → ∀ j, j < nd.fl.length → ((rs.set k r').getD j r0).b = ((nd.fl.set k f').getD j f0).b ∧ ((rs.set k r').getD j r0).u = ((nd.fl.set k f').getD j f0).u := fun r' f' h1 h2 j hj => by
        rw [getD_setR _ _ _ _ (by omega), getD_setF]
        by_cases e : k = j
        · rw [if_pos e, if_pos ⟨e, hk⟩]; exact ⟨h1, h2⟩
        · rw [if_neg e, if_neg (fun h => e h.1)]; exact hrs j hj
      have hst : ∀ (G : Heap) (r' : Rw) (f' : Fq), r'.v = slv (q k) (o k + 1) (g k) ((nd.fl.getD k f0).q.length - 1) ((nd.fl.getD k f0).q.length - 1) → f'.q = (nd.fl.getD k f0).q.tail → (∀ j, P ≤ j → j < J1.length → j ≠ J.length → G[j]? = J1[j]?) → Own P nd.fl.length (fun j => ((rs.set k r').getD j r0).v) (fun j => ((nd.fl.set k f').getD j f0).q) G := fun G r' f' h1 h2 hG => by
        have hnJ : ∀ j, j < nd.fl.length → (rs.getD j r0).v ≠ .slice none 0 0 → q j ≠ J.length := fun j hj hjn e => by
          rcases hX.at' j hj with ⟨h, _⟩ | ⟨_, _, h, _⟩
          · exact hjn h
          · rw [e, hA0] at h
            have := congrArg (Option.map fun o : AObj => match o with | .cells _ e _ _ => e | _ => 0) h
            simp at this
        refine hX.step (f := k) (q' := q k) (o' := o k + 1) (g' := g k) (cs' := cs k) (l' := (nd.fl.getD k f0).q.tail) (by rw [getD_setR _ _ _ _ (by omega), if_pos rfl, htl]; exact h1) (by rw [getD_setF, if_pos ⟨rfl, hk⟩]; exact h2) (fun j _ h => by rw [getD_setR _ _ _ _ (by omega), if_neg (Ne.symm h)]) (fun j _ h => by rw [getD_setF, if_neg (fun hh => h hh.1.symm)]) hqP (by rw [hG _ hqP hqJ hqJL]; exact hQ) hdt (by omega) (fun j hj h1 h2 => hX.inj j k hj hk h1 h2 (by rw [hv]; exact slv_ne _ _ _ _ _)) (fun j hj h1 h2 => hG _ (hX.ge hj h2) (hX.lt hj h2) (hnJ j hj h2))
      by_cases ht : (nd.fl.getD k f0).q.tail = []
      · have hl1 : (nd.fl.getD k f0).q.length - 1 = 0 := by rw [← htl, ht]; rfl
        have hout : outN ws S nd k = ⟨nd.fl.set k ⟨(nd.fl.getD k f0).q.tail, (nd.fl.getD k f0).b, (nd.fl.getD k f0).u⟩, pickT nd + headQ (nd.fl.getD k f0).q * 27720⟩ := by
          unfold outN tailF; rw [if_pos ht, ht]
        generalize hT : pickT nd = T at *
        repeat' first | simp (disch := first | with_reducible assumption | omega) only [go_sem, Bool.true_and, Bool.and_true, Bool.and_self, Bool.false_and, Bool.and_false, Bool.true_or, Bool.or_true, Bool.false_or, Bool.or_false, ↓reduceIte, Nat.reduceEqDiff, Nat.reduceAdd, Nat.reduceMul, Nat.reduceSub, Nat.reduceBEq, Nat.reduceLeDiff, Nat.reduceLT, Nat.reduceMod, Nat.reduceDiv, Int.reduceToNat, Int.reducePow, Int.reduceMul, Int.reduceAdd, Int.reduceSub, Int.reduceLE, Int.reduceLT, Int.reduceNeg, Int.reduceDiv, Int.reduceMod, Int.reduceEq, Int.reduceBEq, Int.reduceBNe, f13, f13b, f13r0, f13r1, f13r2, f13r3, f13r4, f13r5, f13r6, f13r7, f13r8, f13r9, f13r10, hN, hF, get_old hF, get_old hN, g0, hset, hget, hget2, hgl, hQ, get_old hQ, hx0, fl1, b1, b2, b3, b4, c1, c2, c3, c4, c5, e4, hl1] | (refine BrW.of (fun hb => ?_) (fun hb => ?_) <;> (have hb' := hb; try simp only [decide_eq_true_eq, decide_eq_false_iff_not, beq_iff_eq, bne_iff_ne, beq_eq_false_iff_ne, bne_eq_false_iff_eq, Bool.not_eq_true', Bool.not_eq_false', Bool.not_eq_true, Bool.not_eq_false, Bool.and_eq_true, Bool.or_eq_true, Bool.and_eq_false_iff, Bool.or_eq_false_iff, Int.not_lt, Int.not_le, ne_eq, gt_iff_lt, ge_iff_le] at hb') <;> (try (exfalso; omega))) | (refine altW.of ?_ ?_)
        refine .here ⟨⟨by simp; omega, fun j hj h1 h2 => by rw [List.getElem?_set_ne (by omega), List.getElem?_set_ne (by omega), List.getElem?_set_ne (by omega), get_app (by omega)]; exact hFrJ.2 j hj h1 h2⟩, .inr ⟨k, hk, rfl, hq, rfl, ?_⟩⟩
        rw [hout]
        exact WN.mk' hne hlen (by simp) ((get_set_miss (by omega)).trans (c1 _ _ _)) hkw ((get_set_miss (by omega)).trans (c6 _ _ _)) hcw ((get_set_miss (by omega)).trans (c2 _ _ _)) (by rw [List.length_set]; exact hrl) (hrs' _ _ hrk.1 hrk.2) (hst _ _ _ (by rw [hl1]) rfl (fun j h1 h2 h3 => by rw [List.getElem?_set_ne (by omega), List.getElem?_set_ne (by omega), List.getElem?_set_ne (by omega), get_app h2]))
      · have hl1 : 0 < (nd.fl.getD k f0).q.length - 1 := by rw [← htl]; exact List.length_pos_iff.2 ht
        have hout : outN ws S nd k = ⟨nd.fl.set k ⟨(nd.fl.getD k f0).q.tail, (rs.getD k r0).u, (rs.getD k r0).u + headQ (nd.fl.getD k f0).q.tail * (27720 / ws.getD k 0) * S⟩, pickT nd + headQ (nd.fl.getD k f0).q * 27720⟩ := by
          unfold outN tailF; rw [if_neg ht, hrk.2]; rfl
        have hx1 : (cs k)[o k + 1]? = some (.int .i64 (headQ (nd.fl.getD k f0).q.tail)) := by
          have h1 := congrArg (fun l => l[0]?) hdt
          simp only [List.getElem?_drop, Nat.add_zero] at h1
          rw [h1]
          cases hl : (nd.fl.getD k f0).q.tail with
          | nil => exact (ht hl).elim
          | cons y r => rfl
        have hhb2 := headQ_bound (l := (nd.fl.getD k f0).q.tail) (fun y hy => hfk.2.2 y (List.mem_of_mem_tail hy))
        generalize hT : pickT nd = T at *
        repeat' first | simp (disch := first | with_reducible assumption | omega) only [go_sem, Bool.true_and, Bool.and_true, Bool.and_self, Bool.false_and, Bool.and_false, Bool.true_or, Bool.or_true, Bool.false_or, Bool.or_false, ↓reduceIte, Nat.reduceEqDiff, Nat.reduceAdd, Nat.reduceMul, Nat.reduceSub, Nat.reduceBEq, Nat.reduceLeDiff, Nat.reduceLT, Nat.reduceMod, Nat.reduceDiv, Int.reduceToNat, Int.reducePow, Int.reduceMul, Int.reduceAdd, Int.reduceSub, Int.reduceLE, Int.reduceLT, Int.reduceNeg, Int.reduceDiv, Int.reduceMod, Int.reduceEq, Int.reduceBEq, Int.reduceBNe, f13, f13b, f13r0, f13r1, f13r2, f13r3, f13r4, f13r5, f13r6, f13r7, f13r8, f13r9, f13r10, hN, hF, get_old hF, get_old hN, g0, hset, hget, hget2, hgl, hQ, get_old hQ, hx0, fl1, b1, b2, b3, b4, c1, c2, c3, c4, c5, e4, hl1] | (refine BrW.of (fun hb => ?_) (fun hb => ?_) <;> (have hb' := hb; try simp only [decide_eq_true_eq, decide_eq_false_iff_not, beq_iff_eq, bne_iff_ne, beq_eq_false_iff_ne, bne_eq_false_iff_eq, Bool.not_eq_true', Bool.not_eq_false', Bool.not_eq_true, Bool.not_eq_false, Bool.and_eq_true, Bool.or_eq_true, Bool.and_eq_false_iff, Bool.or_eq_false_iff, Int.not_lt, Int.not_le, ne_eq, gt_iff_lt, ge_iff_le] at hb') <;> (try (exfalso; omega))) | (refine altW.of ?_ ?_)
        refine .of ((head_spec N F kw ow gw cw row csw ws S (T + headQ (nd.fl.getD k f0).q * 27720) (rs.getD k r0).u (headQ (nd.fl.getD k f0).q.tail) _ k (q k) (o k + 1) (g k) _ _ false (cs k) _ (by rw [List.length_set, hrl]; exact c1 _ _ _) (c2 _ _ _) (c6 _ _ _) hwc (by rw [List.length_set]; omega) (by omega) (by rw [getD_setR _ _ _ _ (by omega), if_pos rfl]) (c3 _ _ _) hx1 hl1 (by omega) (by omega) (by omega) hw.2.2 hwk hhb2 (by omega)).mono ?_)
        rintro v _ ⟨rfl, rfl⟩
        rw [List.set_set]
        repeat' first | simp (disch := first | with_reducible assumption | omega) only [go_sem, Bool.true_and, Bool.and_true, Bool.and_self, Bool.false_and, Bool.and_false, Bool.true_or, Bool.or_true, Bool.false_or, Bool.or_false, ↓reduceIte, Nat.reduceEqDiff, Nat.reduceAdd, Nat.reduceMul, Nat.reduceSub, Nat.reduceBEq, Nat.reduceLeDiff, Nat.reduceLT, Nat.reduceMod, Nat.reduceDiv, Int.reduceToNat, Int.reducePow, Int.reduceMul, Int.reduceAdd, Int.reduceSub, Int.reduceLE, Int.reduceLT, Int.reduceNeg, Int.reduceDiv, Int.reduceMod, Int.reduceEq, Int.reduceBEq, Int.reduceBNe, f13, f13b, f13r0, f13r1, f13r2, f13r3, f13r4, f13r5, f13r6, f13r7, f13r8, f13r9, f13r10, d4, d5, e5] | (refine BrW.of (fun hb => ?_) (fun hb => ?_) <;> (have hb' := hb; try simp only [decide_eq_true_eq, decide_eq_false_iff_not, beq_iff_eq, bne_iff_ne, beq_eq_false_iff_ne, bne_eq_false_iff_eq, Bool.not_eq_true', Bool.not_eq_false', Bool.not_eq_true, Bool.not_eq_false, Bool.and_eq_true, Bool.or_eq_true, Bool.and_eq_false_iff, Bool.or_eq_false_iff, Int.not_lt, Int.not_le, ne_eq, gt_iff_lt, ge_iff_le] at hb') <;> (try (exfalso; omega))) | (refine altW.of ?_ ?_)
        refine .here ⟨⟨by simp; omega, fun j hj h1 h2 => by rw [List.getElem?_set_ne (by omega), List.getElem?_set_ne (by omega), List.getElem?_set_ne (by omega), List.getElem?_set_ne (by omega), get_app (by omega)]; exact hFrJ.2 j hj h1 h2⟩, .inr ⟨k, hk, rfl, hq, rfl, ?_⟩⟩
        rw [hout]
        have c2' : ∀ B y z w, ((((J1 ++ [B]).set F y).set N z).set F w)[F]? = some w := fun B y z w => get_set_hit (c2 B y z)
        exact WN.mk' hne hlen (by simp) ((get_set_miss (by omega)).trans ((get_set_miss (by omega)).trans (c1 _ _ _))) hkw ((get_set_miss (by omega)).trans ((get_set_miss (by omega)).trans (c6 _ _ _))) hcw ((get_set_miss (by omega)).trans (c2' _ _ _ _)) (by rw [List.length_set]; exact hrl) (hrs' _ _ rfl rfl) (hst _ _ _ rfl rfl (fun j h1 h2 h3 => by rw [List.getElem?_set_ne (by omega), List.getElem?_set_ne (by omega), List.getElem?_set_ne (by omega), List.getElem?_set_ne (by omega), get_app h2]))
end Go.Proofs.Ytdcodafidefloaa
