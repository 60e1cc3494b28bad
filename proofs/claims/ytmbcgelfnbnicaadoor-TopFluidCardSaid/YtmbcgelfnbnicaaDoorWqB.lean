import Derived.Test.YtmbcgelfnbnicaaDoorWqA
import Derived.Test.YtmbcgelfnbnicaaDoorDiscH
set_option linter.unusedSimpArgs false
set_option linter.unusedVariables false
set_option maxHeartbeats 2000000
set_option maxRecDepth 20000
set_option maxHeartbeats 4000000
namespace Go.Proofs.YtmbcgelfnbnicaaDoor.Wq
open Go Go.Am
attribute [local irreducible] opsW Ww loopW callW drawW outW outDW gW cW BrW bothW vW resW DropW RdW dcallW altW forkW splitW Later.run

theorem out_spec (P N F : Nat) (ws : List Int) (S M : Int) (nd : Nd) (J : Heap) (hW : WN P N F ws S nd J) (hok : OkN M nd) (hM : M ≤ 1000000000000000) (hw : okW ws S) (hql : ∀ k, (nd.fl.getD k f0).q.length ≤ 1000000) (hPJ : P ≤ J.length) :
    ACallK Tryd.prog 33 [.pointer (some ⟨N, 0, some 1⟩)] J (fun v J' => Fr P N F J J' ∧ ((pickK nd < 0 ∧ v = .tuple #[.agg #[.int .i64 0, .int .i64 0], .bool false] ∧ WN P N F ws S ⟨nd.fl, pickT nd⟩ J') ∨
      ∃ k : Nat, k < nd.fl.length ∧ pickK nd = k ∧ (nd.fl.getD k f0).q ≠ [] ∧ v = .tuple #[.agg #[.int .i64 k, .int .i64 (headQ (nd.fl.getD k f0).q)], .bool true] ∧ WN P N F ws S (outN ws S nd k) J')) := by
  have hn16 : nd.fl.length ≤ 16 := by have := hw.1; have := hW.len; omega
  have hpk := pick_spec P N F ws S M nd (J ++ [.cells 0 0 false [.int .i64 0, .int .i64 0]]) (hW.app _) hok hM hn16 (by simp; omega)
  refine .walkW f33_ok (by simp; decide) (by decide) ?_
  repeat' first | simp (disch := first | with_reducible assumption | omega) only [go_sem, Bool.true_and, Bool.and_true, Bool.and_self, Bool.false_and, Bool.and_false, Bool.true_or, Bool.or_true, Bool.false_or, Bool.or_false, ↓reduceIte, Nat.reduceEqDiff, Nat.reduceAdd, Nat.reduceMul, Nat.reduceSub, Nat.reduceBEq, Nat.reduceLeDiff, Nat.reduceLT, Nat.reduceMod, Nat.reduceDiv, Int.reduceToNat, Int.reducePow, Int.reduceMul, Int.reduceAdd, Int.reduceSub, Int.reduceLE, Int.reduceLT, Int.reduceNeg, Int.reduceDiv, Int.reduceMod, Int.reduceEq, Int.reduceBEq, Int.reduceBNe, f33, f33b, f33r0, f33r1, f33r2, f33r3, f33r4, f33r5, f33r6, f33r7, f33r8, f33r9, f33r10] | (refine BrW.of (fun hb => ?_) (fun hb => ?_) <;> (have hb' := hb; try simp only [decide_eq_true_eq, decide_eq_false_iff_not, beq_iff_eq, bne_iff_ne, beq_eq_false_iff_ne, bne_eq_false_iff_eq, Bool.not_eq_true', Bool.not_eq_false', Bool.not_eq_true, Bool.not_eq_false, Bool.and_eq_true, Bool.or_eq_true, Bool.and_eq_false_iff, Bool.or_eq_false_iff, Int.not_lt, Int.not_le, ne_eq, gt_iff_lt, ge_iff_le] at hb') <;> (try (exfalso; omega))) | (refine altW.of ?_ ?_)
  refine .of (hpk.mono ?_)
  rintro v J1 ⟨rfl, hW1, hF1⟩
  have hA0 := (hF1.2 J.length (by simp) (by have := hW.ne; omega)).trans (get_new0 J (AObj.cells 0 0 false [.int .i64 0, .int .i64 0]) [])
  have hJl : J.length + 1 ≤ J1.length := by have := hF1.1; simpa using this
  have hFrJ : Fr P N F J J1 := ⟨by omega, fun j hj h1 _ => (hF1.2 j (by simp; omega) h1).trans (get_app (by omega) _)⟩
  have hpb := pickT_bound hok
  have hcase : pickK nd < 0 ∨ ∃ k : Nat, k < nd.fl.length ∧ pickK nd = k ∧ (nd.fl.getD k f0).q ≠ [] := by
    unfold pickK
    split
    · left; omega
    · rcases bestN_cases nd.fl (pickT nd) nd.fl.length with ⟨h, _⟩ | ⟨k, h1, h2, _, h4⟩
      · left; omega
      · exact .inr ⟨k, h1, h4, h2⟩
  clear hpk
  rcases hcase with hneg | ⟨k, hk, hkk, hq⟩
  · have hneg2 := hneg
    have hs := set_selfH hA0
    repeat' first | simp (disch := first | with_reducible assumption | omega) only [go_sem, Bool.true_and, Bool.and_true, Bool.and_self, Bool.false_and, Bool.and_false, Bool.true_or, Bool.or_true, Bool.false_or, Bool.or_false, ↓reduceIte, Nat.reduceEqDiff, Nat.reduceAdd, Nat.reduceMul, Nat.reduceSub, Nat.reduceBEq, Nat.reduceLeDiff, Nat.reduceLT, Nat.reduceMod, Nat.reduceDiv, Int.reduceToNat, Int.reducePow, Int.reduceMul, Int.reduceAdd, Int.reduceSub, Int.reduceLE, Int.reduceLT, Int.reduceNeg, Int.reduceDiv, Int.reduceMod, Int.reduceEq, Int.reduceBEq, Int.reduceBNe, f33, f33b, f33r0, f33r1, f33r2, f33r3, f33r4, f33r5, f33r6, f33r7, f33r8, f33r9, f33r10, hA0, hs] | (refine BrW.of (fun hb => ?_) (fun hb => ?_) <;> (have hb' := hb; try simp only [decide_eq_true_eq, decide_eq_false_iff_not, beq_iff_eq, bne_iff_ne, beq_eq_false_iff_ne, bne_eq_false_iff_eq, Bool.not_eq_true', Bool.not_eq_false', Bool.not_eq_true, Bool.not_eq_false, Bool.and_eq_true, Bool.or_eq_true, Bool.and_eq_false_iff, Bool.or_eq_false_iff, Int.not_lt, Int.not_le, ne_eq, gt_iff_lt, ge_iff_le] at hb') <;> (try (exfalso; omega))) | (refine altW.of ?_ ?_)
    exact .here ⟨hFrJ, .inl ⟨hneg2, rfl, hW1⟩⟩
  · rw [hkk]
    obtain ⟨hne, ⟨kw, ow, gw, cw, row, csw, rs, hN, hkw, hWc, hcw, hF, hrl, hrs, hOwn⟩, hlen⟩ := hW1
    simp only at hrl hrs hOwn hlen hN
    have hNl := (List.getElem?_eq_some_iff.1 hN).1
    have hFl := (List.getElem?_eq_some_iff.1 hF).1
    have hrk := hrs k hk
    have hfk := hok.f k
    have hwk := hw.2.1 k (by omega)
    have hwc := hcw k (by omega)
    obtain ⟨q, o, g, cs, hX⟩ := hOwn
    rcases hX.at' k hk with ⟨_, hq0⟩ | ⟨hv, hqP, hQ, hd, ho⟩
    · exact (hq hq0).elim
    · have hqJ := (List.getElem?_eq_some_iff.1 hQ).1
      have hql2 := drop_len hd ho
      have hqn : 0 < (nd.fl.getD k f0).q.length := List.length_pos_iff.2 hq
      have hqm := hql k
      have hx0 : (cs k)[o k]? = some (.int .i64 (headQ (nd.fl.getD k f0).q)) := by
        have h1 := congrArg (fun l => l[0]?) hd
        simp only [List.getElem?_drop, Nat.add_zero] at h1
        rw [h1]
        cases hl : (nd.fl.getD k f0).q with
        | nil => exact (hq hl).elim
        | cons y r => rfl
      have hdt : (cs k).drop (o k + 1) = ints (nd.fl.getD k f0).q.tail := by
        have h1 := congrArg (List.drop 1) hd
        rw [List.drop_drop] at h1
        rw [h1]
        cases hl : (nd.fl.getD k f0).q with
        | nil => exact (hq hl).elim
        | cons y r => rfl
      have htl : (nd.fl.getD k f0).q.tail.length = (nd.fl.getD k f0).q.length - 1 := List.length_tail
      have hhb := headQ_bound hfk.2.2
      have hqJL : q k ≠ J.length := fun e => by
        rw [e, hA0] at hQ
        have := congrArg (Option.map fun o : AObj => match o with | .cells _ e _ _ => e | _ => 0) hQ
        simp at this
      have hJJ : J.length ≠ J1.length := by omega
      have g0 := flat'_get (enc := Rw.cells) (s := 3) (fun _ => rfl) r0 rs k 0 (by omega) (by omega)
      simp only [Rw.cells, List.getElem?_cons_zero, Nat.add_zero, hv] at g0
      have fl1 := flatR_len rs
      rw [hrl] at fl1
      have hset : ∀ v' : Value, (flat' Rw.cells rs).set (k * 3) v' = flat' Rw.cells (rs.set k ⟨v', (rs.getD k r0).b, (rs.getD k r0).u⟩) := fun v' => by
        have := flat'_set (enc := Rw.cells) (s := 3) (fun _ => rfl) r0 (a' := ⟨v', (rs.getD k r0).b, (rs.getD k r0).u⟩) (v := v') rs k 0 (by omega) (by omega) rfl
        simpa using this
      have hget : ∀ r : Rw, (flat' Rw.cells (rs.set k r))[k * 3]? = some r.v := fun r => by
        have := flat'_get (enc := Rw.cells) (s := 3) (fun _ => rfl) r0 (rs.set k r) k 0 (by rw [List.length_set]; omega) (by omega)
        rw [getD_setR _ _ _ _ (by omega), if_pos rfl] at this
        simpa [Rw.cells] using this
      have hget2 : ∀ r : Rw, (flat' Rw.cells (rs.set k r))[k * 3 + 2]? = some (.int .i64 r.u) := fun r => by
        have := flat'_get (enc := Rw.cells) (s := 3) (fun _ => rfl) r0 (rs.set k r) k 2 (by rw [List.length_set]; omega) (by omega)
        rw [getD_setR _ _ _ _ (by omega), if_pos rfl] at this
        simpa [Rw.cells] using this
      have hgl : ∀ r : Rw, (flat' Rw.cells (rs.set k r)).length = nd.fl.length * 3 := fun r => by rw [flatR_len, List.length_set, hrl]
      have hJ1P : P < J1.length := by omega
      -- what is found after each store
      have b1 : ∀ B y, ((J1 ++ [B]).set F y)[N]? = _ := fun B y => (get_set_miss (by omega)).trans (get_old hN [B])
      have b2 : ∀ B y, ((J1 ++ [B]).set F y)[F]? = some y := fun B y => get_set_hit (get_old hF [B])
      have b3 : ∀ B y, ((J1 ++ [B]).set F y)[q k]? = _ := fun B y => (get_set_miss (by omega)).trans (get_old hQ [B])
      have b4 : ∀ B y, ((J1 ++ [B]).set F y)[J1.length]? = some B := fun B y => (get_set_miss (by omega)).trans (get_new0 J1 B [])
      have c1 : ∀ B y z, (((J1 ++ [B]).set F y).set N z)[N]? = some z := fun B y z => get_set_hit (b1 B y)
      have c2 : ∀ B y z, (((J1 ++ [B]).set F y).set N z)[F]? = some y := fun B y z => (get_set_miss (by omega)).trans (b2 B y)
      have c3 : ∀ B y z, (((J1 ++ [B]).set F y).set N z)[q k]? = _ := fun B y z => (get_set_miss (by omega)).trans (b3 B y)
      have c4 : ∀ B y z, (((J1 ++ [B]).set F y).set N z)[J1.length]? = some B := fun B y z => (get_set_miss (by omega)).trans (b4 B y)
      have c5 : ∀ B y z, (((J1 ++ [B]).set F y).set N z)[J.length]? = _ := fun B y z => (get_set_miss (by omega)).trans ((get_set_miss (by omega)).trans (get_old hA0 [B]))
      have c6 : ∀ B y z, (((J1 ++ [B]).set F y).set N z)[kw]? = _ := fun B y z => (get_set_miss (by omega)).trans ((get_set_miss (by omega)).trans (get_old hWc [B]))
      have d4 : ∀ B y z w, ((((J1 ++ [B]).set F y).set N z).set F w)[J1.length]? = some B := fun B y z w => (get_set_miss (by omega)).trans (c4 B y z)
      have d5 : ∀ B y z w, ((((J1 ++ [B]).set F y).set N z).set F w)[J.length]? = _ := fun B y z w => (get_set_miss (by omega)).trans (c5 B y z)
      have e4 : ∀ B y z w, ((((J1 ++ [B]).set F y).set N z).set J.length w)[J.length]? = some w := fun B y z w => get_set_hit (c5 B y z)
      have e5 : ∀ B y z w u, (((((J1 ++ [B]).set F y).set N z).set F w).set J.length u)[J.length]? = some u := fun B y z w u => get_set_hit (d5 B y z w)
      have hrs' : ∀ (r' : Rw) (f' : Fq), r'.b = f'.b → r'.u = f'.u → ∀ j, j < nd.fl.length → ((rs.set k r').getD j r0).b = ((nd.fl.set k f').getD j f0).b ∧ ((rs.set k r').getD j r0).u = ((nd.fl.set k f').getD j f0).u := fun r' f' h1 h2 j hj => by
        rw [getD_setR _ _ _ _ (by omega), getD_setF]
        by_cases e : k = j
        · rw [if_pos e, if_pos ⟨e, hk⟩]; exact ⟨h1, h2⟩
        · rw [if_neg e, if_neg (fun h => e h.1)]; exact hrs j hj
      have hst : ∀ (G : Heap) (r' : Rw) (f' : Fq), r'.v = slv (q k) (o k + 1) (g k) ((nd.fl.getD k f0).q.length - 1) ((nd.fl.getD k f0).q.length - 1) → f'.q = (nd.fl.getD k f0).q.tail → (∀ j, P ≤ j → j < J1.length → j ≠ J.length → G[j]? = J1[j]?) → Own P nd.fl.length (fun j => ((rs.set k r').getD j r0).v) (fun j => ((nd.fl.set k f').getD j f0).q) G := fun G r' f' h1 h2 hG => by
        have hnJ : ∀ j, j < nd.fl.length → (rs.getD j r0).v ≠ .slice none 0 0 → q j ≠ J.length := fun j hj hjn e => by
          rcases hX.at' j hj with ⟨h, _⟩ | ⟨_, _, h, _⟩
          · exact hjn h
          · rw [e, hA0] at h
            have := congrArg (Option.map fun o : AObj => match o with | .cells _ e _ _ => e | _ => 0) h
            simp at this
        refine hX.step (f := k) (q' := q k) (o' := o k + 1) (g' := g k) (cs' := cs k) (l' := (nd.fl.getD k f0).q.tail) (by rw [getD_setR _ _ _ _ (by omega), if_pos rfl, htl]; exact h1) (by rw [getD_setF, if_pos ⟨rfl, hk⟩]; exact h2) (fun j _ h => by rw [getD_setR _ _ _ _ (by omega), if_neg (Ne.symm h)]) (fun j _ h => by rw [getD_setF, if_neg (fun hh => h hh.1.symm)]) hqP (by rw [hG _ hqP hqJ hqJL]; exact hQ) hdt (by omega) (fun j hj h1 h2 => hX.inj j k hj hk h1 h2 (by rw [hv]; exact slv_ne _ _ _ _ _)) (fun j hj h1 h2 => hG _ (hX.ge hj h2) (hX.lt hj h2) (hnJ j hj h2))
      by_cases ht : (nd.fl.getD k f0).q.tail = []
      · have hl1 : (nd.fl.getD k f0).q.length - 1 = 0 := by rw [← htl, ht]; rfl
        have hout : outN ws S nd k = ⟨nd.fl.set k ⟨(nd.fl.getD k f0).q.tail, (nd.fl.getD k f0).b, (nd.fl.getD k f0).u⟩, pickT nd + headQ (nd.fl.getD k f0).q * 27720⟩ := by
          unfold outN tailF; rw [if_pos ht, ht]
        generalize hT : pickT nd = T at *
        repeat' first | simp (disch := first | with_reducible assumption | omega) only [go_sem, Bool.true_and, Bool.and_true, Bool.and_self, Bool.false_and, Bool.and_false, Bool.true_or, Bool.or_true, Bool.false_or, Bool.or_false, ↓reduceIte, Nat.reduceEqDiff, Nat.reduceAdd, Nat.reduceMul, Nat.reduceSub, Nat.reduceBEq, Nat.reduceLeDiff, Nat.reduceLT, Nat.reduceMod, Nat.reduceDiv, Int.reduceToNat, Int.reducePow, Int.reduceMul, Int.reduceAdd, Int.reduceSub, Int.reduceLE, Int.reduceLT, Int.reduceNeg, Int.reduceDiv, Int.reduceMod, Int.reduceEq, Int.reduceBEq, Int.reduceBNe, f33, f33b, f33r0, f33r1, f33r2, f33r3, f33r4, f33r5, f33r6, f33r7, f33r8, f33r9, f33r10, hN, hF, get_old hF, get_old hN, g0, hset, hget, hget2, hgl, hQ, get_old hQ, hx0, fl1, b1, b2, b3, b4, c1, c2, c3, c4, c5, e4, hl1] | (refine BrW.of (fun hb => ?_) (fun hb => ?_) <;> (have hb' := hb; try simp only [decide_eq_true_eq, decide_eq_false_iff_not, beq_iff_eq, bne_iff_ne, beq_eq_false_iff_ne, bne_eq_false_iff_eq, Bool.not_eq_true', Bool.not_eq_false', Bool.not_eq_true, Bool.not_eq_false, Bool.and_eq_true, Bool.or_eq_true, Bool.and_eq_false_iff, Bool.or_eq_false_iff, Int.not_lt, Int.not_le, ne_eq, gt_iff_lt, ge_iff_le] at hb') <;> (try (exfalso; omega))) | (refine altW.of ?_ ?_)
        refine .here ⟨⟨by simp; omega, fun j hj h1 h2 => by rw [List.getElem?_set_ne (by omega), List.getElem?_set_ne (by omega), List.getElem?_set_ne (by omega), get_app (by omega)]; exact hFrJ.2 j hj h1 h2⟩, .inr ⟨k, hk, rfl, hq, rfl, ?_⟩⟩
        rw [hout]
        exact WN.mk' hne hlen (by simp) ((get_set_miss (by omega)).trans (c1 _ _ _)) hkw ((get_set_miss (by omega)).trans (c6 _ _ _)) hcw ((get_set_miss (by omega)).trans (c2 _ _ _)) (by rw [List.length_set]; exact hrl) (hrs' _ _ hrk.1 hrk.2) (hst _ _ _ (by rw [hl1]) rfl (fun j h1 h2 h3 => by rw [List.getElem?_set_ne (by omega), List.getElem?_set_ne (by omega), List.getElem?_set_ne (by omega), get_app h2]))
      · have hl1 : 0 < (nd.fl.getD k f0).q.length - 1 := by rw [← htl]; exact List.length_pos_iff.2 ht
        have hout : outN ws S nd k = ⟨nd.fl.set k ⟨(nd.fl.getD k f0).q.tail, (rs.getD k r0).u, (rs.getD k r0).u + headQ (nd.fl.getD k f0).q.tail * (27720 / ws.getD k 0) * S⟩, pickT nd + headQ (nd.fl.getD k f0).q * 27720⟩ := by
          unfold outN tailF; rw [if_neg ht, hrk.2]; rfl
        have hx1 : (cs k)[o k + 1]? = some (.int .i64 (headQ (nd.fl.getD k f0).q.tail)) := by
          have h1 := congrArg (fun l => l[0]?) hdt
          simp only [List.getElem?_drop, Nat.add_zero] at h1
          rw [h1]
          cases hl : (nd.fl.getD k f0).q.tail with
          | nil => exact (ht hl).elim
          | cons y r => rfl
        have hhb2 := headQ_bound (l := (nd.fl.getD k f0).q.tail) (fun y hy => hfk.2.2 y (List.mem_of_mem_tail hy))
        generalize hT : pickT nd = T at *
        repeat' first | simp (disch := first | with_reducible assumption | omega) only [go_sem, Bool.true_and, Bool.and_true, Bool.and_self, Bool.false_and, Bool.and_false, Bool.true_or, Bool.or_true, Bool.false_or, Bool.or_false, ↓reduceIte, Nat.reduceEqDiff, Nat.reduceAdd, Nat.reduceMul, Nat.reduceSub, Nat.reduceBEq, Nat.reduceLeDiff, Nat.reduceLT, Nat.reduceMod, Nat.reduceDiv, Int.reduceToNat, Int.reducePow, Int.reduceMul, Int.reduceAdd, Int.reduceSub, Int.reduceLE, Int.reduceLT, Int.reduceNeg, Int.reduceDiv, Int.reduceMod, Int.reduceEq, Int.reduceBEq, Int.reduceBNe, f33, f33b, f33r0, f33r1, f33r2, f33r3, f33r4, f33r5, f33r6, f33r7, f33r8, f33r9, f33r10, hN, hF, get_old hF, get_old hN, g0, hset, hget, hget2, hgl, hQ, get_old hQ, hx0, fl1, b1, b2, b3, b4, c1, c2, c3, c4, c5, e4, hl1] | (refine BrW.of (fun hb => ?_) (fun hb => ?_) <;> (have hb' := hb; try simp only [decide_eq_true_eq, decide_eq_false_iff_not, beq_iff_eq, bne_iff_ne, beq_eq_false_iff_ne, bne_eq_false_iff_eq, Bool.not_eq_true', Bool.not_eq_false', Bool.not_eq_true, Bool.not_eq_false, Bool.and_eq_true, Bool.or_eq_true, Bool.and_eq_false_iff, Bool.or_eq_false_iff, Int.not_lt, Int.not_le, ne_eq, gt_iff_lt, ge_iff_le] at hb') <;> (try (exfalso; omega))) | (refine altW.of ?_ ?_)
        refine .of ((head_spec N F kw ow gw cw row csw ws S (T + headQ (nd.fl.getD k f0).q * 27720) (rs.getD k r0).u (headQ (nd.fl.getD k f0).q.tail) _ k (q k) (o k + 1) (g k) _ _ false (cs k) _ (by rw [List.length_set, hrl]; exact c1 _ _ _) (c2 _ _ _) (c6 _ _ _) hwc (by rw [List.length_set]; omega) (by omega) (by rw [getD_setR _ _ _ _ (by omega), if_pos rfl]) (c3 _ _ _) hx1 hl1 (by omega) (by omega) (by omega) hw.2.2 hwk hhb2 (by omega)).mono ?_)
        rintro v _ ⟨rfl, rfl⟩
        rw [List.set_set]
        repeat' first | simp (disch := first | with_reducible assumption | omega) only [go_sem, Bool.true_and, Bool.and_true, Bool.and_self, Bool.false_and, Bool.and_false, Bool.true_or, Bool.or_true, Bool.false_or, Bool.or_false, ↓reduceIte, Nat.reduceEqDiff, Nat.reduceAdd, Nat.reduceMul, Nat.reduceSub, Nat.reduceBEq, Nat.reduceLeDiff, Nat.reduceLT, Nat.reduceMod, Nat.reduceDiv, Int.reduceToNat, Int.reducePow, Int.reduceMul, Int.reduceAdd, Int.reduceSub, Int.reduceLE, Int.reduceLT, Int.reduceNeg, Int.reduceDiv, Int.reduceMod, Int.reduceEq, Int.reduceBEq, Int.reduceBNe, f33, f33b, f33r0, f33r1, f33r2, f33r3, f33r4, f33r5, f33r6, f33r7, f33r8, f33r9, f33r10, d4, d5, e5] | (refine BrW.of (fun hb => ?_) (fun hb => ?_) <;> (have hb' := hb; try simp only [decide_eq_true_eq, decide_eq_false_iff_not, beq_iff_eq, bne_iff_ne, beq_eq_false_iff_ne, bne_eq_false_iff_eq, Bool.not_eq_true', Bool.not_eq_false', Bool.not_eq_true, Bool.not_eq_false, Bool.and_eq_true, Bool.or_eq_true, Bool.and_eq_false_iff, Bool.or_eq_false_iff, Int.not_lt, Int.not_le, ne_eq, gt_iff_lt, ge_iff_le] at hb') <;> (try (exfalso; omega))) | (refine altW.of ?_ ?_)
        refine .here ⟨⟨by simp; omega, fun j hj h1 h2 => by rw [List.getElem?_set_ne (by omega), List.getElem?_set_ne (by omega), List.getElem?_set_ne (by omega), List.getElem?_set_ne (by omega), get_app (by omega)]; exact hFrJ.2 j hj h1 h2⟩, .inr ⟨k, hk, rfl, hq, rfl, ?_⟩⟩
        rw [hout]
        have c2' : ∀ B y z w, ((((J1 ++ [B]).set F y).set N z).set F w)[F]? = some w := fun B y z w => get_set_hit (c2 B y z)
        exact WN.mk' hne hlen (by simp) ((get_set_miss (by omega)).trans ((get_set_miss (by omega)).trans (c1 _ _ _))) hkw ((get_set_miss (by omega)).trans ((get_set_miss (by omega)).trans (c6 _ _ _))) hcw ((get_set_miss (by omega)).trans (c2' _ _ _ _)) (by rw [List.length_set]; exact hrl) (hrs' _ _ rfl rfl) (hst _ _ _ rfl rfl (fun j h1 h2 h3 => by rw [List.getElem?_set_ne (by omega), List.getElem?_set_ne (by omega), List.getElem?_set_ne (by omega), List.getElem?_set_ne (by omega), get_app h2]))


theorem WN.set {P N F : Nat} {ws : List Int} {Sm : Int} {nd : Nd} {J : Heap} (h : WN P N F ws Sm nd J) {j : Nat} (y : AObj) (h1 : F < j) (h2 : j < P) (h3 : j ≠ N) : WN P N F ws Sm nd (J.set j y) := by
  obtain ⟨hne, ⟨kw, ow, gw, cw, row, csw, rs, hN, hkw, hWc, hcw, hF, hrl, hrs, hOwn⟩, hlen⟩ := h
  exact ⟨hne, ⟨kw, ow, gw, cw, row, csw, rs, (get_set_miss (by omega)).trans hN, hkw, (get_set_miss (by omega)).trans hWc, hcw, (get_set_miss (by omega)).trans hF, hrl, hrs, hOwn.agree fun k hk o ho => (get_set_miss (by omega)).trans ho⟩, hlen⟩
theorem le_of {H J : Heap} (hl : H.length ≤ J.length) (h : ∀ j, j < H.length → J[j]? = H[j]?) : Le H J := by
  refine ⟨J.drop H.length, ?_⟩
  conv => lhs; rw [← List.take_append_drop H.length J]
  congr 1
  refine List.ext_getElem? fun i => ?_
  by_cases hi : i < H.length
  · rw [List.getElem?_take_of_lt hi, h i hi]
  · rw [List.getElem?_eq_none (by simp; omega), List.getElem?_eq_none (by omega)]
/-- What a round of the loop keeps. -/
structure Rd8 (H : Heap) (ws : List Int) (Sm : Int) (r : Rn) (ge gt : Nat) (J : Heap) : Prop where
  wn : WN (H.length + 4) (H.length + 1) H.length ws Sm r.nd J
  e : J[H.length + 2]? = some (.cells ge 1 false (ints r.errs))
  t : J[H.length + 3]? = some (.cells gt 2 false (flat' S.cells r.sent))
  old : ∀ j, j < H.length → J[j]? = H[j]?
  len : H.length + 4 ≤ J.length
theorem Rd8.app {H : Heap} {ws : List Int} {Sm : Int} {r : Rn} {ge gt : Nat} {J : Heap} (h : Rd8 H ws Sm r ge gt J) (X : Heap) : Rd8 H ws Sm r ge gt (J ++ X) :=
  ⟨h.wn.app X, get_old h.e X, get_old h.t X, fun j hj => (get_app (by have := h.len; omega) X).trans (h.old j hj), by have := h.len; simp; omega⟩
theorem Rd8.setE {H : Heap} {ws : List Int} {Sm : Int} {r : Rn} {ge gt ge' : Nat} {J : Heap} (h : Rd8 H ws Sm r ge gt J) (l : List Int) : Rd8 H ws Sm ⟨l, r.sent, r.nd⟩ ge' gt (J.set (H.length + 2) (.cells ge' 1 false (ints l))) :=
  ⟨h.wn.set _ (by omega) (by omega) (by omega), get_set_hit h.e, (get_set_miss (by omega)).trans h.t, fun j hj => (get_set_miss (by omega)).trans (h.old j hj), by simpa using h.len⟩
theorem Rd8.setT {H : Heap} {ws : List Int} {Sm : Int} {r : Rn} {ge gt gt' : Nat} {J : Heap} (h : Rd8 H ws Sm r ge gt J) (l : List S) : Rd8 H ws Sm ⟨r.errs, l, r.nd⟩ ge gt' (J.set (H.length + 3) (.cells gt' 2 false (flat' S.cells l))) :=
  ⟨h.wn.set _ (by omega) (by omega) (by omega), (get_set_miss (by omega)).trans h.e, get_set_hit h.t, fun j hj => (get_set_miss (by omega)).trans (h.old j hj), by simpa using h.len⟩
theorem Rd8.go {H : Heap} {ws : List Int} {Sm : Int} {r : Rn} {ge gt : Nat} {J J' : Heap} {nd' : Nd} (h : Rd8 H ws Sm r ge gt J) (hw : WN (H.length + 4) (H.length + 1) H.length ws Sm nd' J') (hf : Fr (H.length + 4) (H.length + 1) H.length J J') : Rd8 H ws Sm ⟨r.errs, r.sent, nd'⟩ ge gt J' :=
  ⟨hw, (hf.2 _ (by omega) (by omega) (by omega)).trans h.e, (hf.2 _ (by omega) (by omega) (by omega)).trans h.t, fun j hj => (hf.2 j (by omega) (by omega) (by omega)).trans (h.old j hj), Nat.le_trans h.len hf.1⟩
theorem nils3_flat (n : Nat) : (List.replicate n [Value.slice none 0 0, .int .i64 0, .int .i64 0]).flatten = flat' Rw.cells (List.replicate n r0) := by
  induction n with
  | zero => rfl
  | succ n ih => simp only [List.replicate_succ, List.flatten_cons, ih]; rfl

theorem Play_spec (ws : List Int) (ops : List Op) (ww wo : Value) (A : Nat → Prop) (H : Heap) (hw0 : IsN A H ww ws) (ho0 : IsO A H wo ops) (hwl : ws.length ≤ 9223372036854775807) (hol : ops.length ≤ 9223372036854775807) :
    ACallK Tryd.prog 17 [ww, wo] H (fun v H' => ∃ a b c e, v = .tuple #[a, b, c, .int .i64 e] ∧ Le H H' ∧ (e = 0 ↔ (ws.length ≤ 16 ∧ ∀ k, k < ws.length → 1 ≤ ws.getD k 0 ∧ ws.getD k 0 ≤ 12) ∧ ops.length ≤ 400) ∧ (e ≠ 0 → b = .slice none 0 0 ∧ e = 2) ∧
      (e = 0 → IsN (fun _ => True) H' a (runR ws ws.sum ops).errs ∧ IsS (fun _ => True) H' b (runR ws ws.sum ops).sent ∧ IsN (fun _ => True) H' c ((runR ws ws.sum ops).nd.fl.map fun f => (f.q.length : Int)))) := by
  have hW := Wrong_spec ws ww A H hw0 hwl
  have hw1 := hw0.old
  obtain ⟨kw, ow, gw, cw, _, rfl, hs, hc⟩ := hw0
  obtain ⟨ro, cs, hk, hcl, hcs⟩ := Ints.cell hs
  obtain ⟨ko, oo, go, co, _, rfl, hso, hco⟩ := ho0
  obtain ⟨roo, cso, hko, q2, q3⟩ := hso.at'
  have hld := fun i hi => Tbl.ld (enc := Op.cells) (s := 3) (fun _ => rfl) q3 i hi
  refine .walkW f17_ok (by simp; decide) (by decide) ?_
  by_cases hok : ws.length ≤ 16 ∧ ∀ k, k < ws.length → 1 ≤ ws.getD k 0 ∧ ws.getD k 0 ≤ 12
  · by_cases h400 : ops.length ≤ 400
    · repeat' first | simp (disch := first | with_reducible assumption | omega) only [go_sem, Bool.true_and, Bool.and_true, Bool.and_self, Bool.false_and, Bool.and_false, Bool.true_or, Bool.or_true, Bool.false_or, Bool.or_false, ↓reduceIte, Nat.reduceEqDiff, Nat.reduceAdd, Nat.reduceMul, Nat.reduceSub, Nat.reduceBEq, Nat.reduceLeDiff, Nat.reduceLT, Nat.reduceMod, Nat.reduceDiv, Int.reduceToNat, Int.reducePow, Int.reduceMul, Int.reduceAdd, Int.reduceSub, Int.reduceLE, Int.reduceLT, Int.reduceNeg, Int.reduceDiv, Int.reduceMod, Int.reduceEq, Int.reduceBEq, Int.reduceBNe, f17, f17b, f17r0, f17r1, f17r2, f17r3, f17r4, f17r5, f17r6, f17r7, f17r8, f17r9, f17r10, f17r11, f17r13, f17r14, f17r15, f17r16, f17r17, f17r18, f17r19, f17r20, f17r21, f17r22, f17r23, f17r24, f17r25, f17r26, f17r27, f17r28, f17r29, f17r30, f17r31, f17r32, f17r34, f17r35, f17r36, f17r37, f17r38, f17r39, f17r41, hk, hko, get_old hk] | (refine BrW.of (fun hb => ?_) (fun hb => ?_) <;> (have hb' := hb; try simp only [decide_eq_true_eq, decide_eq_false_iff_not, beq_iff_eq, bne_iff_ne, beq_eq_false_iff_ne, bne_eq_false_iff_eq, Bool.not_eq_true', Bool.not_eq_false', Bool.not_eq_true, Bool.not_eq_false, Bool.and_eq_true, Bool.or_eq_true, Bool.and_eq_false_iff, Bool.or_eq_false_iff, Int.not_lt, Int.not_le, ne_eq, gt_iff_lt, ge_iff_le] at hb') <;> (try (exfalso; omega))) | (refine altW.of ?_ ?_) | (refine .of (hW.mono ?_); rintro v H ⟨e, rfl, he, he2, rfl⟩; obtain rfl := he.2 hok; clear he2)
      have n3 := nils3_flat ws.length
      rw [n3]
      have hkl := (List.getElem?_eq_some_iff.1 hk).1
      have hkol := (List.getElem?_eq_some_iff.1 hko).1
      have hn16 := hok.1
      have hsb : ∀ i, i ≤ ws.length → 0 ≤ (ws.take i).sum ∧ (ws.take i).sum ≤ 12 * i := fun i => by
        induction i with
        | zero => intro _; simp
        | succ i ih =>
          intro hi
          have := ih (by omega)
          have h2 := hok.2 i (by omega)
          have h3 : (ws.take (i + 1)).sum = (ws.take i).sum + ws.getD i 0 := by rw [take_snoc 0 ws i (by omega)]; simp
          omega
      refine loopW.of (by decide) (fun m e J => ∃ (i : Nat), e = [(0, slv kw ow gw ws.length cw), (1, slv ko oo go ops.length co), (9, .pointer (some ⟨H.length + 1, 0, some 1⟩)), (36, slv kw ow gw ws.length cw), (37, .int .i64 ws.length), (38, .int .i64 i)] ∧
        J = H ++ [.cells 0 3 false (flat' Rw.cells (List.replicate ws.length r0)), .cells 0 0 false [slv kw ow gw ws.length cw, slv H.length 0 0 ws.length ws.length, .int .i64 (ws.take i).sum, .int .i64 0]] ∧ i ≤ ws.length ∧ m = ws.length - i) ws.length ⟨0, rfl, rfl, by omega, rfl⟩ ?_
      rintro m e J ⟨i, rfl, rfl, hi, rfl⟩
      by_cases hlt : i < ws.length
      · have e0 := hcs i hlt
        have hb0 := hsb i (by omega)
        have hx := hok.2 i hlt
        have h3 : (ws.take (i + 1)).sum = (ws.take i).sum + ws.getD i 0 := by rw [take_snoc 0 ws i hlt]; simp
        clear hsb hcs hld
        generalize (ws.take i).sum = Z at *
        generalize ws.getD i 0 = x at *
        repeat' first | simp (disch := first | with_reducible assumption | omega) only [go_sem, Bool.true_and, Bool.and_true, Bool.and_self, Bool.false_and, Bool.and_false, Bool.true_or, Bool.or_true, Bool.false_or, Bool.or_false, ↓reduceIte, Nat.reduceEqDiff, Nat.reduceAdd, Nat.reduceMul, Nat.reduceSub, Nat.reduceBEq, Nat.reduceLeDiff, Nat.reduceLT, Nat.reduceMod, Nat.reduceDiv, Int.reduceToNat, Int.reducePow, Int.reduceMul, Int.reduceAdd, Int.reduceSub, Int.reduceLE, Int.reduceLT, Int.reduceNeg, Int.reduceDiv, Int.reduceMod, Int.reduceEq, Int.reduceBEq, Int.reduceBNe, f17, f17b, f17r0, f17r1, f17r2, f17r3, f17r4, f17r5, f17r6, f17r7, f17r8, f17r9, f17r10, f17r11, f17r13, f17r14, f17r15, f17r16, f17r17, f17r18, f17r19, f17r20, f17r21, f17r22, f17r23, f17r24, f17r25, f17r26, f17r27, f17r28, f17r29, f17r30, f17r31, f17r32, f17r34, f17r35, f17r36, f17r37, f17r38, f17r39, f17r41, f17l0, hk, get_old hk, e0] | (refine BrW.of (fun hb => ?_) (fun hb => ?_) <;> (have hb' := hb; try simp only [decide_eq_true_eq, decide_eq_false_iff_not, beq_iff_eq, bne_iff_ne, beq_eq_false_iff_ne, bne_eq_false_iff_eq, Bool.not_eq_true', Bool.not_eq_false', Bool.not_eq_true, Bool.not_eq_false, Bool.and_eq_true, Bool.or_eq_true, Bool.and_eq_false_iff, Bool.or_eq_false_iff, Int.not_lt, Int.not_le, ne_eq, gt_iff_lt, ge_iff_le] at hb') <;> (try (exfalso; omega))) | (refine altW.of ?_ ?_)
        refine RdW.keep [0, 1, 9, 36, 37, 38] (ws.length - (i + 1)) (by omega) ?_
        simp (disch := first | with_reducible assumption | omega) only [go_sem, Bool.true_and, Bool.and_true, Bool.and_self, Bool.false_and, Bool.and_false, Bool.true_or, Bool.or_true, Bool.false_or, Bool.or_false, ↓reduceIte, Nat.reduceEqDiff, Nat.reduceAdd, Nat.reduceMul, Nat.reduceSub, Nat.reduceBEq, Nat.reduceLeDiff, Nat.reduceLT, Nat.reduceMod, Nat.reduceDiv, Int.reduceToNat, Int.reducePow, Int.reduceMul, Int.reduceAdd, Int.reduceSub, Int.reduceLE, Int.reduceLT, Int.reduceNeg, Int.reduceDiv, Int.reduceMod, Int.reduceEq, Int.reduceBEq, Int.reduceBNe]
        exact ⟨i + 1, rfl, by rw [h3], by omega, rfl⟩
      · obtain rfl : i = ws.length := by omega
        have hb0 := hsb ws.length (Nat.le_refl _)
        rw [List.take_length] at hb0 ⊢
        have hokw : okW ws ws.sum := ⟨hok.1, hok.2, by omega⟩
        generalize hSm : ws.sum = Sm at *
        repeat' first | simp (disch := first | with_reducible assumption | omega) only [go_sem, Bool.true_and, Bool.and_true, Bool.and_self, Bool.false_and, Bool.and_false, Bool.true_or, Bool.or_true, Bool.false_or, Bool.or_false, ↓reduceIte, Nat.reduceEqDiff, Nat.reduceAdd, Nat.reduceMul, Nat.reduceSub, Nat.reduceBEq, Nat.reduceLeDiff, Nat.reduceLT, Nat.reduceMod, Nat.reduceDiv, Int.reduceToNat, Int.reducePow, Int.reduceMul, Int.reduceAdd, Int.reduceSub, Int.reduceLE, Int.reduceLT, Int.reduceNeg, Int.reduceDiv, Int.reduceMod, Int.reduceEq, Int.reduceBEq, Int.reduceBNe, f17, f17b, f17r0, f17r1, f17r2, f17r3, f17r4, f17r5, f17r6, f17r7, f17r8, f17r9, f17r10, f17r11, f17r13, f17r14, f17r15, f17r16, f17r17, f17r18, f17r19, f17r20, f17r21, f17r22, f17r23, f17r24, f17r25, f17r26, f17r27, f17r28, f17r29, f17r30, f17r31, f17r32, f17r34, f17r35, f17r36, f17r37, f17r38, f17r39, f17r41, f17l0, f17, f17b, f17r0, f17r1, f17r2, f17r3, f17r4, f17r5, f17r6, f17r7, f17r8, f17r9, f17r10, f17r11, f17r13, f17r14, f17r15, f17r16, f17r17, f17r18, f17r19, f17r20, f17r21, f17r22, f17r23, f17r24, f17r25, f17r26, f17r27, f17r28, f17r29, f17r30, f17r31, f17r32, f17r34, f17r35, f17r36, f17r37, f17r38, f17r39, f17r41, hko, get_old hko] | (refine BrW.of (fun hb => ?_) (fun hb => ?_) <;> (have hb' := hb; try simp only [decide_eq_true_eq, decide_eq_false_iff_not, beq_iff_eq, bne_iff_ne, beq_eq_false_iff_ne, bne_eq_false_iff_eq, Bool.not_eq_true', Bool.not_eq_false', Bool.not_eq_true, Bool.not_eq_false, Bool.and_eq_true, Bool.or_eq_true, Bool.and_eq_false_iff, Bool.or_eq_false_iff, Int.not_lt, Int.not_le, ne_eq, gt_iff_lt, ge_iff_le] at hb') <;> (try (exfalso; omega))) | (refine altW.of ?_ ?_)
        refine loopW.ghost 12 1 rfl ?_
        simp (disch := first | with_reducible assumption | omega) only [go_sem, Bool.true_and, Bool.and_true, Bool.and_self, Bool.false_and, Bool.and_false, Bool.true_or, Bool.or_true, Bool.false_or, Bool.or_false, ↓reduceIte, Nat.reduceEqDiff, Nat.reduceAdd, Nat.reduceMul, Nat.reduceSub, Nat.reduceBEq, Nat.reduceLeDiff, Nat.reduceLT, Nat.reduceMod, Nat.reduceDiv, Int.reduceToNat, Int.reducePow, Int.reduceMul, Int.reduceAdd, Int.reduceSub, Int.reduceLE, Int.reduceLT, Int.reduceNeg, Int.reduceDiv, Int.reduceMod, Int.reduceEq, Int.reduceBEq, Int.reduceBNe]
        refine loopW.ghost 13 2 rfl ?_
        simp (disch := first | with_reducible assumption | omega) only [go_sem, Bool.true_and, Bool.and_true, Bool.and_self, Bool.false_and, Bool.and_false, Bool.true_or, Bool.or_true, Bool.false_or, Bool.or_false, ↓reduceIte, Nat.reduceEqDiff, Nat.reduceAdd, Nat.reduceMul, Nat.reduceSub, Nat.reduceBEq, Nat.reduceLeDiff, Nat.reduceLT, Nat.reduceMod, Nat.reduceDiv, Int.reduceToNat, Int.reducePow, Int.reduceMul, Int.reduceAdd, Int.reduceSub, Int.reduceLE, Int.reduceLT, Int.reduceNeg, Int.reduceDiv, Int.reduceMod, Int.reduceEq, Int.reduceBEq, Int.reduceBNe]
        have hkF : kw < H.length := hkl
        have hst : Rd8 H ws Sm (runR ws Sm (ops.take 0)) 0 0 (H ++ [.cells 0 3 false (flat' Rw.cells (List.replicate ws.length r0)), .cells 0 0 false [slv kw ow gw ws.length cw, slv H.length 0 0 ws.length ws.length, .int .i64 Sm, .int .i64 0], .cells 0 1 false [], .cells 0 2 false []]) := by
          refine ⟨⟨by omega, ⟨kw, ow, gw, cw, ro, cs, List.replicate ws.length r0, ?_, hkF, get_old hk _, hcs, ?_, by simp [runR, startR], fun k hk => ?_, ?_⟩, by simp [runR, startR]⟩, ?_, ?_, fun j hj => get_app hj _, by simp⟩
          · rw [get_new]; simp [runR, startR]
          · rw [get_new0]
          · simp only [runR, List.take_zero, List.foldl_nil, startR, List.length_replicate, List.getD_eq_getElem?_getD, List.getElem?_replicate] at hk ⊢
            rw [if_pos hk, if_pos hk]
            exact ⟨rfl, rfl⟩
          · simp only [runR, List.take_zero, List.foldl_nil, startR]
            refine (Own.nil _ _ _ (fun k hk => ?_)).cong (fun _ _ => rfl) (fun k hk => ?_)
            · simp only [List.length_replicate, List.getD_eq_getElem?_getD, List.getElem?_replicate] at hk ⊢; rw [if_pos hk]; rfl
            · simp only [List.length_replicate, List.getD_eq_getElem?_getD, List.getElem?_replicate] at hk ⊢; rw [if_pos hk]; rfl
          · rw [get_new]; rfl
          · rw [get_new]; rfl
        refine loopW.of (by decide) (fun m e J => ∃ (i ge gt : Nat), e = [(0, slv kw ow gw ws.length cw), (9, .pointer (some ⟨H.length + 1, 0, some 1⟩)), (12, slv (H.length + 2) 0 ge i i), (13, slv (H.length + 3) 0 gt (runR ws Sm (ops.take i)).sent.length (runR ws Sm (ops.take i)).sent.length), (51, slv ko oo go ops.length co), (52, .int .i64 ops.length), (53, .int .i64 i)] ∧
          Rd8 H ws Sm (runR ws Sm (ops.take i)) ge gt J ∧ i ≤ ops.length ∧ m = ops.length - i) ops.length ⟨0, 0, 0, rfl, hst, by omega, rfl⟩ ?_
        rintro m e J ⟨i, ge, gt, rfl, hR, hi, rfl⟩
        have hkJ : J[kw]? = _ := (hR.old kw hkF).trans hk
        have hkoJ : J[ko]? = _ := (hR.old ko hkol).trans hko
        by_cases hlt : i < ops.length
        · have hR2 := run_okN hokw ops i
          have hql := run_qlen ws Sm ops i
          have hln := run_lens ws Sm (ops.take i)
          have htl : (ops.take i).length = i := by rw [List.length_take]; omega
          rw [htl] at hln
          have hsn : runR ws Sm (ops.take (i + 1)) = stepR ws Sm (runR ws Sm (ops.take i)) (ops.getD i o0) := by rw [take_snoc o0 ops i hlt, runR_snoc]
          have x0 := q3 i hlt 0 (by omega)
          have x1 := q3 i hlt 1 (by omega)
          have x2 := q3 i hlt 2 (by omega)
          simp only [Op.cells, List.getElem?_cons_zero, List.getElem?_cons_succ, Nat.add_zero, show oo + i * 3 + 2 = oo + i * 3 + 1 + 1 by omega] at x0 x1 x2
          have hMi : 8000000000 * (i : Int) ≤ 1000000000000000 := by omega
          generalize ops.getD i o0 = o at *
          generalize 8000000000 * (i : Int) = M at *
          generalize runR ws Sm (ops.take i) = r at *
          clear hst hld hcs q3
          have ic := ints_length r.errs
          have it := ints_take r.errs i (by omega)
          have isn := fun x => ints_snoc r.errs x
          have fl := flatS_len r.sent
          have ft := flatS_take r.sent
          have hni : ¬ i + 1 ≤ i := by omega
          have hni2 : ¬ r.sent.length + 1 ≤ r.sent.length := by omega
          have hJl := hR.len
          rw [hln.1] at ic
          have hst2 := hsn
          unfold stepR at hst2
          by_cases h2 : o.k = 2
          · rw [if_pos h2] at hst2
            repeat' first | simp (disch := first | with_reducible assumption | omega) only [go_sem, Bool.true_and, Bool.and_true, Bool.and_self, Bool.false_and, Bool.and_false, Bool.true_or, Bool.or_true, Bool.false_or, Bool.or_false, ↓reduceIte, Nat.reduceEqDiff, Nat.reduceAdd, Nat.reduceMul, Nat.reduceSub, Nat.reduceBEq, Nat.reduceLeDiff, Nat.reduceLT, Nat.reduceMod, Nat.reduceDiv, Int.reduceToNat, Int.reducePow, Int.reduceMul, Int.reduceAdd, Int.reduceSub, Int.reduceLE, Int.reduceLT, Int.reduceNeg, Int.reduceDiv, Int.reduceMod, Int.reduceEq, Int.reduceBEq, Int.reduceBNe, f17, f17b, f17r0, f17r1, f17r2, f17r3, f17r4, f17r5, f17r6, f17r7, f17r8, f17r9, f17r10, f17r11, f17r13, f17r14, f17r15, f17r16, f17r17, f17r18, f17r19, f17r20, f17r21, f17r22, f17r23, f17r24, f17r25, f17r26, f17r27, f17r28, f17r29, f17r30, f17r31, f17r32, f17r34, f17r35, f17r36, f17r37, f17r38, f17r39, f17r41, f17l1, hkoJ, get_old hkoJ, x0, x1, x2] | (refine BrW.of (fun hb => ?_) (fun hb => ?_) <;> (have hb' := hb; try simp only [decide_eq_true_eq, decide_eq_false_iff_not, beq_iff_eq, bne_iff_ne, beq_eq_false_iff_ne, bne_eq_false_iff_eq, Bool.not_eq_true', Bool.not_eq_false', Bool.not_eq_true, Bool.not_eq_false, Bool.and_eq_true, Bool.or_eq_true, Bool.and_eq_false_iff, Bool.or_eq_false_iff, Int.not_lt, Int.not_le, ne_eq, gt_iff_lt, ge_iff_le] at hb') <;> (try (exfalso; omega))) | (refine altW.of ?_ ?_)
            have hR1 := hR.app [.cells 0 0 false [.int .i64 o.k, .int .i64 o.f, .int .i64 o.b]]
            refine .of ((out_spec _ _ _ ws Sm M r.nd _ hR1.wn hR2 (by omega) hokw (fun k => by have := hql k; omega) (by simp; omega)).mono ?_)
            rintro v J1 ⟨hF1, (⟨hneg, rfl, hW1⟩ | ⟨k, hkn, hpk, hq, rfl, hW1⟩)⟩
            · have hR3 := hR1.go hW1 hF1
              rw [if_pos hneg] at hst2
              have h1 := hR3.e
              have h2 := hR3.t
              simp only at h1 h2
              repeat' first | simp (disch := first | with_reducible assumption | omega) only [go_sem, Bool.true_and, Bool.and_true, Bool.and_self, Bool.false_and, Bool.and_false, Bool.true_or, Bool.or_true, Bool.false_or, Bool.or_false, ↓reduceIte, Nat.reduceEqDiff, Nat.reduceAdd, Nat.reduceMul, Nat.reduceSub, Nat.reduceBEq, Nat.reduceLeDiff, Nat.reduceLT, Nat.reduceMod, Nat.reduceDiv, Int.reduceToNat, Int.reducePow, Int.reduceMul, Int.reduceAdd, Int.reduceSub, Int.reduceLE, Int.reduceLT, Int.reduceNeg, Int.reduceDiv, Int.reduceMod, Int.reduceEq, Int.reduceBEq, Int.reduceBNe, f17, f17b, f17r0, f17r1, f17r2, f17r3, f17r4, f17r5, f17r6, f17r7, f17r8, f17r9, f17r10, f17r11, f17r13, f17r14, f17r15, f17r16, f17r17, f17r18, f17r19, f17r20, f17r21, f17r22, f17r23, f17r24, f17r25, f17r26, f17r27, f17r28, f17r29, f17r30, f17r31, f17r32, f17r34, f17r35, f17r36, f17r37, f17r38, f17r39, f17r41, get_old h1, get_old h2, ic, it, isn, hni] | (refine BrW.of (fun hb => ?_) (fun hb => ?_) <;> (have hb' := hb; try simp only [decide_eq_true_eq, decide_eq_false_iff_not, beq_iff_eq, bne_iff_ne, beq_eq_false_iff_ne, bne_eq_false_iff_eq, Bool.not_eq_true', Bool.not_eq_false', Bool.not_eq_true, Bool.not_eq_false, Bool.and_eq_true, Bool.or_eq_true, Bool.and_eq_false_iff, Bool.or_eq_false_iff, Int.not_lt, Int.not_le, ne_eq, gt_iff_lt, ge_iff_le] at hb') <;> (try (exfalso; omega))) | (refine altW.of ?_ ?_)
              refine RdW.keep [0, 9, 12, 13, 51, 52, 53] (ops.length - (i + 1)) (by omega) ?_
              simp (disch := first | with_reducible assumption | omega) only [go_sem, Bool.true_and, Bool.and_true, Bool.and_self, Bool.false_and, Bool.and_false, Bool.true_or, Bool.or_true, Bool.false_or, Bool.or_false, ↓reduceIte, Nat.reduceEqDiff, Nat.reduceAdd, Nat.reduceMul, Nat.reduceSub, Nat.reduceBEq, Nat.reduceLeDiff, Nat.reduceLT, Nat.reduceMod, Nat.reduceDiv, Int.reduceToNat, Int.reducePow, Int.reduceMul, Int.reduceAdd, Int.reduceSub, Int.reduceLE, Int.reduceLT, Int.reduceNeg, Int.reduceDiv, Int.reduceMod, Int.reduceEq, Int.reduceBEq, Int.reduceBNe]
              refine ⟨i + 1, ge + 1, gt, by rw [hst2]; simp, ?_, by omega, rfl⟩
              rw [hst2]
              exact (hR3.app _).setE _
            · have hR3 := hR1.go hW1 hF1
              rw [if_neg (by omega), hpk, Int.toNat_natCast] at hst2
              have h1 := hR3.e
              have h2 := hR3.t
              simp only at h1 h2
              generalize headQ (r.nd.fl.getD k f0).q = x at *
              have fs := flatS_snoc r.sent ⟨k, x⟩
              have nE : ∀ X y Z, ((J1 ++ X).set (H.length + 3) y ++ Z)[H.length + 2]? = _ := fun X y Z => get_old ((get_set_miss (by omega)).trans (get_old h1 X)) Z
              repeat' first | simp (disch := first | with_reducible assumption | omega) only [go_sem, Bool.true_and, Bool.and_true, Bool.and_self, Bool.false_and, Bool.and_false, Bool.true_or, Bool.or_true, Bool.false_or, Bool.or_false, ↓reduceIte, Nat.reduceEqDiff, Nat.reduceAdd, Nat.reduceMul, Nat.reduceSub, Nat.reduceBEq, Nat.reduceLeDiff, Nat.reduceLT, Nat.reduceMod, Nat.reduceDiv, Int.reduceToNat, Int.reducePow, Int.reduceMul, Int.reduceAdd, Int.reduceSub, Int.reduceLE, Int.reduceLT, Int.reduceNeg, Int.reduceDiv, Int.reduceMod, Int.reduceEq, Int.reduceBEq, Int.reduceBNe, f17, f17b, f17r0, f17r1, f17r2, f17r3, f17r4, f17r5, f17r6, f17r7, f17r8, f17r9, f17r10, f17r11, f17r13, f17r14, f17r15, f17r16, f17r17, f17r18, f17r19, f17r20, f17r21, f17r22, f17r23, f17r24, f17r25, f17r26, f17r27, f17r28, f17r29, f17r30, f17r31, f17r32, f17r34, f17r35, f17r36, f17r37, f17r38, f17r39, f17r41, get_old h1, get_old h2, nE, ic, it, isn, hni, fl, ft, fs, hni2] | (refine BrW.of (fun hb => ?_) (fun hb => ?_) <;> (have hb' := hb; try simp only [decide_eq_true_eq, decide_eq_false_iff_not, beq_iff_eq, bne_iff_ne, beq_eq_false_iff_ne, bne_eq_false_iff_eq, Bool.not_eq_true', Bool.not_eq_false', Bool.not_eq_true, Bool.not_eq_false, Bool.and_eq_true, Bool.or_eq_true, Bool.and_eq_false_iff, Bool.or_eq_false_iff, Int.not_lt, Int.not_le, ne_eq, gt_iff_lt, ge_iff_le] at hb') <;> (try (exfalso; omega))) | (refine altW.of ?_ ?_)
              refine RdW.keep [0, 9, 12, 13, 51, 52, 53] (ops.length - (i + 1)) (by omega) ?_
              simp (disch := first | with_reducible assumption | omega) only [go_sem, Bool.true_and, Bool.and_true, Bool.and_self, Bool.false_and, Bool.and_false, Bool.true_or, Bool.or_true, Bool.false_or, Bool.or_false, ↓reduceIte, Nat.reduceEqDiff, Nat.reduceAdd, Nat.reduceMul, Nat.reduceSub, Nat.reduceBEq, Nat.reduceLeDiff, Nat.reduceLT, Nat.reduceMod, Nat.reduceDiv, Int.reduceToNat, Int.reducePow, Int.reduceMul, Int.reduceAdd, Int.reduceSub, Int.reduceLE, Int.reduceLT, Int.reduceNeg, Int.reduceDiv, Int.reduceMod, Int.reduceEq, Int.reduceBEq, Int.reduceBNe]
              refine ⟨i + 1, ge + 1, gt + 1, by rw [hst2]; simp, ?_, by omega, rfl⟩
              rw [hst2]
              exact (((hR3.app _).setT _).app _).setE _
          · rw [if_neg h2] at hst2
            have h1' := hR.e
            have hR1 := hR.app [.cells 0 0 false [.int .i64 o.k, .int .i64 o.f, .int .i64 o.b]]
            by_cases h1 : o.k = 1
            · rw [if_neg (by omega)] at hst2
              by_cases h3 : o.f < 0 ∨ (ws.length : Int) ≤ o.f
              · rw [if_pos h3] at hst2
                repeat' first | simp (disch := first | with_reducible assumption | omega) only [go_sem, Bool.true_and, Bool.and_true, Bool.and_self, Bool.false_and, Bool.and_false, Bool.true_or, Bool.or_true, Bool.false_or, Bool.or_false, ↓reduceIte, Nat.reduceEqDiff, Nat.reduceAdd, Nat.reduceMul, Nat.reduceSub, Nat.reduceBEq, Nat.reduceLeDiff, Nat.reduceLT, Nat.reduceMod, Nat.reduceDiv, Int.reduceToNat, Int.reducePow, Int.reduceMul, Int.reduceAdd, Int.reduceSub, Int.reduceLE, Int.reduceLT, Int.reduceNeg, Int.reduceDiv, Int.reduceMod, Int.reduceEq, Int.reduceBEq, Int.reduceBNe, f17, f17b, f17r0, f17r1, f17r2, f17r3, f17r4, f17r5, f17r6, f17r7, f17r8, f17r9, f17r10, f17r11, f17r13, f17r14, f17r15, f17r16, f17r17, f17r18, f17r19, f17r20, f17r21, f17r22, f17r23, f17r24, f17r25, f17r26, f17r27, f17r28, f17r29, f17r30, f17r31, f17r32, f17r34, f17r35, f17r36, f17r37, f17r38, f17r39, f17r41, f17l1, hkoJ, get_old hkoJ, get_old hkJ, x0, x1, x2, get_old h1', ic, it, isn, hni] | (refine BrW.of (fun hb => ?_) (fun hb => ?_) <;> (have hb' := hb; try simp only [decide_eq_true_eq, decide_eq_false_iff_not, beq_iff_eq, bne_iff_ne, beq_eq_false_iff_ne, bne_eq_false_iff_eq, Bool.not_eq_true', Bool.not_eq_false', Bool.not_eq_true, Bool.not_eq_false, Bool.and_eq_true, Bool.or_eq_true, Bool.and_eq_false_iff, Bool.or_eq_false_iff, Int.not_lt, Int.not_le, ne_eq, gt_iff_lt, ge_iff_le] at hb') <;> (try (exfalso; omega))) | (refine altW.of ?_ ?_)
                all_goals (try (exfalso; omega))
                all_goals refine RdW.keep [0, 9, 12, 13, 51, 52, 53] (ops.length - (i + 1)) (by omega) ?_
                all_goals simp (disch := first | with_reducible assumption | omega) only [go_sem, Bool.true_and, Bool.and_true, Bool.and_self, Bool.false_and, Bool.and_false, Bool.true_or, Bool.or_true, Bool.false_or, Bool.or_false, ↓reduceIte, Nat.reduceEqDiff, Nat.reduceAdd, Nat.reduceMul, Nat.reduceSub, Nat.reduceBEq, Nat.reduceLeDiff, Nat.reduceLT, Nat.reduceMod, Nat.reduceDiv, Int.reduceToNat, Int.reducePow, Int.reduceMul, Int.reduceAdd, Int.reduceSub, Int.reduceLE, Int.reduceLT, Int.reduceNeg, Int.reduceDiv, Int.reduceMod, Int.reduceEq, Int.reduceBEq, Int.reduceBNe]
                all_goals refine ⟨i + 1, ge + 1, gt, by rw [hst2]; simp, ?_, by omega, rfl⟩
                all_goals rw [hst2]
                all_goals exact (hR.app _).setE _
              · rw [if_neg h3] at hst2
                by_cases h4 : o.b < 1 ∨ 1500 < o.b
                · rw [if_pos h4] at hst2
                  repeat' first | simp (disch := first | with_reducible assumption | omega) only [go_sem, Bool.true_and, Bool.and_true, Bool.and_self, Bool.false_and, Bool.and_false, Bool.true_or, Bool.or_true, Bool.false_or, Bool.or_false, ↓reduceIte, Nat.reduceEqDiff, Nat.reduceAdd, Nat.reduceMul, Nat.reduceSub, Nat.reduceBEq, Nat.reduceLeDiff, Nat.reduceLT, Nat.reduceMod, Nat.reduceDiv, Int.reduceToNat, Int.reducePow, Int.reduceMul, Int.reduceAdd, Int.reduceSub, Int.reduceLE, Int.reduceLT, Int.reduceNeg, Int.reduceDiv, Int.reduceMod, Int.reduceEq, Int.reduceBEq, Int.reduceBNe, f17, f17b, f17r0, f17r1, f17r2, f17r3, f17r4, f17r5, f17r6, f17r7, f17r8, f17r9, f17r10, f17r11, f17r13, f17r14, f17r15, f17r16, f17r17, f17r18, f17r19, f17r20, f17r21, f17r22, f17r23, f17r24, f17r25, f17r26, f17r27, f17r28, f17r29, f17r30, f17r31, f17r32, f17r34, f17r35, f17r36, f17r37, f17r38, f17r39, f17r41, f17l1, hkoJ, get_old hkoJ, get_old hkJ, x0, x1, x2, get_old h1', ic, it, isn, hni] | (refine BrW.of (fun hb => ?_) (fun hb => ?_) <;> (have hb' := hb; try simp only [decide_eq_true_eq, decide_eq_false_iff_not, beq_iff_eq, bne_iff_ne, beq_eq_false_iff_ne, bne_eq_false_iff_eq, Bool.not_eq_true', Bool.not_eq_false', Bool.not_eq_true, Bool.not_eq_false, Bool.and_eq_true, Bool.or_eq_true, Bool.and_eq_false_iff, Bool.or_eq_false_iff, Int.not_lt, Int.not_le, ne_eq, gt_iff_lt, ge_iff_le] at hb') <;> (try (exfalso; omega))) | (refine altW.of ?_ ?_)
                  all_goals (try (exfalso; omega))
                  all_goals refine RdW.keep [0, 9, 12, 13, 51, 52, 53] (ops.length - (i + 1)) (by omega) ?_
                  all_goals simp (disch := first | with_reducible assumption | omega) only [go_sem, Bool.true_and, Bool.and_true, Bool.and_self, Bool.false_and, Bool.and_false, Bool.true_or, Bool.or_true, Bool.false_or, Bool.or_false, ↓reduceIte, Nat.reduceEqDiff, Nat.reduceAdd, Nat.reduceMul, Nat.reduceSub, Nat.reduceBEq, Nat.reduceLeDiff, Nat.reduceLT, Nat.reduceMod, Nat.reduceDiv, Int.reduceToNat, Int.reducePow, Int.reduceMul, Int.reduceAdd, Int.reduceSub, Int.reduceLE, Int.reduceLT, Int.reduceNeg, Int.reduceDiv, Int.reduceMod, Int.reduceEq, Int.reduceBEq, Int.reduceBNe]
                  all_goals refine ⟨i + 1, ge + 1, gt, by rw [hst2]; simp, ?_, by omega, rfl⟩
                  all_goals rw [hst2]
                  all_goals exact (hR.app _).setE _
                · rw [if_neg h4] at hst2
                  obtain ⟨k, hk'⟩ := Int.eq_ofNat_of_zero_le (show 0 ≤ o.f by omega)
                  rw [hk'] at x1 hst2 h3
                  rw [Int.toNat_natCast] at hst2
                  repeat' first | simp (disch := first | with_reducible assumption | omega) only [go_sem, Bool.true_and, Bool.and_true, Bool.and_self, Bool.false_and, Bool.and_false, Bool.true_or, Bool.or_true, Bool.false_or, Bool.or_false, ↓reduceIte, Nat.reduceEqDiff, Nat.reduceAdd, Nat.reduceMul, Nat.reduceSub, Nat.reduceBEq, Nat.reduceLeDiff, Nat.reduceLT, Nat.reduceMod, Nat.reduceDiv, Int.reduceToNat, Int.reducePow, Int.reduceMul, Int.reduceAdd, Int.reduceSub, Int.reduceLE, Int.reduceLT, Int.reduceNeg, Int.reduceDiv, Int.reduceMod, Int.reduceEq, Int.reduceBEq, Int.reduceBNe, f17, f17b, f17r0, f17r1, f17r2, f17r3, f17r4, f17r5, f17r6, f17r7, f17r8, f17r9, f17r10, f17r11, f17r13, f17r14, f17r15, f17r16, f17r17, f17r18, f17r19, f17r20, f17r21, f17r22, f17r23, f17r24, f17r25, f17r26, f17r27, f17r28, f17r29, f17r30, f17r31, f17r32, f17r34, f17r35, f17r36, f17r37, f17r38, f17r39, f17r41, f17l1, hkoJ, get_old hkoJ, get_old hkJ, x0, x1, x2, get_old h1', ic, it, isn, hni] | (refine BrW.of (fun hb => ?_) (fun hb => ?_) <;> (have hb' := hb; try simp only [decide_eq_true_eq, decide_eq_false_iff_not, beq_iff_eq, bne_iff_ne, beq_eq_false_iff_ne, bne_eq_false_iff_eq, Bool.not_eq_true', Bool.not_eq_false', Bool.not_eq_true, Bool.not_eq_false, Bool.and_eq_true, Bool.or_eq_true, Bool.and_eq_false_iff, Bool.or_eq_false_iff, Int.not_lt, Int.not_le, ne_eq, gt_iff_lt, ge_iff_le] at hb') <;> (try (exfalso; omega))) | (refine altW.of ?_ ?_)
                  all_goals (try (exfalso; omega))
                  rw [hk'] at hR1
                  refine .of ((in_spec _ _ _ ws Sm M r.nd k o.b _ hR1.wn hR2 (by omega) hokw (by omega) (by omega) (by have := hql k; omega) (by simp; omega)).mono ?_)
                  rintro v J1 ⟨rfl, hW1, hF1⟩
                  have hR3 := hR1.go hW1 hF1
                  have h1 := hR3.e
                  simp only at h1
                  repeat' first | simp (disch := first | with_reducible assumption | omega) only [go_sem, Bool.true_and, Bool.and_true, Bool.and_self, Bool.false_and, Bool.and_false, Bool.true_or, Bool.or_true, Bool.false_or, Bool.or_false, ↓reduceIte, Nat.reduceEqDiff, Nat.reduceAdd, Nat.reduceMul, Nat.reduceSub, Nat.reduceBEq, Nat.reduceLeDiff, Nat.reduceLT, Nat.reduceMod, Nat.reduceDiv, Int.reduceToNat, Int.reducePow, Int.reduceMul, Int.reduceAdd, Int.reduceSub, Int.reduceLE, Int.reduceLT, Int.reduceNeg, Int.reduceDiv, Int.reduceMod, Int.reduceEq, Int.reduceBEq, Int.reduceBNe, f17, f17b, f17r0, f17r1, f17r2, f17r3, f17r4, f17r5, f17r6, f17r7, f17r8, f17r9, f17r10, f17r11, f17r13, f17r14, f17r15, f17r16, f17r17, f17r18, f17r19, f17r20, f17r21, f17r22, f17r23, f17r24, f17r25, f17r26, f17r27, f17r28, f17r29, f17r30, f17r31, f17r32, f17r34, f17r35, f17r36, f17r37, f17r38, f17r39, f17r41, get_old h1, ic, it, isn, hni] | (refine BrW.of (fun hb => ?_) (fun hb => ?_) <;> (have hb' := hb; try simp only [decide_eq_true_eq, decide_eq_false_iff_not, beq_iff_eq, bne_iff_ne, beq_eq_false_iff_ne, bne_eq_false_iff_eq, Bool.not_eq_true', Bool.not_eq_false', Bool.not_eq_true, Bool.not_eq_false, Bool.and_eq_true, Bool.or_eq_true, Bool.and_eq_false_iff, Bool.or_eq_false_iff, Int.not_lt, Int.not_le, ne_eq, gt_iff_lt, ge_iff_le] at hb') <;> (try (exfalso; omega))) | (refine altW.of ?_ ?_)
                  refine RdW.keep [0, 9, 12, 13, 51, 52, 53] (ops.length - (i + 1)) (by omega) ?_
                  simp (disch := first | with_reducible assumption | omega) only [go_sem, Bool.true_and, Bool.and_true, Bool.and_self, Bool.false_and, Bool.and_false, Bool.true_or, Bool.or_true, Bool.false_or, Bool.or_false, ↓reduceIte, Nat.reduceEqDiff, Nat.reduceAdd, Nat.reduceMul, Nat.reduceSub, Nat.reduceBEq, Nat.reduceLeDiff, Nat.reduceLT, Nat.reduceMod, Nat.reduceDiv, Int.reduceToNat, Int.reducePow, Int.reduceMul, Int.reduceAdd, Int.reduceSub, Int.reduceLE, Int.reduceLT, Int.reduceNeg, Int.reduceDiv, Int.reduceMod, Int.reduceEq, Int.reduceBEq, Int.reduceBNe]
                  refine ⟨i + 1, ge + 1, gt, by rw [hst2]; simp, ?_, by omega, rfl⟩
                  rw [hst2]
                  exact (hR3.app _).setE _
            · rw [if_pos h1] at hst2
              repeat' first | simp (disch := first | with_reducible assumption | omega) only [go_sem, Bool.true_and, Bool.and_true, Bool.and_self, Bool.false_and, Bool.and_false, Bool.true_or, Bool.or_true, Bool.false_or, Bool.or_false, ↓reduceIte, Nat.reduceEqDiff, Nat.reduceAdd, Nat.reduceMul, Nat.reduceSub, Nat.reduceBEq, Nat.reduceLeDiff, Nat.reduceLT, Nat.reduceMod, Nat.reduceDiv, Int.reduceToNat, Int.reducePow, Int.reduceMul, Int.reduceAdd, Int.reduceSub, Int.reduceLE, Int.reduceLT, Int.reduceNeg, Int.reduceDiv, Int.reduceMod, Int.reduceEq, Int.reduceBEq, Int.reduceBNe, f17, f17b, f17r0, f17r1, f17r2, f17r3, f17r4, f17r5, f17r6, f17r7, f17r8, f17r9, f17r10, f17r11, f17r13, f17r14, f17r15, f17r16, f17r17, f17r18, f17r19, f17r20, f17r21, f17r22, f17r23, f17r24, f17r25, f17r26, f17r27, f17r28, f17r29, f17r30, f17r31, f17r32, f17r34, f17r35, f17r36, f17r37, f17r38, f17r39, f17r41, f17l1, hkoJ, get_old hkoJ, get_old hkJ, x0, x1, x2, get_old h1', ic, it, isn, hni] | (refine BrW.of (fun hb => ?_) (fun hb => ?_) <;> (have hb' := hb; try simp only [decide_eq_true_eq, decide_eq_false_iff_not, beq_iff_eq, bne_iff_ne, beq_eq_false_iff_ne, bne_eq_false_iff_eq, Bool.not_eq_true', Bool.not_eq_false', Bool.not_eq_true, Bool.not_eq_false, Bool.and_eq_true, Bool.or_eq_true, Bool.and_eq_false_iff, Bool.or_eq_false_iff, Int.not_lt, Int.not_le, ne_eq, gt_iff_lt, ge_iff_le] at hb') <;> (try (exfalso; omega))) | (refine altW.of ?_ ?_)
              all_goals (try (exfalso; omega))
              all_goals refine RdW.keep [0, 9, 12, 13, 51, 52, 53] (ops.length - (i + 1)) (by omega) ?_
              all_goals simp (disch := first | with_reducible assumption | omega) only [go_sem, Bool.true_and, Bool.and_true, Bool.and_self, Bool.false_and, Bool.and_false, Bool.true_or, Bool.or_true, Bool.false_or, Bool.or_false, ↓reduceIte, Nat.reduceEqDiff, Nat.reduceAdd, Nat.reduceMul, Nat.reduceSub, Nat.reduceBEq, Nat.reduceLeDiff, Nat.reduceLT, Nat.reduceMod, Nat.reduceDiv, Int.reduceToNat, Int.reducePow, Int.reduceMul, Int.reduceAdd, Int.reduceSub, Int.reduceLE, Int.reduceLT, Int.reduceNeg, Int.reduceDiv, Int.reduceMod, Int.reduceEq, Int.reduceBEq, Int.reduceBNe]
              all_goals refine ⟨i + 1, ge + 1, gt, by rw [hst2]; simp, ?_, by omega, rfl⟩
              all_goals rw [hst2]
              all_goals exact (hR.app _).setE _
        · obtain rfl : i = ops.length := by omega
          have hR2 := run_okN hokw ops ops.length
          have hql := run_qlen ws Sm ops ops.length
          have hln := run_lens ws Sm ops
          rw [List.take_length] at hR hR2 hql ⊢
          generalize hr : runR ws Sm ops = r at *
          have hRk := hR
          obtain ⟨⟨hne, ⟨kw', ow', gw', cw', row, csw, rs, hN, hkw, hWc, hcw, hF, hrl, hrs, hOwn⟩, hlen⟩, hE, hT, hold, hJl⟩ := hRk
          have fl1 := flatR_len rs
          repeat' first | simp (disch := first | with_reducible assumption | omega) only [go_sem, Bool.true_and, Bool.and_true, Bool.and_self, Bool.false_and, Bool.and_false, Bool.true_or, Bool.or_true, Bool.false_or, Bool.or_false, ↓reduceIte, Nat.reduceEqDiff, Nat.reduceAdd, Nat.reduceMul, Nat.reduceSub, Nat.reduceBEq, Nat.reduceLeDiff, Nat.reduceLT, Nat.reduceMod, Nat.reduceDiv, Int.reduceToNat, Int.reducePow, Int.reduceMul, Int.reduceAdd, Int.reduceSub, Int.reduceLE, Int.reduceLT, Int.reduceNeg, Int.reduceDiv, Int.reduceMod, Int.reduceEq, Int.reduceBEq, Int.reduceBNe, f17, f17b, f17r0, f17r1, f17r2, f17r3, f17r4, f17r5, f17r6, f17r7, f17r8, f17r9, f17r10, f17r11, f17r13, f17r14, f17r15, f17r16, f17r17, f17r18, f17r19, f17r20, f17r21, f17r22, f17r23, f17r24, f17r25, f17r26, f17r27, f17r28, f17r29, f17r30, f17r31, f17r32, f17r34, f17r35, f17r36, f17r37, f17r38, f17r39, f17r41, f17l1, f17, f17b, f17r0, f17r1, f17r2, f17r3, f17r4, f17r5, f17r6, f17r7, f17r8, f17r9, f17r10, f17r11, f17r13, f17r14, f17r15, f17r16, f17r17, f17r18, f17r19, f17r20, f17r21, f17r22, f17r23, f17r24, f17r25, f17r26, f17r27, f17r28, f17r29, f17r30, f17r31, f17r32, f17r34, f17r35, f17r36, f17r37, f17r38, f17r39, f17r41, hN, hF] | (refine BrW.of (fun hb => ?_) (fun hb => ?_) <;> (have hb' := hb; try simp only [decide_eq_true_eq, decide_eq_false_iff_not, beq_iff_eq, bne_iff_ne, beq_eq_false_iff_ne, bne_eq_false_iff_eq, Bool.not_eq_true', Bool.not_eq_false', Bool.not_eq_true, Bool.not_eq_false, Bool.and_eq_true, Bool.or_eq_true, Bool.and_eq_false_iff, Bool.or_eq_false_iff, Int.not_lt, Int.not_le, ne_eq, gt_iff_lt, ge_iff_le] at hb') <;> (try (exfalso; omega))) | (refine altW.of ?_ ?_)
          refine loopW.ghost 19 1 rfl ?_
          simp (disch := first | with_reducible assumption | omega) only [go_sem, Bool.true_and, Bool.and_true, Bool.and_self, Bool.false_and, Bool.and_false, Bool.true_or, Bool.or_true, Bool.false_or, Bool.or_false, ↓reduceIte, Nat.reduceEqDiff, Nat.reduceAdd, Nat.reduceMul, Nat.reduceSub, Nat.reduceBEq, Nat.reduceLeDiff, Nat.reduceLT, Nat.reduceMod, Nat.reduceDiv, Int.reduceToNat, Int.reducePow, Int.reduceMul, Int.reduceAdd, Int.reduceSub, Int.reduceLE, Int.reduceLT, Int.reduceNeg, Int.reduceDiv, Int.reduceMod, Int.reduceEq, Int.reduceBEq, Int.reduceBNe]
          have hHJ : H.length + 4 ≤ J.length := hJl
          have hqs : ∀ i, i < r.nd.fl.length → (r.nd.fl.map fun f => (f.q.length : Int)).take (i + 1) = (r.nd.fl.map fun f => (f.q.length : Int)).take i ++ [((r.nd.fl.getD i f0).q.length : Int)] := fun i hi => by
            rw [take_snoc 0 _ i (by simpa using hi)]
            congr 2
            simp [List.getD_eq_getElem?_getD, List.getElem?_eq_getElem hi]
          have hqll : (r.nd.fl.map fun f => (f.q.length : Int)).length = r.nd.fl.length := by simp
          generalize hqe : (r.nd.fl.map fun f => (f.q.length : Int)) = qs at *
          refine loopW.of (by decide) (fun m e J' => ∃ (i g : Nat) (x : Heap), e = [(12, slv (H.length + 2) 0 ge ops.length ops.length), (13, slv (H.length + 3) 0 gt r.sent.length r.sent.length), (19, slv J.length 0 g i i), (114, slv H.length 0 0 r.nd.fl.length r.nd.fl.length), (115, .int .i64 r.nd.fl.length), (116, .int .i64 i)] ∧
            J' = J ++ (.cells g 1 false (ints (qs.take i)) :: x) ∧ i ≤ r.nd.fl.length ∧ m = r.nd.fl.length - i) r.nd.fl.length ⟨0, 0, [], rfl, by simp [ints_nil], by omega, rfl⟩ ?_
          rintro m e J' ⟨i, g, x, rfl, rfl, hi2, rfl⟩
          by_cases hlt2 : i < r.nd.fl.length
          · have hql2 := hql i
            have g0 := flat'_get (enc := Rw.cells) (s := 3) (fun _ => rfl) r0 rs i 0 (by omega) (by omega)
            have g1 := flat'_get (enc := Rw.cells) (s := 3) (fun _ => rfl) r0 rs i 1 (by omega) (by omega)
            have g2 := flat'_get (enc := Rw.cells) (s := 3) (fun _ => rfl) r0 rs i 2 (by omega) (by omega)
            simp only [Rw.cells, List.getElem?_cons_zero, List.getElem?_cons_succ, Nat.add_zero, show i * 3 + 2 = i * 3 + 1 + 1 by omega] at g0 g1 g2
            have ic := ints_length (qs.take i)
            have it := ints_take (qs.take i) i (by rw [List.length_take]; omega)
            have isn := ints_snoc (qs.take i) ((r.nd.fl.getD i f0).q.length : Int)
            have hqi := hqs i hlt2
            rw [List.length_take, Nat.min_eq_left (by omega)] at ic
            have hni : ¬ i + 1 ≤ i := by omega
            obtain ⟨q, o, gq, csq, hX⟩ := hOwn
            have hat := hX.at' i hlt2
            clear hX hql hqs hW
            rw [← hqi] at isn
            generalize hX2 : ints (qs.take (i + 1)) = X2 at *
            clear hqi
            generalize ints (qs.take i) = X1 at *
            generalize hy : (r.nd.fl.getD i f0).q = y at *
            rcases hat with ⟨hv, rfl⟩ | ⟨hv, hqP, hQ, hd, ho⟩
            · rw [hv] at g0
              have isn2 : X1 ++ [.int .i64 0] = X2 := isn
              repeat' first | simp (disch := first | with_reducible assumption | omega) only [go_sem, Bool.true_and, Bool.and_true, Bool.and_self, Bool.false_and, Bool.and_false, Bool.true_or, Bool.or_true, Bool.false_or, Bool.or_false, ↓reduceIte, Nat.reduceEqDiff, Nat.reduceAdd, Nat.reduceMul, Nat.reduceSub, Nat.reduceBEq, Nat.reduceLeDiff, Nat.reduceLT, Nat.reduceMod, Nat.reduceDiv, Int.reduceToNat, Int.reducePow, Int.reduceMul, Int.reduceAdd, Int.reduceSub, Int.reduceLE, Int.reduceLT, Int.reduceNeg, Int.reduceDiv, Int.reduceMod, Int.reduceEq, Int.reduceBEq, Int.reduceBNe, f17, f17b, f17r0, f17r1, f17r2, f17r3, f17r4, f17r5, f17r6, f17r7, f17r8, f17r9, f17r10, f17r11, f17r13, f17r14, f17r15, f17r16, f17r17, f17r18, f17r19, f17r20, f17r21, f17r22, f17r23, f17r24, f17r25, f17r26, f17r27, f17r28, f17r29, f17r30, f17r31, f17r32, f17r34, f17r35, f17r36, f17r37, f17r38, f17r39, f17r41, f17l2, get_old hF, g0, g1, g2, ic, it, isn2, hni] | (refine BrW.of (fun hb => ?_) (fun hb => ?_) <;> (have hb' := hb; try simp only [decide_eq_true_eq, decide_eq_false_iff_not, beq_iff_eq, bne_iff_ne, beq_eq_false_iff_ne, bne_eq_false_iff_eq, Bool.not_eq_true', Bool.not_eq_false', Bool.not_eq_true, Bool.not_eq_false, Bool.and_eq_true, Bool.or_eq_true, Bool.and_eq_false_iff, Bool.or_eq_false_iff, Int.not_lt, Int.not_le, ne_eq, gt_iff_lt, ge_iff_le] at hb') <;> (try (exfalso; omega))) | (refine altW.of ?_ ?_)
              refine RdW.keep [12, 13, 19, 114, 115, 116] (r.nd.fl.length - (i + 1)) (by omega) ?_
              simp (disch := first | with_reducible assumption | omega) only [go_sem, Bool.true_and, Bool.and_true, Bool.and_self, Bool.false_and, Bool.and_false, Bool.true_or, Bool.or_true, Bool.false_or, Bool.or_false, ↓reduceIte, Nat.reduceEqDiff, Nat.reduceAdd, Nat.reduceMul, Nat.reduceSub, Nat.reduceBEq, Nat.reduceLeDiff, Nat.reduceLT, Nat.reduceMod, Nat.reduceDiv, Int.reduceToNat, Int.reducePow, Int.reduceMul, Int.reduceAdd, Int.reduceSub, Int.reduceLE, Int.reduceLT, Int.reduceNeg, Int.reduceDiv, Int.reduceMod, Int.reduceEq, Int.reduceBEq, Int.reduceBNe]
              exact ⟨i + 1, g + 1, _, rfl, by rw [hX2], by omega, rfl⟩
            · rw [hv] at g0
              repeat' first | simp (disch := first | with_reducible assumption | omega) only [go_sem, Bool.true_and, Bool.and_true, Bool.and_self, Bool.false_and, Bool.and_false, Bool.true_or, Bool.or_true, Bool.false_or, Bool.or_false, ↓reduceIte, Nat.reduceEqDiff, Nat.reduceAdd, Nat.reduceMul, Nat.reduceSub, Nat.reduceBEq, Nat.reduceLeDiff, Nat.reduceLT, Nat.reduceMod, Nat.reduceDiv, Int.reduceToNat, Int.reducePow, Int.reduceMul, Int.reduceAdd, Int.reduceSub, Int.reduceLE, Int.reduceLT, Int.reduceNeg, Int.reduceDiv, Int.reduceMod, Int.reduceEq, Int.reduceBEq, Int.reduceBNe, f17, f17b, f17r0, f17r1, f17r2, f17r3, f17r4, f17r5, f17r6, f17r7, f17r8, f17r9, f17r10, f17r11, f17r13, f17r14, f17r15, f17r16, f17r17, f17r18, f17r19, f17r20, f17r21, f17r22, f17r23, f17r24, f17r25, f17r26, f17r27, f17r28, f17r29, f17r30, f17r31, f17r32, f17r34, f17r35, f17r36, f17r37, f17r38, f17r39, f17r41, f17l2, get_old hF, g0, g1, g2, ic, it, isn, hni, get_old hQ] | (refine BrW.of (fun hb => ?_) (fun hb => ?_) <;> (have hb' := hb; try simp only [decide_eq_true_eq, decide_eq_false_iff_not, beq_iff_eq, bne_iff_ne, beq_eq_false_iff_ne, bne_eq_false_iff_eq, Bool.not_eq_true', Bool.not_eq_false', Bool.not_eq_true, Bool.not_eq_false, Bool.and_eq_true, Bool.or_eq_true, Bool.and_eq_false_iff, Bool.or_eq_false_iff, Int.not_lt, Int.not_le, ne_eq, gt_iff_lt, ge_iff_le] at hb') <;> (try (exfalso; omega))) | (refine altW.of ?_ ?_)
              refine RdW.keep [12, 13, 19, 114, 115, 116] (r.nd.fl.length - (i + 1)) (by omega) ?_
              simp (disch := first | with_reducible assumption | omega) only [go_sem, Bool.true_and, Bool.and_true, Bool.and_self, Bool.false_and, Bool.and_false, Bool.true_or, Bool.or_true, Bool.false_or, Bool.or_false, ↓reduceIte, Nat.reduceEqDiff, Nat.reduceAdd, Nat.reduceMul, Nat.reduceSub, Nat.reduceBEq, Nat.reduceLeDiff, Nat.reduceLT, Nat.reduceMod, Nat.reduceDiv, Int.reduceToNat, Int.reducePow, Int.reduceMul, Int.reduceAdd, Int.reduceSub, Int.reduceLE, Int.reduceLT, Int.reduceNeg, Int.reduceDiv, Int.reduceMod, Int.reduceEq, Int.reduceBEq, Int.reduceBNe]
              exact ⟨i + 1, g + 1, _, rfl, by rw [hX2], by omega, rfl⟩
          · obtain rfl : i = r.nd.fl.length := by omega
            repeat' first | simp (disch := first | with_reducible assumption | omega) only [go_sem, Bool.true_and, Bool.and_true, Bool.and_self, Bool.false_and, Bool.and_false, Bool.true_or, Bool.or_true, Bool.false_or, Bool.or_false, ↓reduceIte, Nat.reduceEqDiff, Nat.reduceAdd, Nat.reduceMul, Nat.reduceSub, Nat.reduceBEq, Nat.reduceLeDiff, Nat.reduceLT, Nat.reduceMod, Nat.reduceDiv, Int.reduceToNat, Int.reducePow, Int.reduceMul, Int.reduceAdd, Int.reduceSub, Int.reduceLE, Int.reduceLT, Int.reduceNeg, Int.reduceDiv, Int.reduceMod, Int.reduceEq, Int.reduceBEq, Int.reduceBNe, f17, f17b, f17r0, f17r1, f17r2, f17r3, f17r4, f17r5, f17r6, f17r7, f17r8, f17r9, f17r10, f17r11, f17r13, f17r14, f17r15, f17r16, f17r17, f17r18, f17r19, f17r20, f17r21, f17r22, f17r23, f17r24, f17r25, f17r26, f17r27, f17r28, f17r29, f17r30, f17r31, f17r32, f17r34, f17r35, f17r36, f17r37, f17r38, f17r39, f17r41, f17l2, f17, f17b, f17r0, f17r1, f17r2, f17r3, f17r4, f17r5, f17r6, f17r7, f17r8, f17r9, f17r10, f17r11, f17r13, f17r14, f17r15, f17r16, f17r17, f17r18, f17r19, f17r20, f17r21, f17r22, f17r23, f17r24, f17r25, f17r26, f17r27, f17r28, f17r29, f17r30, f17r31, f17r32, f17r34, f17r35, f17r36, f17r37, f17r38, f17r39, f17r41] | (refine BrW.of (fun hb => ?_) (fun hb => ?_) <;> (have hb' := hb; try simp only [decide_eq_true_eq, decide_eq_false_iff_not, beq_iff_eq, bne_iff_ne, beq_eq_false_iff_ne, bne_eq_false_iff_eq, Bool.not_eq_true', Bool.not_eq_false', Bool.not_eq_true, Bool.not_eq_false, Bool.and_eq_true, Bool.or_eq_true, Bool.and_eq_false_iff, Bool.or_eq_false_iff, Int.not_lt, Int.not_le, ne_eq, gt_iff_lt, ge_iff_le] at hb') <;> (try (exfalso; omega))) | (refine altW.of ?_ ?_)
            have hle : Le H (J ++ .cells g 1 false (ints (qs.take r.nd.fl.length)) :: x) := le_of (by simp; omega) fun j hj => (get_app (by omega) _).trans (hold j hj)
            subst hr
            subst hSm
            rw [List.take_of_length_le (by omega)] at hle ⊢
            have hnl : (runR ws ws.sum ops).nd.fl.length = qs.length := by omega
            rw [hnl]
            refine .here ⟨_, _, _, 0, rfl, hle, ⟨fun _ => ⟨hok, h400⟩, fun _ => rfl⟩, fun h => absurd rfl h, fun _ => ⟨?_, ?_, ?_⟩⟩
            · have := IsT.of (A := fun _ => True) (c := ops.length) trivial (Tbl.new (enc := ienc) (s := 1) (d := 0) (fun _ => rfl) (J ++ .cells g 1 false (ints qs) :: x) (H.length + 2) ge false (runR ws ws.sum ops).errs (by rw [flat'_ienc]; exact get_old hE _)) (by omega)
              rw [hln.1] at this
              exact this
            · exact IsT.of (A := fun _ => True) trivial (Tbl.new (enc := S.cells) (s := 2) (d := s0) (fun _ => rfl) (J ++ .cells g 1 false (ints qs) :: x) (H.length + 3) gt false _ (get_old hT _)) (Nat.le_refl _)
            · exact IsT.of (A := fun _ => True) trivial (Tbl.new (enc := ienc) (s := 1) (d := 0) (fun _ => rfl) (J ++ .cells g 1 false (ints qs) :: x) J.length g false qs (by rw [flat'_ienc, get_new0])) (Nat.le_refl _)
    · repeat' first | simp (disch := first | with_reducible assumption | omega) only [go_sem, Bool.true_and, Bool.and_true, Bool.and_self, Bool.false_and, Bool.and_false, Bool.true_or, Bool.or_true, Bool.false_or, Bool.or_false, ↓reduceIte, Nat.reduceEqDiff, Nat.reduceAdd, Nat.reduceMul, Nat.reduceSub, Nat.reduceBEq, Nat.reduceLeDiff, Nat.reduceLT, Nat.reduceMod, Nat.reduceDiv, Int.reduceToNat, Int.reducePow, Int.reduceMul, Int.reduceAdd, Int.reduceSub, Int.reduceLE, Int.reduceLT, Int.reduceNeg, Int.reduceDiv, Int.reduceMod, Int.reduceEq, Int.reduceBEq, Int.reduceBNe, f17, f17b, f17r0, f17r1, f17r2, f17r3, f17r4, f17r5, f17r6, f17r7, f17r8, f17r9, f17r10, f17r11, f17r13, f17r14, f17r15, f17r16, f17r17, f17r18, f17r19, f17r20, f17r21, f17r22, f17r23, f17r24, f17r25, f17r26, f17r27, f17r28, f17r29, f17r30, f17r31, f17r32, f17r34, f17r35, f17r36, f17r37, f17r38, f17r39, f17r41, hk, hko, get_old hk] | (refine BrW.of (fun hb => ?_) (fun hb => ?_) <;> (have hb' := hb; try simp only [decide_eq_true_eq, decide_eq_false_iff_not, beq_iff_eq, bne_iff_ne, beq_eq_false_iff_ne, bne_eq_false_iff_eq, Bool.not_eq_true', Bool.not_eq_false', Bool.not_eq_true, Bool.not_eq_false, Bool.and_eq_true, Bool.or_eq_true, Bool.and_eq_false_iff, Bool.or_eq_false_iff, Int.not_lt, Int.not_le, ne_eq, gt_iff_lt, ge_iff_le] at hb') <;> (try (exfalso; omega))) | (refine altW.of ?_ ?_) | (refine .of (hW.mono ?_); rintro v H ⟨e, rfl, he, he2, rfl⟩; obtain rfl := he.2 hok; clear he2)
      all_goals exact .here ⟨_, _, _, 2, rfl, .refl _, ⟨fun h => by omega, fun h => absurd h.2 h400⟩, fun _ => ⟨rfl, rfl⟩, fun h => by omega⟩
  · repeat' first | simp (disch := first | with_reducible assumption | omega) only [go_sem, Bool.true_and, Bool.and_true, Bool.and_self, Bool.false_and, Bool.and_false, Bool.true_or, Bool.or_true, Bool.false_or, Bool.or_false, ↓reduceIte, Nat.reduceEqDiff, Nat.reduceAdd, Nat.reduceMul, Nat.reduceSub, Nat.reduceBEq, Nat.reduceLeDiff, Nat.reduceLT, Nat.reduceMod, Nat.reduceDiv, Int.reduceToNat, Int.reducePow, Int.reduceMul, Int.reduceAdd, Int.reduceSub, Int.reduceLE, Int.reduceLT, Int.reduceNeg, Int.reduceDiv, Int.reduceMod, Int.reduceEq, Int.reduceBEq, Int.reduceBNe, f17, f17b, f17r0, f17r1, f17r2, f17r3, f17r4, f17r5, f17r6, f17r7, f17r8, f17r9, f17r10, f17r11, f17r13, f17r14, f17r15, f17r16, f17r17, f17r18, f17r19, f17r20, f17r21, f17r22, f17r23, f17r24, f17r25, f17r26, f17r27, f17r28, f17r29, f17r30, f17r31, f17r32, f17r34, f17r35, f17r36, f17r37, f17r38, f17r39, f17r41, hk, hko] | (refine BrW.of (fun hb => ?_) (fun hb => ?_) <;> (have hb' := hb; try simp only [decide_eq_true_eq, decide_eq_false_iff_not, beq_iff_eq, bne_iff_ne, beq_eq_false_iff_ne, bne_eq_false_iff_eq, Bool.not_eq_true', Bool.not_eq_false', Bool.not_eq_true, Bool.not_eq_false, Bool.and_eq_true, Bool.or_eq_true, Bool.and_eq_false_iff, Bool.or_eq_false_iff, Int.not_lt, Int.not_le, ne_eq, gt_iff_lt, ge_iff_le] at hb') <;> (try (exfalso; omega))) | (refine altW.of ?_ ?_) | (refine .of (hW.mono ?_); rintro v H ⟨e, rfl, he, he2, rfl⟩; have he3 : e = 2 := he2.resolve_left fun h => hok (he.1 h); clear he2; have hne : (e != 0) = true := by simpa using fun h => hok (he.1 h))
    all_goals first | exact .here ⟨_, _, _, _, rfl, .refl _, ⟨fun h => absurd (he.1 h) hok, fun h => absurd h.1 hok⟩, fun _ => ⟨rfl, he3⟩, fun h => absurd (he.1 h) hok⟩ | (exfalso; exact hok (he.1 (by simpa using hb')))

end Go.Proofs.YtmbcgelfnbnicaaDoor.Wq
