import Derived.Test.YtknfaoonjmlncaaStepsI
set_option linter.unusedSimpArgs false
set_option linter.unusedVariables false
set_option maxHeartbeats 4000000
set_option maxRecDepth 20000
namespace Go.Proofs.Ytknfaoonjmlncaa
open Go Go.Am
attribute [local irreducible] opsW Ww loopW callW drawW outW outDW gW cW BrW bothW vW resW DropW RdW dcallW altW Later.run

theorem Fr.put {P F : Nat} {J : Heap} (hP : P ≤ J.length) (y : AObj) (X : Heap) : Fr P F J (J.set F y ++ X) := ⟨by simp, fun j hj hjF => by rw [get_app (by simp; omega), List.getElem?_set_ne (by omega)]⟩
theorem Own.set0 {P n : Nat} {V : Nat → Value} {L : Nat → List Int} {J : Heap} (h : Own P n V L J) {j : Nat} {g : Nat} {ro : Bool} {cs : List Value} (hj : J[j]? = some (.cells g 0 ro cs)) (y : AObj) : Own P n V L (J.set j y) := by
  obtain ⟨q, o, g', cs', h⟩ := h
  refine ⟨q, o, g', cs', h.congr (fun _ _ => rfl) (fun _ _ => rfl) fun k hk hne => ?_⟩
  rcases h.at' k hk with ⟨h1, _⟩ | ⟨_, _, h3, _⟩
  · exact (hne h1).elim
  · have hne2 : q k ≠ j := fun e => by
      rw [e, hj] at h3
      have := congrArg (Option.map fun o : AObj => match o with | .cells _ e _ _ => e | _ => 0) h3
      simp at this
    rw [List.getElem?_set_ne (Ne.symm hne2)]
/-- What is not the engine's may change. -/
theorem WK.set0 {P B F gF n : Nat} {kd : Nat → List Int} {S : St} {q : Nat → List Int} {kv wv : Nat → Value} {J : Heap} (h : WK P B F gF n kd S q kv wv J) {j : Nat} (hP : P ≤ j) {g : Nat} {ro : Bool} {cs : List Value} (hj : J[j]? = some (.cells g 0 ro cs)) (y : AObj) : WK P B F gF n kd S q kv wv (J.set j y) := by
  obtain ⟨h1, h2, h3⟩ := h.lt
  refine ⟨h.lt, (get_set_miss (by omega)).trans h.box, (get_set_miss (by omega)).trans h.st, fun k hk hne => ?_, h.own.set0 hj y⟩
  obtain ⟨kq, ok, gk, ck, e1, e2, e3, e4, e5⟩ := h.kids k hk hne
  exact ⟨kq, ok, gk, ck, e1, e2, e3, (get_set_miss (by omega)).trans e4, e5⟩
theorem Fr.setP {P F : Nat} {J J' : Heap} (h : Fr P F J J') {j : Nat} (hP : P ≤ j) (y : AObj) : Fr P F J (J'.set j y) := ⟨by simpa using h.1, fun i hi hF => by rw [List.getElem?_set_ne (by omega)]; exact h.2 i hi hF⟩
theorem out_spec (P B F gF n : Nat) (kd : Nat → List Int) (S : St) (q : Nat → List Int) (kv wv : Nat → Value) (M : Int) (J : Heap) (hW : WK P B F gF n kd S q kv wv J) (hok : OkS n M S) (hT : Tk n kd S) (hM : 0 ≤ M ∧ M ≤ 100000000000000) (hn : n ≤ 16) (hn0 : 0 < n) (hql : ∀ k, k < n → (q k).length ≤ 1000000) (hqb : ∀ k, k < n → ∀ x ∈ q k, 1 ≤ x ∧ x ≤ 1500) (hPJ : P ≤ J.length)
    (hlf : (S 0).bytes ≠ 0 → ∃ lf : Nat, (S 0).leaf = lf ∧ lf < n ∧ q lf ≠ []) :
    ACallK Try.prog 16 [.pointer (some ⟨B, 0, some 1⟩)] J (fun v J' => Fr P F J J' ∧ (((S 0).bytes = 0 ∧ v = .tuple #[.agg #[.int .i64 0, .int .i64 0], .bool false] ∧ WK P B F gF n kd S q kv wv J') ∨
      ∃ lf : Nat, (S 0).bytes ≠ 0 ∧ (S 0).leaf = lf ∧ lf < n ∧ q lf ≠ [] ∧ v = .tuple #[.agg #[.int .i64 lf, .int .i64 (S 0).bytes], .bool true] ∧ ∃ wv', WK P B F gF n kd (outH n kd S (q lf) lf) (updQ q lf (q lf).tail) kv wv' J')) := by
  have hW0 := hW
  obtain ⟨⟨hBP, hFP, hBF⟩, hB, hF, hkids, q', o, g, cs, hX⟩ := hW
  have hFl := (List.getElem?_eq_some_iff.1 hF).1
  have hcl := cN_len n
  have z4 := g4 hn0
  have z5 := g5 hn0
  simp only [Nat.zero_mul, Nat.zero_add] at z4 z5
  refine .walkW f16_ok (by simp; decide) (by decide) ?_
  by_cases h0 : (S 0).bytes = 0
  · repeat' first | simp (disch := first | with_reducible assumption | omega) only [go_sem, Bool.true_and, Bool.and_true, Bool.and_self, Bool.false_and, Bool.and_false, Bool.true_or, Bool.or_true, Bool.false_or, Bool.or_false, ↓reduceIte, Nat.reduceEqDiff, Nat.reduceAdd, Nat.reduceMul, Nat.reduceSub, Nat.reduceBEq, Nat.reduceLeDiff, Nat.reduceLT, Nat.reduceMod, Nat.reduceDiv, Int.reduceToNat, Int.reducePow, Int.reduceMul, Int.reduceAdd, Int.reduceSub, Int.reduceLE, Int.reduceLT, Int.reduceNeg, Int.reduceDiv, Int.reduceMod, Int.reduceEq, Int.reduceBEq, Int.reduceBNe, f16, f16b, f16r0, f16r1, f16r2, f16r3, f16r4, f16r5, f16r6, f16r7, f16r8, f16r9, f16r10, f16r11, f16r12, f16r14, hB, hF, get_old hF, get_old hB, hcl, z4, z5, h0] | (refine BrW.of (fun hb => ?_) (fun hb => ?_) <;> (have hb' := hb; try simp only [decide_eq_true_eq, decide_eq_false_iff_not, beq_iff_eq, bne_iff_ne, beq_eq_false_iff_ne, bne_eq_false_iff_eq, Bool.not_eq_true', Bool.not_eq_false', Bool.not_eq_true, Bool.not_eq_false, Bool.and_eq_true, Bool.or_eq_true, Bool.and_eq_false_iff, Bool.or_eq_false_iff, Int.not_lt, Int.not_le, ne_eq, gt_iff_lt, ge_iff_le] at hb') <;> (try (exfalso; omega))) | (refine altW.of ?_ ?_)
    exact .back rfl ⟨Fr.refl _ _ _, .inl ⟨h0, rfl, hW0⟩⟩
  · obtain ⟨lf, hl, hln, hqn⟩ := hlf h0
    rcases hX.at' lf hln with ⟨_, hq⟩ | ⟨hv, hqP, hQ, hd, ho⟩
    · exact (hqn hq).elim
    · have e9 := g9 hln S kv
      have e9' := g9 hln S kv wv
      have t9 := s9 hln S kv wv
      have t5 := s5 hln S kv
      have e5 := g5 hln
      rw [hv] at e9'
      have hql2 := drop_len hd ho
      have hqpos : 0 < (q lf).length := List.length_pos_iff.2 hqn
      have hqlf := hql lf hln
      have hqJ := (List.getElem?_eq_some_iff.1 hQ).1
      have hb0 := hok.b 0 hn0
      have h0' : ((S 0).bytes == 0) = false := by simpa using h0
      have ss : ∀ (X : Heap) (y z : AObj), ((J ++ X).set F y).set F z = (J ++ X).set F z := fun X y z => by simp
      have nF : ∀ X y, ((J ++ X).set F y)[F]? = some y := fun X y => get_set_hit (get_old hF X)
      have nB : ∀ X y, ((J ++ X).set F y)[B]? = _ := fun X y => (get_set_miss (by omega)).trans (get_old hB X)
      have nQ : ∀ X y, ((J ++ X).set F y)[q' lf]? = _ := fun X y => (get_set_miss (by omega)).trans (get_old hQ X)
      have nX : ∀ A D y, ((J ++ [A, D]).set F y)[J.length + 1]? = some D := fun A D y => (get_set_miss (by omega)).trans (by rw [get_new]; rfl)
      have hx0 : (cs lf)[o lf]? = some (.int .i64 (hdQ (q lf))) := by
        have h1 := congrArg (fun l => l[0]?) hd
        simp only [List.getElem?_drop, Nat.add_zero] at h1
        rw [h1]
        cases hl : q lf with
        | nil => exact (hqn hl).elim
        | cons y r => rfl
      have hdt : (cs lf).drop (o lf + 1) = ints (q lf).tail := by
        have h1 := congrArg (List.drop 1) hd
        rw [List.drop_drop] at h1
        rw [h1]
        cases hl : q lf with
        | nil => exact (hqn hl).elim
        | cons y r => rfl
      have htl : (q lf).tail.length = (q lf).length - 1 := List.length_tail
      repeat' first | simp (disch := first | with_reducible assumption | omega) only [go_sem, Bool.true_and, Bool.and_true, Bool.and_self, Bool.false_and, Bool.and_false, Bool.true_or, Bool.or_true, Bool.false_or, Bool.or_false, ↓reduceIte, Nat.reduceEqDiff, Nat.reduceAdd, Nat.reduceMul, Nat.reduceSub, Nat.reduceBEq, Nat.reduceLeDiff, Nat.reduceLT, Nat.reduceMod, Nat.reduceDiv, Int.reduceToNat, Int.reducePow, Int.reduceMul, Int.reduceAdd, Int.reduceSub, Int.reduceLE, Int.reduceLT, Int.reduceNeg, Int.reduceDiv, Int.reduceMod, Int.reduceEq, Int.reduceBEq, Int.reduceBNe, f16, f16b, f16r0, f16r1, f16r2, f16r3, f16r4, f16r5, f16r6, f16r7, f16r8, f16r9, f16r10, f16r11, f16r12, f16r14, hB, hF, get_old hF, get_old hB, hcl, z4, z5, h0', hl, e9', t9, nF, nB, ss, t5, hQ, get_old hQ] | (refine BrW.of (fun hb => ?_) (fun hb => ?_) <;> (have hb' := hb; try simp only [decide_eq_true_eq, decide_eq_false_iff_not, beq_iff_eq, bne_iff_ne, beq_eq_false_iff_ne, bne_eq_false_iff_eq, Bool.not_eq_true', Bool.not_eq_false', Bool.not_eq_true, Bool.not_eq_false, Bool.and_eq_true, Bool.or_eq_true, Bool.and_eq_false_iff, Bool.or_eq_false_iff, Int.not_lt, Int.not_le, ne_eq, gt_iff_lt, ge_iff_le] at hb') <;> (try (exfalso; omega))) | (refine altW.of ?_ ?_)
      have hqo : ∀ j, j < n → j ≠ lf → updQ q lf (q lf).tail j = q j := fun j _ h => by unfold updQ; rw [if_neg h]
      have hqk : updQ q lf (q lf).tail lf = (q lf).tail := by unfold updQ; rw [if_pos rfl]
      have hfin : ∃ G wv', (J ++ [AObj.cells 0 0 false [Value.int IntKind.i64 0, Value.int IntKind.i64 0], AObj.cells 0 0 false [Value.int IntKind.i64 lf, Value.int IntKind.i64 (S 0).bytes]]).set F (AObj.cells gF 10 false (cN n (updS S lf ⟨(S lf).up, (S lf).w, (S lf).sum, (S lf).leaf, 0, (S lf).bg, (S lf).un, (S lf).time⟩) kv (updV wv lf (slv (q' lf) (o lf + 1) (g lf) ((q lf).length - 1) ((q lf).length - 1))))) = G ∧ updV wv lf (slv (q' lf) (o lf + 1) (g lf) ((q lf).length - 1) ((q lf).length - 1)) = wv' ∧ WK P B F gF n kd (zeroB S lf) (updQ q lf (q lf).tail) kv wv' G ∧ Fr P F J G ∧ J.length + 2 ≤ G.length ∧ wv' lf = slv (q' lf) (o lf + 1) (g lf) ((q lf).length - 1) ((q lf).length - 1) ∧ G[q' lf]? = some (.cells (g lf) 1 false (cs lf)) ∧
          G[J.length]? = some (.cells 0 0 false [.int .i64 0, .int .i64 0]) ∧ G[J.length + 1]? = some (.cells 0 0 false [.int .i64 lf, .int .i64 (S 0).bytes]) := by
        refine ⟨_, _, rfl, rfl, ⟨⟨hBP, hFP, hBF⟩, nB _ _, nF _ _, fun j hj hne => ?_, ?_⟩, ⟨by simp, fun j hj hjF => by rw [List.getElem?_set_ne (by omega), get_app (by omega)]⟩, by simp, updV_same _ _ _, nQ _ _, ?_, ?_⟩
        · obtain ⟨kq, ok, gk, ck, e1, e2, e3, e4, e5⟩ := hkids j hj hne
          exact ⟨kq, ok, gk, ck, e1, e2, e3, (get_set_miss (by omega)).trans (get_old e4 _), e5⟩
        · refine hX.step (f := lf) (q' := q' lf) (o' := o lf + 1) (g' := g lf) (cs' := cs lf) (l' := (q lf).tail) (by rw [updV_same, htl]) hqk (fun j _ h => updV_ne h) hqo hqP (nQ _ _) hdt (by omega) (fun j hj h1 h2 => hX.inj j lf hj hln h1 h2 (by rw [hv]; exact slv_ne _ _ _ _ _)) (fun j hj h1 h2 => by
            have := hX.lt hj h2
            have := hX.ge hj h2
            rw [List.getElem?_set_ne (by omega), get_app (by omega)])
        · exact (get_set_miss (by omega)).trans (by rw [get_new0])
        · exact (get_set_miss (by omega)).trans (by rw [get_new]; rfl)
      obtain ⟨G, wv', hGe, hwe, hWG, hFrG, hGl, hwlf, hGQ, hGA, hGD⟩ := hfin
      simp only [slv] at hGe hwe
      rw [hGe, hwe]
      clear hGe hwe
      have hGB := hWG.box
      have hGF := hWG.st
      have hGP : P ≤ G.length := by omega
      have e9 := g9 hln (zeroB S lf) kv wv'
      rw [hwlf] at e9
      have e0 := g0 hln
      have hokz : OkS n M (zeroB S lf) := hok.upd hln ⟨rfl, rfl, rfl⟩ (by simp only; omega) (hok.t lf hln)
      have hupz : ∀ j, (zeroB S lf j).up = (S j).up := fun j => by
        unfold zeroB
        by_cases e : j = lf
        · subst e; rw [updS_same]
        · rw [updS_ne e]
      have hTz := hT.stat hupz
      have hup := hok.up_lt hln
      have hout : outH n kd S (q lf) lf = climb kd true n (outH1 S (q lf) lf) (S lf).up := rfl
      rw [show (updS S lf ⟨(S lf).up, (S lf).w, (S lf).sum, (S lf).leaf, 0, (S lf).bg, (S lf).un, (S lf).time⟩) = zeroB S lf from rfl] at *
      by_cases ht : (q lf).tail = []
      case' pos =>
        have hz : (q lf).length - 1 = 0 := by rw [← htl, ht]; rfl
        have ho1 : outH1 S (q lf) lf = zeroB S lf := by unfold outH1; rw [if_pos ht]
        have hsk := hupz lf
        rw [hz] at e9
        repeat' first | simp (disch := first | with_reducible assumption | omega) only [go_sem, Bool.true_and, Bool.and_true, Bool.and_self, Bool.false_and, Bool.and_false, Bool.true_or, Bool.or_true, Bool.false_or, Bool.or_false, ↓reduceIte, Nat.reduceEqDiff, Nat.reduceAdd, Nat.reduceMul, Nat.reduceSub, Nat.reduceBEq, Nat.reduceLeDiff, Nat.reduceLT, Nat.reduceMod, Nat.reduceDiv, Int.reduceToNat, Int.reducePow, Int.reduceMul, Int.reduceAdd, Int.reduceSub, Int.reduceLE, Int.reduceLT, Int.reduceNeg, Int.reduceDiv, Int.reduceMod, Int.reduceEq, Int.reduceBEq, Int.reduceBNe, f16, f16b, f16r0, f16r1, f16r2, f16r3, f16r4, f16r5, f16r6, f16r7, f16r8, f16r9, f16r10, f16r11, f16r12, f16r14, hGB, hGF, hcl, e9, hGQ, e0, hsk] | (refine BrW.of (fun hb => ?_) (fun hb => ?_) <;> (have hb' := hb; try simp only [decide_eq_true_eq, decide_eq_false_iff_not, beq_iff_eq, bne_iff_ne, beq_eq_false_iff_ne, bne_eq_false_iff_eq, Bool.not_eq_true', Bool.not_eq_false', Bool.not_eq_true, Bool.not_eq_false, Bool.and_eq_true, Bool.or_eq_true, Bool.and_eq_false_iff, Bool.or_eq_false_iff, Int.not_lt, Int.not_le, ne_eq, gt_iff_lt, ge_iff_le] at hb') <;> (try (exfalso; omega))) | (refine altW.of ?_ ?_)
        have hok1 := hokz.mono (show M ≤ M + 8000000000 by omega)
        rw [← ho1] at hWG hok1 hTz
        clear hGQ hGF hGB e9 ho1 hGP
        have hGl1 := hGl
        clear hGl hokz
        generalize outH1 S (q lf) lf = S1 at *
        generalize G = G1 at *
      case' neg =>
        have hz : 0 < (q lf).length - 1 := by rw [← htl]; exact List.length_pos_iff.2 ht
        have ho1 : outH1 S (q lf) lf = updS S lf (offH (zeroB S lf) lf lf (hdQ (q lf).tail) true) := by unfold outH1; rw [if_neg ht]
        have hx1 : (cs lf)[o lf + 1]? = some (.int .i64 (hdQ (q lf).tail)) := by
          have h1 := congrArg (fun l => l[0]?) hdt
          simp only [List.getElem?_drop, Nat.add_zero] at h1
          rw [h1]
          cases hl : (q lf).tail with
          | nil => exact (ht hl).elim
          | cons y r => rfl
        have hhb : 1 ≤ hdQ (q lf).tail ∧ hdQ (q lf).tail ≤ 1500 := by
          refine hqb lf hln _ (List.mem_of_mem_tail ?_)
          cases hl : (q lf).tail with
          | nil => exact (ht hl).elim
          | cons y r => exact List.mem_cons_self
        repeat' first | simp (disch := first | with_reducible assumption | omega) only [go_sem, Bool.true_and, Bool.and_true, Bool.and_self, Bool.false_and, Bool.and_false, Bool.true_or, Bool.or_true, Bool.false_or, Bool.or_false, ↓reduceIte, Nat.reduceEqDiff, Nat.reduceAdd, Nat.reduceMul, Nat.reduceSub, Nat.reduceBEq, Nat.reduceLeDiff, Nat.reduceLT, Nat.reduceMod, Nat.reduceDiv, Int.reduceToNat, Int.reducePow, Int.reduceMul, Int.reduceAdd, Int.reduceSub, Int.reduceLE, Int.reduceLT, Int.reduceNeg, Int.reduceDiv, Int.reduceMod, Int.reduceEq, Int.reduceBEq, Int.reduceBNe, f16, f16b, f16r0, f16r1, f16r2, f16r3, f16r4, f16r5, f16r6, f16r7, f16r8, f16r9, f16r10, f16r11, f16r12, f16r14, hGB, hGF, hcl, e9, hGQ, hGD, hx1] | (refine BrW.of (fun hb => ?_) (fun hb => ?_) <;> (have hb' := hb; try simp only [decide_eq_true_eq, decide_eq_false_iff_not, beq_iff_eq, bne_iff_ne, beq_eq_false_iff_ne, bne_eq_false_iff_eq, Bool.not_eq_true', Bool.not_eq_false', Bool.not_eq_true, Bool.not_eq_false, Bool.and_eq_true, Bool.or_eq_true, Bool.and_eq_false_iff, Bool.or_eq_false_iff, Int.not_lt, Int.not_le, ne_eq, gt_iff_lt, ge_iff_le] at hb') <;> (try (exfalso; omega))) | (refine altW.of ?_ ?_)
        refine .of ((offer_spec B F gF n (zeroB S lf) kv wv' M lf lf (hdQ (q lf).tail) true G hGB hGF hBF hn hokz (by omega) hln (by omega)).mono ?_)
        rintro v G1 ⟨rfl, hG1⟩
        have hp1 := hWG.put hGP (updS (zeroB S lf) lf (offH (zeroB S lf) lf lf (hdQ (q lf).tail) true)) []
        have hp2 := Fr.put (F := F) (show J.length + 2 ≤ G.length from hGl) (.cells gF 10 false (cN n (updS (zeroB S lf) lf (offH (zeroB S lf) lf lf (hdQ (q lf).tail) true)) kv wv')) []
        have hok1 := hokz.off hln (lf : Int) (b := hdQ (q lf).tail) (by omega) true
        have hst1 : ∀ j, (updS (zeroB S lf) lf (offH (zeroB S lf) lf lf (hdQ (q lf).tail) true) j).up = (zeroB S lf j).up := fun j => by
          by_cases e : j = lf
          · subst e; rw [updS_same]; exact (offH_stat _ _ _ _ _).1
          · rw [updS_ne e]
        have hT1 := hTz.stat hst1
        have e2 : updS (zeroB S lf) lf (offH (zeroB S lf) lf lf (hdQ (q lf).tail) true) = outH1 S (q lf) lf := by rw [ho1]; exact updS_updS _ _ _ _
        rw [e2] at hG1 hok1 hT1 hst1
        rw [List.append_nil, e2, ← hG1] at hp1 hp2
        have hsk : (outH1 S (q lf) lf lf).up = (S lf).up := (hst1 lf).trans (hupz lf)
        clear hG1
        replace hGA := (hp2.2 J.length (by omega) (by omega)).trans hGA
        replace hGD := (hp2.2 (J.length + 1) (by omega) (by omega)).trans hGD
        replace hFrG := hFrG.trans hp1.2
        have hGl1 : J.length + 2 ≤ G1.length := Nat.le_trans hGl hp2.1
        replace hWG := hp1.1
        replace hTz := hT1
        clear hp1 hp2 hGl hGB hGF hGP e9 hGQ hT1 e2 hst1 ho1 hokz
        have hGB := hWG.box
        have hGF := hWG.st
        generalize outH1 S (q lf) lf = S1 at *
        repeat' first | simp (disch := first | with_reducible assumption | omega) only [go_sem, Bool.true_and, Bool.and_true, Bool.and_self, Bool.false_and, Bool.and_false, Bool.true_or, Bool.or_true, Bool.false_or, Bool.or_false, ↓reduceIte, Nat.reduceEqDiff, Nat.reduceAdd, Nat.reduceMul, Nat.reduceSub, Nat.reduceBEq, Nat.reduceLeDiff, Nat.reduceLT, Nat.reduceMod, Nat.reduceDiv, Int.reduceToNat, Int.reducePow, Int.reduceMul, Int.reduceAdd, Int.reduceSub, Int.reduceLE, Int.reduceLT, Int.reduceNeg, Int.reduceDiv, Int.reduceMod, Int.reduceEq, Int.reduceBEq, Int.reduceBNe, f16, f16b, f16r0, f16r1, f16r2, f16r3, f16r4, f16r5, f16r6, f16r7, f16r8, f16r9, f16r10, f16r11, f16r12, f16r14, hGB, hGF, hcl, e0, hsk] | (refine BrW.of (fun hb => ?_) (fun hb => ?_) <;> (have hb' := hb; try simp only [decide_eq_true_eq, decide_eq_false_iff_not, beq_iff_eq, bne_iff_ne, beq_eq_false_iff_ne, bne_eq_false_iff_eq, Bool.not_eq_true', Bool.not_eq_false', Bool.not_eq_true, Bool.not_eq_false, Bool.and_eq_true, Bool.or_eq_true, Bool.and_eq_false_iff, Bool.or_eq_false_iff, Int.not_lt, Int.not_le, ne_eq, gt_iff_lt, ge_iff_le] at hb') <;> (try (exfalso; omega))) | (refine altW.of ?_ ?_)
      all_goals
        refine loopW.of (by decide) (fun m e Z => ∃ (f : Nat) (S' : St) (u : Int), e = [(0, .pointer (some ⟨B, 0, some 1⟩)), (2, .pointer (some ⟨J.length, 0, some 1⟩)), (4, .pointer (some ⟨J.length + 1, 0, some 1⟩)), (6, .int .i64 u)] ∧ WK P B F gF n kd S' (updQ q lf (q lf).tail) kv wv' Z ∧ Fr P F J Z ∧ Fr (J.length + 2) F G1 Z ∧ OkS n (M + 8000000000 + 8100000000 * ((n : Int) - f)) S' ∧ Tk n kd S' ∧ climb kd true f S' u = climb kd true n S1 (S lf).up ∧ u < f ∧ f ≤ n ∧ -1 ≤ u ∧ (0 ≤ u → kd u.toNat ≠ []) ∧ m = (u + 1).toNat) ((S lf).up + 1).toNat ⟨n, S1, (S lf).up, rfl, hWG, hFrG, Fr.refl _ _ _, by rw [Int.sub_self, Int.mul_zero, Int.add_zero]; exact hok1, hTz, rfl, by rcases hup with h | ⟨p, h, h2⟩ <;> omega, Nat.le_refl _, by rcases hup with h | ⟨p, h, h2⟩ <;> omega, fun h => by
          rcases hup with h1 | ⟨p, h1, h2⟩
          · omega
          · rw [h1, Int.toNat_natCast]; exact hT.up_ne hln (by omega) h1, rfl⟩ ?_
        rintro m e Z ⟨f, S', u, rfl, hWZ, hFrZ, hFr2Z, hokZ, hTZ, hcZ, huf, hfn, hu1, hkd, rfl⟩
        have hZB := hWZ.box
        have hZF := hWZ.st
        by_cases hu0 : 0 ≤ u
        · obtain ⟨p, rfl⟩ := Int.eq_ofNat_of_zero_le hu0
          have hpn : p < n := by omega
          obtain ⟨f, rfl⟩ : ∃ f', f = f' + 1 := ⟨f - 1, by omega⟩
          have e0' := g0 hpn
          have hkd := hkd hu0
          rw [Int.toNat_natCast] at hkd
          have hcl1 : climb kd true (f + 1) S' p = climb kd true f (pickH S' (kd p) p true) (S' p).up := by
            show (if _ then _ else _) = _
            rw [if_pos ⟨hu0, .inl rfl⟩, Int.toNat_natCast]
          rw [hcl1] at hcZ
          repeat' first | simp (disch := first | with_reducible assumption | omega) only [go_sem, Bool.true_and, Bool.and_true, Bool.and_self, Bool.false_and, Bool.and_false, Bool.true_or, Bool.or_true, Bool.false_or, Bool.or_false, ↓reduceIte, Nat.reduceEqDiff, Nat.reduceAdd, Nat.reduceMul, Nat.reduceSub, Nat.reduceBEq, Nat.reduceLeDiff, Nat.reduceLT, Nat.reduceMod, Nat.reduceDiv, Int.reduceToNat, Int.reducePow, Int.reduceMul, Int.reduceAdd, Int.reduceSub, Int.reduceLE, Int.reduceLT, Int.reduceNeg, Int.reduceDiv, Int.reduceMod, Int.reduceEq, Int.reduceBEq, Int.reduceBNe, f16, f16b, f16r0, f16r1, f16r2, f16r3, f16r4, f16r5, f16r6, f16r7, f16r8, f16r9, f16r10, f16r11, f16r12, f16r14, f16l0, hZB, hZF, hcl] | (refine BrW.of (fun hb => ?_) (fun hb => ?_) <;> (have hb' := hb; try simp only [decide_eq_true_eq, decide_eq_false_iff_not, beq_iff_eq, bne_iff_ne, beq_eq_false_iff_ne, bne_eq_false_iff_eq, Bool.not_eq_true', Bool.not_eq_false', Bool.not_eq_true, Bool.not_eq_false, Bool.and_eq_true, Bool.or_eq_true, Bool.and_eq_false_iff, Bool.or_eq_false_iff, Int.not_lt, Int.not_le, ne_eq, gt_iff_lt, ge_iff_le] at hb') <;> (try (exfalso; omega))) | (refine altW.of ?_ ?_)
          obtain ⟨kq, ok, gk, ck, k1, k2, k3, k4, k5⟩ := hWZ.kids p hpn hkd
          refine .of ((pick_spec B F gF n S' kv wv' _ p true (kd p) kq ok gk ck Z hZB hZF hBF hn hokZ (by omega) hpn k1 k4 k5 k3 (hTZ.in_n hpn) (hTZ.ne hokZ hpn) (hTZ.len p hpn)).mono ?_)
          rintro v Z1 ⟨rfl, X, rfl⟩
          obtain ⟨hW2, hFr2⟩ := hWZ.put (Nat.le_trans hPJ hFrZ.1) (pickH S' (kd p) p true) X
          have hFr3 := Fr.put (P := J.length + 2) (F := F) (J := Z) (Nat.le_trans hGl1 hFr2Z.1) (.cells gF 10 false (cN n (pickH S' (kd p) p true) kv wv')) X
          have hok2 := hokZ.pick (hTZ.in_n hpn) hpn true
          have hst2 : ∀ j, (pickH S' (kd p) p true j).up = (S' j).up := fun j => (pickH_stat _ _ _ _ _).1
          have hT2 := hTZ.stat hst2
          have hup2 := hokZ.up_lt hpn
          have hup3 := fun r (h : (S' p).up = (r : Nat)) (h2 : r < p) => hTZ.up_ne hpn (show r < n by omega) h
          have hB2 := hW2.box
          have hF2 := hW2.st
          have hs2 := hst2 p
          generalize pickH S' (kd p) p true = S2 at *
          generalize Z.set F (AObj.cells gF 10 false (cN n S2 kv wv')) ++ X = Z2 at *
          repeat' first | simp (disch := first | with_reducible assumption | omega) only [go_sem, Bool.true_and, Bool.and_true, Bool.and_self, Bool.false_and, Bool.and_false, Bool.true_or, Bool.or_true, Bool.false_or, Bool.or_false, ↓reduceIte, Nat.reduceEqDiff, Nat.reduceAdd, Nat.reduceMul, Nat.reduceSub, Nat.reduceBEq, Nat.reduceLeDiff, Nat.reduceLT, Nat.reduceMod, Nat.reduceDiv, Int.reduceToNat, Int.reducePow, Int.reduceMul, Int.reduceAdd, Int.reduceSub, Int.reduceLE, Int.reduceLT, Int.reduceNeg, Int.reduceDiv, Int.reduceMod, Int.reduceEq, Int.reduceBEq, Int.reduceBNe, f16, f16b, f16r0, f16r1, f16r2, f16r3, f16r4, f16r5, f16r6, f16r7, f16r8, f16r9, f16r10, f16r11, f16r12, f16r14, hB2, hF2, hcl, e0', hs2] | (refine BrW.of (fun hb => ?_) (fun hb => ?_) <;> (have hb' := hb; try simp only [decide_eq_true_eq, decide_eq_false_iff_not, beq_iff_eq, bne_iff_ne, beq_eq_false_iff_ne, bne_eq_false_iff_eq, Bool.not_eq_true', Bool.not_eq_false', Bool.not_eq_true, Bool.not_eq_false, Bool.and_eq_true, Bool.or_eq_true, Bool.and_eq_false_iff, Bool.or_eq_false_iff, Int.not_lt, Int.not_le, ne_eq, gt_iff_lt, ge_iff_le] at hb') <;> (try (exfalso; omega))) | (refine altW.of ?_ ?_)
          refine RdW.keep [0, 2, 4, 6] ((S' p).up + 1).toNat (by rcases hup2 with h | ⟨r, h, h2⟩ <;> omega) ?_
          simp (disch := first | with_reducible assumption | omega) only [go_sem, Bool.true_and, Bool.and_true, Bool.and_self, Bool.false_and, Bool.and_false, Bool.true_or, Bool.or_true, Bool.false_or, Bool.or_false, ↓reduceIte, Nat.reduceEqDiff, Nat.reduceAdd, Nat.reduceMul, Nat.reduceSub, Nat.reduceBEq, Nat.reduceLeDiff, Nat.reduceLT, Nat.reduceMod, Nat.reduceDiv, Int.reduceToNat, Int.reducePow, Int.reduceMul, Int.reduceAdd, Int.reduceSub, Int.reduceLE, Int.reduceLT, Int.reduceNeg, Int.reduceDiv, Int.reduceMod, Int.reduceEq, Int.reduceBEq, Int.reduceBNe]
          exact ⟨f, S2, (S' p).up, rfl, hW2, hFrZ.trans hFr2, hFr2Z.trans hFr3, hok2.mono (by omega), hT2, hcZ, by rcases hup2 with h | ⟨r, h, h2⟩ <;> omega, by omega, by rcases hup2 with h | ⟨r, h, h2⟩ <;> omega, fun h0 => by
              rcases hup2 with h1 | ⟨r, h1, h2⟩
              · omega
              · rw [h1, Int.toNat_natCast]; exact hup3 r h1 h2, rfl⟩
        · have hcl1 : climb kd true f S' u = S' := by
            cases f with
            | zero => rfl
            | succ f => show (if _ then _ else _) = _
                        rw [if_neg (fun h => hu0 h.1)]
          rw [hcl1] at hcZ
          have hZA := (hFr2Z.2 J.length (by omega) (by omega)).trans hGA
          have hZD := (hFr2Z.2 (J.length + 1) (by omega) (by omega)).trans hGD
          have hgZ : ∀ y : AObj, (Z.set J.length y)[J.length]? = some y := fun y => get_set_hit hZA
          repeat' first | simp (disch := first | with_reducible assumption | omega) only [go_sem, Bool.true_and, Bool.and_true, Bool.and_self, Bool.false_and, Bool.and_false, Bool.true_or, Bool.or_true, Bool.false_or, Bool.or_false, ↓reduceIte, Nat.reduceEqDiff, Nat.reduceAdd, Nat.reduceMul, Nat.reduceSub, Nat.reduceBEq, Nat.reduceLeDiff, Nat.reduceLT, Nat.reduceMod, Nat.reduceDiv, Int.reduceToNat, Int.reducePow, Int.reduceMul, Int.reduceAdd, Int.reduceSub, Int.reduceLE, Int.reduceLT, Int.reduceNeg, Int.reduceDiv, Int.reduceMod, Int.reduceEq, Int.reduceBEq, Int.reduceBNe, f16, f16b, f16r0, f16r1, f16r2, f16r3, f16r4, f16r5, f16r6, f16r7, f16r8, f16r9, f16r10, f16r11, f16r12, f16r14, f16l0, f16, f16b, f16r0, f16r1, f16r2, f16r3, f16r4, f16r5, f16r6, f16r7, f16r8, f16r9, f16r10, f16r11, f16r12, f16r14, hZA, hZD, hgZ] | (refine BrW.of (fun hb => ?_) (fun hb => ?_) <;> (have hb' := hb; try simp only [decide_eq_true_eq, decide_eq_false_iff_not, beq_iff_eq, bne_iff_ne, beq_eq_false_iff_ne, bne_eq_false_iff_eq, Bool.not_eq_true', Bool.not_eq_false', Bool.not_eq_true, Bool.not_eq_false, Bool.and_eq_true, Bool.or_eq_true, Bool.and_eq_false_iff, Bool.or_eq_false_iff, Int.not_lt, Int.not_le, ne_eq, gt_iff_lt, ge_iff_le] at hb') <;> (try (exfalso; omega))) | (refine altW.of ?_ ?_)
          exact .here ⟨hFrZ.setP hPJ _, .inr ⟨lf, h0, hl, hln, hqn, rfl, wv', ((hcZ.trans hout.symm) ▸ hWZ).set0 hPJ hZA _⟩⟩
end Go.Proofs.Ytknfaoonjmlncaa
