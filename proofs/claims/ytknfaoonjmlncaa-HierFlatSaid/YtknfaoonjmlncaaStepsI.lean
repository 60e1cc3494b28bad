import Derived.Test.YtknfaoonjmlncaaStepsP
import Derived.Test.YtknfaoonjmlncaaPlainR
set_option linter.unusedSimpArgs false
set_option linter.unusedVariables false
set_option maxHeartbeats 4000000
set_option maxRecDepth 20000
namespace Go.Proofs.Ytknfaoonjmlncaa
open Go Go.Am
attribute [local irreducible] opsW Ww loopW callW drawW outW outDW gW cW BrW bothW vW resW DropW RdW dcallW altW Later.run

theorem get_app {H : Heap} {k : Nat} (h : k < H.length) (X : Heap) : (H ++ X)[k]? = H[k]? := List.getElem?_append_left h
theorem ints_nil : ints [] = [] := rfl
theorem drop_ints {cs : List Value} {o : Nat} {l : List Int} (hd : cs.drop o = ints l) : (cs.drop o).take l.length = ints l := by rw [hd]; exact ints_take l _ (Nat.le_refl _)
theorem drop_len {cs : List Value} {o : Nat} {l : List Int} (hd : cs.drop o = ints l) (ho : o ≤ cs.length) : o + l.length = cs.length := by
  have := congrArg List.length hd
  rw [List.length_drop, ints_length] at this
  omega
/-- The engine at B, its nodes at F, what waits from P on. -/
structure WK (P B F gF n : Nat) (kd : Nat → List Int) (S : St) (q : Nat → List Int) (kv wv : Nat → Value) (J : Heap) : Prop where
  lt : B < P ∧ F < P ∧ B ≠ F
  box : J[B]? = some (.cells 0 0 false [slv F 0 gF n n])
  st : J[F]? = some (.cells gF 10 false (cN n S kv wv))
  kids : ∀ k, k < n → kd k ≠ [] → ∃ kq ok gk cs, kv k = slv kq ok gk (kd k).length (kd k).length ∧ kq < P ∧ kq ≠ F ∧ J[kq]? = some (.cells gk 1 false cs) ∧ ∀ i, i < (kd k).length → cs[ok + i]? = some (.int .i64 ((kd k).getD i 0))
  own : Own P n wv q J
def Fr (P F : Nat) (J J' : Heap) : Prop := J.length ≤ J'.length ∧ ∀ j, j < P → j ≠ F → J'[j]? = J[j]?
theorem Fr.refl (P F : Nat) (J : Heap) : Fr P F J J := ⟨Nat.le_refl _, fun _ _ _ => rfl⟩
theorem Fr.trans {P F : Nat} {J J' J'' : Heap} (h : Fr P F J J') (h' : Fr P F J' J'') : Fr P F J J'' := ⟨Nat.le_trans h.1 h'.1, fun j a b => (h'.2 j a b).trans (h.2 j a b)⟩
theorem WK.put {P B F gF n : Nat} {kd : Nat → List Int} {S : St} {q : Nat → List Int} {kv wv : Nat → Value} {J : Heap} (h : WK P B F gF n kd S q kv wv J) (hP : P ≤ J.length) (S' : St) (X : Heap) :
    WK P B F gF n kd S' q kv wv (J.set F (.cells gF 10 false (cN n S' kv wv)) ++ X) ∧ Fr P F J (J.set F (.cells gF 10 false (cN n S' kv wv)) ++ X) := by
  obtain ⟨h1, h2, h3⟩ := h.lt
  refine ⟨⟨h.lt, get_old ((get_set_miss (by omega)).trans h.box) X, get_old (get_set_hit h.st) X, fun k hk hne => ?_, h.own.agree fun k hk o ho => get_old ((get_set_miss (by omega)).trans ho) X⟩, by simp, fun j hj hjF => ?_⟩
  · obtain ⟨kq, ok, gk, ck, e1, e2, e3, e4, e5⟩ := h.kids k hk hne
    exact ⟨kq, ok, gk, ck, e1, e2, e3, get_old ((get_set_miss (by omega)).trans e4) X, e5⟩
  · rw [get_app (by simp; omega), List.getElem?_set_ne (by omega)]
theorem in_spec (P B F gF n : Nat) (kd : Nat → List Int) (S : St) (q : Nat → List Int) (kv wv : Nat → Value) (M : Int) (k : Nat) (b : Int) (J : Heap) (hW : WK P B F gF n kd S q kv wv J) (hok : OkS n M S) (hT : Tk n kd S) (hM : 0 ≤ M ∧ M ≤ 100000000000000) (hn : n ≤ 16) (hk : k < n) (hb : 1 ≤ b ∧ b ≤ 1500) (hql : (q k).length ≤ 1000000) (hPJ : P ≤ J.length) :
    ACallK Try.prog 17 [.pointer (some ⟨B, 0, some 1⟩), .int .i64 k, .int .i64 b] J (fun v J' => v = .tuple #[] ∧ (∃ wv', WK P B F gF n kd (inH n kd S k b) (updQ q k (q k ++ [b])) kv wv' J') ∧ Fr P F J J') := by
  obtain ⟨⟨hBP, hFP, hBF⟩, hB, hF, hkids, q', o, g, cs, hX⟩ := hW
  have hFl := (List.getElem?_eq_some_iff.1 hF).1
  have hcl := cN_len n
  have e9 := g9 hk S kv wv
  have t9 := s9 hk S kv wv
  have hat := hX.at' k hk
  have hqo : ∀ j, j < n → j ≠ k → updQ q k (q k ++ [b]) j = q j := fun j _ h => by unfold updQ; rw [if_neg h]
  have hqk : updQ q k (q k ++ [b]) k = q k ++ [b] := by unfold updQ; rw [if_pos rfl]
  have hvo : ∀ v j, j < n → j ≠ k → updV wv k v j = wv j := fun v j _ h => updV_ne h
  refine .walkW f17_ok (by simp; decide) (by decide) ?_
  rcases hat with ⟨hv, hq⟩ | ⟨hv, hqP, hQ, hd, ho⟩
  case' inl =>
    rw [hv] at e9
    repeat' first | simp (disch := first | with_reducible assumption | omega) only [go_sem, Bool.true_and, Bool.and_true, Bool.and_self, Bool.false_and, Bool.and_false, Bool.true_or, Bool.or_true, Bool.false_or, Bool.or_false, ↓reduceIte, Nat.reduceEqDiff, Nat.reduceAdd, Nat.reduceMul, Nat.reduceSub, Nat.reduceBEq, Nat.reduceLeDiff, Nat.reduceLT, Nat.reduceMod, Nat.reduceDiv, Int.reduceToNat, Int.reducePow, Int.reduceMul, Int.reduceAdd, Int.reduceSub, Int.reduceLE, Int.reduceLT, Int.reduceNeg, Int.reduceDiv, Int.reduceMod, Int.reduceEq, Int.reduceBEq, Int.reduceBNe, f17, f17b, f17r0, f17r1, f17r2, f17r3, f17r4, f17r5, f17r6, f17r7, hB, hF, get_old hF, get_old hB, hcl, e9, t9] | (refine BrW.of (fun hb => ?_) (fun hb => ?_) <;> (have hb' := hb; try simp only [decide_eq_true_eq, decide_eq_false_iff_not, beq_iff_eq, bne_iff_ne, beq_eq_false_iff_ne, bne_eq_false_iff_eq, Bool.not_eq_true', Bool.not_eq_false', Bool.not_eq_true, Bool.not_eq_false, Bool.and_eq_true, Bool.or_eq_true, Bool.and_eq_false_iff, Bool.or_eq_false_iff, Int.not_lt, Int.not_le, ne_eq, gt_iff_lt, ge_iff_le] at hb') <;> (try (exfalso; omega))) | (refine altW.of ?_ ?_)
    have hfin : ∃ G, ((J ++ [AObj.cells 0 1 false [Value.int IntKind.i64 b], AObj.cells 0 1 false [Value.int IntKind.i64 b]]).set F (AObj.cells gF 10 false (cN n S kv (updV wv k (slv (J.length + 1) 0 0 1 1))))) = G ∧ WK P B F gF n kd S (updQ q k (q k ++ [b])) kv (updV wv k (slv (J.length + 1) 0 0 1 1)) G ∧ Fr P F J G := by
      refine ⟨_, rfl, ⟨⟨hBP, hFP, hBF⟩, (get_set_miss (by omega)).trans (get_old hB _), get_set_hit (get_old hF _), fun j hj hne => ?_, ?_⟩, by simp, fun j hj hjF => by rw [List.getElem?_set_ne (by omega), get_app (by omega)]⟩
      · obtain ⟨kq, ok, gk, ck, e1, e2, e3, e4, e5⟩ := hkids j hj hne
        exact ⟨kq, ok, gk, ck, e1, e2, e3, (get_set_miss (by omega)).trans (get_old e4 _), e5⟩
      · refine hX.step (f := k) (q' := J.length + 1) (o' := 0) (g' := 0) (cs' := [.int .i64 b]) (l' := [b]) (by rw [updV_same]; rfl) (by rw [hqk, hq]; rfl) (hvo _) hqo (by omega) ((get_set_miss (by omega)).trans (by rw [get_new]; rfl)) rfl (by simp) (fun j hj h1 h2 => by have := hX.lt hj h2; omega) (fun j hj h1 h2 => by have := hX.lt hj h2; have := hX.ge hj h2; rw [List.getElem?_set_ne (by omega), get_app (by omega)])
    obtain ⟨G, hGe, hWG, hFrG⟩ := hfin
    simp only [slv] at hGe
    rw [hGe]
    clear hGe
    generalize updV wv k (slv (J.length + 1) 0 0 1 1) = wv' at *
  case' inr =>
    rw [hv] at e9
    have hql2 := drop_len hd ho
    have hdt := drop_ints hd
    have il := ints_length (q k)
    have is := ints_snoc (q k) b
    have hni : ¬ (q k).length + 1 ≤ (q k).length := by omega
    have nF0 : ∀ X y, ((J ++ X).set (q' k) y)[F]? = _ := fun X y => (get_set_miss (by omega)).trans (get_old hF X)
    repeat' first | simp (disch := first | with_reducible assumption | omega) only [go_sem, Bool.true_and, Bool.and_true, Bool.and_self, Bool.false_and, Bool.and_false, Bool.true_or, Bool.or_true, Bool.false_or, Bool.or_false, ↓reduceIte, Nat.reduceEqDiff, Nat.reduceAdd, Nat.reduceMul, Nat.reduceSub, Nat.reduceBEq, Nat.reduceLeDiff, Nat.reduceLT, Nat.reduceMod, Nat.reduceDiv, Int.reduceToNat, Int.reducePow, Int.reduceMul, Int.reduceAdd, Int.reduceSub, Int.reduceLE, Int.reduceLT, Int.reduceNeg, Int.reduceDiv, Int.reduceMod, Int.reduceEq, Int.reduceBEq, Int.reduceBNe, f17, f17b, f17r0, f17r1, f17r2, f17r3, f17r4, f17r5, f17r6, f17r7, hB, hF, get_old hF, get_old hB, hcl, e9, t9, hQ, get_old hQ, hdt, is, il, hni, nF0] | (refine BrW.of (fun hb => ?_) (fun hb => ?_) <;> (have hb' := hb; try simp only [decide_eq_true_eq, decide_eq_false_iff_not, beq_iff_eq, bne_iff_ne, beq_eq_false_iff_ne, bne_eq_false_iff_eq, Bool.not_eq_true', Bool.not_eq_false', Bool.not_eq_true, Bool.not_eq_false, Bool.and_eq_true, Bool.or_eq_true, Bool.and_eq_false_iff, Bool.or_eq_false_iff, Int.not_lt, Int.not_le, ne_eq, gt_iff_lt, ge_iff_le] at hb') <;> (try (exfalso; omega))) | (refine altW.of ?_ ?_)
    have hqJ := (List.getElem?_eq_some_iff.1 hQ).1
    have hfin : ∃ G, ((J ++ [AObj.cells 0 1 false [Value.int IntKind.i64 b]]).set (q' k) (AObj.cells (g k + 1) 1 false (ints (q k ++ [b])))).set F (AObj.cells gF 10 false (cN n S kv (updV wv k (slv (q' k) 0 (g k + 1) ((q k).length + 1) ((q k).length + 1))))) = G ∧ WK P B F gF n kd S (updQ q k (q k ++ [b])) kv (updV wv k (slv (q' k) 0 (g k + 1) ((q k).length + 1) ((q k).length + 1))) G ∧ Fr P F J G := by
      refine ⟨_, rfl, ⟨⟨hBP, hFP, hBF⟩, (get_set_miss (by omega)).trans ((get_set_miss (by omega)).trans (get_old hB _)), get_set_hit ((get_set_miss (by omega)).trans (get_old hF _)), fun j hj hne => ?_, ?_⟩, by simp, fun j hj hjF => by rw [List.getElem?_set_ne (by omega), List.getElem?_set_ne (by omega), get_app (by omega)]⟩
      · obtain ⟨kq, ok, gk, ck, e1, e2, e3, e4, e5⟩ := hkids j hj hne
        exact ⟨kq, ok, gk, ck, e1, e2, e3, (get_set_miss (by omega)).trans ((get_set_miss (by omega)).trans (get_old e4 _)), e5⟩
      · refine hX.step (f := k) (q' := q' k) (o' := 0) (g' := g k + 1) (cs' := ints (q k ++ [b])) (l' := q k ++ [b]) (by rw [updV_same]; simp) hqk (hvo _) hqo hqP ((get_set_miss (by omega)).trans (get_set_hit (get_old hQ _))) (by rw [List.drop_zero]) (by omega) (fun j hj h1 h2 => hX.inj j k hj hk h1 h2 (by rw [hv]; exact slv_ne _ _ _ _ _)) (fun j hj h1 h2 => by
          have := hX.lt hj h2
          have := hX.ge hj h2
          have := hX.inj j k hj hk h1 h2 (by rw [hv]; exact slv_ne _ _ _ _ _)
          rw [List.getElem?_set_ne (by omega), List.getElem?_set_ne (by omega), get_app (by omega)])
    obtain ⟨G, hGe, hWG, hFrG⟩ := hfin
    simp only [slv] at hGe
    rw [hGe]
    clear hGe
    generalize updV wv k (slv (q' k) 0 (g k + 1) ((q k).length + 1) ((q k).length + 1)) = wv' at *
  all_goals
    have hGB := hWG.box
    have hGF := hWG.st
    have e5 := g5 hk
    have hbk := hok.b k hk
    have hGP : P ≤ G.length := Nat.le_trans hPJ hFrG.1
    clear hX
    by_cases hb0 : 0 < (S k).bytes
    · have hin : inH n kd S k b = S := by unfold inH; rw [if_pos hb0]
      rw [hin]
      repeat' first | simp (disch := first | with_reducible assumption | omega) only [go_sem, Bool.true_and, Bool.and_true, Bool.and_self, Bool.false_and, Bool.and_false, Bool.true_or, Bool.or_true, Bool.false_or, Bool.or_false, ↓reduceIte, Nat.reduceEqDiff, Nat.reduceAdd, Nat.reduceMul, Nat.reduceSub, Nat.reduceBEq, Nat.reduceLeDiff, Nat.reduceLT, Nat.reduceMod, Nat.reduceDiv, Int.reduceToNat, Int.reducePow, Int.reduceMul, Int.reduceAdd, Int.reduceSub, Int.reduceLE, Int.reduceLT, Int.reduceNeg, Int.reduceDiv, Int.reduceMod, Int.reduceEq, Int.reduceBEq, Int.reduceBNe, f17, f17b, f17r0, f17r1, f17r2, f17r3, f17r4, f17r5, f17r6, f17r7, hGB, hGF, hcl, e5] | (refine BrW.of (fun hb => ?_) (fun hb => ?_) <;> (have hb' := hb; try simp only [decide_eq_true_eq, decide_eq_false_iff_not, beq_iff_eq, bne_iff_ne, beq_eq_false_iff_ne, bne_eq_false_iff_eq, Bool.not_eq_true', Bool.not_eq_false', Bool.not_eq_true, Bool.not_eq_false, Bool.and_eq_true, Bool.or_eq_true, Bool.and_eq_false_iff, Bool.or_eq_false_iff, Int.not_lt, Int.not_le, ne_eq, gt_iff_lt, ge_iff_le] at hb') <;> (try (exfalso; omega))) | (refine altW.of ?_ ?_)
      exact .here ⟨rfl, ⟨_, hWG⟩, hFrG⟩
    · have hin : inH n kd S k b = climb kd false n (updS S k (offH S k k b false)) (S k).up := by unfold inH; rw [if_neg hb0]
      rw [hin]
      repeat' first | simp (disch := first | with_reducible assumption | omega) only [go_sem, Bool.true_and, Bool.and_true, Bool.and_self, Bool.false_and, Bool.and_false, Bool.true_or, Bool.or_true, Bool.false_or, Bool.or_false, ↓reduceIte, Nat.reduceEqDiff, Nat.reduceAdd, Nat.reduceMul, Nat.reduceSub, Nat.reduceBEq, Nat.reduceLeDiff, Nat.reduceLT, Nat.reduceMod, Nat.reduceDiv, Int.reduceToNat, Int.reducePow, Int.reduceMul, Int.reduceAdd, Int.reduceSub, Int.reduceLE, Int.reduceLT, Int.reduceNeg, Int.reduceDiv, Int.reduceMod, Int.reduceEq, Int.reduceBEq, Int.reduceBNe, f17, f17b, f17r0, f17r1, f17r2, f17r3, f17r4, f17r5, f17r6, f17r7, hGB, hGF, hcl, e5] | (refine BrW.of (fun hb => ?_) (fun hb => ?_) <;> (have hb' := hb; try simp only [decide_eq_true_eq, decide_eq_false_iff_not, beq_iff_eq, bne_iff_ne, beq_eq_false_iff_ne, bne_eq_false_iff_eq, Bool.not_eq_true', Bool.not_eq_false', Bool.not_eq_true, Bool.not_eq_false, Bool.and_eq_true, Bool.or_eq_true, Bool.and_eq_false_iff, Bool.or_eq_false_iff, Int.not_lt, Int.not_le, ne_eq, gt_iff_lt, ge_iff_le] at hb') <;> (try (exfalso; omega))) | (refine altW.of ?_ ?_)
      refine .of ((offer_spec B F gF n S kv wv' M k k b false G hGB hGF hBF hn hok (by omega) hk (by omega)).mono ?_)
      rintro v G1 ⟨rfl, hG1⟩
      have hp1 := hWG.put hGP (updS S k (offH S k k b false)) []
      rw [List.append_nil, ← hG1] at hp1
      obtain ⟨hW1, hFr1⟩ := hp1
      have hok1 := hok.off hk (k : Int) (b := b) (by omega) false
      have hst1 : ∀ j, (updS S k (offH S k k b false) j).up = (S j).up := fun j => by
        by_cases e : j = k
        · subst e; rw [updS_same]; exact (offH_stat _ _ _ _ _).1
        · rw [updS_ne e]
      have hT1 := hT.stat hst1
      clear hG1
      have hup := hok.up_lt hk
      have e0 := g0 hk
      have hGB1 := hW1.box
      have hGF1 := hW1.st
      have hsk := hst1 k
      generalize updS S k (offH S k k b false) = S1 at *
      repeat' first | simp (disch := first | with_reducible assumption | omega) only [go_sem, Bool.true_and, Bool.and_true, Bool.and_self, Bool.false_and, Bool.and_false, Bool.true_or, Bool.or_true, Bool.false_or, Bool.or_false, ↓reduceIte, Nat.reduceEqDiff, Nat.reduceAdd, Nat.reduceMul, Nat.reduceSub, Nat.reduceBEq, Nat.reduceLeDiff, Nat.reduceLT, Nat.reduceMod, Nat.reduceDiv, Int.reduceToNat, Int.reducePow, Int.reduceMul, Int.reduceAdd, Int.reduceSub, Int.reduceLE, Int.reduceLT, Int.reduceNeg, Int.reduceDiv, Int.reduceMod, Int.reduceEq, Int.reduceBEq, Int.reduceBNe, f17, f17b, f17r0, f17r1, f17r2, f17r3, f17r4, f17r5, f17r6, f17r7, hGB1, hGF1, hcl, e0, hsk] | (refine BrW.of (fun hb => ?_) (fun hb => ?_) <;> (have hb' := hb; try simp only [decide_eq_true_eq, decide_eq_false_iff_not, beq_iff_eq, bne_iff_ne, beq_eq_false_iff_ne, bne_eq_false_iff_eq, Bool.not_eq_true', Bool.not_eq_false', Bool.not_eq_true, Bool.not_eq_false, Bool.and_eq_true, Bool.or_eq_true, Bool.and_eq_false_iff, Bool.or_eq_false_iff, Int.not_lt, Int.not_le, ne_eq, gt_iff_lt, ge_iff_le] at hb') <;> (try (exfalso; omega))) | (refine altW.of ?_ ?_)
      refine loopW.of (by decide) (fun m e Z => ∃ (f : Nat) (S' : St) (u : Int), e = [(0, .pointer (some ⟨B, 0, some 1⟩)), (7, .int .i64 u)] ∧ WK P B F gF n kd S' (updQ q k (q k ++ [b])) kv wv' Z ∧ Fr P F J Z ∧ OkS n (M + 8000000000 + 8100000000 * ((n : Int) - f)) S' ∧ Tk n kd S' ∧ climb kd false f S' u = climb kd false n S1 (S k).up ∧ u < f ∧ f ≤ n ∧ -1 ≤ u ∧ (0 ≤ u → kd u.toNat ≠ []) ∧ m = (u + 1).toNat) ((S k).up + 1).toNat ⟨n, S1, (S k).up, rfl, hW1, hFrG.trans hFr1, by rw [Int.sub_self, Int.mul_zero, Int.add_zero]; exact hok1, hT1, rfl, by rcases hup with h | ⟨p, h, h2⟩ <;> omega, Nat.le_refl _, by rcases hup with h | ⟨p, h, h2⟩ <;> omega, fun h => by
        rcases hup with h1 | ⟨p, h1, h2⟩
        · omega
        · rw [h1, Int.toNat_natCast]; exact hT.up_ne hk (by omega) h1, rfl⟩ ?_
      rintro m e Z ⟨f, S', u, rfl, hWZ, hFrZ, hokZ, hTZ, hcZ, huf, hfn, hu1, hkd, rfl⟩
      have hZB := hWZ.box
      have hZF := hWZ.st
      by_cases hu0 : 0 ≤ u
      · obtain ⟨p, rfl⟩ := Int.eq_ofNat_of_zero_le hu0
        have hpn : p < n := by omega
        obtain ⟨f, rfl⟩ : ∃ f', f = f' + 1 := ⟨f - 1, by omega⟩
        have e5' := g5 hpn
        have e0' := g0 hpn
        have hkd := hkd hu0
        rw [Int.toNat_natCast] at hkd
        by_cases hbz : (S' p).bytes = 0
        · have hcl1 : climb kd false (f + 1) S' p = climb kd false f (pickH S' (kd p) p false) (S' p).up := by
            show (if _ then _ else _) = _
            rw [if_pos ⟨hu0, .inr (by rw [Int.toNat_natCast]; exact hbz)⟩, Int.toNat_natCast]
          rw [hcl1] at hcZ
          repeat' first | simp (disch := first | with_reducible assumption | omega) only [go_sem, Bool.true_and, Bool.and_true, Bool.and_self, Bool.false_and, Bool.and_false, Bool.true_or, Bool.or_true, Bool.false_or, Bool.or_false, ↓reduceIte, Nat.reduceEqDiff, Nat.reduceAdd, Nat.reduceMul, Nat.reduceSub, Nat.reduceBEq, Nat.reduceLeDiff, Nat.reduceLT, Nat.reduceMod, Nat.reduceDiv, Int.reduceToNat, Int.reducePow, Int.reduceMul, Int.reduceAdd, Int.reduceSub, Int.reduceLE, Int.reduceLT, Int.reduceNeg, Int.reduceDiv, Int.reduceMod, Int.reduceEq, Int.reduceBEq, Int.reduceBNe, f17, f17b, f17r0, f17r1, f17r2, f17r3, f17r4, f17r5, f17r6, f17r7, f17l0, hZB, hZF, hcl, e5', hbz] | (refine BrW.of (fun hb => ?_) (fun hb => ?_) <;> (have hb' := hb; try simp only [decide_eq_true_eq, decide_eq_false_iff_not, beq_iff_eq, bne_iff_ne, beq_eq_false_iff_ne, bne_eq_false_iff_eq, Bool.not_eq_true', Bool.not_eq_false', Bool.not_eq_true, Bool.not_eq_false, Bool.and_eq_true, Bool.or_eq_true, Bool.and_eq_false_iff, Bool.or_eq_false_iff, Int.not_lt, Int.not_le, ne_eq, gt_iff_lt, ge_iff_le] at hb') <;> (try (exfalso; omega))) | (refine altW.of ?_ ?_)
          obtain ⟨kq, ok, gk, ck, k1, k2, k3, k4, k5⟩ := hWZ.kids p hpn hkd
          refine .of ((pick_spec B F gF n S' kv wv' _ p false (kd p) kq ok gk ck Z hZB hZF hBF hn hokZ (by omega) hpn k1 k4 k5 k3 (hTZ.in_n hpn) (hTZ.ne hokZ hpn) (hTZ.len p hpn)).mono ?_)
          rintro v Z1 ⟨rfl, X, rfl⟩
          obtain ⟨hW2, hFr2⟩ := hWZ.put (Nat.le_trans hPJ hFrZ.1) (pickH S' (kd p) p false) X
          have hok2 := hokZ.pick (hTZ.in_n hpn) hpn false
          have hst2 : ∀ j, (pickH S' (kd p) p false j).up = (S' j).up := fun j => (pickH_stat _ _ _ _ _).1
          have hT2 := hTZ.stat hst2
          have hup2 := hokZ.up_lt hpn
          have hup3 := fun r (h : (S' p).up = (r : Nat)) (h2 : r < p) => hTZ.up_ne hpn (show r < n by omega) h
          have hB2 := hW2.box
          have hF2 := hW2.st
          have hs2 := hst2 p
          generalize pickH S' (kd p) p false = S2 at *
          generalize Z.set F (AObj.cells gF 10 false (cN n S2 kv wv')) ++ X = Z2 at *
          repeat' first | simp (disch := first | with_reducible assumption | omega) only [go_sem, Bool.true_and, Bool.and_true, Bool.and_self, Bool.false_and, Bool.and_false, Bool.true_or, Bool.or_true, Bool.false_or, Bool.or_false, ↓reduceIte, Nat.reduceEqDiff, Nat.reduceAdd, Nat.reduceMul, Nat.reduceSub, Nat.reduceBEq, Nat.reduceLeDiff, Nat.reduceLT, Nat.reduceMod, Nat.reduceDiv, Int.reduceToNat, Int.reducePow, Int.reduceMul, Int.reduceAdd, Int.reduceSub, Int.reduceLE, Int.reduceLT, Int.reduceNeg, Int.reduceDiv, Int.reduceMod, Int.reduceEq, Int.reduceBEq, Int.reduceBNe, f17, f17b, f17r0, f17r1, f17r2, f17r3, f17r4, f17r5, f17r6, f17r7, hB2, hF2, hcl, e0', hs2] | (refine BrW.of (fun hb => ?_) (fun hb => ?_) <;> (have hb' := hb; try simp only [decide_eq_true_eq, decide_eq_false_iff_not, beq_iff_eq, bne_iff_ne, beq_eq_false_iff_ne, bne_eq_false_iff_eq, Bool.not_eq_true', Bool.not_eq_false', Bool.not_eq_true, Bool.not_eq_false, Bool.and_eq_true, Bool.or_eq_true, Bool.and_eq_false_iff, Bool.or_eq_false_iff, Int.not_lt, Int.not_le, ne_eq, gt_iff_lt, ge_iff_le] at hb') <;> (try (exfalso; omega))) | (refine altW.of ?_ ?_)
          refine RdW.keep [0, 7] ((S' p).up + 1).toNat (by rcases hup2 with h | ⟨r, h, h2⟩ <;> omega) ?_
          simp (disch := first | with_reducible assumption | omega) only [go_sem, Bool.true_and, Bool.and_true, Bool.and_self, Bool.false_and, Bool.and_false, Bool.true_or, Bool.or_true, Bool.false_or, Bool.or_false, ↓reduceIte, Nat.reduceEqDiff, Nat.reduceAdd, Nat.reduceMul, Nat.reduceSub, Nat.reduceBEq, Nat.reduceLeDiff, Nat.reduceLT, Nat.reduceMod, Nat.reduceDiv, Int.reduceToNat, Int.reducePow, Int.reduceMul, Int.reduceAdd, Int.reduceSub, Int.reduceLE, Int.reduceLT, Int.reduceNeg, Int.reduceDiv, Int.reduceMod, Int.reduceEq, Int.reduceBEq, Int.reduceBNe]
          exact ⟨f, S2, (S' p).up, rfl, hW2, hFrZ.trans hFr2, hok2.mono (by omega), hT2, hcZ, by rcases hup2 with h | ⟨r, h, h2⟩ <;> omega, by omega, by rcases hup2 with h | ⟨r, h, h2⟩ <;> omega, fun h0 => by
            rcases hup2 with h1 | ⟨r, h1, h2⟩
            · omega
            · rw [h1, Int.toNat_natCast]; exact hup3 r h1 h2, rfl⟩
        · have hcl1 : climb kd false (f + 1) S' p = S' := by
            show (if _ then _ else _) = _
            rw [if_neg (fun h => by rcases h.2 with h | h; · cases h
                                    · rw [Int.toNat_natCast] at h; exact hbz h)]
          rw [hcl1] at hcZ
          have hbz' : ((S' p).bytes == 0) = false := by simpa using hbz
          repeat' first | simp (disch := first | with_reducible assumption | omega) only [go_sem, Bool.true_and, Bool.and_true, Bool.and_self, Bool.false_and, Bool.and_false, Bool.true_or, Bool.or_true, Bool.false_or, Bool.or_false, ↓reduceIte, Nat.reduceEqDiff, Nat.reduceAdd, Nat.reduceMul, Nat.reduceSub, Nat.reduceBEq, Nat.reduceLeDiff, Nat.reduceLT, Nat.reduceMod, Nat.reduceDiv, Int.reduceToNat, Int.reducePow, Int.reduceMul, Int.reduceAdd, Int.reduceSub, Int.reduceLE, Int.reduceLT, Int.reduceNeg, Int.reduceDiv, Int.reduceMod, Int.reduceEq, Int.reduceBEq, Int.reduceBNe, f17, f17b, f17r0, f17r1, f17r2, f17r3, f17r4, f17r5, f17r6, f17r7, f17l0, f17, f17b, f17r0, f17r1, f17r2, f17r3, f17r4, f17r5, f17r6, f17r7, hZB, hZF, hcl, e5', hbz'] | (refine BrW.of (fun hb => ?_) (fun hb => ?_) <;> (have hb' := hb; try simp only [decide_eq_true_eq, decide_eq_false_iff_not, beq_iff_eq, bne_iff_ne, beq_eq_false_iff_ne, bne_eq_false_iff_eq, Bool.not_eq_true', Bool.not_eq_false', Bool.not_eq_true, Bool.not_eq_false, Bool.and_eq_true, Bool.or_eq_true, Bool.and_eq_false_iff, Bool.or_eq_false_iff, Int.not_lt, Int.not_le, ne_eq, gt_iff_lt, ge_iff_le] at hb') <;> (try (exfalso; omega))) | (refine altW.of ?_ ?_)
          exact .here ⟨rfl, ⟨_, hcZ ▸ hWZ⟩, hFrZ⟩
      · have hcl1 : climb kd false f S' u = S' := by
          cases f with
          | zero => rfl
          | succ f => show (if _ then _ else _) = _
                      rw [if_neg (fun h => hu0 h.1)]
        rw [hcl1] at hcZ
        repeat' first | simp (disch := first | with_reducible assumption | omega) only [go_sem, Bool.true_and, Bool.and_true, Bool.and_self, Bool.false_and, Bool.and_false, Bool.true_or, Bool.or_true, Bool.false_or, Bool.or_false, ↓reduceIte, Nat.reduceEqDiff, Nat.reduceAdd, Nat.reduceMul, Nat.reduceSub, Nat.reduceBEq, Nat.reduceLeDiff, Nat.reduceLT, Nat.reduceMod, Nat.reduceDiv, Int.reduceToNat, Int.reducePow, Int.reduceMul, Int.reduceAdd, Int.reduceSub, Int.reduceLE, Int.reduceLT, Int.reduceNeg, Int.reduceDiv, Int.reduceMod, Int.reduceEq, Int.reduceBEq, Int.reduceBNe, f17, f17b, f17r0, f17r1, f17r2, f17r3, f17r4, f17r5, f17r6, f17r7, f17l0, f17, f17b, f17r0, f17r1, f17r2, f17r3, f17r4, f17r5, f17r6, f17r7, hZB, hZF, hcl] | (refine BrW.of (fun hb => ?_) (fun hb => ?_) <;> (have hb' := hb; try simp only [decide_eq_true_eq, decide_eq_false_iff_not, beq_iff_eq, bne_iff_ne, beq_eq_false_iff_ne, bne_eq_false_iff_eq, Bool.not_eq_true', Bool.not_eq_false', Bool.not_eq_true, Bool.not_eq_false, Bool.and_eq_true, Bool.or_eq_true, Bool.and_eq_false_iff, Bool.or_eq_false_iff, Int.not_lt, Int.not_le, ne_eq, gt_iff_lt, ge_iff_le] at hb') <;> (try (exfalso; omega))) | (refine altW.of ?_ ?_)
        exact .here ⟨rfl, ⟨_, hcZ ▸ hWZ⟩, hFrZ⟩
end Go.Proofs.Ytknfaoonjmlncaa
