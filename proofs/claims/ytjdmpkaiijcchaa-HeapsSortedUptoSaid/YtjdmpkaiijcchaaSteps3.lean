import Derived.Test.YtjdmpkaiijcchaaSteps2
set_option linter.unusedSimpArgs false
set_option linter.unusedVariables false
set_option maxHeartbeats 2000000
set_option maxRecDepth 20000
namespace Go.Proofs.Ytjdmpkaiijcchaa
open Go Go.Am
attribute [local irreducible] opsW Ww loopW callW drawW outW outDW gW cW BrW bothW vW resW DropW RdW dcallW altW forkW splitW Later.run

theorem MI.swap {L : List It} {n : Nat} {m : List T3} (h : MI L n m) (hn : n ≤ L.length) {i j : Nat} (hi : i < n) (hj : j < n) : MI (swL L i j) n (st (st m (L.getD j i0).i i) (L.getD i i0).i j) := by
  have hg := fun k => swL_get L (show i < L.length by omega) (show j < L.length by omega) k
  have hi' := h.at' i hi
  have hj' := h.at' j hj
  have h2 : ∀ x, lk (st (st m (L.getD j i0).i i) (L.getD i i0).i j) x = if x = (L.getD i i0).i then some (j : Int) else if x = (L.getD j i0).i then some (i : Int) else lk m x := fun x => by
    rw [lk_st, lk_st, lk_st, hj', hi']
    by_cases e1 : x = (L.getD i i0).i
    · have : (if (L.getD i i0).i = (L.getD j i0).i ∧ (some (j : Int)).isSome = true then some (i : Int) else some (i : Int)).isSome = true := by split <;> rfl
      rw [if_pos ⟨e1, this⟩, if_pos e1]
    · rw [if_neg (fun hh => e1 hh.1), if_neg e1]
      by_cases e2 : x = (L.getD j i0).i
      · rw [if_pos ⟨e2, rfl⟩, if_pos e2]
      · rw [if_neg (fun hh => e2 hh.1), if_neg e2]
  refine ⟨fun k hk => ?_, fun id u hu => ?_⟩
  · rw [h2, hg]
    unfold sw
    by_cases e1 : k = i
    · subst e1
      rw [if_pos rfl]
      by_cases e3 : (L.getD j i0).i = (L.getD k i0).i
      · rw [if_pos e3, h.one hj hk e3]
      · rw [if_neg e3, if_pos rfl]
    · rw [if_neg e1]
      by_cases e2 : k = j
      · subst e2; rw [if_pos rfl, if_pos rfl]
      · rw [if_neg e2, if_neg (fun e => e1 (h.one hk hi e)), if_neg (fun e => e2 (h.one hk hj e))]
        exact h.at' k hk
  · rw [h2] at hu
    by_cases e1 : id = (L.getD i i0).i
    · rw [if_pos e1] at hu
      have := Option.some.inj hu
      exact ⟨j, hj, this.symm, by rw [hg, sw_j]; exact e1.symm⟩
    · rw [if_neg e1] at hu
      by_cases e2 : id = (L.getD j i0).i
      · rw [if_pos e2] at hu
        have := Option.some.inj hu
        exact ⟨i, hi, this.symm, by rw [hg, sw_i]; exact e2.symm⟩
      · rw [if_neg e2] at hu
        obtain ⟨k, h3, h4, h5⟩ := h.fr id u hu
        refine ⟨k, h3, h4, ?_⟩
        rw [hg, sw_ne _ (fun e => e1 (by rw [← h5, e])) (fun e => e2 (by rw [← h5, e]))]
        exact h5
/-- While an item is put where it should be. -/
structure FI (B r q : Nat) (J0 J : Heap) (L0 L : List It) (n g : Nat) (m : List T3) (c : Nat) : Prop where
  hq : HQ B r q J L n g m c
  mi : MI L n m
  ok : OkL L n
  mem : ∀ x, (∃ i, i < n ∧ L.getD i i0 = x) ↔ ∃ i, i < n ∧ L0.getD i i0 = x
  len : L.length = L0.length
  old : ∀ j, j ≠ q → j ≠ r → J[j]? = J0[j]?
  jl : J.length = J0.length
theorem FI.start {B r q : Nat} {J : Heap} {L : List It} {n g : Nat} {m : List T3} {c : Nat} (h : HQ B r q J L n g m c) (hM : MI L n m) (hok : OkL L n) : FI B r q J J L L n g m c := ⟨h, hM, hok, fun _ => Iff.rfl, rfl, fun _ _ _ => rfl, rfl⟩
theorem FI.swap {B r q : Nat} {J0 J : Heap} {L0 L : List It} {n g : Nat} {m : List T3} {c : Nat} (h : FI B r q J0 J L0 L n g m c) {i j : Nat} (hi : i < n) (hj : j < n) : FI B r q J0 ((J.set q (.cells g 3 false (flat' It.cells (swL L i j)))).set r (.map ((st (st m (L.getD j i0).i i) (L.getD i i0).i j).map E) c)) L0 (swL L i j) n g (st (st m (L.getD j i0).i i) (L.getD i i0).i j) c := by
  have hnL := h.hq.nL
  obtain ⟨e1, e2, e3⟩ := h.hq.ne
  have hg := fun k => swL_get L (show i < L.length by omega) (show j < L.length by omega) k
  refine ⟨⟨?_, ?_, ?_, by rw [swL_len]; exact hnL, h.hq.ne, (h.hq.wm.st' _ _).st' _ _⟩, h.mi.swap hnL hi hj, fun k hk => ?_, fun x => ?_, by rw [swL_len]; exact h.len, fun k h1 h2 => ?_, by simp [h.jl]⟩
  · rw [swL_len]
    exact (get_set_miss (by omega)).trans ((get_set_miss (by omega)).trans h.hq.hB)
  · exact get_set_hit ((get_set_miss (by omega)).trans h.hq.hr)
  · exact (get_set_miss (by omega)).trans (get_set_hit h.hq.hq)
  · rw [hg]
    unfold sw
    split
    · exact h.ok j hj
    · split
      · exact h.ok i hi
      · exact h.ok k hk
  · simp only [hg]
    rw [sw_mem _ hi hj]; exact h.mem x
  · exact (get_set_miss (by omega)).trans ((get_set_miss (by omega)).trans (h.old k h1 h2))
theorem rk_sw {L : List It} {i j : Nat} (hi : i < L.length) (hj : j < L.length) : (fun m => rk ((swL L i j).getD m i0)) = sw (fun m => rk (L.getD m i0)) i j := funext fun m => by
  show rk ((swL L i j).getD m i0) = _
  rw [swL_get L hi hj]
  unfold sw
  split
  · rfl
  · split <;> rfl
/-- An item is put where it should be. -/
theorem fix_spec (B r q : Nat) (J0 : Heap) (L0 : List It) (n g : Nat) (m0 : List T3) (c : Nat) (h0 : HQ B r q J0 L0 n g m0 c) (hM0 : MI L0 n m0) (hok0 : OkL L0 n) (hn : n ≤ 1000000000000) (k0 : Nat) (hk0 : k0 < n) (hU0 : UpI (fun m => rk (L0.getD m i0)) n k0) :
    ACallK Try.prog 32 [.pointer (some ⟨B, 0, some 1⟩), .int .i64 k0] J0 (fun v J' => v = .tuple #[] ∧ ∃ L m, FI B r q J0 J' L0 L n g m c ∧ HpI (fun m => rk (L.getD m i0)) n) := by
  refine .walkW f32_ok (by simp; decide) (by decide) ?_
  repeat' first | simp (disch := first | with_reducible assumption | omega) only [go_sem, Bool.true_and, Bool.and_true, Bool.and_self, Bool.false_and, Bool.and_false, Bool.true_or, Bool.or_true, Bool.false_or, Bool.or_false, ↓reduceIte, Nat.reduceEqDiff, Nat.reduceAdd, Nat.reduceMul, Nat.reduceSub, Nat.reduceBEq, Nat.reduceLeDiff, Nat.reduceLT, Nat.reduceMod, Nat.reduceDiv, Int.reduceToNat, Int.reducePow, Int.reduceMul, Int.reduceAdd, Int.reduceSub, Int.reduceLE, Int.reduceLT, Int.reduceNeg, Int.reduceDiv, Int.reduceMod, Int.reduceEq, Int.reduceBEq, Int.reduceBNe, f32, f32b, f32r0, f32r1, f32r2, f32r4, f32r5, f32r6, f32r7, f32r8, f32r9, f32r10] | (refine BrW.of (fun hb => ?_) (fun hb => ?_) <;> (have hb' := hb; try simp only [decide_eq_true_eq, decide_eq_false_iff_not, beq_iff_eq, bne_iff_ne, beq_eq_false_iff_ne, bne_eq_false_iff_eq, Bool.not_eq_true', Bool.not_eq_false', Bool.not_eq_true, Bool.not_eq_false, Bool.and_eq_true, Bool.or_eq_true, Bool.and_eq_false_iff, Bool.or_eq_false_iff, Int.not_lt, Int.not_le, ne_eq, gt_iff_lt, ge_iff_le] at hb') <;> (try (exfalso; omega))) | (refine altW.of ?_ ?_)
  refine loopW.of (by decide) (fun ms e J => ∃ (k : Nat) (L : List It) (m : List T3), e = [(0, .pointer (some ⟨B, 0, some 1⟩)), (1, .int .i64 k)] ∧ ms = k ∧ k < n ∧ FI B r q J0 J L0 L n g m c ∧ UpI (fun m => rk (L.getD m i0)) n k) k0 ⟨k0, L0, m0, rfl, rfl, hk0, FI.start h0 hM0 hok0, hU0⟩ ?_
  clear hU0 h0 hM0 hok0 hk0 k0
  rintro k e J ⟨_, L, m, rfl, rfl, hk, hF, hU⟩
  have hnL := hF.hq.nL
  by_cases hup : 0 < k ∧ rk (L.getD k i0) < rk (L.getD ((k - 1) / 2) i0)
  · obtain ⟨hk0, hlt⟩ := hup
    have hU1 := hU.step hk0 hk hlt
    have hp1 : ((k : Int) - 1) / 2 = (((k - 1) / 2 : Nat) : Int) := by omega
    have hpk : (k - 1) / 2 < k := by omega
    generalize (k - 1) / 2 = p at *
    have hl := less_spec B r q J L n g m c hF.hq hF.ok hn k p hk (by omega)
    rw [decide_eq_true hlt] at hl
    have hs := swap_spec B r q J L n g m c hF.hq hF.mi hn k p hk (by omega)
    have hF1 := hF.swap hk (show p < n by omega)
    rw [← rk_sw (by omega) (by omega)] at hU1
    repeat' first | simp (disch := first | with_reducible assumption | omega) only [go_sem, Bool.true_and, Bool.and_true, Bool.and_self, Bool.false_and, Bool.and_false, Bool.true_or, Bool.or_true, Bool.false_or, Bool.or_false, ↓reduceIte, Nat.reduceEqDiff, Nat.reduceAdd, Nat.reduceMul, Nat.reduceSub, Nat.reduceBEq, Nat.reduceLeDiff, Nat.reduceLT, Nat.reduceMod, Nat.reduceDiv, Int.reduceToNat, Int.reducePow, Int.reduceMul, Int.reduceAdd, Int.reduceSub, Int.reduceLE, Int.reduceLT, Int.reduceNeg, Int.reduceDiv, Int.reduceMod, Int.reduceEq, Int.reduceBEq, Int.reduceBNe, f32, f32b, f32r0, f32r1, f32r2, f32r4, f32r5, f32r6, f32r7, f32r8, f32r9, f32r10, f32l0, hp1] | (refine BrW.of (fun hb => ?_) (fun hb => ?_) <;> (have hb' := hb; try simp only [decide_eq_true_eq, decide_eq_false_iff_not, beq_iff_eq, bne_iff_ne, beq_eq_false_iff_ne, bne_eq_false_iff_eq, Bool.not_eq_true', Bool.not_eq_false', Bool.not_eq_true, Bool.not_eq_false, Bool.and_eq_true, Bool.or_eq_true, Bool.and_eq_false_iff, Bool.or_eq_false_iff, Int.not_lt, Int.not_le, ne_eq, gt_iff_lt, ge_iff_le] at hb') <;> (try (exfalso; omega))) | (refine altW.of ?_ ?_) | (refine .of (hl.mono ?_); rintro v _ ⟨rfl, rfl⟩) | (refine .of (hs.mono ?_); rintro v _ ⟨rfl, rfl⟩)
    all_goals first | (exfalso; omega) | skip
    refine RdW.keep [0, 1] p (by omega) ?_
    simp (disch := first | with_reducible assumption | omega) only [go_sem, Bool.true_and, Bool.and_true, Bool.and_self, Bool.false_and, Bool.and_false, Bool.true_or, Bool.or_true, Bool.false_or, Bool.or_false, ↓reduceIte, Nat.reduceEqDiff, Nat.reduceAdd, Nat.reduceMul, Nat.reduceSub, Nat.reduceBEq, Nat.reduceLeDiff, Nat.reduceLT, Nat.reduceMod, Nat.reduceDiv, Int.reduceToNat, Int.reducePow, Int.reduceMul, Int.reduceAdd, Int.reduceSub, Int.reduceLE, Int.reduceLT, Int.reduceNeg, Int.reduceDiv, Int.reduceMod, Int.reduceEq, Int.reduceBEq, Int.reduceBNe]
    exact ⟨p, _, _, rfl, rfl, by omega, hF1, hU1⟩
  · have hD := hU.done (by
      by_cases h : k = 0
      · exact .inl h
      · refine .inr (Int.not_lt.1 fun hh => hup ⟨by omega, hh⟩))
    rcases Nat.eq_zero_or_pos k with hk0 | hk0
    case' inl =>
      subst hk0
      repeat' first | simp (disch := first | with_reducible assumption | omega) only [go_sem, Bool.true_and, Bool.and_true, Bool.and_self, Bool.false_and, Bool.and_false, Bool.true_or, Bool.or_true, Bool.false_or, Bool.or_false, ↓reduceIte, Nat.reduceEqDiff, Nat.reduceAdd, Nat.reduceMul, Nat.reduceSub, Nat.reduceBEq, Nat.reduceLeDiff, Nat.reduceLT, Nat.reduceMod, Nat.reduceDiv, Int.reduceToNat, Int.reducePow, Int.reduceMul, Int.reduceAdd, Int.reduceSub, Int.reduceLE, Int.reduceLT, Int.reduceNeg, Int.reduceDiv, Int.reduceMod, Int.reduceEq, Int.reduceBEq, Int.reduceBNe, f32, f32b, f32r0, f32r1, f32r2, f32r4, f32r5, f32r6, f32r7, f32r8, f32r9, f32r10, f32l0, f32, f32b, f32r0, f32r1, f32r2, f32r4, f32r5, f32r6, f32r7, f32r8, f32r9, f32r10] | (refine BrW.of (fun hb => ?_) (fun hb => ?_) <;> (have hb' := hb; try simp only [decide_eq_true_eq, decide_eq_false_iff_not, beq_iff_eq, bne_iff_ne, beq_eq_false_iff_ne, bne_eq_false_iff_eq, Bool.not_eq_true', Bool.not_eq_false', Bool.not_eq_true, Bool.not_eq_false, Bool.and_eq_true, Bool.or_eq_true, Bool.and_eq_false_iff, Bool.or_eq_false_iff, Int.not_lt, Int.not_le, ne_eq, gt_iff_lt, ge_iff_le] at hb') <;> (try (exfalso; omega))) | (refine altW.of ?_ ?_)
    case' inr =>
      have hlt : ¬ rk (L.getD k i0) < rk (L.getD ((k - 1) / 2) i0) := fun h => hup ⟨hk0, h⟩
      have hp1 : ((k : Int) - 1) / 2 = (((k - 1) / 2 : Nat) : Int) := by omega
      have hpk : (k - 1) / 2 < k := by omega
      generalize (k - 1) / 2 = p at *
      have hl := less_spec B r q J L n g m c hF.hq hF.ok hn k p hk (by omega)
      rw [decide_eq_false hlt] at hl
      repeat' first | simp (disch := first | with_reducible assumption | omega) only [go_sem, Bool.true_and, Bool.and_true, Bool.and_self, Bool.false_and, Bool.and_false, Bool.true_or, Bool.or_true, Bool.false_or, Bool.or_false, ↓reduceIte, Nat.reduceEqDiff, Nat.reduceAdd, Nat.reduceMul, Nat.reduceSub, Nat.reduceBEq, Nat.reduceLeDiff, Nat.reduceLT, Nat.reduceMod, Nat.reduceDiv, Int.reduceToNat, Int.reducePow, Int.reduceMul, Int.reduceAdd, Int.reduceSub, Int.reduceLE, Int.reduceLT, Int.reduceNeg, Int.reduceDiv, Int.reduceMod, Int.reduceEq, Int.reduceBEq, Int.reduceBNe, f32, f32b, f32r0, f32r1, f32r2, f32r4, f32r5, f32r6, f32r7, f32r8, f32r9, f32r10, f32l0, f32, f32b, f32r0, f32r1, f32r2, f32r4, f32r5, f32r6, f32r7, f32r8, f32r9, f32r10, hp1] | (refine BrW.of (fun hb => ?_) (fun hb => ?_) <;> (have hb' := hb; try simp only [decide_eq_true_eq, decide_eq_false_iff_not, beq_iff_eq, bne_iff_ne, beq_eq_false_iff_ne, bne_eq_false_iff_eq, Bool.not_eq_true', Bool.not_eq_false', Bool.not_eq_true, Bool.not_eq_false, Bool.and_eq_true, Bool.or_eq_true, Bool.and_eq_false_iff, Bool.or_eq_false_iff, Int.not_lt, Int.not_le, ne_eq, gt_iff_lt, ge_iff_le] at hb') <;> (try (exfalso; omega))) | (refine altW.of ?_ ?_) | (refine .of (hl.mono ?_); rintro v _ ⟨rfl, rfl⟩)
    all_goals first | (exfalso; omega) | skip
    all_goals
      refine loopW.of (by decide) (fun ms e J => ∃ (k : Nat) (L : List It) (m : List T3), e = [(0, .pointer (some ⟨B, 0, some 1⟩)), (1, .int .i64 k)] ∧ ms = n - k ∧ k < n ∧ FI B r q J0 J L0 L n g m c ∧ DnI (fun m => rk (L.getD m i0)) n k) _ ⟨_, L, m, rfl, rfl, hk, hF, hD⟩ ?_
      clear hD hF hnL
      rintro ms e J ⟨k, L, m, rfl, rfl, hk, hF, hD⟩
      have hnL := hF.hq.nL
      have hB := hF.hq.hB
      have hq := hF.hq.hq
      have fl := flI_len L
      have hc1 : 2 * (k : Int) + 1 = ((2 * k + 1 : Nat) : Int) := by omega
      by_cases hn1 : n ≤ 2 * k + 1
      · have hH := hD.done fun o o0 on op => by omega
        generalize 2 * k + 1 = c1 at *
        repeat' first | simp (disch := first | with_reducible assumption | omega) only [go_sem, Bool.true_and, Bool.and_true, Bool.and_self, Bool.false_and, Bool.and_false, Bool.true_or, Bool.or_true, Bool.false_or, Bool.or_false, ↓reduceIte, Nat.reduceEqDiff, Nat.reduceAdd, Nat.reduceMul, Nat.reduceSub, Nat.reduceBEq, Nat.reduceLeDiff, Nat.reduceLT, Nat.reduceMod, Nat.reduceDiv, Int.reduceToNat, Int.reducePow, Int.reduceMul, Int.reduceAdd, Int.reduceSub, Int.reduceLE, Int.reduceLT, Int.reduceNeg, Int.reduceDiv, Int.reduceMod, Int.reduceEq, Int.reduceBEq, Int.reduceBNe, f32, f32b, f32r0, f32r1, f32r2, f32r4, f32r5, f32r6, f32r7, f32r8, f32r9, f32r10, f32l1, f32, f32b, f32r0, f32r1, f32r2, f32r4, f32r5, f32r6, f32r7, f32r8, f32r9, f32r10, hB, hq, fl, hc1] | (refine BrW.of (fun hb => ?_) (fun hb => ?_) <;> (have hb' := hb; try simp only [decide_eq_true_eq, decide_eq_false_iff_not, beq_iff_eq, bne_iff_ne, beq_eq_false_iff_ne, bne_eq_false_iff_eq, Bool.not_eq_true', Bool.not_eq_false', Bool.not_eq_true, Bool.not_eq_false, Bool.and_eq_true, Bool.or_eq_true, Bool.and_eq_false_iff, Bool.or_eq_false_iff, Int.not_lt, Int.not_le, ne_eq, gt_iff_lt, ge_iff_le] at hb') <;> (try (exfalso; omega))) | (refine altW.of ?_ ?_)
        all_goals first | exact .here ⟨rfl, L, m, hF, hH⟩ | (exfalso; omega)
      · have hcp : ∀ o, 0 < o → o < n → (o - 1) / 2 = k → o = 2 * k + 1 ∨ o = 2 * k + 1 + 1 := fun o h1 h2 h3 => by omega
        have hp1 : (2 * k + 1 - 1) / 2 = k := by omega
        have hp2 : (2 * k + 1 + 1 - 1) / 2 = k := by omega
        have hkc : k < 2 * k + 1 := by omega
        generalize 2 * k + 1 = c1 at *
        have hc2 : (c1 : Int) + 1 = ((c1 + 1 : Nat) : Int) := by omega
        have hL2 := fun h => less_spec B r q J L n g m c hF.hq hF.ok hn (c1 + 1) c1 h (by omega)
        by_cases hs : c1 + 1 < n ∧ rk (L.getD (c1 + 1) i0) < rk (L.getD c1 i0)
        · obtain ⟨hs1, hs2⟩ := hs
          have hL2 := hL2 hs1
          rw [decide_eq_true hs2] at hL2
          have hL3 := less_spec B r q J L n g m c hF.hq hF.ok hn (c1 + 1) k hs1 hk
          have hS := swap_spec B r q J L n g m c hF.hq hF.mi hn (c1 + 1) k hs1 hk
          have hF1 := hF.swap hs1 hk
          generalize hcc : c1 + 1 = c2 at *
          by_cases ht : rk (L.getD c2 i0) < rk (L.getD k i0)
          · rw [decide_eq_true ht] at hL3
            have hD1 := hD.step (by omega) hs1 hp2 ht fun o o0 on op => by
              rcases hcp o o0 on op with e | e
              · rw [e]; show rk _ ≤ rk _; omega
              · rw [e]; exact Int.le_refl _
            rw [← rk_sw (by omega) (by omega)] at hD1
            repeat' first | simp (disch := first | with_reducible assumption | omega) only [go_sem, Bool.true_and, Bool.and_true, Bool.and_self, Bool.false_and, Bool.and_false, Bool.true_or, Bool.or_true, Bool.false_or, Bool.or_false, ↓reduceIte, Nat.reduceEqDiff, Nat.reduceAdd, Nat.reduceMul, Nat.reduceSub, Nat.reduceBEq, Nat.reduceLeDiff, Nat.reduceLT, Nat.reduceMod, Nat.reduceDiv, Int.reduceToNat, Int.reducePow, Int.reduceMul, Int.reduceAdd, Int.reduceSub, Int.reduceLE, Int.reduceLT, Int.reduceNeg, Int.reduceDiv, Int.reduceMod, Int.reduceEq, Int.reduceBEq, Int.reduceBNe, f32, f32b, f32r0, f32r1, f32r2, f32r4, f32r5, f32r6, f32r7, f32r8, f32r9, f32r10, f32l1, hB, hq, fl, hc1, hc2] | (refine BrW.of (fun hb => ?_) (fun hb => ?_) <;> (have hb' := hb; try simp only [decide_eq_true_eq, decide_eq_false_iff_not, beq_iff_eq, bne_iff_ne, beq_eq_false_iff_ne, bne_eq_false_iff_eq, Bool.not_eq_true', Bool.not_eq_false', Bool.not_eq_true, Bool.not_eq_false, Bool.and_eq_true, Bool.or_eq_true, Bool.and_eq_false_iff, Bool.or_eq_false_iff, Int.not_lt, Int.not_le, ne_eq, gt_iff_lt, ge_iff_le] at hb') <;> (try (exfalso; omega))) | (refine altW.of ?_ ?_) | (refine .of (hL2.mono ?_); rintro v _ ⟨rfl, rfl⟩) | (refine .of (hL3.mono ?_); rintro v _ ⟨rfl, rfl⟩) | (refine .of (hS.mono ?_); rintro v _ ⟨rfl, rfl⟩)
            all_goals first | (exfalso; omega) | skip
            refine RdW.keep [0, 1] (n - c2) (by omega) ?_
            simp (disch := first | with_reducible assumption | omega) only [go_sem, Bool.true_and, Bool.and_true, Bool.and_self, Bool.false_and, Bool.and_false, Bool.true_or, Bool.or_true, Bool.false_or, Bool.or_false, ↓reduceIte, Nat.reduceEqDiff, Nat.reduceAdd, Nat.reduceMul, Nat.reduceSub, Nat.reduceBEq, Nat.reduceLeDiff, Nat.reduceLT, Nat.reduceMod, Nat.reduceDiv, Int.reduceToNat, Int.reducePow, Int.reduceMul, Int.reduceAdd, Int.reduceSub, Int.reduceLE, Int.reduceLT, Int.reduceNeg, Int.reduceDiv, Int.reduceMod, Int.reduceEq, Int.reduceBEq, Int.reduceBNe]
            exact ⟨c2, _, _, rfl, rfl, hs1, hF1, hD1⟩
          · rw [decide_eq_false ht] at hL3
            have hH := hD.done fun o o0 on op => by
              rcases hcp o o0 on op with e | e
              · rw [e]; show rk _ ≤ rk _; omega
              · rw [e]; show rk _ ≤ rk _; omega
            repeat' first | simp (disch := first | with_reducible assumption | omega) only [go_sem, Bool.true_and, Bool.and_true, Bool.and_self, Bool.false_and, Bool.and_false, Bool.true_or, Bool.or_true, Bool.false_or, Bool.or_false, ↓reduceIte, Nat.reduceEqDiff, Nat.reduceAdd, Nat.reduceMul, Nat.reduceSub, Nat.reduceBEq, Nat.reduceLeDiff, Nat.reduceLT, Nat.reduceMod, Nat.reduceDiv, Int.reduceToNat, Int.reducePow, Int.reduceMul, Int.reduceAdd, Int.reduceSub, Int.reduceLE, Int.reduceLT, Int.reduceNeg, Int.reduceDiv, Int.reduceMod, Int.reduceEq, Int.reduceBEq, Int.reduceBNe, f32, f32b, f32r0, f32r1, f32r2, f32r4, f32r5, f32r6, f32r7, f32r8, f32r9, f32r10, f32l1, f32, f32b, f32r0, f32r1, f32r2, f32r4, f32r5, f32r6, f32r7, f32r8, f32r9, f32r10, hB, hq, fl, hc1, hc2] | (refine BrW.of (fun hb => ?_) (fun hb => ?_) <;> (have hb' := hb; try simp only [decide_eq_true_eq, decide_eq_false_iff_not, beq_iff_eq, bne_iff_ne, beq_eq_false_iff_ne, bne_eq_false_iff_eq, Bool.not_eq_true', Bool.not_eq_false', Bool.not_eq_true, Bool.not_eq_false, Bool.and_eq_true, Bool.or_eq_true, Bool.and_eq_false_iff, Bool.or_eq_false_iff, Int.not_lt, Int.not_le, ne_eq, gt_iff_lt, ge_iff_le] at hb') <;> (try (exfalso; omega))) | (refine altW.of ?_ ?_) | (refine .of (hL2.mono ?_); rintro v _ ⟨rfl, rfl⟩) | (refine .of (hL3.mono ?_); rintro v _ ⟨rfl, rfl⟩)
            all_goals first | exact .here ⟨rfl, L, m, hF, hH⟩ | (exfalso; omega)
        · have hL3 := less_spec B r q J L n g m c hF.hq hF.ok hn c1 k (by omega) hk
          have hS := swap_spec B r q J L n g m c hF.hq hF.mi hn c1 k (by omega) hk
          have hF1 := hF.swap (show c1 < n by omega) hk
          by_cases ht : rk (L.getD c1 i0) < rk (L.getD k i0)
          · rw [decide_eq_true ht] at hL3
            have hD1 := hD.step (by omega) (show c1 < n by omega) hp1 ht fun o o0 on op => by
              rcases hcp o o0 on op with e | e
              · rw [e]; exact Int.le_refl _
              · rw [e]; exact Int.not_lt.1 fun hh => hs ⟨by omega, hh⟩
            rw [← rk_sw (by omega) (by omega)] at hD1
            by_cases hs1 : c1 + 1 < n
            · have hs2 : ¬ rk (L.getD (c1 + 1) i0) < rk (L.getD c1 i0) := fun hh => hs ⟨hs1, hh⟩
              have hL2 := hL2 hs1
              rw [decide_eq_false hs2] at hL2
              clear hs hcp hp2
              generalize hcc : c1 + 1 = c2 at *
              repeat' first | simp (disch := first | with_reducible assumption | omega) only [go_sem, Bool.true_and, Bool.and_true, Bool.and_self, Bool.false_and, Bool.and_false, Bool.true_or, Bool.or_true, Bool.false_or, Bool.or_false, ↓reduceIte, Nat.reduceEqDiff, Nat.reduceAdd, Nat.reduceMul, Nat.reduceSub, Nat.reduceBEq, Nat.reduceLeDiff, Nat.reduceLT, Nat.reduceMod, Nat.reduceDiv, Int.reduceToNat, Int.reducePow, Int.reduceMul, Int.reduceAdd, Int.reduceSub, Int.reduceLE, Int.reduceLT, Int.reduceNeg, Int.reduceDiv, Int.reduceMod, Int.reduceEq, Int.reduceBEq, Int.reduceBNe, f32, f32b, f32r0, f32r1, f32r2, f32r4, f32r5, f32r6, f32r7, f32r8, f32r9, f32r10, f32l1, hB, hq, fl, hc1, hc2] | (refine BrW.of (fun hb => ?_) (fun hb => ?_) <;> (have hb' := hb; try simp only [decide_eq_true_eq, decide_eq_false_iff_not, beq_iff_eq, bne_iff_ne, beq_eq_false_iff_ne, bne_eq_false_iff_eq, Bool.not_eq_true', Bool.not_eq_false', Bool.not_eq_true, Bool.not_eq_false, Bool.and_eq_true, Bool.or_eq_true, Bool.and_eq_false_iff, Bool.or_eq_false_iff, Int.not_lt, Int.not_le, ne_eq, gt_iff_lt, ge_iff_le] at hb') <;> (try (exfalso; omega))) | (refine altW.of ?_ ?_) | (refine .of (hL2.mono ?_); rintro v _ ⟨rfl, rfl⟩) | (refine .of (hL3.mono ?_); rintro v _ ⟨rfl, rfl⟩) | (refine .of (hS.mono ?_); rintro v _ ⟨rfl, rfl⟩)
              all_goals first | (exfalso; omega) | skip
              refine RdW.keep [0, 1] (n - c1) (by omega) ?_
              simp (disch := first | with_reducible assumption | omega) only [go_sem, Bool.true_and, Bool.and_true, Bool.and_self, Bool.false_and, Bool.and_false, Bool.true_or, Bool.or_true, Bool.false_or, Bool.or_false, ↓reduceIte, Nat.reduceEqDiff, Nat.reduceAdd, Nat.reduceMul, Nat.reduceSub, Nat.reduceBEq, Nat.reduceLeDiff, Nat.reduceLT, Nat.reduceMod, Nat.reduceDiv, Int.reduceToNat, Int.reducePow, Int.reduceMul, Int.reduceAdd, Int.reduceSub, Int.reduceLE, Int.reduceLT, Int.reduceNeg, Int.reduceDiv, Int.reduceMod, Int.reduceEq, Int.reduceBEq, Int.reduceBNe]
              exact ⟨c1, _, _, rfl, rfl, by omega, hF1, hD1⟩
            · clear hs hcp hp2 hL2
              generalize hcc : c1 + 1 = c2 at *
              repeat' first | simp (disch := first | with_reducible assumption | omega) only [go_sem, Bool.true_and, Bool.and_true, Bool.and_self, Bool.false_and, Bool.and_false, Bool.true_or, Bool.or_true, Bool.false_or, Bool.or_false, ↓reduceIte, Nat.reduceEqDiff, Nat.reduceAdd, Nat.reduceMul, Nat.reduceSub, Nat.reduceBEq, Nat.reduceLeDiff, Nat.reduceLT, Nat.reduceMod, Nat.reduceDiv, Int.reduceToNat, Int.reducePow, Int.reduceMul, Int.reduceAdd, Int.reduceSub, Int.reduceLE, Int.reduceLT, Int.reduceNeg, Int.reduceDiv, Int.reduceMod, Int.reduceEq, Int.reduceBEq, Int.reduceBNe, f32, f32b, f32r0, f32r1, f32r2, f32r4, f32r5, f32r6, f32r7, f32r8, f32r9, f32r10, f32l1, hB, hq, fl, hc1, hc2] | (refine BrW.of (fun hb => ?_) (fun hb => ?_) <;> (have hb' := hb; try simp only [decide_eq_true_eq, decide_eq_false_iff_not, beq_iff_eq, bne_iff_ne, beq_eq_false_iff_ne, bne_eq_false_iff_eq, Bool.not_eq_true', Bool.not_eq_false', Bool.not_eq_true, Bool.not_eq_false, Bool.and_eq_true, Bool.or_eq_true, Bool.and_eq_false_iff, Bool.or_eq_false_iff, Int.not_lt, Int.not_le, ne_eq, gt_iff_lt, ge_iff_le] at hb') <;> (try (exfalso; omega))) | (refine altW.of ?_ ?_) | (refine .of (hL3.mono ?_); rintro v _ ⟨rfl, rfl⟩) | (refine .of (hS.mono ?_); rintro v _ ⟨rfl, rfl⟩)
              all_goals first | (exfalso; omega) | skip
              refine RdW.keep [0, 1] (n - c1) (by omega) ?_
              simp (disch := first | with_reducible assumption | omega) only [go_sem, Bool.true_and, Bool.and_true, Bool.and_self, Bool.false_and, Bool.and_false, Bool.true_or, Bool.or_true, Bool.false_or, Bool.or_false, ↓reduceIte, Nat.reduceEqDiff, Nat.reduceAdd, Nat.reduceMul, Nat.reduceSub, Nat.reduceBEq, Nat.reduceLeDiff, Nat.reduceLT, Nat.reduceMod, Nat.reduceDiv, Int.reduceToNat, Int.reducePow, Int.reduceMul, Int.reduceAdd, Int.reduceSub, Int.reduceLE, Int.reduceLT, Int.reduceNeg, Int.reduceDiv, Int.reduceMod, Int.reduceEq, Int.reduceBEq, Int.reduceBNe]
              exact ⟨c1, _, _, rfl, rfl, by omega, hF1, hD1⟩
          · rw [decide_eq_false ht] at hL3
            have hH := hD.done fun o o0 on op => by
              rcases hcp o o0 on op with e | e
              · rw [e]; show rk _ ≤ rk _; omega
              · rw [e]; have := Int.not_lt.1 fun hh => hs ⟨by omega, hh⟩
                show rk _ ≤ rk _; omega
            by_cases hs1 : c1 + 1 < n
            · have hs2 : ¬ rk (L.getD (c1 + 1) i0) < rk (L.getD c1 i0) := fun hh => hs ⟨hs1, hh⟩
              have hL2 := hL2 hs1
              rw [decide_eq_false hs2] at hL2
              clear hs hcp hp2
              generalize hcc : c1 + 1 = c2 at *
              repeat' first | simp (disch := first | with_reducible assumption | omega) only [go_sem, Bool.true_and, Bool.and_true, Bool.and_self, Bool.false_and, Bool.and_false, Bool.true_or, Bool.or_true, Bool.false_or, Bool.or_false, ↓reduceIte, Nat.reduceEqDiff, Nat.reduceAdd, Nat.reduceMul, Nat.reduceSub, Nat.reduceBEq, Nat.reduceLeDiff, Nat.reduceLT, Nat.reduceMod, Nat.reduceDiv, Int.reduceToNat, Int.reducePow, Int.reduceMul, Int.reduceAdd, Int.reduceSub, Int.reduceLE, Int.reduceLT, Int.reduceNeg, Int.reduceDiv, Int.reduceMod, Int.reduceEq, Int.reduceBEq, Int.reduceBNe, f32, f32b, f32r0, f32r1, f32r2, f32r4, f32r5, f32r6, f32r7, f32r8, f32r9, f32r10, f32l1, f32, f32b, f32r0, f32r1, f32r2, f32r4, f32r5, f32r6, f32r7, f32r8, f32r9, f32r10, hB, hq, fl, hc1, hc2] | (refine BrW.of (fun hb => ?_) (fun hb => ?_) <;> (have hb' := hb; try simp only [decide_eq_true_eq, decide_eq_false_iff_not, beq_iff_eq, bne_iff_ne, beq_eq_false_iff_ne, bne_eq_false_iff_eq, Bool.not_eq_true', Bool.not_eq_false', Bool.not_eq_true, Bool.not_eq_false, Bool.and_eq_true, Bool.or_eq_true, Bool.and_eq_false_iff, Bool.or_eq_false_iff, Int.not_lt, Int.not_le, ne_eq, gt_iff_lt, ge_iff_le] at hb') <;> (try (exfalso; omega))) | (refine altW.of ?_ ?_) | (refine .of (hL2.mono ?_); rintro v _ ⟨rfl, rfl⟩) | (refine .of (hL3.mono ?_); rintro v _ ⟨rfl, rfl⟩)
              all_goals first | exact .here ⟨rfl, L, m, hF, hH⟩ | (exfalso; omega)
            · clear hs hcp hp2 hL2
              generalize hcc : c1 + 1 = c2 at *
              repeat' first | simp (disch := first | with_reducible assumption | omega) only [go_sem, Bool.true_and, Bool.and_true, Bool.and_self, Bool.false_and, Bool.and_false, Bool.true_or, Bool.or_true, Bool.false_or, Bool.or_false, ↓reduceIte, Nat.reduceEqDiff, Nat.reduceAdd, Nat.reduceMul, Nat.reduceSub, Nat.reduceBEq, Nat.reduceLeDiff, Nat.reduceLT, Nat.reduceMod, Nat.reduceDiv, Int.reduceToNat, Int.reducePow, Int.reduceMul, Int.reduceAdd, Int.reduceSub, Int.reduceLE, Int.reduceLT, Int.reduceNeg, Int.reduceDiv, Int.reduceMod, Int.reduceEq, Int.reduceBEq, Int.reduceBNe, f32, f32b, f32r0, f32r1, f32r2, f32r4, f32r5, f32r6, f32r7, f32r8, f32r9, f32r10, f32l1, f32, f32b, f32r0, f32r1, f32r2, f32r4, f32r5, f32r6, f32r7, f32r8, f32r9, f32r10, hB, hq, fl, hc1, hc2] | (refine BrW.of (fun hb => ?_) (fun hb => ?_) <;> (have hb' := hb; try simp only [decide_eq_true_eq, decide_eq_false_iff_not, beq_iff_eq, bne_iff_ne, beq_eq_false_iff_ne, bne_eq_false_iff_eq, Bool.not_eq_true', Bool.not_eq_false', Bool.not_eq_true, Bool.not_eq_false, Bool.and_eq_true, Bool.or_eq_true, Bool.and_eq_false_iff, Bool.or_eq_false_iff, Int.not_lt, Int.not_le, ne_eq, gt_iff_lt, ge_iff_le] at hb') <;> (try (exfalso; omega))) | (refine altW.of ?_ ?_) | (refine .of (hL3.mono ?_); rintro v _ ⟨rfl, rfl⟩)
              all_goals first | exact .here ⟨rfl, L, m, hF, hH⟩ | (exfalso; omega)
end Go.Proofs.Ytjdmpkaiijcchaa
