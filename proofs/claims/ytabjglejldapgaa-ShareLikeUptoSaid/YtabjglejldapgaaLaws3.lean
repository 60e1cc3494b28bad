import Derived.Test.YtabjglejldapgaaSteps4
set_option linter.unusedSimpArgs false
set_option linter.unusedVariables false
set_option maxHeartbeats 2000000
set_option maxRecDepth 20000
namespace Go.Proofs.Ytabjglejldapgaa
open Go Go.Am
attribute [local irreducible] opsW Ww loopW callW drawW outW outDW gW cW BrW bothW vW resW DropW RdW dcallW altW Later.run

theorem FB.of {wl cl : List Int} {all num den : Int} (hok : (W wl cl).ok all) (h : IsLev (W wl cl) all num den) : FB (gl (W wl cl) num den wl.length) := fun i hi => by
  rw [gl_len] at hi
  have := getF_range hok h (i := i) hi
  rw [gl_get _ _ _ _ _ hi]
  exact ⟨this.1, this.2.1, this.2.2.1, this.2.2.2.2.1⟩
theorem list_of' {H : Heap} {v : Value} (h : ArgOk 1048576 H (false, [.slice [.int .i64]]) v) : ∃ k c, ∃ l : List Int, v = slv k 0 0 l.length c ∧ l.length ≤ 1048576 ∧ l.length ≤ c ∧ Ints H k 0 0 l ∧ ∀ i, i < l.length → -9223372036854775808 ≤ l.getD i 0 ∧ l.getD i 0 ≤ 9223372036854775807 := by
  obtain ⟨k, c, l, h1, h2, h3, h4, h5⟩ := ints_of h
  exact ⟨k, c, l, h1, h2, h3, h4, h5⟩
theorem ienc_set (l : List Int) (i : Nat) (x : Int) : (flat' ienc l).set i (.int .i64 x) = flat' ienc (l.set i x) := by
  rw [flat'_ienc, flat'_ienc]; simp [ints, List.map_set]
theorem ShareMore_args (H : Heap) (vals : List Value) (h : ArgsOk 1048576 H ShareMoreSh vals) : ACallK Try.prog 5 vals H fun v _ => v = .bool true := by
  obtain ⟨_, _, rfl, a1, h1⟩ := h.cons
  obtain ⟨_, _, rfl, a2, h2⟩ := h1.cons
  obtain ⟨_, _, rfl, a3, h3⟩ := h2.cons
  obtain ⟨_, _, rfl, a4, h4⟩ := h3.cons
  obtain ⟨_, _, rfl, a5, h5⟩ := h4.cons
  obtain ⟨_, _, rfl, a6, h6⟩ := h5.cons
  obtain rfl := h6.nil
  obtain ⟨all, rfl, hall⟩ := int_of a1
  obtain ⟨kw, cw, wl, rfl, hlw, hcw, hw, hwb⟩ := list_of' a2
  obtain ⟨kc, cc, cl, rfl, hlc, hcc, hc, hcb⟩ := list_of' a3
  obtain ⟨more, rfl, hmore⟩ := int_of a4
  obtain ⟨who, rfl, hwho⟩ := int_of a5
  obtain ⟨less, rfl, hless⟩ := int_of a6
  clear a1 a2 a3 a4 a5 a6 h h1 h2 h3 h4 h5 h6
  obtain ⟨rw, csw, hkw, _, w0⟩ := Ints.cell hw
  obtain ⟨rc, csc, hkc, _, c0⟩ := Ints.cell hc
  simp only [Nat.zero_add] at w0 c0
  refine .walkW f5_ok (by simp; decide) (by decide) ?_
  repeat' first | simp (disch := first | with_reducible assumption | omega) only [go_sem, Bool.true_and, Bool.and_true, Bool.and_self, Bool.false_and, Bool.and_false, Bool.true_or, Bool.or_true, Bool.false_or, Bool.or_false, ↓reduceIte, Nat.reduceEqDiff, Nat.reduceAdd, Nat.reduceMul, Nat.reduceSub, Nat.reduceBEq, Nat.reduceLeDiff, Nat.reduceLT, Nat.reduceMod, Nat.reduceDiv, Int.reduceToNat, Int.reducePow, Int.reduceMul, Int.reduceAdd, Int.reduceSub, Int.reduceLE, Int.reduceLT, Int.reduceNeg, Int.reduceDiv, Int.reduceMod, Int.reduceEq, Int.reduceBEq, Int.reduceBNe, f5, f5b, f5r0, f5r1, f5r2, f5r3, f5r4, f5r5, f5r6, f5r7, f5r8, f5r9, f5r10, f5r11, f5r12, f5r13, hkw] | (refine BrW.of (fun hb => ?_) (fun hb => ?_) <;> (have hb' := hb; try simp only [decide_eq_true_eq, decide_eq_false_iff_not, beq_iff_eq, bne_iff_ne, beq_eq_false_iff_ne, bne_eq_false_iff_eq, Bool.not_eq_true', Bool.not_eq_false', Bool.not_eq_true, Bool.not_eq_false, Bool.and_eq_true, Bool.or_eq_true, Bool.and_eq_false_iff, Bool.or_eq_false_iff, Int.not_lt, Int.not_le, ne_eq, gt_iff_lt, ge_iff_le] at hb') <;> (try (exfalso; omega))) | (refine altW.of ?_ ?_) | (refine .of ((alive _).mono ?_); rintro v H ⟨rfl, rfl⟩)
  all_goals first | exact .here rfl | skip
  obtain ⟨i, rfl⟩ := Int.eq_ofNat_of_zero_le (show 0 ≤ who by omega)
  have hi : i < wl.length := by omega
  refine .of ((CloneI_spec wl kw 0 0 cw H hw (by omega) hcw).mono ?_)
  rintro v J ⟨g', rfl, rfl⟩
  have e1 : (flat' ienc wl)[i]? = some (.int .i64 (wl.getD i 0)) := by rw [flat'_ienc]; exact ints_get wl i hi
  have e2 : (flat' ienc wl).length = wl.length := by rw [flat'_ienc]; simp [ints]
  have e3 : (flat' ienc wl).set i (.int .i64 (isub .i64 (wl.getD i 0) less)) = ints (wl.set i (isub .i64 (wl.getD i 0) less)) := by rw [ienc_set, flat'_ienc]
  repeat' first | simp (disch := first | with_reducible assumption | omega) only [go_sem, Bool.true_and, Bool.and_true, Bool.and_self, Bool.false_and, Bool.and_false, Bool.true_or, Bool.or_true, Bool.false_or, Bool.or_false, ↓reduceIte, Nat.reduceEqDiff, Nat.reduceAdd, Nat.reduceMul, Nat.reduceSub, Nat.reduceBEq, Nat.reduceLeDiff, Nat.reduceLT, Nat.reduceMod, Nat.reduceDiv, Int.reduceToNat, Int.reducePow, Int.reduceMul, Int.reduceAdd, Int.reduceSub, Int.reduceLE, Int.reduceLT, Int.reduceNeg, Int.reduceDiv, Int.reduceMod, Int.reduceEq, Int.reduceBEq, Int.reduceBNe, f5, f5b, f5r0, f5r1, f5r2, f5r3, f5r4, f5r5, f5r6, f5r7, f5r8, f5r9, f5r10, f5r11, f5r12, f5r13, e1, e2, e3] | (refine BrW.of (fun hb => ?_) (fun hb => ?_) <;> (have hb' := hb; try simp only [decide_eq_true_eq, decide_eq_false_iff_not, beq_iff_eq, bne_iff_ne, beq_eq_false_iff_ne, bne_eq_false_iff_eq, Bool.not_eq_true', Bool.not_eq_false', Bool.not_eq_true, Bool.not_eq_false, Bool.and_eq_true, Bool.or_eq_true, Bool.and_eq_false_iff, Bool.or_eq_false_iff, Int.not_lt, Int.not_le, ne_eq, gt_iff_lt, ge_iff_le] at hb') <;> (try (exfalso; omega))) | (refine altW.of ?_ ?_)
  have hf := Ints.new _ _ _ _ _ (get_new0 H (.cells g' 1 false (ints (wl.set i (isub .i64 (wl.getD i 0) less)))) [])
  have hfl : (wl.set i (isub .i64 (wl.getD i 0) less)).length = wl.length := List.length_set
  replace hw := hw.app [.cells g' 1 false (ints (wl.set i (isub .i64 (wl.getD i 0) less)))]
  replace hc := hc.app [.cells g' 1 false (ints (wl.set i (isub .i64 (wl.getD i 0) less)))]
  have hkw2 := get_old hkw [.cells g' 1 false (ints (wl.set i (isub .i64 (wl.getD i 0) less)))]
  clear e1 e2 e3
  generalize hfw : wl.set i (isub .i64 (wl.getD i 0) less) = fl at *
  generalize H ++ [.cells g' 1 false (ints fl)] = J at *
  generalize H.length = kf at *
  refine .of ((Gets_spec all wl cl kw 0 0 cw kc 0 0 cc J hw hc (by omega) (by omega) hcw hcc).mono ?_)
  rintro v J2 ⟨X, ua, e, hJ2, rfl, he, hbad, hgood⟩
  replace hw : Ints J2 kw 0 0 wl := hJ2 ▸ hw.app X
  replace hc : Ints J2 kc 0 0 cl := hJ2 ▸ hc.app X
  replace hf : Ints J2 kf 0 g' fl := hJ2 ▸ hf.app X
  have hkw3 : J2[kw]? = some (.cells 0 1 rw csw) := hJ2 ▸ get_old hkw2 X
  clear hJ2 hkw hkw2
  by_cases he0 : e = 0
  · obtain ⟨hlen, hok⟩ := he.1 he0
    obtain ⟨num, den, hlv, ka, ga, rfl, x1⟩ := hgood he0
    subst he0
    have h16 : wl.length ≤ 16 := hok.len
    have hFA := FB.of hok hlv
    have hap := hok.pos
    repeat' first | simp (disch := first | with_reducible assumption | omega) only [go_sem, Bool.true_and, Bool.and_true, Bool.and_self, Bool.false_and, Bool.and_false, Bool.true_or, Bool.or_true, Bool.false_or, Bool.or_false, ↓reduceIte, Nat.reduceEqDiff, Nat.reduceAdd, Nat.reduceMul, Nat.reduceSub, Nat.reduceBEq, Nat.reduceLeDiff, Nat.reduceLT, Nat.reduceMod, Nat.reduceDiv, Int.reduceToNat, Int.reducePow, Int.reduceMul, Int.reduceAdd, Int.reduceSub, Int.reduceLE, Int.reduceLT, Int.reduceNeg, Int.reduceDiv, Int.reduceMod, Int.reduceEq, Int.reduceBEq, Int.reduceBNe, f5, f5b, f5r0, f5r1, f5r2, f5r3, f5r4, f5r5, f5r6, f5r7, f5r8, f5r9, f5r10, f5r11, f5r12, f5r13] | (refine BrW.of (fun hb => ?_) (fun hb => ?_) <;> (have hb' := hb; try simp only [decide_eq_true_eq, decide_eq_false_iff_not, beq_iff_eq, bne_iff_ne, beq_eq_false_iff_ne, bne_eq_false_iff_eq, Bool.not_eq_true', Bool.not_eq_false', Bool.not_eq_true, Bool.not_eq_false, Bool.and_eq_true, Bool.or_eq_true, Bool.and_eq_false_iff, Bool.or_eq_false_iff, Int.not_lt, Int.not_le, ne_eq, gt_iff_lt, ge_iff_le] at hb') <;> (try (exfalso; omega))) | (refine altW.of ?_ ?_)
    refine .of ((Gets_spec _ wl cl kw 0 0 cw kc 0 0 cc _ (hw.app _) (hc.app _) (by omega) (by omega) hcw hcc).mono ?_)
    rintro v J3 ⟨X3, ub, f, hJ3, rfl, hf0, hbad3, hgood3⟩
    have hbox : J3[J2.length]? = some (.cells 0 0 false [slv ka 0 ga (gl (W wl cl) num den wl.length).length (gl (W wl cl) num den wl.length).length]) := by rw [hJ3]; exact get_old (get_new0 _ _ _) X3
    have x2 : J3[ka]? = some (.cells ga 2 false (flat' F.cells (gl (W wl cl) num den wl.length))) := by rw [hJ3]; exact get_old (get_old x1 _) X3
    replace hc : Ints J3 kc 0 0 cl := by rw [hJ3]; exact (hc.app _).app X3
    replace hf : Ints J3 kf 0 g' fl := by rw [hJ3]; exact (hf.app _).app X3
    have hkw4 : J3[kw]? = some (.cells 0 1 rw csw) := by rw [hJ3]; exact get_old (get_old hkw3 _) X3
    clear hJ3 x1 hkw3
    generalize J2.length = kb at *
    repeat' first | simp (disch := first | with_reducible assumption | omega) only [go_sem, Bool.true_and, Bool.and_true, Bool.and_self, Bool.false_and, Bool.and_false, Bool.true_or, Bool.or_true, Bool.false_or, Bool.or_false, ↓reduceIte, Nat.reduceEqDiff, Nat.reduceAdd, Nat.reduceMul, Nat.reduceSub, Nat.reduceBEq, Nat.reduceLeDiff, Nat.reduceLT, Nat.reduceMod, Nat.reduceDiv, Int.reduceToNat, Int.reducePow, Int.reduceMul, Int.reduceAdd, Int.reduceSub, Int.reduceLE, Int.reduceLT, Int.reduceNeg, Int.reduceDiv, Int.reduceMod, Int.reduceEq, Int.reduceBEq, Int.reduceBNe, f5, f5b, f5r0, f5r1, f5r2, f5r3, f5r4, f5r5, f5r6, f5r7, f5r8, f5r9, f5r10, f5r11, f5r12, f5r13] | (refine BrW.of (fun hb => ?_) (fun hb => ?_) <;> (have hb' := hb; try simp only [decide_eq_true_eq, decide_eq_false_iff_not, beq_iff_eq, bne_iff_ne, beq_eq_false_iff_ne, bne_eq_false_iff_eq, Bool.not_eq_true', Bool.not_eq_false', Bool.not_eq_true, Bool.not_eq_false, Bool.and_eq_true, Bool.or_eq_true, Bool.and_eq_false_iff, Bool.or_eq_false_iff, Int.not_lt, Int.not_le, ne_eq, gt_iff_lt, ge_iff_le] at hb') <;> (try (exfalso; omega))) | (refine altW.of ?_ ?_)
    rw [← hfl]
    refine .of ((Gets_spec _ fl cl kf 0 g' fl.length kc 0 0 cc _ hf hc (by omega) (by omega) (by omega) hcc).mono ?_)
    rintro v J4 ⟨X4, uc, h, hJ4, rfl, hh0, hbad4, hgood4⟩
    replace hbox : J4[kb]? = some (.cells 0 0 false [slv ka 0 ga (gl (W wl cl) num den wl.length).length (gl (W wl cl) num den wl.length).length]) := by rw [hJ4]; exact get_old hbox X4
    replace x2 : J4[ka]? = some (.cells ga 2 false (flat' F.cells (gl (W wl cl) num den wl.length))) := by rw [hJ4]; exact get_old x2 X4
    have hkw5 : J4[kw]? = some (.cells 0 1 rw csw) := by rw [hJ4]; exact get_old hkw4 X4
    have hgA := fun k (hk : k < wl.length) => gl_get (W wl cl) num den wl.length k hk
    have hlA := gl_len (W wl cl) num den wl.length
    have hT : h = 0 → ACallK Try.prog 11 [uc, .int .i64 i, .pointer (some ⟨kb, 0, some 1⟩)] J4 (fun v H' => H' = J4 ∧ v = .bool true) := fun hh1 => by
      obtain ⟨num4, den4, hlv4, kc4, gc4, rfl, x4⟩ := hgood4 hh1
      obtain ⟨_, hok4⟩ := hh0.1 hh1
      have hFC := FB.of hok4 hlv4
      have hgC := fun k (hk : k < fl.length) => gl_get (W fl cl) num4 den4 fl.length k hk
      have hlC := gl_len (W fl cl) num4 den4 fl.length
      refine (NoLess_spec _ _ i kc4 gc4 ka ga kb none J4 x4 x2 hbox hFC hFA (by omega) (by omega)).mono ?_
      rintro v H' ⟨h1, h2⟩
      refine ⟨h1, h2 (by omega) fun k hk hki => ?_⟩
      have hwi := hok.w i hi
      have hwi2 : 0 ≤ wl.getD i 0 ∧ wl.getD i 0 ≤ 1048576 := hwi
      have hfk : ∀ j, j < wl.length → fl.getD j 0 = if i = j then wl.getD i 0 - less else wl.getD j 0 := fun j hj => by
        rw [← hfw, isub_i64 _ _ (by omega)]
        simp only [List.getD_eq_getElem?_getD, List.getElem?_set]
        by_cases e : i = j
        · subst e; simp [hj]
        · simp [e]
      rw [hgA k (by omega), hgC k (by omega)]
      refine share_more (t := W fl cl) hok hfl (fun _ _ => rfl) (fun j hj => ?_) (Int.le_refl _) hlv hlv4 (k := k) (show k < wl.length by omega) ?_
      · show fl.getD j 0 ≤ wl.getD j 0
        rw [hfk j hj]
        split
        · rename_i e; subst e; omega
        · exact Int.le_refl _
      · show fl.getD k 0 = wl.getD k 0
        rw [hfk k (by omega), if_neg (by omega)]
    by_cases hf1 : f = 0
    · obtain ⟨num3, den3, hlv3, kb3, gb3, rfl, x3⟩ := hgood3 hf1
      obtain ⟨_, hok3⟩ := hf0.1 hf1
      have hFB := FB.of hok3 hlv3
      have x3 : J4[kb3]? = some (.cells gb3 2 false (flat' F.cells (gl (W wl cl) num3 den3 wl.length))) := by rw [hJ4]; exact get_old x3 X4
      have hgB := fun k (hk : k < wl.length) => gl_get (W wl cl) num3 den3 wl.length k hk
      have hlB := gl_len (W wl cl) num3 den3 wl.length
      have hS1 := NoLess_spec _ _ (-1) kb3 gb3 ka ga kb none J4 x3 x2 hbox hFB hFA (by omega) (by omega)
      have hm1 : ∀ k : Nat, k < (gl (W wl cl) num3 den3 wl.length).length → (k : Int) ≠ -1 → ((gl (W wl cl) num den wl.length).getD k f0).num * ((gl (W wl cl) num3 den3 wl.length).getD k f0).den ≤ ((gl (W wl cl) num3 den3 wl.length).getD k f0).num * ((gl (W wl cl) num den wl.length).getD k f0).den := fun k hk _ => by
        rw [hgA k (by omega), hgB k (by omega)]
        exact share_more hok rfl (fun _ _ => rfl) (fun _ _ => Int.le_refl _) (by omega) hlv hlv3 (k := k) (show k < wl.length by omega) rfl
      subst hf1
      repeat' first | simp (disch := first | with_reducible assumption | omega) only [go_sem, Bool.true_and, Bool.and_true, Bool.and_self, Bool.false_and, Bool.and_false, Bool.true_or, Bool.or_true, Bool.false_or, Bool.or_false, ↓reduceIte, Nat.reduceEqDiff, Nat.reduceAdd, Nat.reduceMul, Nat.reduceSub, Nat.reduceBEq, Nat.reduceLeDiff, Nat.reduceLT, Nat.reduceMod, Nat.reduceDiv, Int.reduceToNat, Int.reducePow, Int.reduceMul, Int.reduceAdd, Int.reduceSub, Int.reduceLE, Int.reduceLT, Int.reduceNeg, Int.reduceDiv, Int.reduceMod, Int.reduceEq, Int.reduceBEq, Int.reduceBNe, f5, f5b, f5r0, f5r1, f5r2, f5r3, f5r4, f5r5, f5r6, f5r7, f5r8, f5r9, f5r10, f5r11, f5r12, f5r13, hbox, hkw5, x2, hlA] | (refine BrW.of (fun hb => ?_) (fun hb => ?_) <;> (have hb' := hb; try simp only [decide_eq_true_eq, decide_eq_false_iff_not, beq_iff_eq, bne_iff_ne, beq_eq_false_iff_ne, bne_eq_false_iff_eq, Bool.not_eq_true', Bool.not_eq_false', Bool.not_eq_true, Bool.not_eq_false, Bool.and_eq_true, Bool.or_eq_true, Bool.and_eq_false_iff, Bool.or_eq_false_iff, Int.not_lt, Int.not_le, ne_eq, gt_iff_lt, ge_iff_le] at hb') <;> (try (exfalso; omega))) | (refine altW.of ?_ ?_)
      refine .of (hS1.mono ?_)
      rintro v H' ⟨rfl, h2⟩
      obtain rfl := h2 (by omega) hm1
      by_cases hh1 : h = 0
      · replace hT := hT hh1
        subst hh1
        repeat' first | simp (disch := first | with_reducible assumption | omega) only [go_sem, Bool.true_and, Bool.and_true, Bool.and_self, Bool.false_and, Bool.and_false, Bool.true_or, Bool.or_true, Bool.false_or, Bool.or_false, ↓reduceIte, Nat.reduceEqDiff, Nat.reduceAdd, Nat.reduceMul, Nat.reduceSub, Nat.reduceBEq, Nat.reduceLeDiff, Nat.reduceLT, Nat.reduceMod, Nat.reduceDiv, Int.reduceToNat, Int.reducePow, Int.reduceMul, Int.reduceAdd, Int.reduceSub, Int.reduceLE, Int.reduceLT, Int.reduceNeg, Int.reduceDiv, Int.reduceMod, Int.reduceEq, Int.reduceBEq, Int.reduceBNe, f5, f5b, f5r0, f5r1, f5r2, f5r3, f5r4, f5r5, f5r6, f5r7, f5r8, f5r9, f5r10, f5r11, f5r12, f5r13] | (refine BrW.of (fun hb => ?_) (fun hb => ?_) <;> (have hb' := hb; try simp only [decide_eq_true_eq, decide_eq_false_iff_not, beq_iff_eq, bne_iff_ne, beq_eq_false_iff_ne, bne_eq_false_iff_eq, Bool.not_eq_true', Bool.not_eq_false', Bool.not_eq_true, Bool.not_eq_false, Bool.and_eq_true, Bool.or_eq_true, Bool.and_eq_false_iff, Bool.or_eq_false_iff, Int.not_lt, Int.not_le, ne_eq, gt_iff_lt, ge_iff_le] at hb') <;> (try (exfalso; omega))) | (refine altW.of ?_ ?_)
        refine .of (hT.mono ?_)
        rintro v H' ⟨rfl, rfl⟩
        repeat' first | simp (disch := first | with_reducible assumption | omega) only [go_sem, Bool.true_and, Bool.and_true, Bool.and_self, Bool.false_and, Bool.and_false, Bool.true_or, Bool.or_true, Bool.false_or, Bool.or_false, ↓reduceIte, Nat.reduceEqDiff, Nat.reduceAdd, Nat.reduceMul, Nat.reduceSub, Nat.reduceBEq, Nat.reduceLeDiff, Nat.reduceLT, Nat.reduceMod, Nat.reduceDiv, Int.reduceToNat, Int.reducePow, Int.reduceMul, Int.reduceAdd, Int.reduceSub, Int.reduceLE, Int.reduceLT, Int.reduceNeg, Int.reduceDiv, Int.reduceMod, Int.reduceEq, Int.reduceBEq, Int.reduceBNe, f5, f5b, f5r0, f5r1, f5r2, f5r3, f5r4, f5r5, f5r6, f5r7, f5r8, f5r9, f5r10, f5r11, f5r12, f5r13] | (refine BrW.of (fun hb => ?_) (fun hb => ?_) <;> (have hb' := hb; try simp only [decide_eq_true_eq, decide_eq_false_iff_not, beq_iff_eq, bne_iff_ne, beq_eq_false_iff_ne, bne_eq_false_iff_eq, Bool.not_eq_true', Bool.not_eq_false', Bool.not_eq_true, Bool.not_eq_false, Bool.and_eq_true, Bool.or_eq_true, Bool.and_eq_false_iff, Bool.or_eq_false_iff, Int.not_lt, Int.not_le, ne_eq, gt_iff_lt, ge_iff_le] at hb') <;> (try (exfalso; omega))) | (refine altW.of ?_ ?_)
        exact .here rfl
      · have hne : (h != 0) = true := by simpa using hh1
        repeat' first | simp (disch := first | with_reducible assumption | omega) only [go_sem, Bool.true_and, Bool.and_true, Bool.and_self, Bool.false_and, Bool.and_false, Bool.true_or, Bool.or_true, Bool.false_or, Bool.or_false, ↓reduceIte, Nat.reduceEqDiff, Nat.reduceAdd, Nat.reduceMul, Nat.reduceSub, Nat.reduceBEq, Nat.reduceLeDiff, Nat.reduceLT, Nat.reduceMod, Nat.reduceDiv, Int.reduceToNat, Int.reducePow, Int.reduceMul, Int.reduceAdd, Int.reduceSub, Int.reduceLE, Int.reduceLT, Int.reduceNeg, Int.reduceDiv, Int.reduceMod, Int.reduceEq, Int.reduceBEq, Int.reduceBNe, f5, f5b, f5r0, f5r1, f5r2, f5r3, f5r4, f5r5, f5r6, f5r7, f5r8, f5r9, f5r10, f5r11, f5r12, f5r13, hne] | (refine BrW.of (fun hb => ?_) (fun hb => ?_) <;> (have hb' := hb; try simp only [decide_eq_true_eq, decide_eq_false_iff_not, beq_iff_eq, bne_iff_ne, beq_eq_false_iff_ne, bne_eq_false_iff_eq, Bool.not_eq_true', Bool.not_eq_false', Bool.not_eq_true, Bool.not_eq_false, Bool.and_eq_true, Bool.or_eq_true, Bool.and_eq_false_iff, Bool.or_eq_false_iff, Int.not_lt, Int.not_le, ne_eq, gt_iff_lt, ge_iff_le] at hb') <;> (try (exfalso; omega))) | (refine altW.of ?_ ?_)
        exact .here rfl
    · have hnf : (f != 0) = true := by simpa using hf1
      by_cases hh1 : h = 0
      · replace hT := hT hh1
        subst hh1
        repeat' first | simp (disch := first | with_reducible assumption | omega) only [go_sem, Bool.true_and, Bool.and_true, Bool.and_self, Bool.false_and, Bool.and_false, Bool.true_or, Bool.or_true, Bool.false_or, Bool.or_false, ↓reduceIte, Nat.reduceEqDiff, Nat.reduceAdd, Nat.reduceMul, Nat.reduceSub, Nat.reduceBEq, Nat.reduceLeDiff, Nat.reduceLT, Nat.reduceMod, Nat.reduceDiv, Int.reduceToNat, Int.reducePow, Int.reduceMul, Int.reduceAdd, Int.reduceSub, Int.reduceLE, Int.reduceLT, Int.reduceNeg, Int.reduceDiv, Int.reduceMod, Int.reduceEq, Int.reduceBEq, Int.reduceBNe, f5, f5b, f5r0, f5r1, f5r2, f5r3, f5r4, f5r5, f5r6, f5r7, f5r8, f5r9, f5r10, f5r11, f5r12, f5r13, hbox, hkw5, x2, hlA, hnf] | (refine BrW.of (fun hb => ?_) (fun hb => ?_) <;> (have hb' := hb; try simp only [decide_eq_true_eq, decide_eq_false_iff_not, beq_iff_eq, bne_iff_ne, beq_eq_false_iff_ne, bne_eq_false_iff_eq, Bool.not_eq_true', Bool.not_eq_false', Bool.not_eq_true, Bool.not_eq_false, Bool.and_eq_true, Bool.or_eq_true, Bool.and_eq_false_iff, Bool.or_eq_false_iff, Int.not_lt, Int.not_le, ne_eq, gt_iff_lt, ge_iff_le] at hb') <;> (try (exfalso; omega))) | (refine altW.of ?_ ?_)
        refine .of (hT.mono ?_)
        rintro v H' ⟨rfl, rfl⟩
        repeat' first | simp (disch := first | with_reducible assumption | omega) only [go_sem, Bool.true_and, Bool.and_true, Bool.and_self, Bool.false_and, Bool.and_false, Bool.true_or, Bool.or_true, Bool.false_or, Bool.or_false, ↓reduceIte, Nat.reduceEqDiff, Nat.reduceAdd, Nat.reduceMul, Nat.reduceSub, Nat.reduceBEq, Nat.reduceLeDiff, Nat.reduceLT, Nat.reduceMod, Nat.reduceDiv, Int.reduceToNat, Int.reducePow, Int.reduceMul, Int.reduceAdd, Int.reduceSub, Int.reduceLE, Int.reduceLT, Int.reduceNeg, Int.reduceDiv, Int.reduceMod, Int.reduceEq, Int.reduceBEq, Int.reduceBNe, f5, f5b, f5r0, f5r1, f5r2, f5r3, f5r4, f5r5, f5r6, f5r7, f5r8, f5r9, f5r10, f5r11, f5r12, f5r13] | (refine BrW.of (fun hb => ?_) (fun hb => ?_) <;> (have hb' := hb; try simp only [decide_eq_true_eq, decide_eq_false_iff_not, beq_iff_eq, bne_iff_ne, beq_eq_false_iff_ne, bne_eq_false_iff_eq, Bool.not_eq_true', Bool.not_eq_false', Bool.not_eq_true, Bool.not_eq_false, Bool.and_eq_true, Bool.or_eq_true, Bool.and_eq_false_iff, Bool.or_eq_false_iff, Int.not_lt, Int.not_le, ne_eq, gt_iff_lt, ge_iff_le] at hb') <;> (try (exfalso; omega))) | (refine altW.of ?_ ?_)
        exact .here rfl
      · have hne : (h != 0) = true := by simpa using hh1
        repeat' first | simp (disch := first | with_reducible assumption | omega) only [go_sem, Bool.true_and, Bool.and_true, Bool.and_self, Bool.false_and, Bool.and_false, Bool.true_or, Bool.or_true, Bool.false_or, Bool.or_false, ↓reduceIte, Nat.reduceEqDiff, Nat.reduceAdd, Nat.reduceMul, Nat.reduceSub, Nat.reduceBEq, Nat.reduceLeDiff, Nat.reduceLT, Nat.reduceMod, Nat.reduceDiv, Int.reduceToNat, Int.reducePow, Int.reduceMul, Int.reduceAdd, Int.reduceSub, Int.reduceLE, Int.reduceLT, Int.reduceNeg, Int.reduceDiv, Int.reduceMod, Int.reduceEq, Int.reduceBEq, Int.reduceBNe, f5, f5b, f5r0, f5r1, f5r2, f5r3, f5r4, f5r5, f5r6, f5r7, f5r8, f5r9, f5r10, f5r11, f5r12, f5r13, hbox, hkw5, x2, hlA, hne, hnf] | (refine BrW.of (fun hb => ?_) (fun hb => ?_) <;> (have hb' := hb; try simp only [decide_eq_true_eq, decide_eq_false_iff_not, beq_iff_eq, bne_iff_ne, beq_eq_false_iff_ne, bne_eq_false_iff_eq, Bool.not_eq_true', Bool.not_eq_false', Bool.not_eq_true, Bool.not_eq_false, Bool.and_eq_true, Bool.or_eq_true, Bool.and_eq_false_iff, Bool.or_eq_false_iff, Int.not_lt, Int.not_le, ne_eq, gt_iff_lt, ge_iff_le] at hb') <;> (try (exfalso; omega))) | (refine altW.of ?_ ?_)
        all_goals exact .here rfl
  · obtain rfl := hbad he0
    repeat' first | simp (disch := first | with_reducible assumption | omega) only [go_sem, Bool.true_and, Bool.and_true, Bool.and_self, Bool.false_and, Bool.and_false, Bool.true_or, Bool.or_true, Bool.false_or, Bool.or_false, ↓reduceIte, Nat.reduceEqDiff, Nat.reduceAdd, Nat.reduceMul, Nat.reduceSub, Nat.reduceBEq, Nat.reduceLeDiff, Nat.reduceLT, Nat.reduceMod, Nat.reduceDiv, Int.reduceToNat, Int.reducePow, Int.reduceMul, Int.reduceAdd, Int.reduceSub, Int.reduceLE, Int.reduceLT, Int.reduceNeg, Int.reduceDiv, Int.reduceMod, Int.reduceEq, Int.reduceBEq, Int.reduceBNe, f5, f5b, f5r0, f5r1, f5r2, f5r3, f5r4, f5r5, f5r6, f5r7, f5r8, f5r9, f5r10, f5r11, f5r12, f5r13] | (refine BrW.of (fun hb => ?_) (fun hb => ?_) <;> (have hb' := hb; try simp only [decide_eq_true_eq, decide_eq_false_iff_not, beq_iff_eq, bne_iff_ne, beq_eq_false_iff_ne, bne_eq_false_iff_eq, Bool.not_eq_true', Bool.not_eq_false', Bool.not_eq_true, Bool.not_eq_false, Bool.and_eq_true, Bool.or_eq_true, Bool.and_eq_false_iff, Bool.or_eq_false_iff, Int.not_lt, Int.not_le, ne_eq, gt_iff_lt, ge_iff_le] at hb') <;> (try (exfalso; omega))) | (refine altW.of ?_ ?_)
    refine .of ((Gets_spec _ wl cl kw 0 0 cw kc 0 0 cc _ (hw.app _) (hc.app _) (by omega) (by omega) hcw hcc).mono ?_)
    rintro v J3 ⟨X3, ub, f, hJ3, rfl, hf0, hbad3, hgood3⟩
    have hbox : J3[J2.length]? = some (.cells 0 0 false [.slice none 0 0]) := by rw [hJ3]; exact get_old (get_new0 _ _ _) X3
    replace hc : Ints J3 kc 0 0 cl := by rw [hJ3]; exact (hc.app _).app X3
    replace hf : Ints J3 kf 0 g' fl := by rw [hJ3]; exact (hf.app _).app X3
    have hkw4 : J3[kw]? = some (.cells 0 1 rw csw) := by rw [hJ3]; exact get_old (get_old hkw3 _) X3
    repeat' first | simp (disch := first | with_reducible assumption | omega) only [go_sem, Bool.true_and, Bool.and_true, Bool.and_self, Bool.false_and, Bool.and_false, Bool.true_or, Bool.or_true, Bool.false_or, Bool.or_false, ↓reduceIte, Nat.reduceEqDiff, Nat.reduceAdd, Nat.reduceMul, Nat.reduceSub, Nat.reduceBEq, Nat.reduceLeDiff, Nat.reduceLT, Nat.reduceMod, Nat.reduceDiv, Int.reduceToNat, Int.reducePow, Int.reduceMul, Int.reduceAdd, Int.reduceSub, Int.reduceLE, Int.reduceLT, Int.reduceNeg, Int.reduceDiv, Int.reduceMod, Int.reduceEq, Int.reduceBEq, Int.reduceBNe, f5, f5b, f5r0, f5r1, f5r2, f5r3, f5r4, f5r5, f5r6, f5r7, f5r8, f5r9, f5r10, f5r11, f5r12, f5r13] | (refine BrW.of (fun hb => ?_) (fun hb => ?_) <;> (have hb' := hb; try simp only [decide_eq_true_eq, decide_eq_false_iff_not, beq_iff_eq, bne_iff_ne, beq_eq_false_iff_ne, bne_eq_false_iff_eq, Bool.not_eq_true', Bool.not_eq_false', Bool.not_eq_true, Bool.not_eq_false, Bool.and_eq_true, Bool.or_eq_true, Bool.and_eq_false_iff, Bool.or_eq_false_iff, Int.not_lt, Int.not_le, ne_eq, gt_iff_lt, ge_iff_le] at hb') <;> (try (exfalso; omega))) | (refine altW.of ?_ ?_)
    rw [← hfl]
    refine .of ((Gets_spec _ fl cl kf 0 g' fl.length kc 0 0 cc _ hf hc (by omega) (by omega) (by omega) hcc).mono ?_)
    rintro v J4 ⟨X4, uc, h, hJ4, rfl, hh0, hbad4, hgood4⟩
    replace hbox : J4[J2.length]? = some (.cells 0 0 false [.slice none 0 0]) := by rw [hJ4]; exact get_old hbox X4
    have hkw5 : J4[kw]? = some (.cells 0 1 rw csw) := by rw [hJ4]; exact get_old hkw4 X4
    have hne : (e != 0) = true := by simpa using he0
    repeat' first | simp (disch := first | with_reducible assumption | omega) only [go_sem, Bool.true_and, Bool.and_true, Bool.and_self, Bool.false_and, Bool.and_false, Bool.true_or, Bool.or_true, Bool.false_or, Bool.or_false, ↓reduceIte, Nat.reduceEqDiff, Nat.reduceAdd, Nat.reduceMul, Nat.reduceSub, Nat.reduceBEq, Nat.reduceLeDiff, Nat.reduceLT, Nat.reduceMod, Nat.reduceDiv, Int.reduceToNat, Int.reducePow, Int.reduceMul, Int.reduceAdd, Int.reduceSub, Int.reduceLE, Int.reduceLT, Int.reduceNeg, Int.reduceDiv, Int.reduceMod, Int.reduceEq, Int.reduceBEq, Int.reduceBNe, f5, f5b, f5r0, f5r1, f5r2, f5r3, f5r4, f5r5, f5r6, f5r7, f5r8, f5r9, f5r10, f5r11, f5r12, f5r13, hbox, hkw5, hne] | (refine BrW.of (fun hb => ?_) (fun hb => ?_) <;> (have hb' := hb; try simp only [decide_eq_true_eq, decide_eq_false_iff_not, beq_iff_eq, bne_iff_ne, beq_eq_false_iff_ne, bne_eq_false_iff_eq, Bool.not_eq_true', Bool.not_eq_false', Bool.not_eq_true, Bool.not_eq_false, Bool.and_eq_true, Bool.or_eq_true, Bool.and_eq_false_iff, Bool.or_eq_false_iff, Int.not_lt, Int.not_le, ne_eq, gt_iff_lt, ge_iff_le] at hb') <;> (try (exfalso; omega))) | (refine altW.of ?_ ?_)
    all_goals first | exact .here rfl | exact .here (by simpa using he0) | (exfalso; omega)
end Go.Proofs.Ytabjglejldapgaa
