import Derived.Test.YtabjglejldapgaaSteps6
set_option linter.unusedSimpArgs false
set_option linter.unusedVariables false
set_option maxHeartbeats 2000000
set_option maxRecDepth 20000
namespace Go.Proofs.Ytabjglejldapgaa
open Go Go.Am
attribute [local irreducible] opsW Ww loopW callW drawW outW outDW gW cW BrW bothW vW resW DropW RdW dcallW altW Later.run

theorem rev_getD (l : List Int) (i : Nat) (h : i < l.length) : l.reverse.getD i 0 = l.getD (l.length - 1 - i) 0 := by
  simp only [List.getD_eq_getElem?_getD]
  rw [List.getElem?_reverse h]
theorem okS_rev {all : Int} {wl cl : List Int} (h : okS all wl cl) : okS all wl.reverse cl.reverse := by
  obtain ⟨h1, h2, h3, h4, h5⟩ := h
  refine ⟨by simpa using h1, by simpa [W] using h2, h3, fun i hi => ?_, fun i hi => ?_⟩
  · have hi : i < wl.length := by simpa [W] using hi
    show 0 ≤ wl.reverse.getD i 0 ∧ wl.reverse.getD i 0 ≤ 1048576
    rw [rev_getD wl i hi]
    exact h4 _ (show wl.length - 1 - i < wl.length by omega)
  · have hi : i < wl.length := by simpa [W] using hi
    show 1 ≤ cl.reverse.getD i 0 ∧ cl.reverse.getD i 0 ≤ 1000
    rw [rev_getD cl i (by omega), ← h1]
    exact h5 _ (show wl.length - 1 - i < wl.length by omega)
theorem okS_rev_iff {all : Int} {wl cl : List Int} : okS all wl.reverse cl.reverse ↔ okS all wl cl := ⟨fun h => by
  have := okS_rev h
  rwa [List.reverse_reverse, List.reverse_reverse] at this, okS_rev⟩
theorem Gets_u (all : Int) (wl cl : List Int) (kw ow gw cw kc oc gc cc : Nat) (H : Heap) (hw : Ints H kw ow gw wl) (hc : Ints H kc oc gc cl) (hlw : wl.length ≤ 9223372036854775807) (hlc : cl.length ≤ 9223372036854775807) (hcw : wl.length ≤ cw) (hcc : cl.length ≤ cc) :
    ACallK Try.prog 8 [.int .i64 all, slv kw ow gw wl.length cw, slv kc oc gc cl.length cc] H (fun v H' => ∃ (X : Heap) (u : Value) (e : Int), H' = H ++ X ∧ v = .tuple #[u, .int .i64 e] ∧ (¬ okS all wl cl → e = badE wl cl) ∧ (okS all wl cl → e = 0 ∧ ∃ num den, IsLev (W wl cl) all num den ∧ ∃ k g, H.length ≤ k ∧ u = slv k 0 g (gl (W wl cl) num den wl.length).length (gl (W wl cl) num den wl.length).length ∧ H'[k]? = some (.cells g 2 false (flat' F.cells (gl (W wl cl) num den wl.length))))) := by
  by_cases h : okS all wl cl
  · refine (Gets_new all wl cl kw ow gw cw kc oc gc cc H hw hc hlw hlc hcw hcc).mono ?_
    rintro v J ⟨X, u, e, h1, h2, h3, h4, h5⟩
    exact ⟨X, u, e, h1, h2, fun hn => absurd h hn, fun _ => ⟨h3.2 h, h5 (h3.2 h)⟩⟩
  · refine (Gets_bad all wl cl kw ow gw cw kc oc gc cc H hw hc hlw hlc h).mono ?_
    rintro v J ⟨rfl, rfl⟩
    exact ⟨[], _, _, by simp, rfl, fun _ => rfl, fun hn => absurd hn h⟩
theorem ShareLike_args (H : Heap) (vals : List Value) (h : ArgsOk 1048576 H ShareLikeSh vals) : ACallK Try.prog 6 vals H fun v _ => v = .bool true := by
  obtain ⟨_, _, rfl, a1, h1⟩ := h.cons
  obtain ⟨_, _, rfl, a2, h2⟩ := h1.cons
  obtain ⟨_, _, rfl, a3, h3⟩ := h2.cons
  obtain rfl := h3.nil
  obtain ⟨all, rfl, hall⟩ := int_of a1
  obtain ⟨kw, cw, wl, rfl, hlw, hcw, hw, hwb⟩ := list_of' a2
  obtain ⟨kc, cc, cl, rfl, hlc, hcc, hc, hcb⟩ := list_of' a3
  clear a1 a2 a3 h h1 h2 h3
  obtain ⟨rw, csw, hkw, _, w0⟩ := Ints.cell hw
  obtain ⟨rc, csc, hkc, _, c0⟩ := Ints.cell hc
  simp only [Nat.zero_add] at w0 c0
  refine .walkW f6_ok (by simp; decide) (by decide) ?_
  repeat' first | simp (disch := first | with_reducible assumption | omega) only [go_sem, Bool.true_and, Bool.and_true, Bool.and_self, Bool.false_and, Bool.and_false, Bool.true_or, Bool.or_true, Bool.false_or, Bool.or_false, ↓reduceIte, Nat.reduceEqDiff, Nat.reduceAdd, Nat.reduceMul, Nat.reduceSub, Nat.reduceBEq, Nat.reduceLeDiff, Nat.reduceLT, Nat.reduceMod, Nat.reduceDiv, Int.reduceToNat, Int.reducePow, Int.reduceMul, Int.reduceAdd, Int.reduceSub, Int.reduceLE, Int.reduceLT, Int.reduceNeg, Int.reduceDiv, Int.reduceMod, Int.reduceEq, Int.reduceBEq, Int.reduceBNe, f6, f6b, f6r0, f6r1, f6r2, f6r3, f6r4, f6r5, f6r6, f6r7, f6r8, f6r9, f6r10, f6r11, f6r12, f6r13, f6r14, f6r15, f6r16, f6r17, f6r18, f6r19, f6r21, f6r23] | (refine BrW.of (fun hb => ?_) (fun hb => ?_) <;> (have hb' := hb; try simp only [decide_eq_true_eq, decide_eq_false_iff_not, beq_iff_eq, bne_iff_ne, beq_eq_false_iff_ne, bne_eq_false_iff_eq, Bool.not_eq_true', Bool.not_eq_false', Bool.not_eq_true, Bool.not_eq_false, Bool.and_eq_true, Bool.or_eq_true, Bool.and_eq_false_iff, Bool.or_eq_false_iff, Int.not_lt, Int.not_le, ne_eq, gt_iff_lt, ge_iff_le] at hb') <;> (try (exfalso; omega))) | (refine altW.of ?_ ?_) | (refine .of ((alive _).mono ?_); rintro v H ⟨rfl, rfl⟩)
  refine .of ((Gets_u all wl cl kw 0 0 cw kc 0 0 cc _ hw hc (by omega) (by omega) hcw hcc).mono ?_)
  rintro v J ⟨X, u, e, hJ, rfl, hb1, hg1⟩
  replace hw : Ints J kw 0 0 wl := hJ ▸ hw.app X
  replace hc : Ints J kc 0 0 cl := hJ ▸ hc.app X
  replace hkw : J[kw]? = some (.cells 0 1 rw csw) := hJ ▸ get_old hkw X
  replace hkc : J[kc]? = some (.cells 0 1 rc csc) := hJ ▸ get_old hkc X
  clear hJ
  repeat' first | simp (disch := first | with_reducible assumption | omega) only [go_sem, Bool.true_and, Bool.and_true, Bool.and_self, Bool.false_and, Bool.and_false, Bool.true_or, Bool.or_true, Bool.false_or, Bool.or_false, ↓reduceIte, Nat.reduceEqDiff, Nat.reduceAdd, Nat.reduceMul, Nat.reduceSub, Nat.reduceBEq, Nat.reduceLeDiff, Nat.reduceLT, Nat.reduceMod, Nat.reduceDiv, Int.reduceToNat, Int.reducePow, Int.reduceMul, Int.reduceAdd, Int.reduceSub, Int.reduceLE, Int.reduceLT, Int.reduceNeg, Int.reduceDiv, Int.reduceMod, Int.reduceEq, Int.reduceBEq, Int.reduceBNe, f6, f6b, f6r0, f6r1, f6r2, f6r3, f6r4, f6r5, f6r6, f6r7, f6r8, f6r9, f6r10, f6r11, f6r12, f6r13, f6r14, f6r15, f6r16, f6r17, f6r18, f6r19, f6r21, f6r23] | (refine BrW.of (fun hb => ?_) (fun hb => ?_) <;> (have hb' := hb; try simp only [decide_eq_true_eq, decide_eq_false_iff_not, beq_iff_eq, bne_iff_ne, beq_eq_false_iff_ne, bne_eq_false_iff_eq, Bool.not_eq_true', Bool.not_eq_false', Bool.not_eq_true, Bool.not_eq_false, Bool.and_eq_true, Bool.or_eq_true, Bool.and_eq_false_iff, Bool.or_eq_false_iff, Int.not_lt, Int.not_le, ne_eq, gt_iff_lt, ge_iff_le] at hb') <;> (try (exfalso; omega))) | (refine altW.of ?_ ?_)
  refine .of ((CloneI_spec wl kw 0 0 cw J hw (by omega) hcw).mono ?_)
  rintro v _ ⟨g1, rfl, rfl⟩
  repeat' first | simp (disch := first | with_reducible assumption | omega) only [go_sem, Bool.true_and, Bool.and_true, Bool.and_self, Bool.false_and, Bool.and_false, Bool.true_or, Bool.or_true, Bool.false_or, Bool.or_false, ↓reduceIte, Nat.reduceEqDiff, Nat.reduceAdd, Nat.reduceMul, Nat.reduceSub, Nat.reduceBEq, Nat.reduceLeDiff, Nat.reduceLT, Nat.reduceMod, Nat.reduceDiv, Int.reduceToNat, Int.reducePow, Int.reduceMul, Int.reduceAdd, Int.reduceSub, Int.reduceLE, Int.reduceLT, Int.reduceNeg, Int.reduceDiv, Int.reduceMod, Int.reduceEq, Int.reduceBEq, Int.reduceBNe, f6, f6b, f6r0, f6r1, f6r2, f6r3, f6r4, f6r5, f6r6, f6r7, f6r8, f6r9, f6r10, f6r11, f6r12, f6r13, f6r14, f6r15, f6r16, f6r17, f6r18, f6r19, f6r21, f6r23] | (refine BrW.of (fun hb => ?_) (fun hb => ?_) <;> (have hb' := hb; try simp only [decide_eq_true_eq, decide_eq_false_iff_not, beq_iff_eq, bne_iff_ne, beq_eq_false_iff_ne, bne_eq_false_iff_eq, Bool.not_eq_true', Bool.not_eq_false', Bool.not_eq_true, Bool.not_eq_false, Bool.and_eq_true, Bool.or_eq_true, Bool.and_eq_false_iff, Bool.or_eq_false_iff, Int.not_lt, Int.not_le, ne_eq, gt_iff_lt, ge_iff_le] at hb') <;> (try (exfalso; omega))) | (refine altW.of ?_ ?_)
  refine .of ((CloneI_spec cl kc 0 0 cc _ (hc.app _) (by omega) hcc).mono ?_)
  rintro v _ ⟨g2, rfl, rfl⟩
  repeat' first | simp (disch := first | with_reducible assumption | omega) only [go_sem, Bool.true_and, Bool.and_true, Bool.and_self, Bool.false_and, Bool.and_false, Bool.true_or, Bool.or_true, Bool.false_or, Bool.or_false, ↓reduceIte, Nat.reduceEqDiff, Nat.reduceAdd, Nat.reduceMul, Nat.reduceSub, Nat.reduceBEq, Nat.reduceLeDiff, Nat.reduceLT, Nat.reduceMod, Nat.reduceDiv, Int.reduceToNat, Int.reducePow, Int.reduceMul, Int.reduceAdd, Int.reduceSub, Int.reduceLE, Int.reduceLT, Int.reduceNeg, Int.reduceDiv, Int.reduceMod, Int.reduceEq, Int.reduceBEq, Int.reduceBNe, f6, f6b, f6r0, f6r1, f6r2, f6r3, f6r4, f6r5, f6r6, f6r7, f6r8, f6r9, f6r10, f6r11, f6r12, f6r13, f6r14, f6r15, f6r16, f6r17, f6r18, f6r19, f6r21, f6r23] | (refine BrW.of (fun hb => ?_) (fun hb => ?_) <;> (have hb' := hb; try simp only [decide_eq_true_eq, decide_eq_false_iff_not, beq_iff_eq, bne_iff_ne, beq_eq_false_iff_ne, bne_eq_false_iff_eq, Bool.not_eq_true', Bool.not_eq_false', Bool.not_eq_true, Bool.not_eq_false, Bool.and_eq_true, Bool.or_eq_true, Bool.and_eq_false_iff, Bool.or_eq_false_iff, Int.not_lt, Int.not_le, ne_eq, gt_iff_lt, ge_iff_le] at hb') <;> (try (exfalso; omega))) | (refine altW.of ?_ ?_)
  refine .of ((RevI_spec wl J.length g1 wl.length _ (by simp) hlw).mono ?_)
  rintro v K hK
  have k1 : K[J.length]? = some (.cells g1 1 false (flat' ienc wl.reverse)) := by
    rw [hK, List.getElem?_set_self (by simp)]
  have k2 : K[J.length + 1]? = some (.cells g2 1 false (flat' ienc cl)) := by
    rw [hK, List.getElem?_set_ne (by omega)]; simp
  have hold : ∀ q x, J[q]? = some x → K[q]? = some x := fun q x hq => by
    have hl := (List.getElem?_eq_some_iff.1 hq).1
    rw [hK, List.getElem?_set_ne (by omega)]
    exact get_old hq _
  clear hK
  repeat' first | simp (disch := first | with_reducible assumption | omega) only [go_sem, Bool.true_and, Bool.and_true, Bool.and_self, Bool.false_and, Bool.and_false, Bool.true_or, Bool.or_true, Bool.false_or, Bool.or_false, ↓reduceIte, Nat.reduceEqDiff, Nat.reduceAdd, Nat.reduceMul, Nat.reduceSub, Nat.reduceBEq, Nat.reduceLeDiff, Nat.reduceLT, Nat.reduceMod, Nat.reduceDiv, Int.reduceToNat, Int.reducePow, Int.reduceMul, Int.reduceAdd, Int.reduceSub, Int.reduceLE, Int.reduceLT, Int.reduceNeg, Int.reduceDiv, Int.reduceMod, Int.reduceEq, Int.reduceBEq, Int.reduceBNe, f6, f6b, f6r0, f6r1, f6r2, f6r3, f6r4, f6r5, f6r6, f6r7, f6r8, f6r9, f6r10, f6r11, f6r12, f6r13, f6r14, f6r15, f6r16, f6r17, f6r18, f6r19, f6r21, f6r23] | (refine BrW.of (fun hb => ?_) (fun hb => ?_) <;> (have hb' := hb; try simp only [decide_eq_true_eq, decide_eq_false_iff_not, beq_iff_eq, bne_iff_ne, beq_eq_false_iff_ne, bne_eq_false_iff_eq, Bool.not_eq_true', Bool.not_eq_false', Bool.not_eq_true, Bool.not_eq_false, Bool.and_eq_true, Bool.or_eq_true, Bool.and_eq_false_iff, Bool.or_eq_false_iff, Int.not_lt, Int.not_le, ne_eq, gt_iff_lt, ge_iff_le] at hb') <;> (try (exfalso; omega))) | (refine altW.of ?_ ?_)
  refine .of ((RevI_spec cl (J.length + 1) g2 cl.length _ k2 hlc).mono ?_)
  rintro v L hL
  have hjl : J.length + 1 < K.length := (List.getElem?_eq_some_iff.1 k2).1
  have l1 : L[J.length]? = some (.cells g1 1 false (flat' ienc wl.reverse)) := by
    rw [hL, List.getElem?_set_ne (by omega)]; exact k1
  have l2 : L[J.length + 1]? = some (.cells g2 1 false (flat' ienc cl.reverse)) := by
    rw [hL, List.getElem?_set_self hjl]
  have hold2 : ∀ q x, J[q]? = some x → L[q]? = some x := fun q x hq => by
    have hl := (List.getElem?_eq_some_iff.1 hq).1
    rw [hL, List.getElem?_set_ne (by omega)]
    exact hold q x hq
  clear hL k1 k2 hold
  rw [flat'_ienc] at l1 l2
  have i1 := Ints.new _ _ _ _ _ l1
  have i2 := Ints.new _ _ _ _ _ l2
  have hl1 : wl.reverse.length = wl.length := List.length_reverse
  have hl2 : cl.reverse.length = cl.length := List.length_reverse
  repeat' first | simp (disch := first | with_reducible assumption | omega) only [go_sem, Bool.true_and, Bool.and_true, Bool.and_self, Bool.false_and, Bool.and_false, Bool.true_or, Bool.or_true, Bool.false_or, Bool.or_false, ↓reduceIte, Nat.reduceEqDiff, Nat.reduceAdd, Nat.reduceMul, Nat.reduceSub, Nat.reduceBEq, Nat.reduceLeDiff, Nat.reduceLT, Nat.reduceMod, Nat.reduceDiv, Int.reduceToNat, Int.reducePow, Int.reduceMul, Int.reduceAdd, Int.reduceSub, Int.reduceLE, Int.reduceLT, Int.reduceNeg, Int.reduceDiv, Int.reduceMod, Int.reduceEq, Int.reduceBEq, Int.reduceBNe, f6, f6b, f6r0, f6r1, f6r2, f6r3, f6r4, f6r5, f6r6, f6r7, f6r8, f6r9, f6r10, f6r11, f6r12, f6r13, f6r14, f6r15, f6r16, f6r17, f6r18, f6r19, f6r21, f6r23] | (refine BrW.of (fun hb => ?_) (fun hb => ?_) <;> (have hb' := hb; try simp only [decide_eq_true_eq, decide_eq_false_iff_not, beq_iff_eq, bne_iff_ne, beq_eq_false_iff_ne, bne_eq_false_iff_eq, Bool.not_eq_true', Bool.not_eq_false', Bool.not_eq_true, Bool.not_eq_false, Bool.and_eq_true, Bool.or_eq_true, Bool.and_eq_false_iff, Bool.or_eq_false_iff, Int.not_lt, Int.not_le, ne_eq, gt_iff_lt, ge_iff_le] at hb') <;> (try (exfalso; omega))) | (refine altW.of ?_ ?_)
  rw [← hl1, ← hl2]
  refine .of ((Gets_u all wl.reverse cl.reverse J.length 0 g1 wl.reverse.length (J.length + 1) 0 g2 cl.reverse.length L i1 i2 (by omega) (by omega) (by omega) (by omega)).mono ?_)
  rintro v M ⟨Y, u2, f, hM, rfl, hb2, hg2⟩
  rw [hl1, hl2]
  by_cases hok : okS all wl cl
  · obtain ⟨rfl, num, den, hlv, ka, ga, _, rfl, x1⟩ := hg1 hok
    obtain ⟨rfl, num2, den2, hlv2, kb, gb, hkb, rfl, x2⟩ := hg2 (okS_rev hok)
    have hka := (List.getElem?_eq_some_iff.1 (hold2 _ _ x1)).1
    have hokR := okS_rev hok
    obtain ⟨hlen, hok⟩ := hok
    have hrw : ∀ i, i < (W wl cl).n → (W wl.reverse cl.reverse).w i = (W wl cl).w ((W wl cl).n - 1 - i) := fun i hi => rev_getD wl i hi
    have hrc : ∀ i, i < (W wl cl).n → (W wl.reverse cl.reverse).c i = (W wl cl).c ((W wl cl).n - 1 - i) := fun i hi => by
      have hi : i < wl.length := hi
      show cl.reverse.getD i 0 = cl.getD (wl.length - 1 - i) 0
      rw [rev_getD cl i (by omega), hlen]
    obtain ⟨rfl, rfl⟩ := lev_one (fun i hi => (hokR.2.c i hi).1) hlv2 (lev_rev (s := W wl cl) (t := W wl.reverse cl.reverse) hl1 hrw hrc hlv)
    have hgr : (gl (W wl.reverse cl.reverse) num2 den2 wl.length).reverse = gl (W wl cl) num2 den2 wl.length := gl_rev (s := W wl cl) hrw hrc
    rw [hl1] at x2 ⊢
    have hgl2 := gl_len (W wl.reverse cl.reverse) num2 den2 wl.length
    have hgl := gl_len (W wl cl) num2 den2 wl.length
    have h16 : wl.length ≤ 16 := hok.len
    replace x1 := get_old (hold2 _ _ x1) Y
    have hkwl := (List.getElem?_eq_some_iff.1 (hold2 _ _ hkw)).1
    have hkcl := (List.getElem?_eq_some_iff.1 (hold2 _ _ hkc)).1
    have hkw2 := get_old (hold2 _ _ hkw) Y
    have hkc2 := get_old (hold2 _ _ hkc) Y
    rw [← hM] at x1 hkw2 hkc2
    clear hM hold2 hkw hkc hw hc i1 i2 l1 l2 hb1 hb2 hg1 hg2
    repeat' first | simp (disch := first | with_reducible assumption | omega) only [go_sem, Bool.true_and, Bool.and_true, Bool.and_self, Bool.false_and, Bool.and_false, Bool.true_or, Bool.or_true, Bool.false_or, Bool.or_false, ↓reduceIte, Nat.reduceEqDiff, Nat.reduceAdd, Nat.reduceMul, Nat.reduceSub, Nat.reduceBEq, Nat.reduceLeDiff, Nat.reduceLT, Nat.reduceMod, Nat.reduceDiv, Int.reduceToNat, Int.reducePow, Int.reduceMul, Int.reduceAdd, Int.reduceSub, Int.reduceLE, Int.reduceLT, Int.reduceNeg, Int.reduceDiv, Int.reduceMod, Int.reduceEq, Int.reduceBEq, Int.reduceBNe, f6, f6b, f6r0, f6r1, f6r2, f6r3, f6r4, f6r5, f6r6, f6r7, f6r8, f6r9, f6r10, f6r11, f6r12, f6r13, f6r14, f6r15, f6r16, f6r17, f6r18, f6r19, f6r21, f6r23] | (refine BrW.of (fun hb => ?_) (fun hb => ?_) <;> (have hb' := hb; try simp only [decide_eq_true_eq, decide_eq_false_iff_not, beq_iff_eq, bne_iff_ne, beq_eq_false_iff_ne, bne_eq_false_iff_eq, Bool.not_eq_true', Bool.not_eq_false', Bool.not_eq_true, Bool.not_eq_false, Bool.and_eq_true, Bool.or_eq_true, Bool.and_eq_false_iff, Bool.or_eq_false_iff, Int.not_lt, Int.not_le, ne_eq, gt_iff_lt, ge_iff_le] at hb') <;> (try (exfalso; omega))) | (refine altW.of ?_ ?_)
    refine .of ((RevF_spec _ kb gb _ M x2 (by omega)).mono ?_)
    rintro v N hN
    rw [hgr] at hN
    have hbl := (List.getElem?_eq_some_iff.1 x2).1
    replace x1 : N[ka]? = some (.cells ga 2 false (flat' F.cells (gl (W wl cl) num2 den2 wl.length))) := by rw [hN, List.getElem?_set_ne (by omega)]; exact x1
    replace x2 : N[kb]? = some (.cells gb 2 false (flat' F.cells (gl (W wl cl) num2 den2 wl.length))) := by rw [hN, List.getElem?_set_self hbl]
    have hkw3 : N[kw]? = some (.cells 0 1 rw csw) := by rw [hN, List.getElem?_set_ne (by omega)]; exact hkw2
    have hkc3 : N[kc]? = some (.cells 0 1 rc csc) := by rw [hN, List.getElem?_set_ne (by omega)]; exact hkc2
    clear hN hkw2 hkc2
    repeat' first | simp (disch := first | with_reducible assumption | omega) only [go_sem, Bool.true_and, Bool.and_true, Bool.and_self, Bool.false_and, Bool.and_false, Bool.true_or, Bool.or_true, Bool.false_or, Bool.or_false, ↓reduceIte, Nat.reduceEqDiff, Nat.reduceAdd, Nat.reduceMul, Nat.reduceSub, Nat.reduceBEq, Nat.reduceLeDiff, Nat.reduceLT, Nat.reduceMod, Nat.reduceDiv, Int.reduceToNat, Int.reducePow, Int.reduceMul, Int.reduceAdd, Int.reduceSub, Int.reduceLE, Int.reduceLT, Int.reduceNeg, Int.reduceDiv, Int.reduceMod, Int.reduceEq, Int.reduceBEq, Int.reduceBNe, f6, f6b, f6r0, f6r1, f6r2, f6r3, f6r4, f6r5, f6r6, f6r7, f6r8, f6r9, f6r10, f6r11, f6r12, f6r13, f6r14, f6r15, f6r16, f6r17, f6r18, f6r19, f6r21, f6r23, x1, hgl] | (refine BrW.of (fun hb => ?_) (fun hb => ?_) <;> (have hb' := hb; try simp only [decide_eq_true_eq, decide_eq_false_iff_not, beq_iff_eq, bne_iff_ne, beq_eq_false_iff_ne, bne_eq_false_iff_eq, Bool.not_eq_true', Bool.not_eq_false', Bool.not_eq_true, Bool.not_eq_false, Bool.and_eq_true, Bool.or_eq_true, Bool.and_eq_false_iff, Bool.or_eq_false_iff, Int.not_lt, Int.not_le, ne_eq, gt_iff_lt, ge_iff_le] at hb') <;> (try (exfalso; omega))) | (refine altW.of ?_ ?_)
    rw [hgl2]
    have hal : ∀ i j, i < wl.length → j < wl.length → wl.getD i 0 = wl.getD j 0 → cl.getD i 0 = cl.getD j 0 → (gl (W wl cl) num2 den2 wl.length).getD i f0 = (gl (W wl cl) num2 den2 wl.length).getD j f0 := fun i j hi hj e1 e2 => by
      rw [gl_get _ _ _ _ _ hi, gl_get _ _ _ _ _ hj]
      unfold getF sat
      simp only [show (W wl cl).w i = (W wl cl).w j from e1, show (W wl cl).c i = (W wl cl).c j from e2]
    clear hgr hlv hlv2 hrw hrc hokR hok hgl2
    generalize gl (W wl cl) num2 den2 wl.length = A at *
    have hld := fun i (hi : i < wl.length) => flat'_ld (enc := F.cells) (s := 2) (fun _ => rfl) f0 A i (by omega)
    have hEq := EqualF_spec A A ka 0 ga wl.length kb 0 gb wl.length N (Tbl.new (enc := F.cells) (s := 2) (d := f0) (fun _ => rfl) _ _ _ false _ x1) (Tbl.new (enc := F.cells) (s := 2) (d := f0) (fun _ => rfl) _ _ _ false _ x2) (by omega) (by omega) same_F
    rw [decide_eq_true rfl, hgl] at hEq
    refine loopW.of (by decide) (fun m e Z => ∃ i : Nat, e = [(1, slv kw 0 0 wl.length cw), (2, slv kc 0 0 cl.length cc), (7, slv ka 0 ga wl.length wl.length), (11, slv kb 0 gb wl.length wl.length), (51, .int .i64 wl.length), (52, .int .i64 i)] ∧ Z = N ∧ i ≤ wl.length ∧ m = wl.length - i) wl.length ⟨0, rfl, rfl, by omega, rfl⟩ ?_
    rintro m e Z ⟨i, rfl, rfl, hi, rfl⟩
    by_cases hil : i < wl.length
    · repeat' first | simp (disch := first | with_reducible assumption | omega) only [go_sem, Bool.true_and, Bool.and_true, Bool.and_self, Bool.false_and, Bool.and_false, Bool.true_or, Bool.or_true, Bool.false_or, Bool.or_false, ↓reduceIte, Nat.reduceEqDiff, Nat.reduceAdd, Nat.reduceMul, Nat.reduceSub, Nat.reduceBEq, Nat.reduceLeDiff, Nat.reduceLT, Nat.reduceMod, Nat.reduceDiv, Int.reduceToNat, Int.reducePow, Int.reduceMul, Int.reduceAdd, Int.reduceSub, Int.reduceLE, Int.reduceLT, Int.reduceNeg, Int.reduceDiv, Int.reduceMod, Int.reduceEq, Int.reduceBEq, Int.reduceBNe, f6, f6b, f6r0, f6r1, f6r2, f6r3, f6r4, f6r5, f6r6, f6r7, f6r8, f6r9, f6r10, f6r11, f6r12, f6r13, f6r14, f6r15, f6r16, f6r17, f6r18, f6r19, f6r21, f6r23, f6l1, x1, hgl] | (refine BrW.of (fun hb => ?_) (fun hb => ?_) <;> (have hb' := hb; try simp only [decide_eq_true_eq, decide_eq_false_iff_not, beq_iff_eq, bne_iff_ne, beq_eq_false_iff_ne, bne_eq_false_iff_eq, Bool.not_eq_true', Bool.not_eq_false', Bool.not_eq_true, Bool.not_eq_false, Bool.and_eq_true, Bool.or_eq_true, Bool.and_eq_false_iff, Bool.or_eq_false_iff, Int.not_lt, Int.not_le, ne_eq, gt_iff_lt, ge_iff_le] at hb') <;> (try (exfalso; omega))) | (refine altW.of ?_ ?_)
      refine loopW.of (by decide) (fun m e Z2 => ∃ j : Nat, e = [(1, slv kw 0 0 wl.length cw), (2, slv kc 0 0 cl.length cc), (7, slv ka 0 ga wl.length wl.length), (11, slv kb 0 gb wl.length wl.length), (13, .int .i64 i), (51, .int .i64 wl.length), (52, .int .i64 i), (56, .int .i64 wl.length), (57, .int .i64 j)] ∧ Z2 = Z ∧ j ≤ wl.length ∧ m = wl.length - j) wl.length ⟨0, rfl, rfl, by omega, rfl⟩ ?_
      rintro m e Z2 ⟨j, rfl, rfl, hj, rfl⟩
      by_cases hjl : j < wl.length
      · have p1 := w0 i hil
        have p2 := w0 j hjl
        have p3 := c0 i (by omega)
        have p4 := c0 j (by omega)
        have p5 := hld i hil
        have p6 := hld j hjl
        have hij := hal i j hil hjl
        clear hal hld w0 c0
        generalize wl.getD i 0 = a at *
        generalize wl.getD j 0 = b at *
        generalize cl.getD i 0 = c at *
        generalize cl.getD j 0 = d at *
        generalize A.getD i f0 = x at *
        generalize A.getD j f0 = y at *
        repeat' first | simp (disch := first | with_reducible assumption | omega) only [go_sem, Bool.true_and, Bool.and_true, Bool.and_self, Bool.false_and, Bool.and_false, Bool.true_or, Bool.or_true, Bool.false_or, Bool.or_false, ↓reduceIte, Nat.reduceEqDiff, Nat.reduceAdd, Nat.reduceMul, Nat.reduceSub, Nat.reduceBEq, Nat.reduceLeDiff, Nat.reduceLT, Nat.reduceMod, Nat.reduceDiv, Int.reduceToNat, Int.reducePow, Int.reduceMul, Int.reduceAdd, Int.reduceSub, Int.reduceLE, Int.reduceLT, Int.reduceNeg, Int.reduceDiv, Int.reduceMod, Int.reduceEq, Int.reduceBEq, Int.reduceBNe, f6, f6b, f6r0, f6r1, f6r2, f6r3, f6r4, f6r5, f6r6, f6r7, f6r8, f6r9, f6r10, f6r11, f6r12, f6r13, f6r14, f6r15, f6r16, f6r17, f6r18, f6r19, f6r21, f6r23, f6l0, x1, hkw3, hkc3, p1, p2, p3, p4, ↓p5, ↓p6, same_F, hgl] | (refine BrW.of (fun hb => ?_) (fun hb => ?_) <;> (have hb' := hb; try simp only [decide_eq_true_eq, decide_eq_false_iff_not, beq_iff_eq, bne_iff_ne, beq_eq_false_iff_ne, bne_eq_false_iff_eq, Bool.not_eq_true', Bool.not_eq_false', Bool.not_eq_true, Bool.not_eq_false, Bool.and_eq_true, Bool.or_eq_true, Bool.and_eq_false_iff, Bool.or_eq_false_iff, Int.not_lt, Int.not_le, ne_eq, gt_iff_lt, ge_iff_le] at hb') <;> (try (exfalso; omega))) | (refine altW.of ?_ ?_)
        all_goals first
          | (refine RdW.keep [1, 2, 7, 11, 13, 51, 52, 56, 57] (wl.length - (j + 1)) (by omega) ?_
             simp (disch := first | with_reducible assumption | omega) only [go_sem, Bool.true_and, Bool.and_true, Bool.and_self, Bool.false_and, Bool.and_false, Bool.true_or, Bool.or_true, Bool.false_or, Bool.or_false, ↓reduceIte, Nat.reduceEqDiff, Nat.reduceAdd, Nat.reduceMul, Nat.reduceSub, Nat.reduceBEq, Nat.reduceLeDiff, Nat.reduceLT, Nat.reduceMod, Nat.reduceDiv, Int.reduceToNat, Int.reducePow, Int.reduceMul, Int.reduceAdd, Int.reduceSub, Int.reduceLE, Int.reduceLT, Int.reduceNeg, Int.reduceDiv, Int.reduceMod, Int.reduceEq, Int.reduceBEq, Int.reduceBNe]
             exact ⟨j + 1, rfl, by omega, rfl⟩)
          | (exfalso; simp_all; done)
      · obtain rfl : j = wl.length := by omega
        repeat' first | simp (disch := first | with_reducible assumption | omega) only [go_sem, Bool.true_and, Bool.and_true, Bool.and_self, Bool.false_and, Bool.and_false, Bool.true_or, Bool.or_true, Bool.false_or, Bool.or_false, ↓reduceIte, Nat.reduceEqDiff, Nat.reduceAdd, Nat.reduceMul, Nat.reduceSub, Nat.reduceBEq, Nat.reduceLeDiff, Nat.reduceLT, Nat.reduceMod, Nat.reduceDiv, Int.reduceToNat, Int.reducePow, Int.reduceMul, Int.reduceAdd, Int.reduceSub, Int.reduceLE, Int.reduceLT, Int.reduceNeg, Int.reduceDiv, Int.reduceMod, Int.reduceEq, Int.reduceBEq, Int.reduceBNe, f6, f6b, f6r0, f6r1, f6r2, f6r3, f6r4, f6r5, f6r6, f6r7, f6r8, f6r9, f6r10, f6r11, f6r12, f6r13, f6r14, f6r15, f6r16, f6r17, f6r18, f6r19, f6r21, f6r23, f6l0, f6, f6b, f6r0, f6r1, f6r2, f6r3, f6r4, f6r5, f6r6, f6r7, f6r8, f6r9, f6r10, f6r11, f6r12, f6r13, f6r14, f6r15, f6r16, f6r17, f6r18, f6r19, f6r21, f6r23, f6l1] | (refine BrW.of (fun hb => ?_) (fun hb => ?_) <;> (have hb' := hb; try simp only [decide_eq_true_eq, decide_eq_false_iff_not, beq_iff_eq, bne_iff_ne, beq_eq_false_iff_ne, bne_eq_false_iff_eq, Bool.not_eq_true', Bool.not_eq_false', Bool.not_eq_true, Bool.not_eq_false, Bool.and_eq_true, Bool.or_eq_true, Bool.and_eq_false_iff, Bool.or_eq_false_iff, Int.not_lt, Int.not_le, ne_eq, gt_iff_lt, ge_iff_le] at hb') <;> (try (exfalso; omega))) | (refine altW.of ?_ ?_)
        refine RdW.keep [1, 2, 7, 11, 51, 52] (wl.length - (i + 1)) (by omega) ?_
        simp (disch := first | with_reducible assumption | omega) only [go_sem, Bool.true_and, Bool.and_true, Bool.and_self, Bool.false_and, Bool.and_false, Bool.true_or, Bool.or_true, Bool.false_or, Bool.or_false, ↓reduceIte, Nat.reduceEqDiff, Nat.reduceAdd, Nat.reduceMul, Nat.reduceSub, Nat.reduceBEq, Nat.reduceLeDiff, Nat.reduceLT, Nat.reduceMod, Nat.reduceDiv, Int.reduceToNat, Int.reducePow, Int.reduceMul, Int.reduceAdd, Int.reduceSub, Int.reduceLE, Int.reduceLT, Int.reduceNeg, Int.reduceDiv, Int.reduceMod, Int.reduceEq, Int.reduceBEq, Int.reduceBNe]
        exact ⟨i + 1, rfl, by omega, rfl⟩
    · obtain rfl : i = wl.length := by omega
      repeat' first | simp (disch := first | with_reducible assumption | omega) only [go_sem, Bool.true_and, Bool.and_true, Bool.and_self, Bool.false_and, Bool.and_false, Bool.true_or, Bool.or_true, Bool.false_or, Bool.or_false, ↓reduceIte, Nat.reduceEqDiff, Nat.reduceAdd, Nat.reduceMul, Nat.reduceSub, Nat.reduceBEq, Nat.reduceLeDiff, Nat.reduceLT, Nat.reduceMod, Nat.reduceDiv, Int.reduceToNat, Int.reducePow, Int.reduceMul, Int.reduceAdd, Int.reduceSub, Int.reduceLE, Int.reduceLT, Int.reduceNeg, Int.reduceDiv, Int.reduceMod, Int.reduceEq, Int.reduceBEq, Int.reduceBNe, f6, f6b, f6r0, f6r1, f6r2, f6r3, f6r4, f6r5, f6r6, f6r7, f6r8, f6r9, f6r10, f6r11, f6r12, f6r13, f6r14, f6r15, f6r16, f6r17, f6r18, f6r19, f6r21, f6r23, f6l1, f6, f6b, f6r0, f6r1, f6r2, f6r3, f6r4, f6r5, f6r6, f6r7, f6r8, f6r9, f6r10, f6r11, f6r12, f6r13, f6r14, f6r15, f6r16, f6r17, f6r18, f6r19, f6r21, f6r23] | (refine BrW.of (fun hb => ?_) (fun hb => ?_) <;> (have hb' := hb; try simp only [decide_eq_true_eq, decide_eq_false_iff_not, beq_iff_eq, bne_iff_ne, beq_eq_false_iff_ne, bne_eq_false_iff_eq, Bool.not_eq_true', Bool.not_eq_false', Bool.not_eq_true, Bool.not_eq_false, Bool.and_eq_true, Bool.or_eq_true, Bool.and_eq_false_iff, Bool.or_eq_false_iff, Int.not_lt, Int.not_le, ne_eq, gt_iff_lt, ge_iff_le] at hb') <;> (try (exfalso; omega))) | (refine altW.of ?_ ?_)
      refine .of (hEq.mono ?_)
      rintro v Z2 ⟨rfl, rfl⟩
      repeat' first | simp (disch := first | with_reducible assumption | omega) only [go_sem, Bool.true_and, Bool.and_true, Bool.and_self, Bool.false_and, Bool.and_false, Bool.true_or, Bool.or_true, Bool.false_or, Bool.or_false, ↓reduceIte, Nat.reduceEqDiff, Nat.reduceAdd, Nat.reduceMul, Nat.reduceSub, Nat.reduceBEq, Nat.reduceLeDiff, Nat.reduceLT, Nat.reduceMod, Nat.reduceDiv, Int.reduceToNat, Int.reducePow, Int.reduceMul, Int.reduceAdd, Int.reduceSub, Int.reduceLE, Int.reduceLT, Int.reduceNeg, Int.reduceDiv, Int.reduceMod, Int.reduceEq, Int.reduceBEq, Int.reduceBNe, f6, f6b, f6r0, f6r1, f6r2, f6r3, f6r4, f6r5, f6r6, f6r7, f6r8, f6r9, f6r10, f6r11, f6r12, f6r13, f6r14, f6r15, f6r16, f6r17, f6r18, f6r19, f6r21, f6r23, x1, hkw3, hgl] | (refine BrW.of (fun hb => ?_) (fun hb => ?_) <;> (have hb' := hb; try simp only [decide_eq_true_eq, decide_eq_false_iff_not, beq_iff_eq, bne_iff_ne, beq_eq_false_iff_ne, bne_eq_false_iff_eq, Bool.not_eq_true', Bool.not_eq_false', Bool.not_eq_true, Bool.not_eq_false, Bool.and_eq_true, Bool.or_eq_true, Bool.and_eq_false_iff, Bool.or_eq_false_iff, Int.not_lt, Int.not_le, ne_eq, gt_iff_lt, ge_iff_le] at hb') <;> (try (exfalso; omega))) | (refine altW.of ?_ ?_)
      exact .here (by simp)
  · obtain rfl := hb1 hok
    obtain rfl := hb2 (fun h => hok (okS_rev_iff.1 h))
    have hbe : badE wl.reverse cl.reverse = badE wl cl := by unfold badE; rw [hl1, hl2]
    rw [hbe]
    have hne := badE_ne wl cl
    generalize badE wl cl = e at *
    have hne2 : (e != 0) = true := by simpa using hne
    repeat' first | simp (disch := first | with_reducible assumption | omega) only [go_sem, Bool.true_and, Bool.and_true, Bool.and_self, Bool.false_and, Bool.and_false, Bool.true_or, Bool.or_true, Bool.false_or, Bool.or_false, ↓reduceIte, Nat.reduceEqDiff, Nat.reduceAdd, Nat.reduceMul, Nat.reduceSub, Nat.reduceBEq, Nat.reduceLeDiff, Nat.reduceLT, Nat.reduceMod, Nat.reduceDiv, Int.reduceToNat, Int.reducePow, Int.reduceMul, Int.reduceAdd, Int.reduceSub, Int.reduceLE, Int.reduceLT, Int.reduceNeg, Int.reduceDiv, Int.reduceMod, Int.reduceEq, Int.reduceBEq, Int.reduceBNe, f6, f6b, f6r0, f6r1, f6r2, f6r3, f6r4, f6r5, f6r6, f6r7, f6r8, f6r9, f6r10, f6r11, f6r12, f6r13, f6r14, f6r15, f6r16, f6r17, f6r18, f6r19, f6r21, f6r23, hne2] | (refine BrW.of (fun hb => ?_) (fun hb => ?_) <;> (have hb' := hb; try simp only [decide_eq_true_eq, decide_eq_false_iff_not, beq_iff_eq, bne_iff_ne, beq_eq_false_iff_ne, bne_eq_false_iff_eq, Bool.not_eq_true', Bool.not_eq_false', Bool.not_eq_true, Bool.not_eq_false, Bool.and_eq_true, Bool.or_eq_true, Bool.and_eq_false_iff, Bool.or_eq_false_iff, Int.not_lt, Int.not_le, ne_eq, gt_iff_lt, ge_iff_le] at hb') <;> (try (exfalso; omega))) | (refine altW.of ?_ ?_)
    exact .here (by simp)
end Go.Proofs.Ytabjglejldapgaa
