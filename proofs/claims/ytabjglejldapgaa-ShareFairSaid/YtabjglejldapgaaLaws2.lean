import Derived.Test.YtabjglejldapgaaLaws
set_option linter.unusedSimpArgs false
set_option linter.unusedVariables false
set_option maxHeartbeats 2000000
set_option maxRecDepth 20000
namespace Go.Proofs.Ytabjglejldapgaa
open Go Go.Am
attribute [local irreducible] opsW Ww loopW callW drawW outW outDW gW cW BrW bothW vW resW DropW RdW dcallW altW Later.run

theorem ShareFair_args (H : Heap) (vals : List Value) (h : ArgsOk maxLen H ShareFairSh vals) : ACallK Try.prog 4 vals H fun v _ => v = .bool true := by
  obtain ⟨_, _, rfl, a1, h1⟩ := h.cons
  obtain ⟨_, _, rfl, a2, h2⟩ := h1.cons
  obtain ⟨_, _, rfl, a3, h3⟩ := h2.cons
  obtain ⟨_, _, rfl, a4, h4⟩ := h3.cons
  obtain rfl := h4.nil
  obtain ⟨all, rfl, hall⟩ := int_of a1
  obtain ⟨kw, cw, wl, rfl, hlw, hcw, hw, hwb⟩ := list_of a2
  obtain ⟨kc, cc, cl, rfl, hlc, hcc, hc, hcb⟩ := list_of a3
  obtain ⟨ko, co, ol, rfl, hlo, hco, ho, hob⟩ := list_of a4
  clear a1 a2 a3 a4 h h1 h2 h3 h4
  have hG := Gets_spec all wl cl kw 0 0 cw kc 0 0 cc H hw hc hlw hlc hcw hcc
  obtain ⟨rw, csw, hkw, _, w0⟩ := Ints.cell hw
  obtain ⟨rc, csc, hkc, _, c0⟩ := Ints.cell hc
  obtain ⟨ro, cso, hko, _, o0⟩ := Ints.cell ho
  simp only [Nat.zero_add] at w0 c0 o0
  refine .walkW f4_ok (by simp; decide) (by decide) ?_
  repeat' first | simp (disch := first | with_reducible assumption | omega) only [go_sem, Bool.true_and, Bool.and_true, Bool.and_self, Bool.false_and, Bool.and_false, Bool.true_or, Bool.or_true, Bool.false_or, Bool.or_false, ↓reduceIte, Nat.reduceEqDiff, Nat.reduceAdd, Nat.reduceMul, Nat.reduceSub, Nat.reduceBEq, Nat.reduceLeDiff, Nat.reduceLT, Nat.reduceMod, Nat.reduceDiv, Int.reduceToNat, Int.reducePow, Int.reduceMul, Int.reduceAdd, Int.reduceSub, Int.reduceLE, Int.reduceLT, Int.reduceNeg, Int.reduceDiv, Int.reduceMod, Int.reduceEq, Int.reduceBEq, Int.reduceBNe, f4, f4b, f4r0, f4r1, f4r2, f4r3, f4r4, f4r5, f4r6, f4r7, f4r8, f4r9, f4r10, f4r11, f4r12, f4r13, f4r15, f4r16, f4r17, f4r18, f4r19, f4r20, f4r21, f4r22, f4r23, f4r24, f4r25, f4r26, f4r28, f4r29, f4r30, f4r32] | (refine BrW.of (fun hb => ?_) (fun hb => ?_) <;> (have hb' := hb; try simp only [decide_eq_true_eq, decide_eq_false_iff_not, beq_iff_eq, bne_iff_ne, beq_eq_false_iff_ne, bne_eq_false_iff_eq, Bool.not_eq_true', Bool.not_eq_false', Bool.not_eq_true, Bool.not_eq_false, Bool.and_eq_true, Bool.or_eq_true, Bool.and_eq_false_iff, Bool.or_eq_false_iff, Int.not_lt, Int.not_le, ne_eq, gt_iff_lt, ge_iff_le] at hb') <;> (try (exfalso; omega))) | (refine altW.of ?_ ?_) | (refine .of ((alive _).mono ?_); rintro v H ⟨rfl, rfl⟩)
  refine .of (hG.mono ?_)
  rintro v J ⟨X, u, e, rfl, rfl, he, hbad, hgood⟩
  have kwG := get_old hkw X
  have kcG := get_old hkc X
  have koG := get_old hko X
  by_cases h0 : okS all wl cl
  · obtain rfl := he.2 h0
    obtain ⟨num, den, hlv, hA⟩ := hgood rfl
    obtain ⟨hlen, hok⟩ := h0
    obtain ⟨ka, ga, rfl, x1⟩ := hA
    clear hG hbad hgood he
    generalize H ++ X = G at *
    have h16 : wl.length ≤ 16 := hok.len
    have hr := lev_range hok hlv
    have hgn := gl_len (W wl cl) num den wl.length
    have hgg := fun i (hi : i < wl.length) => F_get (gl (W wl cl) num den wl.length) i (by omega)
    have hge := gl_get (W wl cl) num den wl.length
    have hrg := fun i (hi : i < wl.length) => getF_range hok hlv (show i < (W wl cl).n from hi)
    have hwr : ∀ i, i < wl.length → 0 ≤ wl.getD i 0 ∧ wl.getD i 0 ≤ 1048576 := hok.w
    have hcr : ∀ i, i < wl.length → 1 ≤ cl.getD i 0 ∧ cl.getD i 0 ≤ 1000 := hok.c
    have hap := hok.pos
    rw [hgn]
    by_cases hol : ol.length = wl.length
    · repeat' first | simp (disch := first | with_reducible assumption | omega) only [go_sem, Bool.true_and, Bool.and_true, Bool.and_self, Bool.false_and, Bool.and_false, Bool.true_or, Bool.or_true, Bool.false_or, Bool.or_false, ↓reduceIte, Nat.reduceEqDiff, Nat.reduceAdd, Nat.reduceMul, Nat.reduceSub, Nat.reduceBEq, Nat.reduceLeDiff, Nat.reduceLT, Nat.reduceMod, Nat.reduceDiv, Int.reduceToNat, Int.reducePow, Int.reduceMul, Int.reduceAdd, Int.reduceSub, Int.reduceLE, Int.reduceLT, Int.reduceNeg, Int.reduceDiv, Int.reduceMod, Int.reduceEq, Int.reduceBEq, Int.reduceBNe, f4, f4b, f4r0, f4r1, f4r2, f4r3, f4r4, f4r5, f4r6, f4r7, f4r8, f4r9, f4r10, f4r11, f4r12, f4r13, f4r15, f4r16, f4r17, f4r18, f4r19, f4r20, f4r21, f4r22, f4r23, f4r24, f4r25, f4r26, f4r28, f4r29, f4r30, f4r32, x1, kwG, koG] | (refine BrW.of (fun hb => ?_) (fun hb => ?_) <;> (have hb' := hb; try simp only [decide_eq_true_eq, decide_eq_false_iff_not, beq_iff_eq, bne_iff_ne, beq_eq_false_iff_ne, bne_eq_false_iff_eq, Bool.not_eq_true', Bool.not_eq_false', Bool.not_eq_true, Bool.not_eq_false, Bool.and_eq_true, Bool.or_eq_true, Bool.and_eq_false_iff, Bool.or_eq_false_iff, Int.not_lt, Int.not_le, ne_eq, gt_iff_lt, ge_iff_le] at hb') <;> (try (exfalso; omega))) | (refine altW.of ?_ ?_)
      all_goals first | (exfalso; omega) | skip
      refine loopW.of (by decide) (fun m e J => ∃ i : Nat, e = [(0, .int .i64 all), (1, slv kw 0 0 wl.length cw), (2, slv kc 0 0 cl.length cc), (3, slv ko 0 0 ol.length co), (9, slv ka 0 ga wl.length wl.length), (11, .int .i64 (sI (fun j => ol.getD j 0) i)), (53, slv ko 0 0 ol.length co), (54, .int .i64 ol.length), (55, .int .i64 i)] ∧ J = G ∧ i ≤ wl.length ∧ m = wl.length - i ∧ (∀ j, j < i → 0 ≤ ol.getD j 0 ∧ ol.getD j 0 ≤ wl.getD j 0)) wl.length ⟨0, rfl, rfl, by omega, rfl, fun j hj => by omega⟩ ?_
      rintro m e J ⟨i, rfl, rfl, hi, rfl, hoi⟩
      have hsb := sI_bound (f := fun j => ol.getD j 0) (b := 1048576) i (fun j hj => ⟨(hoi j hj).1, by have := (hoi j hj).2; have := (hwr j (by omega)).2; show ol.getD j 0 ≤ _; omega⟩)
      by_cases hlt : i < wl.length
      · have e1 := w0 i hlt
        have e2 := o0 i (by omega)
        have r1 := hwr i hlt
        have hnx : sI (fun j => ol.getD j 0) (i + 1) = sI (fun j => ol.getD j 0) i + ol.getD i 0 := rfl
        have hon : 0 ≤ ol.getD i 0 → ol.getD i 0 ≤ wl.getD i 0 → ∀ j, j < i + 1 → 0 ≤ ol.getD j 0 ∧ ol.getD j 0 ≤ wl.getD j 0 := fun h1 h2 j hj => by
          by_cases hji : j = i
          · subst hji; exact ⟨h1, h2⟩
          · exact hoi j (by omega)
        clear hgg hge hrg hwr hcr w0 c0 o0 hoi
        generalize ol.getD i 0 = y at *
        generalize wl.getD i 0 = a at *
        generalize sI (fun j => ol.getD j 0) i = s1 at *
        repeat' first | simp (disch := first | with_reducible assumption | omega) only [go_sem, Bool.true_and, Bool.and_true, Bool.and_self, Bool.false_and, Bool.and_false, Bool.true_or, Bool.or_true, Bool.false_or, Bool.or_false, ↓reduceIte, Nat.reduceEqDiff, Nat.reduceAdd, Nat.reduceMul, Nat.reduceSub, Nat.reduceBEq, Nat.reduceLeDiff, Nat.reduceLT, Nat.reduceMod, Nat.reduceDiv, Int.reduceToNat, Int.reducePow, Int.reduceMul, Int.reduceAdd, Int.reduceSub, Int.reduceLE, Int.reduceLT, Int.reduceNeg, Int.reduceDiv, Int.reduceMod, Int.reduceEq, Int.reduceBEq, Int.reduceBNe, f4, f4b, f4r0, f4r1, f4r2, f4r3, f4r4, f4r5, f4r6, f4r7, f4r8, f4r9, f4r10, f4r11, f4r12, f4r13, f4r15, f4r16, f4r17, f4r18, f4r19, f4r20, f4r21, f4r22, f4r23, f4r24, f4r25, f4r26, f4r28, f4r29, f4r30, f4r32, f4l0, f4, f4b, f4r0, f4r1, f4r2, f4r3, f4r4, f4r5, f4r6, f4r7, f4r8, f4r9, f4r10, f4r11, f4r12, f4r13, f4r15, f4r16, f4r17, f4r18, f4r19, f4r20, f4r21, f4r22, f4r23, f4r24, f4r25, f4r26, f4r28, f4r29, f4r30, f4r32, kwG, koG, e1, e2] | (refine BrW.of (fun hb => ?_) (fun hb => ?_) <;> (have hb' := hb; try simp only [decide_eq_true_eq, decide_eq_false_iff_not, beq_iff_eq, bne_iff_ne, beq_eq_false_iff_ne, bne_eq_false_iff_eq, Bool.not_eq_true', Bool.not_eq_false', Bool.not_eq_true, Bool.not_eq_false, Bool.and_eq_true, Bool.or_eq_true, Bool.and_eq_false_iff, Bool.or_eq_false_iff, Int.not_lt, Int.not_le, ne_eq, gt_iff_lt, ge_iff_le] at hb') <;> (try (exfalso; omega))) | (refine altW.of ?_ ?_)
        all_goals first
          | exact .here rfl
          | (refine RdW.keep [0, 1, 2, 3, 9, 11, 53, 54, 55] (wl.length - (i + 1)) (by omega) ?_
             simp (disch := first | with_reducible assumption | omega) only [go_sem, Bool.true_and, Bool.and_true, Bool.and_self, Bool.false_and, Bool.and_false, Bool.true_or, Bool.or_true, Bool.false_or, Bool.or_false, ↓reduceIte, Nat.reduceEqDiff, Nat.reduceAdd, Nat.reduceMul, Nat.reduceSub, Nat.reduceBEq, Nat.reduceLeDiff, Nat.reduceLT, Nat.reduceMod, Nat.reduceDiv, Int.reduceToNat, Int.reducePow, Int.reduceMul, Int.reduceAdd, Int.reduceSub, Int.reduceLE, Int.reduceLT, Int.reduceNeg, Int.reduceDiv, Int.reduceMod, Int.reduceEq, Int.reduceBEq, Int.reduceBNe]
             exact ⟨i + 1, by rw [hnx]; rfl, by omega, rfl, hon (by omega) (by omega)⟩)
      · obtain rfl : i = wl.length := by omega
        by_cases hsa : all < sI (fun j => ol.getD j 0) wl.length
        · repeat' first | simp (disch := first | with_reducible assumption | omega) only [go_sem, Bool.true_and, Bool.and_true, Bool.and_self, Bool.false_and, Bool.and_false, Bool.true_or, Bool.or_true, Bool.false_or, Bool.or_false, ↓reduceIte, Nat.reduceEqDiff, Nat.reduceAdd, Nat.reduceMul, Nat.reduceSub, Nat.reduceBEq, Nat.reduceLeDiff, Nat.reduceLT, Nat.reduceMod, Nat.reduceDiv, Int.reduceToNat, Int.reducePow, Int.reduceMul, Int.reduceAdd, Int.reduceSub, Int.reduceLE, Int.reduceLT, Int.reduceNeg, Int.reduceDiv, Int.reduceMod, Int.reduceEq, Int.reduceBEq, Int.reduceBNe, f4, f4b, f4r0, f4r1, f4r2, f4r3, f4r4, f4r5, f4r6, f4r7, f4r8, f4r9, f4r10, f4r11, f4r12, f4r13, f4r15, f4r16, f4r17, f4r18, f4r19, f4r20, f4r21, f4r22, f4r23, f4r24, f4r25, f4r26, f4r28, f4r29, f4r30, f4r32, f4l0, f4, f4b, f4r0, f4r1, f4r2, f4r3, f4r4, f4r5, f4r6, f4r7, f4r8, f4r9, f4r10, f4r11, f4r12, f4r13, f4r15, f4r16, f4r17, f4r18, f4r19, f4r20, f4r21, f4r22, f4r23, f4r24, f4r25, f4r26, f4r28, f4r29, f4r30, f4r32, koG] | (refine BrW.of (fun hb => ?_) (fun hb => ?_) <;> (have hb' := hb; try simp only [decide_eq_true_eq, decide_eq_false_iff_not, beq_iff_eq, bne_iff_ne, beq_eq_false_iff_ne, bne_eq_false_iff_eq, Bool.not_eq_true', Bool.not_eq_false', Bool.not_eq_true, Bool.not_eq_false, Bool.and_eq_true, Bool.or_eq_true, Bool.and_eq_false_iff, Bool.or_eq_false_iff, Int.not_lt, Int.not_le, ne_eq, gt_iff_lt, ge_iff_le] at hb') <;> (try (exfalso; omega))) | (refine altW.of ?_ ?_)
          all_goals first | exact .here rfl | (exfalso; omega)
        · have hfair := fun k (hk : k < wl.length) hm => share_fair hok hlv (o := fun j => ol.getD j 0) (fun j hj => (hoi j hj).2) (show sI (fun j => ol.getD j 0) wl.length ≤ all by omega) (k := k) hk hm
          generalize sI (fun j => ol.getD j 0) wl.length = s1 at *
          repeat' first | simp (disch := first | with_reducible assumption | omega) only [go_sem, Bool.true_and, Bool.and_true, Bool.and_self, Bool.false_and, Bool.and_false, Bool.true_or, Bool.or_true, Bool.false_or, Bool.or_false, ↓reduceIte, Nat.reduceEqDiff, Nat.reduceAdd, Nat.reduceMul, Nat.reduceSub, Nat.reduceBEq, Nat.reduceLeDiff, Nat.reduceLT, Nat.reduceMod, Nat.reduceDiv, Int.reduceToNat, Int.reducePow, Int.reduceMul, Int.reduceAdd, Int.reduceSub, Int.reduceLE, Int.reduceLT, Int.reduceNeg, Int.reduceDiv, Int.reduceMod, Int.reduceEq, Int.reduceBEq, Int.reduceBNe, f4, f4b, f4r0, f4r1, f4r2, f4r3, f4r4, f4r5, f4r6, f4r7, f4r8, f4r9, f4r10, f4r11, f4r12, f4r13, f4r15, f4r16, f4r17, f4r18, f4r19, f4r20, f4r21, f4r22, f4r23, f4r24, f4r25, f4r26, f4r28, f4r29, f4r30, f4r32, f4l0, f4, f4b, f4r0, f4r1, f4r2, f4r3, f4r4, f4r5, f4r6, f4r7, f4r8, f4r9, f4r10, f4r11, f4r12, f4r13, f4r15, f4r16, f4r17, f4r18, f4r19, f4r20, f4r21, f4r22, f4r23, f4r24, f4r25, f4r26, f4r28, f4r29, f4r30, f4r32, koG] | (refine BrW.of (fun hb => ?_) (fun hb => ?_) <;> (have hb' := hb; try simp only [decide_eq_true_eq, decide_eq_false_iff_not, beq_iff_eq, bne_iff_ne, beq_eq_false_iff_ne, bne_eq_false_iff_eq, Bool.not_eq_true', Bool.not_eq_false', Bool.not_eq_true, Bool.not_eq_false, Bool.and_eq_true, Bool.or_eq_true, Bool.and_eq_false_iff, Bool.or_eq_false_iff, Int.not_lt, Int.not_le, ne_eq, gt_iff_lt, ge_iff_le] at hb') <;> (try (exfalso; omega))) | (refine altW.of ?_ ?_)
          all_goals first | (exfalso; omega) | skip
          have hob2 : ∀ j, j < wl.length → 0 ≤ ol.getD j 0 ∧ ol.getD j 0 ≤ 1048576 := fun j hj => ⟨(hoi j hj).1, by have := (hoi j hj).2; have := (hwr j hj).2; omega⟩
          have hg2 : ∀ j, j < wl.length → (flat' F.cells (gl (W wl cl) num den wl.length))[j * 2]? = some (.int .i64 (getF (W wl cl) num den j).num) ∧ (flat' F.cells (gl (W wl cl) num den wl.length))[j * 2 + 1]? = some (.int .i64 (getF (W wl cl) num den j).den) := fun j hj => by
            have := hgg j hj
            rwa [hge j hj] at this
          have hrg2 : ∀ j, j < wl.length → 1 ≤ (getF (W wl cl) num den j).den ∧ (getF (W wl cl) num den j).den ≤ 16000 ∧ 0 ≤ (getF (W wl cl) num den j).num ∧ (getF (W wl cl) num den j).num ≤ 1048576000 := fun j hj => by have := hrg j hj; exact ⟨this.1, this.2.1, this.2.2.1, this.2.2.2.2.1⟩
          clear hgg hge hrg hoi hlv hwb hcb hob
          change ∀ k, k < wl.length → ¬ ol.getD k 0 * (getF (W wl cl) num den k).den ≤ (getF (W wl cl) num den k).num → ∃ i, i < wl.length ∧ ol.getD i 0 * (getF (W wl cl) num den i).den < (getF (W wl cl) num den i).num ∧ (getF (W wl cl) num den i).num * cl.getD k 0 * (getF (W wl cl) num den k).den ≤ (getF (W wl cl) num den k).num * cl.getD i 0 * (getF (W wl cl) num den i).den at hfair
          generalize hgF : getF (W wl cl) num den = gF at *
          generalize flat' F.cells (gl (W wl cl) num den wl.length) = cf at *
          refine loopW.of (by decide) (fun m e Y => ∃ k : Nat, e = [(2, slv kc 0 0 cl.length cc), (3, slv ko 0 0 ol.length co), (9, slv ka 0 ga wl.length wl.length), (77, slv ko 0 0 ol.length co), (78, .int .i64 ol.length), (79, .int .i64 k)] ∧ Y = J ∧ k ≤ wl.length ∧ m = wl.length - k) wl.length ⟨0, rfl, rfl, by omega, rfl⟩ ?_
          rintro m e Y ⟨k, rfl, rfl, hk, rfl⟩
          by_cases hkl : k < wl.length
          · have f1 := o0 k (by omega)
            obtain ⟨f2, f3⟩ := hg2 k hkl
            have b1 := hob2 k hkl
            have b2 := hrg2 k hkl
            have f4 := c0 k (by omega)
            have b3 := hcr k hkl
            have hfk := hfair k hkl
            have m1 := Int.mul_le_mul b1.2 b2.2.1 (by omega) (by omega)
            have m2 := Int.mul_nonneg b1.1 (show 0 ≤ (gF k).den by omega)
            clear hfair
            generalize hok2 : ol.getD k 0 = okv at *
            generalize hgk : gF k = gk at *
            generalize hck : cl.getD k 0 = ck at *
            obtain ⟨nk, dk⟩ := gk
            simp only at f2 f3 b2 hfk m1 m2
            by_cases hle : okv * dk ≤ nk
            · repeat' first | simp (disch := first | with_reducible assumption | omega) only [go_sem, Bool.true_and, Bool.and_true, Bool.and_self, Bool.false_and, Bool.and_false, Bool.true_or, Bool.or_true, Bool.false_or, Bool.or_false, ↓reduceIte, Nat.reduceEqDiff, Nat.reduceAdd, Nat.reduceMul, Nat.reduceSub, Nat.reduceBEq, Nat.reduceLeDiff, Nat.reduceLT, Nat.reduceMod, Nat.reduceDiv, Int.reduceToNat, Int.reducePow, Int.reduceMul, Int.reduceAdd, Int.reduceSub, Int.reduceLE, Int.reduceLT, Int.reduceNeg, Int.reduceDiv, Int.reduceMod, Int.reduceEq, Int.reduceBEq, Int.reduceBNe, f4, f4b, f4r0, f4r1, f4r2, f4r3, f4r4, f4r5, f4r6, f4r7, f4r8, f4r9, f4r10, f4r11, f4r12, f4r13, f4r15, f4r16, f4r17, f4r18, f4r19, f4r20, f4r21, f4r22, f4r23, f4r24, f4r25, f4r26, f4r28, f4r29, f4r30, f4r32, f4l2, koG, x1, f1, f2, f3] | (refine BrW.of (fun hb => ?_) (fun hb => ?_) <;> (have hb' := hb; try simp only [decide_eq_true_eq, decide_eq_false_iff_not, beq_iff_eq, bne_iff_ne, beq_eq_false_iff_ne, bne_eq_false_iff_eq, Bool.not_eq_true', Bool.not_eq_false', Bool.not_eq_true, Bool.not_eq_false, Bool.and_eq_true, Bool.or_eq_true, Bool.and_eq_false_iff, Bool.or_eq_false_iff, Int.not_lt, Int.not_le, ne_eq, gt_iff_lt, ge_iff_le] at hb') <;> (try (exfalso; omega))) | (refine altW.of ?_ ?_)
              all_goals first | (exfalso; omega) | skip
              refine RdW.keep [2, 3, 9, 77, 78, 79] (wl.length - (k + 1)) (by omega) ?_
              simp (disch := first | with_reducible assumption | omega) only [go_sem, Bool.true_and, Bool.and_true, Bool.and_self, Bool.false_and, Bool.and_false, Bool.true_or, Bool.or_true, Bool.false_or, Bool.or_false, ↓reduceIte, Nat.reduceEqDiff, Nat.reduceAdd, Nat.reduceMul, Nat.reduceSub, Nat.reduceBEq, Nat.reduceLeDiff, Nat.reduceLT, Nat.reduceMod, Nat.reduceDiv, Int.reduceToNat, Int.reducePow, Int.reduceMul, Int.reduceAdd, Int.reduceSub, Int.reduceLE, Int.reduceLT, Int.reduceNeg, Int.reduceDiv, Int.reduceMod, Int.reduceEq, Int.reduceBEq, Int.reduceBNe]
              exact ⟨k + 1, rfl, by omega, rfl⟩
            · have hfk := hfk hle
              repeat' first | simp (disch := first | with_reducible assumption | omega) only [go_sem, Bool.true_and, Bool.and_true, Bool.and_self, Bool.false_and, Bool.and_false, Bool.true_or, Bool.or_true, Bool.false_or, Bool.or_false, ↓reduceIte, Nat.reduceEqDiff, Nat.reduceAdd, Nat.reduceMul, Nat.reduceSub, Nat.reduceBEq, Nat.reduceLeDiff, Nat.reduceLT, Nat.reduceMod, Nat.reduceDiv, Int.reduceToNat, Int.reducePow, Int.reduceMul, Int.reduceAdd, Int.reduceSub, Int.reduceLE, Int.reduceLT, Int.reduceNeg, Int.reduceDiv, Int.reduceMod, Int.reduceEq, Int.reduceBEq, Int.reduceBNe, f4, f4b, f4r0, f4r1, f4r2, f4r3, f4r4, f4r5, f4r6, f4r7, f4r8, f4r9, f4r10, f4r11, f4r12, f4r13, f4r15, f4r16, f4r17, f4r18, f4r19, f4r20, f4r21, f4r22, f4r23, f4r24, f4r25, f4r26, f4r28, f4r29, f4r30, f4r32, f4l2, koG, x1, f1, f2, f3] | (refine BrW.of (fun hb => ?_) (fun hb => ?_) <;> (have hb' := hb; try simp only [decide_eq_true_eq, decide_eq_false_iff_not, beq_iff_eq, bne_iff_ne, beq_eq_false_iff_ne, bne_eq_false_iff_eq, Bool.not_eq_true', Bool.not_eq_false', Bool.not_eq_true, Bool.not_eq_false, Bool.and_eq_true, Bool.or_eq_true, Bool.and_eq_false_iff, Bool.or_eq_false_iff, Int.not_lt, Int.not_le, ne_eq, gt_iff_lt, ge_iff_le] at hb') <;> (try (exfalso; omega))) | (refine altW.of ?_ ?_)
              all_goals first | (exfalso; omega) | skip
              refine loopW.of (by decide) (fun m e Z => ∃ (i : Nat) (b : Bool), e = [(2, slv kc 0 0 cl.length cc), (3, slv ko 0 0 ol.length co), (9, slv ka 0 ga wl.length wl.length), (14, .int .i64 k), (16, .bool b), (77, slv ko 0 0 ol.length co), (78, .int .i64 ol.length), (79, .int .i64 k), (97, slv ko 0 0 ol.length co), (98, .int .i64 ol.length), (99, .int .i64 i)] ∧ Z = Y ∧ i ≤ wl.length ∧ m = wl.length - i ∧ (b = true ↔ ∃ j, j < i ∧ ol.getD j 0 * (gF j).den < (gF j).num ∧ (gF j).num * ck * dk ≤ nk * cl.getD j 0 * (gF j).den)) wl.length ⟨0, false, rfl, rfl, by omega, rfl, by simp⟩ ?_
              rintro m e Z ⟨i, b, rfl, rfl, hi2, rfl, hbi⟩
              by_cases hil : i < wl.length
              · have p1 := o0 i (by omega)
                obtain ⟨p2, p3⟩ := hg2 i hil
                have p4 := c0 i (by omega)
                have r1 := hob2 i hil
                have r2 := hrg2 i hil
                have r3 := hcr i hil
                have hnx : (∃ j, j < i + 1 ∧ ol.getD j 0 * (gF j).den < (gF j).num ∧ (gF j).num * ck * dk ≤ nk * cl.getD j 0 * (gF j).den) ↔ (b = true ∨ (ol.getD i 0 * (gF i).den < (gF i).num ∧ (gF i).num * ck * dk ≤ nk * cl.getD i 0 * (gF i).den)) := by
                  rw [hbi]
                  constructor
                  · rintro ⟨j, hj, hp⟩
                    by_cases hji : j = i
                    · subst hji; exact Or.inr hp
                    · exact Or.inl ⟨j, by omega, hp⟩
                  · rintro (⟨j, hj, hp⟩ | hp)
                    · exact ⟨j, by omega, hp⟩
                    · exact ⟨i, by omega, hp⟩
                have n1 := Int.mul_le_mul r1.2 r2.2.1 (by omega) (by omega)
                have n2 := Int.mul_nonneg r1.1 (show 0 ≤ (gF i).den by omega)
                have n3 := Int.mul_le_mul r2.2.2.2 b3.2 (by omega) (by omega)
                have n4 := Int.mul_nonneg r2.2.2.1 (show 0 ≤ ck by omega)
                have n5 := Int.mul_le_mul n3 b2.2.1 (by omega) (by omega)
                have n6 := Int.mul_nonneg n4 (show 0 ≤ dk by omega)
                have n7 := Int.mul_le_mul b2.2.2.2 r3.2 (by omega) (by omega)
                have n8 := Int.mul_nonneg b2.2.2.1 (show 0 ≤ cl.getD i 0 by omega)
                have n9 := Int.mul_le_mul n7 r2.2.1 (by omega) (by omega)
                have n10 := Int.mul_nonneg n8 (show 0 ≤ (gF i).den by omega)
                clear hbi hob2 hg2 hrg2 hcr c0 o0 w0 hwr hfk
                generalize ol.getD i 0 = y at *
                generalize gF i = gi at *
                generalize cl.getD i 0 = ci at *
                obtain ⟨ni, di⟩ := gi
                simp only at p2 p3 r2 hnx n1 n2 n3 n4 n5 n6 n9 n10
                by_cases P1 : y * di < ni <;> by_cases P2 : ni * ck * dk ≤ nk * ci * di <;> cases b
                all_goals first
                  | repeat' first | simp (disch := first | with_reducible assumption | omega) only [go_sem, Bool.true_and, Bool.and_true, Bool.and_self, Bool.false_and, Bool.and_false, Bool.true_or, Bool.or_true, Bool.false_or, Bool.or_false, ↓reduceIte, Nat.reduceEqDiff, Nat.reduceAdd, Nat.reduceMul, Nat.reduceSub, Nat.reduceBEq, Nat.reduceLeDiff, Nat.reduceLT, Nat.reduceMod, Nat.reduceDiv, Int.reduceToNat, Int.reducePow, Int.reduceMul, Int.reduceAdd, Int.reduceSub, Int.reduceLE, Int.reduceLT, Int.reduceNeg, Int.reduceDiv, Int.reduceMod, Int.reduceEq, Int.reduceBEq, Int.reduceBNe, f4, f4b, f4r0, f4r1, f4r2, f4r3, f4r4, f4r5, f4r6, f4r7, f4r8, f4r9, f4r10, f4r11, f4r12, f4r13, f4r15, f4r16, f4r17, f4r18, f4r19, f4r20, f4r21, f4r22, f4r23, f4r24, f4r25, f4r26, f4r28, f4r29, f4r30, f4r32, f4l1, koG, x1, kcG, p1, p2, p3, p4, f2, f3, f4, decide_eq_true P1, decide_eq_true P2] | (refine BrW.of (fun hb => ?_) (fun hb => ?_) <;> (have hb' := hb; try simp only [decide_eq_true_eq, decide_eq_false_iff_not, beq_iff_eq, bne_iff_ne, beq_eq_false_iff_ne, bne_eq_false_iff_eq, Bool.not_eq_true', Bool.not_eq_false', Bool.not_eq_true, Bool.not_eq_false, Bool.and_eq_true, Bool.or_eq_true, Bool.and_eq_false_iff, Bool.or_eq_false_iff, Int.not_lt, Int.not_le, ne_eq, gt_iff_lt, ge_iff_le] at hb') <;> (try (exfalso; omega))) | (refine altW.of ?_ ?_)
                  | repeat' first | simp (disch := first | with_reducible assumption | omega) only [go_sem, Bool.true_and, Bool.and_true, Bool.and_self, Bool.false_and, Bool.and_false, Bool.true_or, Bool.or_true, Bool.false_or, Bool.or_false, ↓reduceIte, Nat.reduceEqDiff, Nat.reduceAdd, Nat.reduceMul, Nat.reduceSub, Nat.reduceBEq, Nat.reduceLeDiff, Nat.reduceLT, Nat.reduceMod, Nat.reduceDiv, Int.reduceToNat, Int.reducePow, Int.reduceMul, Int.reduceAdd, Int.reduceSub, Int.reduceLE, Int.reduceLT, Int.reduceNeg, Int.reduceDiv, Int.reduceMod, Int.reduceEq, Int.reduceBEq, Int.reduceBNe, f4, f4b, f4r0, f4r1, f4r2, f4r3, f4r4, f4r5, f4r6, f4r7, f4r8, f4r9, f4r10, f4r11, f4r12, f4r13, f4r15, f4r16, f4r17, f4r18, f4r19, f4r20, f4r21, f4r22, f4r23, f4r24, f4r25, f4r26, f4r28, f4r29, f4r30, f4r32, f4l1, koG, x1, kcG, p1, p2, p3, p4, f2, f3, f4, decide_eq_true P1, decide_eq_false P2] | (refine BrW.of (fun hb => ?_) (fun hb => ?_) <;> (have hb' := hb; try simp only [decide_eq_true_eq, decide_eq_false_iff_not, beq_iff_eq, bne_iff_ne, beq_eq_false_iff_ne, bne_eq_false_iff_eq, Bool.not_eq_true', Bool.not_eq_false', Bool.not_eq_true, Bool.not_eq_false, Bool.and_eq_true, Bool.or_eq_true, Bool.and_eq_false_iff, Bool.or_eq_false_iff, Int.not_lt, Int.not_le, ne_eq, gt_iff_lt, ge_iff_le] at hb') <;> (try (exfalso; omega))) | (refine altW.of ?_ ?_)
                  | repeat' first | simp (disch := first | with_reducible assumption | omega) only [go_sem, Bool.true_and, Bool.and_true, Bool.and_self, Bool.false_and, Bool.and_false, Bool.true_or, Bool.or_true, Bool.false_or, Bool.or_false, ↓reduceIte, Nat.reduceEqDiff, Nat.reduceAdd, Nat.reduceMul, Nat.reduceSub, Nat.reduceBEq, Nat.reduceLeDiff, Nat.reduceLT, Nat.reduceMod, Nat.reduceDiv, Int.reduceToNat, Int.reducePow, Int.reduceMul, Int.reduceAdd, Int.reduceSub, Int.reduceLE, Int.reduceLT, Int.reduceNeg, Int.reduceDiv, Int.reduceMod, Int.reduceEq, Int.reduceBEq, Int.reduceBNe, f4, f4b, f4r0, f4r1, f4r2, f4r3, f4r4, f4r5, f4r6, f4r7, f4r8, f4r9, f4r10, f4r11, f4r12, f4r13, f4r15, f4r16, f4r17, f4r18, f4r19, f4r20, f4r21, f4r22, f4r23, f4r24, f4r25, f4r26, f4r28, f4r29, f4r30, f4r32, f4l1, koG, x1, kcG, p1, p2, p3, p4, f2, f3, f4, decide_eq_false P1] | (refine BrW.of (fun hb => ?_) (fun hb => ?_) <;> (have hb' := hb; try simp only [decide_eq_true_eq, decide_eq_false_iff_not, beq_iff_eq, bne_iff_ne, beq_eq_false_iff_ne, bne_eq_false_iff_eq, Bool.not_eq_true', Bool.not_eq_false', Bool.not_eq_true, Bool.not_eq_false, Bool.and_eq_true, Bool.or_eq_true, Bool.and_eq_false_iff, Bool.or_eq_false_iff, Int.not_lt, Int.not_le, ne_eq, gt_iff_lt, ge_iff_le] at hb') <;> (try (exfalso; omega))) | (refine altW.of ?_ ?_)
                all_goals first | (exfalso; omega) | skip
                all_goals
                  refine RdW.keep [2, 3, 9, 14, 16, 77, 78, 79, 97, 98, 99] (wl.length - (i + 1)) (by omega) ?_
                  simp (disch := first | with_reducible assumption | omega) only [go_sem, Bool.true_and, Bool.and_true, Bool.and_self, Bool.false_and, Bool.and_false, Bool.true_or, Bool.or_true, Bool.false_or, Bool.or_false, ↓reduceIte, Nat.reduceEqDiff, Nat.reduceAdd, Nat.reduceMul, Nat.reduceSub, Nat.reduceBEq, Nat.reduceLeDiff, Nat.reduceLT, Nat.reduceMod, Nat.reduceDiv, Int.reduceToNat, Int.reducePow, Int.reduceMul, Int.reduceAdd, Int.reduceSub, Int.reduceLE, Int.reduceLT, Int.reduceNeg, Int.reduceDiv, Int.reduceMod, Int.reduceEq, Int.reduceBEq, Int.reduceBNe]
                  refine ⟨i + 1, _, rfl, by omega, rfl, ?_⟩
                  rw [hnx]
                  simp [P1, P2]
              · obtain rfl : i = wl.length := by omega
                obtain rfl : b = true := hbi.2 hfk
                repeat' first | simp (disch := first | with_reducible assumption | omega) only [go_sem, Bool.true_and, Bool.and_true, Bool.and_self, Bool.false_and, Bool.and_false, Bool.true_or, Bool.or_true, Bool.false_or, Bool.or_false, ↓reduceIte, Nat.reduceEqDiff, Nat.reduceAdd, Nat.reduceMul, Nat.reduceSub, Nat.reduceBEq, Nat.reduceLeDiff, Nat.reduceLT, Nat.reduceMod, Nat.reduceDiv, Int.reduceToNat, Int.reducePow, Int.reduceMul, Int.reduceAdd, Int.reduceSub, Int.reduceLE, Int.reduceLT, Int.reduceNeg, Int.reduceDiv, Int.reduceMod, Int.reduceEq, Int.reduceBEq, Int.reduceBNe, f4, f4b, f4r0, f4r1, f4r2, f4r3, f4r4, f4r5, f4r6, f4r7, f4r8, f4r9, f4r10, f4r11, f4r12, f4r13, f4r15, f4r16, f4r17, f4r18, f4r19, f4r20, f4r21, f4r22, f4r23, f4r24, f4r25, f4r26, f4r28, f4r29, f4r30, f4r32, f4l1, f4, f4b, f4r0, f4r1, f4r2, f4r3, f4r4, f4r5, f4r6, f4r7, f4r8, f4r9, f4r10, f4r11, f4r12, f4r13, f4r15, f4r16, f4r17, f4r18, f4r19, f4r20, f4r21, f4r22, f4r23, f4r24, f4r25, f4r26, f4r28, f4r29, f4r30, f4r32, f4l2] | (refine BrW.of (fun hb => ?_) (fun hb => ?_) <;> (have hb' := hb; try simp only [decide_eq_true_eq, decide_eq_false_iff_not, beq_iff_eq, bne_iff_ne, beq_eq_false_iff_ne, bne_eq_false_iff_eq, Bool.not_eq_true', Bool.not_eq_false', Bool.not_eq_true, Bool.not_eq_false, Bool.and_eq_true, Bool.or_eq_true, Bool.and_eq_false_iff, Bool.or_eq_false_iff, Int.not_lt, Int.not_le, ne_eq, gt_iff_lt, ge_iff_le] at hb') <;> (try (exfalso; omega))) | (refine altW.of ?_ ?_)
                all_goals first | (exfalso; omega) | skip
                refine RdW.keep [2, 3, 9, 77, 78, 79] (wl.length - (k + 1)) (by omega) ?_
                simp (disch := first | with_reducible assumption | omega) only [go_sem, Bool.true_and, Bool.and_true, Bool.and_self, Bool.false_and, Bool.and_false, Bool.true_or, Bool.or_true, Bool.false_or, Bool.or_false, ↓reduceIte, Nat.reduceEqDiff, Nat.reduceAdd, Nat.reduceMul, Nat.reduceSub, Nat.reduceBEq, Nat.reduceLeDiff, Nat.reduceLT, Nat.reduceMod, Nat.reduceDiv, Int.reduceToNat, Int.reducePow, Int.reduceMul, Int.reduceAdd, Int.reduceSub, Int.reduceLE, Int.reduceLT, Int.reduceNeg, Int.reduceDiv, Int.reduceMod, Int.reduceEq, Int.reduceBEq, Int.reduceBNe]
                exact ⟨k + 1, rfl, by omega, rfl⟩
          · obtain rfl : k = wl.length := by omega
            repeat' first | simp (disch := first | with_reducible assumption | omega) only [go_sem, Bool.true_and, Bool.and_true, Bool.and_self, Bool.false_and, Bool.and_false, Bool.true_or, Bool.or_true, Bool.false_or, Bool.or_false, ↓reduceIte, Nat.reduceEqDiff, Nat.reduceAdd, Nat.reduceMul, Nat.reduceSub, Nat.reduceBEq, Nat.reduceLeDiff, Nat.reduceLT, Nat.reduceMod, Nat.reduceDiv, Int.reduceToNat, Int.reducePow, Int.reduceMul, Int.reduceAdd, Int.reduceSub, Int.reduceLE, Int.reduceLT, Int.reduceNeg, Int.reduceDiv, Int.reduceMod, Int.reduceEq, Int.reduceBEq, Int.reduceBNe, f4, f4b, f4r0, f4r1, f4r2, f4r3, f4r4, f4r5, f4r6, f4r7, f4r8, f4r9, f4r10, f4r11, f4r12, f4r13, f4r15, f4r16, f4r17, f4r18, f4r19, f4r20, f4r21, f4r22, f4r23, f4r24, f4r25, f4r26, f4r28, f4r29, f4r30, f4r32, f4l2, f4, f4b, f4r0, f4r1, f4r2, f4r3, f4r4, f4r5, f4r6, f4r7, f4r8, f4r9, f4r10, f4r11, f4r12, f4r13, f4r15, f4r16, f4r17, f4r18, f4r19, f4r20, f4r21, f4r22, f4r23, f4r24, f4r25, f4r26, f4r28, f4r29, f4r30, f4r32] | (refine BrW.of (fun hb => ?_) (fun hb => ?_) <;> (have hb' := hb; try simp only [decide_eq_true_eq, decide_eq_false_iff_not, beq_iff_eq, bne_iff_ne, beq_eq_false_iff_ne, bne_eq_false_iff_eq, Bool.not_eq_true', Bool.not_eq_false', Bool.not_eq_true, Bool.not_eq_false, Bool.and_eq_true, Bool.or_eq_true, Bool.and_eq_false_iff, Bool.or_eq_false_iff, Int.not_lt, Int.not_le, ne_eq, gt_iff_lt, ge_iff_le] at hb') <;> (try (exfalso; omega))) | (refine altW.of ?_ ?_)
            all_goals first | exact .here rfl | (exfalso; omega)
    · repeat' first | simp (disch := first | with_reducible assumption | omega) only [go_sem, Bool.true_and, Bool.and_true, Bool.and_self, Bool.false_and, Bool.and_false, Bool.true_or, Bool.or_true, Bool.false_or, Bool.or_false, ↓reduceIte, Nat.reduceEqDiff, Nat.reduceAdd, Nat.reduceMul, Nat.reduceSub, Nat.reduceBEq, Nat.reduceLeDiff, Nat.reduceLT, Nat.reduceMod, Nat.reduceDiv, Int.reduceToNat, Int.reducePow, Int.reduceMul, Int.reduceAdd, Int.reduceSub, Int.reduceLE, Int.reduceLT, Int.reduceNeg, Int.reduceDiv, Int.reduceMod, Int.reduceEq, Int.reduceBEq, Int.reduceBNe, f4, f4b, f4r0, f4r1, f4r2, f4r3, f4r4, f4r5, f4r6, f4r7, f4r8, f4r9, f4r10, f4r11, f4r12, f4r13, f4r15, f4r16, f4r17, f4r18, f4r19, f4r20, f4r21, f4r22, f4r23, f4r24, f4r25, f4r26, f4r28, f4r29, f4r30, f4r32, x1, kwG, koG] | (refine BrW.of (fun hb => ?_) (fun hb => ?_) <;> (have hb' := hb; try simp only [decide_eq_true_eq, decide_eq_false_iff_not, beq_iff_eq, bne_iff_ne, beq_eq_false_iff_ne, bne_eq_false_iff_eq, Bool.not_eq_true', Bool.not_eq_false', Bool.not_eq_true, Bool.not_eq_false, Bool.and_eq_true, Bool.or_eq_true, Bool.and_eq_false_iff, Bool.or_eq_false_iff, Int.not_lt, Int.not_le, ne_eq, gt_iff_lt, ge_iff_le] at hb') <;> (try (exfalso; omega))) | (refine altW.of ?_ ?_)
      all_goals first | exact .here rfl | (refine .here ?_; simp; done) | (exfalso; omega)
  · have hne : ¬ e = 0 := fun h => h0 (he.1 h)
    obtain rfl := hbad hne
    repeat' first | simp (disch := first | with_reducible assumption | omega) only [go_sem, Bool.true_and, Bool.and_true, Bool.and_self, Bool.false_and, Bool.and_false, Bool.true_or, Bool.or_true, Bool.false_or, Bool.or_false, ↓reduceIte, Nat.reduceEqDiff, Nat.reduceAdd, Nat.reduceMul, Nat.reduceSub, Nat.reduceBEq, Nat.reduceLeDiff, Nat.reduceLT, Nat.reduceMod, Nat.reduceDiv, Int.reduceToNat, Int.reducePow, Int.reduceMul, Int.reduceAdd, Int.reduceSub, Int.reduceLE, Int.reduceLT, Int.reduceNeg, Int.reduceDiv, Int.reduceMod, Int.reduceEq, Int.reduceBEq, Int.reduceBNe, f4, f4b, f4r0, f4r1, f4r2, f4r3, f4r4, f4r5, f4r6, f4r7, f4r8, f4r9, f4r10, f4r11, f4r12, f4r13, f4r15, f4r16, f4r17, f4r18, f4r19, f4r20, f4r21, f4r22, f4r23, f4r24, f4r25, f4r26, f4r28, f4r29, f4r30, f4r32, kwG, koG] | (refine BrW.of (fun hb => ?_) (fun hb => ?_) <;> (have hb' := hb; try simp only [decide_eq_true_eq, decide_eq_false_iff_not, beq_iff_eq, bne_iff_ne, beq_eq_false_iff_ne, bne_eq_false_iff_eq, Bool.not_eq_true', Bool.not_eq_false', Bool.not_eq_true, Bool.not_eq_false, Bool.and_eq_true, Bool.or_eq_true, Bool.and_eq_false_iff, Bool.or_eq_false_iff, Int.not_lt, Int.not_le, ne_eq, gt_iff_lt, ge_iff_le] at hb') <;> (try (exfalso; omega))) | (refine altW.of ?_ ?_)
    all_goals first | exact .here rfl | (refine .here ?_; simp; done) | (exfalso; omega)
end Go.Proofs.Ytabjglejldapgaa
