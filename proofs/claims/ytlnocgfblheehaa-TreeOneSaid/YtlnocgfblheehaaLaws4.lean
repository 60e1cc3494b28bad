import Derived.Test.YtlnocgfblheehaaLaws
import Derived.Test.YtlnocgfblheehaaPlain4
set_option linter.unusedSimpArgs false
set_option linter.unusedVariables false
set_option maxHeartbeats 2000000
set_option maxRecDepth 20000
namespace Go.Proofs.Ytlnocgfblheehaa
open Go Go.Am
attribute [local irreducible] opsW Ww loopW callW drawW outW outDW gW cW BrW bothW vW resW DropW RdW dcallW altW Later.run

theorem TreeOne_args (H : Heap) (vals : List Value) (h : ArgsOk maxLen H TreeOneSh vals) : ACallK Try.prog 5 vals H fun v _ => v = .bool true := by
  obtain ⟨_, _, rfl, a1, h1⟩ := h.cons
  obtain rfl := h1.nil
  obtain ⟨k, cc, l, rfl, hl, hlc, hO⟩ := nodes_of a1
  clear a1 h h1
  have hL := Leaves_spec l k 0 0 cc H hO hl
  refine .walkW f5_ok (by simp; decide) (by decide) ?_
  repeat' first | simp (disch := first | with_reducible assumption | omega) only [go_sem, Bool.true_and, Bool.and_true, Bool.and_self, Bool.false_and, Bool.and_false, Bool.true_or, Bool.or_true, Bool.false_or, Bool.or_false, ↓reduceIte, Nat.reduceEqDiff, Nat.reduceAdd, Nat.reduceMul, Nat.reduceSub, Nat.reduceBEq, Nat.reduceLeDiff, Nat.reduceLT, Nat.reduceMod, Nat.reduceDiv, Int.reduceToNat, Int.reducePow, Int.reduceMul, Int.reduceAdd, Int.reduceSub, Int.reduceLE, Int.reduceLT, Int.reduceNeg, Int.reduceDiv, Int.reduceMod, Int.reduceEq, Int.reduceBEq, Int.reduceBNe, f5, f5b, f5r0, f5r1, f5r2, f5r3, f5r4, f5r5, f5r6, f5r7, f5r8, f5r9, f5r10, f5r11, f5r12, f5r13, f5r14, f5r15, f5r16, f5r17, f5r19, f5r20, f5r21, f5r22, f5r23, f5r24, f5r25, f5r26, f5r27, f5r28, f5r29, f5r30, f5r31, f5r32, f5r33, f5r35, f5r36, f5r37, f5r38, f5r40] | (refine BrW.of (fun hb => ?_) (fun hb => ?_) <;> (have hb' := hb; try simp only [decide_eq_true_eq, decide_eq_false_iff_not, beq_iff_eq, bne_iff_ne, beq_eq_false_iff_ne, bne_eq_false_iff_eq, Bool.not_eq_true', Bool.not_eq_false', Bool.not_eq_true, Bool.not_eq_false, Bool.and_eq_true, Bool.or_eq_true, Bool.and_eq_false_iff, Bool.or_eq_false_iff, Int.not_lt, Int.not_le, ne_eq, gt_iff_lt, ge_iff_le] at hb') <;> (try (exfalso; omega))) | (refine altW.of ?_ ?_) | (refine .of ((alive _).mono ?_); rintro v H ⟨rfl, rfl⟩)
  refine .of (hL.mono ?_)
  rintro v J ⟨X, u, e, rfl, rfl, he, hbad, hgood⟩
  by_cases h0 : okT l
  · obtain rfl := he.2 h0
    have hu := (hgood rfl).at'
    have hOG := hO.app X
    clear hbad hgood hL he hO
    generalize H ++ X = G at *
    obtain ⟨kp, gp, rfl, hp⟩ := hu
    obtain ⟨ro, cs, hk, hcl, hcs⟩ := hOG.at'
    have h16 := h0.2.1
    have hpl := lvs_len l l.length
    have hmem := lvs_mem l l.length
    have hfin : sumL l (lvs l l.length) = 1 := by rw [sumL_lvs, leafQ_all h0]
    generalize lvs l l.length = p at *
    have hil := ints_length p
    have hSh := fun (q : Nat) (hq : q < l.length) (x : Heap) => Share_spec l k 0 0 cc (G ++ x) (hOG.app x) h0 q hq
    have hAd := fun (a b : F) (J : Heap) => Add_spec a b J
    have hCo := fun (y : Int) (x : Heap) => ContainsI_spec y p kp 0 gp p.length (G ++ x) (Ints.new _ _ _ false _ (get_old hp x)) (by omega)
    simp only [any_mem] at hCo
    simp only [ansF, F.val] at hSh hAd
    repeat' first | simp (disch := first | with_reducible assumption | omega) only [go_sem, Bool.true_and, Bool.and_true, Bool.and_self, Bool.false_and, Bool.and_false, Bool.true_or, Bool.or_true, Bool.false_or, Bool.or_false, ↓reduceIte, Nat.reduceEqDiff, Nat.reduceAdd, Nat.reduceMul, Nat.reduceSub, Nat.reduceBEq, Nat.reduceLeDiff, Nat.reduceLT, Nat.reduceMod, Nat.reduceDiv, Int.reduceToNat, Int.reducePow, Int.reduceMul, Int.reduceAdd, Int.reduceSub, Int.reduceLE, Int.reduceLT, Int.reduceNeg, Int.reduceDiv, Int.reduceMod, Int.reduceEq, Int.reduceBEq, Int.reduceBNe, f5, f5b, f5r0, f5r1, f5r2, f5r3, f5r4, f5r5, f5r6, f5r7, f5r8, f5r9, f5r10, f5r11, f5r12, f5r13, f5r14, f5r15, f5r16, f5r17, f5r19, f5r20, f5r21, f5r22, f5r23, f5r24, f5r25, f5r26, f5r27, f5r28, f5r29, f5r30, f5r31, f5r32, f5r33, f5r35, f5r36, f5r37, f5r38, f5r40, hp, get_old hp] | (refine BrW.of (fun hb => ?_) (fun hb => ?_) <;> (have hb' := hb; try simp only [decide_eq_true_eq, decide_eq_false_iff_not, beq_iff_eq, bne_iff_ne, beq_eq_false_iff_ne, bne_eq_false_iff_eq, Bool.not_eq_true', Bool.not_eq_false', Bool.not_eq_true, Bool.not_eq_false, Bool.and_eq_true, Bool.or_eq_true, Bool.and_eq_false_iff, Bool.or_eq_false_iff, Int.not_lt, Int.not_le, ne_eq, gt_iff_lt, ge_iff_le] at hb') <;> (try (exfalso; omega))) | (refine altW.of ?_ ?_)
    refine loopW.of (by decide) (fun m e J => ∃ (i : Nat) (fa : F) (x : Heap), e = [(0, slv k 0 0 l.length cc), (3, slv kp 0 gp p.length p.length), (5, .pointer (some ⟨G.length, 0, some 1⟩)), (35, slv kp 0 gp p.length p.length), (36, .int .i64 p.length), (37, .int .i64 i)] ∧ J = G ++ (.cells 0 0 false [.int .i64 fa.num, .int .i64 fa.den] :: x) ∧ i ≤ p.length ∧ m = p.length - i ∧ fa = F.of (sumL l (p.take i)) ∧ fa.right) p.length ⟨0, ⟨0, 1⟩, [], rfl, rfl, by omega, rfl, F.of_zero.symm, by unfold F.right; decide⟩ ?_
    rintro m e J ⟨i, fa, x, rfl, rfl, hi, rfl, hfa, hra⟩
    by_cases hlt : i < p.length
    · have y0 : (ints p)[i]? = some (.int .i64 (p.getD i 0)) := ints_get p i hlt
      have hyr := (hmem (p.getD i 0)).1 (by rw [List.getD_eq_getElem?_getD, List.getElem?_eq_getElem hlt]; exact List.getElem_mem _)
      have hnx : sumL l (p.take (i + 1)) = sumL l (p.take i) + shQ l (p.getD i 0).toNat := by rw [take_snoc 0 p i hlt, sumL_snoc]
      generalize p.getD i 0 = y at *
      obtain ⟨r, rfl⟩ : ∃ r : Nat, y = r := ⟨y.toNat, by omega⟩
      rw [Int.toNat_natCast] at hnx
      have sa := share_spec h0 (show r < l.length by omega)
      have hS := fun x => hSh r (by omega) x
      clear hSh hCo
      generalize share l r = s at *
      obtain ⟨fs, es⟩ := s
      simp only at hS sa
      rcases sa with ⟨rfl, rs, _, rfl⟩ | rfl
      · have hA := fun J => hAd fa (F.of (shQ l r)) J
        have ha := add_of (a := sumL l (p.take i)) (b := shQ l r) (by rw [← hfa]; exact hra) rs
        rw [← hfa] at ha
        clear hAd
        generalize addF fa (F.of (shQ l r)) = s at *
        obtain ⟨fb, eb⟩ := s
        simp only at hA ha
        generalize F.of (shQ l r) = fs at *
        rcases ha with ⟨rfl, rfl, rb⟩ | rfl
        · repeat' first | simp (disch := first | with_reducible assumption | omega) only [go_sem, Bool.true_and, Bool.and_true, Bool.and_self, Bool.false_and, Bool.and_false, Bool.true_or, Bool.or_true, Bool.false_or, Bool.or_false, ↓reduceIte, Nat.reduceEqDiff, Nat.reduceAdd, Nat.reduceMul, Nat.reduceSub, Nat.reduceBEq, Nat.reduceLeDiff, Nat.reduceLT, Nat.reduceMod, Nat.reduceDiv, Int.reduceToNat, Int.reducePow, Int.reduceMul, Int.reduceAdd, Int.reduceSub, Int.reduceLE, Int.reduceLT, Int.reduceNeg, Int.reduceDiv, Int.reduceMod, Int.reduceEq, Int.reduceBEq, Int.reduceBNe, f5, f5b, f5r0, f5r1, f5r2, f5r3, f5r4, f5r5, f5r6, f5r7, f5r8, f5r9, f5r10, f5r11, f5r12, f5r13, f5r14, f5r15, f5r16, f5r17, f5r19, f5r20, f5r21, f5r22, f5r23, f5r24, f5r25, f5r26, f5r27, f5r28, f5r29, f5r30, f5r31, f5r32, f5r33, f5r35, f5r36, f5r37, f5r38, f5r40, f5l0, hp, get_old hp, y0] | (refine BrW.of (fun hb => ?_) (fun hb => ?_) <;> (have hb' := hb; try simp only [decide_eq_true_eq, decide_eq_false_iff_not, beq_iff_eq, bne_iff_ne, beq_eq_false_iff_ne, bne_eq_false_iff_eq, Bool.not_eq_true', Bool.not_eq_false', Bool.not_eq_true, Bool.not_eq_false, Bool.and_eq_true, Bool.or_eq_true, Bool.and_eq_false_iff, Bool.or_eq_false_iff, Int.not_lt, Int.not_le, ne_eq, gt_iff_lt, ge_iff_le] at hb') <;> (try (exfalso; omega))) | (refine altW.of ?_ ?_) | (refine .of ((hS _).mono ?_); rintro v J ⟨rfl, rfl⟩) | (refine .of ((hA _).mono ?_); rintro v J ⟨rfl, rfl⟩)
          refine RdW.keep [0, 3, 5, 35, 36, 37] (p.length - (i + 1)) (by omega) ?_
          simp (disch := first | with_reducible assumption | omega) only [go_sem, Bool.true_and, Bool.and_true, Bool.and_self, Bool.false_and, Bool.and_false, Bool.true_or, Bool.or_true, Bool.false_or, Bool.or_false, ↓reduceIte, Nat.reduceEqDiff, Nat.reduceAdd, Nat.reduceMul, Nat.reduceSub, Nat.reduceBEq, Nat.reduceLeDiff, Nat.reduceLT, Nat.reduceMod, Nat.reduceDiv, Int.reduceToNat, Int.reducePow, Int.reduceMul, Int.reduceAdd, Int.reduceSub, Int.reduceLE, Int.reduceLT, Int.reduceNeg, Int.reduceDiv, Int.reduceMod, Int.reduceEq, Int.reduceBEq, Int.reduceBNe]
          exact ⟨i + 1, _, _, rfl, rfl, by omega, rfl, by rw [hnx], rb⟩
        · repeat' first | simp (disch := first | with_reducible assumption | omega) only [go_sem, Bool.true_and, Bool.and_true, Bool.and_self, Bool.false_and, Bool.and_false, Bool.true_or, Bool.or_true, Bool.false_or, Bool.or_false, ↓reduceIte, Nat.reduceEqDiff, Nat.reduceAdd, Nat.reduceMul, Nat.reduceSub, Nat.reduceBEq, Nat.reduceLeDiff, Nat.reduceLT, Nat.reduceMod, Nat.reduceDiv, Int.reduceToNat, Int.reducePow, Int.reduceMul, Int.reduceAdd, Int.reduceSub, Int.reduceLE, Int.reduceLT, Int.reduceNeg, Int.reduceDiv, Int.reduceMod, Int.reduceEq, Int.reduceBEq, Int.reduceBNe, f5, f5b, f5r0, f5r1, f5r2, f5r3, f5r4, f5r5, f5r6, f5r7, f5r8, f5r9, f5r10, f5r11, f5r12, f5r13, f5r14, f5r15, f5r16, f5r17, f5r19, f5r20, f5r21, f5r22, f5r23, f5r24, f5r25, f5r26, f5r27, f5r28, f5r29, f5r30, f5r31, f5r32, f5r33, f5r35, f5r36, f5r37, f5r38, f5r40, f5l0, f5, f5b, f5r0, f5r1, f5r2, f5r3, f5r4, f5r5, f5r6, f5r7, f5r8, f5r9, f5r10, f5r11, f5r12, f5r13, f5r14, f5r15, f5r16, f5r17, f5r19, f5r20, f5r21, f5r22, f5r23, f5r24, f5r25, f5r26, f5r27, f5r28, f5r29, f5r30, f5r31, f5r32, f5r33, f5r35, f5r36, f5r37, f5r38, f5r40, hp, get_old hp, y0] | (refine BrW.of (fun hb => ?_) (fun hb => ?_) <;> (have hb' := hb; try simp only [decide_eq_true_eq, decide_eq_false_iff_not, beq_iff_eq, bne_iff_ne, beq_eq_false_iff_ne, bne_eq_false_iff_eq, Bool.not_eq_true', Bool.not_eq_false', Bool.not_eq_true, Bool.not_eq_false, Bool.and_eq_true, Bool.or_eq_true, Bool.and_eq_false_iff, Bool.or_eq_false_iff, Int.not_lt, Int.not_le, ne_eq, gt_iff_lt, ge_iff_le] at hb') <;> (try (exfalso; omega))) | (refine altW.of ?_ ?_) | (refine .of ((hS _).mono ?_); rintro v J ⟨rfl, rfl⟩) | (refine .of ((hA _).mono ?_); rintro v J ⟨rfl, rfl⟩)
          exact .here rfl
      · repeat' first | simp (disch := first | with_reducible assumption | omega) only [go_sem, Bool.true_and, Bool.and_true, Bool.and_self, Bool.false_and, Bool.and_false, Bool.true_or, Bool.or_true, Bool.false_or, Bool.or_false, ↓reduceIte, Nat.reduceEqDiff, Nat.reduceAdd, Nat.reduceMul, Nat.reduceSub, Nat.reduceBEq, Nat.reduceLeDiff, Nat.reduceLT, Nat.reduceMod, Nat.reduceDiv, Int.reduceToNat, Int.reducePow, Int.reduceMul, Int.reduceAdd, Int.reduceSub, Int.reduceLE, Int.reduceLT, Int.reduceNeg, Int.reduceDiv, Int.reduceMod, Int.reduceEq, Int.reduceBEq, Int.reduceBNe, f5, f5b, f5r0, f5r1, f5r2, f5r3, f5r4, f5r5, f5r6, f5r7, f5r8, f5r9, f5r10, f5r11, f5r12, f5r13, f5r14, f5r15, f5r16, f5r17, f5r19, f5r20, f5r21, f5r22, f5r23, f5r24, f5r25, f5r26, f5r27, f5r28, f5r29, f5r30, f5r31, f5r32, f5r33, f5r35, f5r36, f5r37, f5r38, f5r40, f5l0, f5, f5b, f5r0, f5r1, f5r2, f5r3, f5r4, f5r5, f5r6, f5r7, f5r8, f5r9, f5r10, f5r11, f5r12, f5r13, f5r14, f5r15, f5r16, f5r17, f5r19, f5r20, f5r21, f5r22, f5r23, f5r24, f5r25, f5r26, f5r27, f5r28, f5r29, f5r30, f5r31, f5r32, f5r33, f5r35, f5r36, f5r37, f5r38, f5r40, hp, get_old hp, y0] | (refine BrW.of (fun hb => ?_) (fun hb => ?_) <;> (have hb' := hb; try simp only [decide_eq_true_eq, decide_eq_false_iff_not, beq_iff_eq, bne_iff_ne, beq_eq_false_iff_ne, bne_eq_false_iff_eq, Bool.not_eq_true', Bool.not_eq_false', Bool.not_eq_true, Bool.not_eq_false, Bool.and_eq_true, Bool.or_eq_true, Bool.and_eq_false_iff, Bool.or_eq_false_iff, Int.not_lt, Int.not_le, ne_eq, gt_iff_lt, ge_iff_le] at hb') <;> (try (exfalso; omega))) | (refine altW.of ?_ ?_) | (refine .of ((hS _).mono ?_); rintro v J ⟨rfl, rfl⟩)
        exact .here rfl
    · obtain rfl : i = p.length := by omega
      rw [List.take_length, hfin, F.of_one] at hfa
      subst hfa
      repeat' first | simp (disch := first | with_reducible assumption | omega) only [go_sem, Bool.true_and, Bool.and_true, Bool.and_self, Bool.false_and, Bool.and_false, Bool.true_or, Bool.or_true, Bool.false_or, Bool.or_false, ↓reduceIte, Nat.reduceEqDiff, Nat.reduceAdd, Nat.reduceMul, Nat.reduceSub, Nat.reduceBEq, Nat.reduceLeDiff, Nat.reduceLT, Nat.reduceMod, Nat.reduceDiv, Int.reduceToNat, Int.reducePow, Int.reduceMul, Int.reduceAdd, Int.reduceSub, Int.reduceLE, Int.reduceLT, Int.reduceNeg, Int.reduceDiv, Int.reduceMod, Int.reduceEq, Int.reduceBEq, Int.reduceBNe, f5, f5b, f5r0, f5r1, f5r2, f5r3, f5r4, f5r5, f5r6, f5r7, f5r8, f5r9, f5r10, f5r11, f5r12, f5r13, f5r14, f5r15, f5r16, f5r17, f5r19, f5r20, f5r21, f5r22, f5r23, f5r24, f5r25, f5r26, f5r27, f5r28, f5r29, f5r30, f5r31, f5r32, f5r33, f5r35, f5r36, f5r37, f5r38, f5r40, f5l0, hk, get_old hk] | (refine BrW.of (fun hb => ?_) (fun hb => ?_) <;> (have hb' := hb; try simp only [decide_eq_true_eq, decide_eq_false_iff_not, beq_iff_eq, bne_iff_ne, beq_eq_false_iff_ne, bne_eq_false_iff_eq, Bool.not_eq_true', Bool.not_eq_false', Bool.not_eq_true, Bool.not_eq_false, Bool.and_eq_true, Bool.or_eq_true, Bool.and_eq_false_iff, Bool.or_eq_false_iff, Int.not_lt, Int.not_le, ne_eq, gt_iff_lt, ge_iff_le] at hb') <;> (try (exfalso; omega))) | (refine altW.of ?_ ?_)
      refine loopW.of (by decide) (fun m e J => ∃ (q : Nat) (x : Heap), e = [(0, slv k 0 0 l.length cc), (3, slv kp 0 gp p.length p.length), (5, .pointer (some ⟨G.length, 0, some 1⟩)), (62, .int .i64 l.length), (63, .int .i64 q)] ∧ J = G ++ (.cells 0 0 false [.int .i64 1, .int .i64 1] :: x) ∧ q ≤ l.length ∧ m = l.length - q) l.length ⟨0, _, rfl, rfl, by omega, rfl⟩ ?_
      rintro m e J ⟨q, x2, rfl, rfl, hq, rfl⟩
      by_cases hql : q < l.length
      · cases hkd : kids l q with
        | false =>
          have hC := fun x => hCo q x
          rw [decide_eq_true ((hmem q).2 ⟨by omega, by omega, hkd⟩)] at hC
          clear hSh hAd hCo
          repeat' first | simp (disch := first | with_reducible assumption | omega) only [go_sem, Bool.true_and, Bool.and_true, Bool.and_self, Bool.false_and, Bool.and_false, Bool.true_or, Bool.or_true, Bool.false_or, Bool.or_false, ↓reduceIte, Nat.reduceEqDiff, Nat.reduceAdd, Nat.reduceMul, Nat.reduceSub, Nat.reduceBEq, Nat.reduceLeDiff, Nat.reduceLT, Nat.reduceMod, Nat.reduceDiv, Int.reduceToNat, Int.reducePow, Int.reduceMul, Int.reduceAdd, Int.reduceSub, Int.reduceLE, Int.reduceLT, Int.reduceNeg, Int.reduceDiv, Int.reduceMod, Int.reduceEq, Int.reduceBEq, Int.reduceBNe, f5, f5b, f5r0, f5r1, f5r2, f5r3, f5r4, f5r5, f5r6, f5r7, f5r8, f5r9, f5r10, f5r11, f5r12, f5r13, f5r14, f5r15, f5r16, f5r17, f5r19, f5r20, f5r21, f5r22, f5r23, f5r24, f5r25, f5r26, f5r27, f5r28, f5r29, f5r30, f5r31, f5r32, f5r33, f5r35, f5r36, f5r37, f5r38, f5r40, f5l2] | (refine BrW.of (fun hb => ?_) (fun hb => ?_) <;> (have hb' := hb; try simp only [decide_eq_true_eq, decide_eq_false_iff_not, beq_iff_eq, bne_iff_ne, beq_eq_false_iff_ne, bne_eq_false_iff_eq, Bool.not_eq_true', Bool.not_eq_false', Bool.not_eq_true, Bool.not_eq_false, Bool.and_eq_true, Bool.or_eq_true, Bool.and_eq_false_iff, Bool.or_eq_false_iff, Int.not_lt, Int.not_le, ne_eq, gt_iff_lt, ge_iff_le] at hb') <;> (try (exfalso; omega))) | (refine altW.of ?_ ?_) | (refine .of ((hC _).mono ?_); rintro v J ⟨rfl, rfl⟩)
          refine RdW.keep [0, 3, 5, 62, 63] (l.length - (q + 1)) (by omega) ?_
          simp (disch := first | with_reducible assumption | omega) only [go_sem, Bool.true_and, Bool.and_true, Bool.and_self, Bool.false_and, Bool.and_false, Bool.true_or, Bool.or_true, Bool.false_or, Bool.or_false, ↓reduceIte, Nat.reduceEqDiff, Nat.reduceAdd, Nat.reduceMul, Nat.reduceSub, Nat.reduceBEq, Nat.reduceLeDiff, Nat.reduceLT, Nat.reduceMod, Nat.reduceDiv, Int.reduceToNat, Int.reducePow, Int.reduceMul, Int.reduceAdd, Int.reduceSub, Int.reduceLE, Int.reduceLT, Int.reduceNeg, Int.reduceDiv, Int.reduceMod, Int.reduceEq, Int.reduceBEq, Int.reduceBNe]
          exact ⟨q + 1, _, rfl, rfl, by omega, rfl⟩
        | true =>
          have hC := fun x => hCo q x
          rw [decide_eq_false (fun h => by have := (hmem q).1 h; rw [hkd] at this; cases this.2.2)] at hC
          clear hCo
          repeat' first | simp (disch := first | with_reducible assumption | omega) only [go_sem, Bool.true_and, Bool.and_true, Bool.and_self, Bool.false_and, Bool.and_false, Bool.true_or, Bool.or_true, Bool.false_or, Bool.or_false, ↓reduceIte, Nat.reduceEqDiff, Nat.reduceAdd, Nat.reduceMul, Nat.reduceSub, Nat.reduceBEq, Nat.reduceLeDiff, Nat.reduceLT, Nat.reduceMod, Nat.reduceDiv, Int.reduceToNat, Int.reducePow, Int.reduceMul, Int.reduceAdd, Int.reduceSub, Int.reduceLE, Int.reduceLT, Int.reduceNeg, Int.reduceDiv, Int.reduceMod, Int.reduceEq, Int.reduceBEq, Int.reduceBNe, f5, f5b, f5r0, f5r1, f5r2, f5r3, f5r4, f5r5, f5r6, f5r7, f5r8, f5r9, f5r10, f5r11, f5r12, f5r13, f5r14, f5r15, f5r16, f5r17, f5r19, f5r20, f5r21, f5r22, f5r23, f5r24, f5r25, f5r26, f5r27, f5r28, f5r29, f5r30, f5r31, f5r32, f5r33, f5r35, f5r36, f5r37, f5r38, f5r40, f5l2, hk, get_old hk] | (refine BrW.of (fun hb => ?_) (fun hb => ?_) <;> (have hb' := hb; try simp only [decide_eq_true_eq, decide_eq_false_iff_not, beq_iff_eq, bne_iff_ne, beq_eq_false_iff_ne, bne_eq_false_iff_eq, Bool.not_eq_true', Bool.not_eq_false', Bool.not_eq_true, Bool.not_eq_false, Bool.and_eq_true, Bool.or_eq_true, Bool.and_eq_false_iff, Bool.or_eq_false_iff, Int.not_lt, Int.not_le, ne_eq, gt_iff_lt, ge_iff_le] at hb') <;> (try (exfalso; omega))) | (refine altW.of ?_ ?_) | (refine .of ((hC _).mono ?_); rintro v J ⟨rfl, rfl⟩)
          refine loopW.of (by decide) (fun m e J => ∃ (i : Nat) (fk : F) (y : Heap), e = [(0, slv k 0 0 l.length cc), (3, slv kp 0 gp p.length p.length), (5, .pointer (some ⟨G.length, 0, some 1⟩)), (12, .int .i64 q), (13, .pointer (some ⟨G.length + (x2.length + 1), 0, some 1⟩)), (62, .int .i64 l.length), (63, .int .i64 q), (70, slv k 0 0 l.length cc), (71, .int .i64 l.length), (72, .int .i64 i)] ∧
            J = G ++ (.cells 0 0 false [.int .i64 1, .int .i64 1] :: (x2 ++ (.cells 0 0 false [.int .i64 fk.num, .int .i64 fk.den] :: y))) ∧ i ≤ l.length ∧ m = l.length - i ∧ fk = F.of (kidQ l q i) ∧ fk.right ∧ ∀ j, j < i → up l j = (q : Int) → (share l j).2 = 0) l.length ⟨0, ⟨0, 1⟩, [], rfl, rfl, by omega, rfl, F.of_zero.symm, by unfold F.right; decide, fun j hj => by omega⟩ ?_
          rintro m e J ⟨i, fk, y, rfl, rfl, hi2, rfl, hfk, hrk, hall⟩
          by_cases hil2 : i < l.length
          · have e0 : cs[0 + i * 2]? = some (.int .i64 (up l i)) := hcs i hil2 0 (by omega)
            have e1 : cs[0 + i * 2 + 1]? = some (.int .i64 (wt l i)) := hcs i hil2 1 (by omega)
            rw [Nat.zero_add] at e0 e1
            have hnx : kidQ l q (i + 1) = kidQ l q i + (if up l i = (q : Int) then shQ l i else 0) := rfl
            by_cases hu : up l i = (q : Int)
            · rw [if_pos hu] at hnx
              rw [hu] at e0
              have sa := share_spec h0 hil2
              have hS := fun x => hSh i hil2 x
              have hall2 : (share l i).2 = 0 → ∀ j, j < i + 1 → up l j = (q : Int) → (share l j).2 = 0 := fun h j hj hju => by
                by_cases hji : j = i
                · subst hji; exact h
                · exact hall j (by omega) hju
              clear hSh hall
              generalize hsh : share l i = s at *
              obtain ⟨fs, es⟩ := s
              simp only at hS sa hall2
              generalize wt l i = w at *
              rcases sa with ⟨rfl, rs, _, rfl⟩ | rfl
              · have hA := fun J => hAd fk (F.of (shQ l i)) J
                have ha := add_of (a := kidQ l q i) (b := shQ l i) (by rw [← hfk]; exact hrk) rs
                rw [← hfk] at ha
                have hall2 := hall2 rfl
                clear hAd
                generalize addF fk (F.of (shQ l i)) = s at *
                obtain ⟨fb, eb⟩ := s
                simp only at hA ha
                generalize F.of (shQ l i) = fs at *
                rcases ha with ⟨rfl, rfl, rb⟩ | rfl
                · repeat' first | simp (disch := first | with_reducible assumption | omega) only [go_sem, Bool.true_and, Bool.and_true, Bool.and_self, Bool.false_and, Bool.and_false, Bool.true_or, Bool.or_true, Bool.false_or, Bool.or_false, ↓reduceIte, Nat.reduceEqDiff, Nat.reduceAdd, Nat.reduceMul, Nat.reduceSub, Nat.reduceBEq, Nat.reduceLeDiff, Nat.reduceLT, Nat.reduceMod, Nat.reduceDiv, Int.reduceToNat, Int.reducePow, Int.reduceMul, Int.reduceAdd, Int.reduceSub, Int.reduceLE, Int.reduceLT, Int.reduceNeg, Int.reduceDiv, Int.reduceMod, Int.reduceEq, Int.reduceBEq, Int.reduceBNe, f5, f5b, f5r0, f5r1, f5r2, f5r3, f5r4, f5r5, f5r6, f5r7, f5r8, f5r9, f5r10, f5r11, f5r12, f5r13, f5r14, f5r15, f5r16, f5r17, f5r19, f5r20, f5r21, f5r22, f5r23, f5r24, f5r25, f5r26, f5r27, f5r28, f5r29, f5r30, f5r31, f5r32, f5r33, f5r35, f5r36, f5r37, f5r38, f5r40, f5l1, hk, get_old hk, e0, e1] | (refine BrW.of (fun hb => ?_) (fun hb => ?_) <;> (have hb' := hb; try simp only [decide_eq_true_eq, decide_eq_false_iff_not, beq_iff_eq, bne_iff_ne, beq_eq_false_iff_ne, bne_eq_false_iff_eq, Bool.not_eq_true', Bool.not_eq_false', Bool.not_eq_true, Bool.not_eq_false, Bool.and_eq_true, Bool.or_eq_true, Bool.and_eq_false_iff, Bool.or_eq_false_iff, Int.not_lt, Int.not_le, ne_eq, gt_iff_lt, ge_iff_le] at hb') <;> (try (exfalso; omega))) | (refine altW.of ?_ ?_) | (refine .of ((hS _).mono ?_); rintro v J ⟨rfl, rfl⟩) | (refine .of ((hA _).mono ?_); rintro v J ⟨rfl, rfl⟩)
                  refine RdW.keep [0, 3, 5, 12, 13, 62, 63, 70, 71, 72] (l.length - (i + 1)) (by omega) ?_
                  simp (disch := first | with_reducible assumption | omega) only [go_sem, Bool.true_and, Bool.and_true, Bool.and_self, Bool.false_and, Bool.and_false, Bool.true_or, Bool.or_true, Bool.false_or, Bool.or_false, ↓reduceIte, Nat.reduceEqDiff, Nat.reduceAdd, Nat.reduceMul, Nat.reduceSub, Nat.reduceBEq, Nat.reduceLeDiff, Nat.reduceLT, Nat.reduceMod, Nat.reduceDiv, Int.reduceToNat, Int.reducePow, Int.reduceMul, Int.reduceAdd, Int.reduceSub, Int.reduceLE, Int.reduceLT, Int.reduceNeg, Int.reduceDiv, Int.reduceMod, Int.reduceEq, Int.reduceBEq, Int.reduceBNe]
                  exact ⟨i + 1, _, _, rfl, rfl, by omega, rfl, by rw [hnx], rb, hall2⟩
                · repeat' first | simp (disch := first | with_reducible assumption | omega) only [go_sem, Bool.true_and, Bool.and_true, Bool.and_self, Bool.false_and, Bool.and_false, Bool.true_or, Bool.or_true, Bool.false_or, Bool.or_false, ↓reduceIte, Nat.reduceEqDiff, Nat.reduceAdd, Nat.reduceMul, Nat.reduceSub, Nat.reduceBEq, Nat.reduceLeDiff, Nat.reduceLT, Nat.reduceMod, Nat.reduceDiv, Int.reduceToNat, Int.reducePow, Int.reduceMul, Int.reduceAdd, Int.reduceSub, Int.reduceLE, Int.reduceLT, Int.reduceNeg, Int.reduceDiv, Int.reduceMod, Int.reduceEq, Int.reduceBEq, Int.reduceBNe, f5, f5b, f5r0, f5r1, f5r2, f5r3, f5r4, f5r5, f5r6, f5r7, f5r8, f5r9, f5r10, f5r11, f5r12, f5r13, f5r14, f5r15, f5r16, f5r17, f5r19, f5r20, f5r21, f5r22, f5r23, f5r24, f5r25, f5r26, f5r27, f5r28, f5r29, f5r30, f5r31, f5r32, f5r33, f5r35, f5r36, f5r37, f5r38, f5r40, f5l1, f5, f5b, f5r0, f5r1, f5r2, f5r3, f5r4, f5r5, f5r6, f5r7, f5r8, f5r9, f5r10, f5r11, f5r12, f5r13, f5r14, f5r15, f5r16, f5r17, f5r19, f5r20, f5r21, f5r22, f5r23, f5r24, f5r25, f5r26, f5r27, f5r28, f5r29, f5r30, f5r31, f5r32, f5r33, f5r35, f5r36, f5r37, f5r38, f5r40, f5l2, f5, f5b, f5r0, f5r1, f5r2, f5r3, f5r4, f5r5, f5r6, f5r7, f5r8, f5r9, f5r10, f5r11, f5r12, f5r13, f5r14, f5r15, f5r16, f5r17, f5r19, f5r20, f5r21, f5r22, f5r23, f5r24, f5r25, f5r26, f5r27, f5r28, f5r29, f5r30, f5r31, f5r32, f5r33, f5r35, f5r36, f5r37, f5r38, f5r40, hk, get_old hk, e0, e1] | (refine BrW.of (fun hb => ?_) (fun hb => ?_) <;> (have hb' := hb; try simp only [decide_eq_true_eq, decide_eq_false_iff_not, beq_iff_eq, bne_iff_ne, beq_eq_false_iff_ne, bne_eq_false_iff_eq, Bool.not_eq_true', Bool.not_eq_false', Bool.not_eq_true, Bool.not_eq_false, Bool.and_eq_true, Bool.or_eq_true, Bool.and_eq_false_iff, Bool.or_eq_false_iff, Int.not_lt, Int.not_le, ne_eq, gt_iff_lt, ge_iff_le] at hb') <;> (try (exfalso; omega))) | (refine altW.of ?_ ?_) | (refine .of ((hS _).mono ?_); rintro v J ⟨rfl, rfl⟩) | (refine .of ((hA _).mono ?_); rintro v J ⟨rfl, rfl⟩)
                  exact .here rfl
              · have hA := fun J => hAd fk fs J
                clear hAd
                generalize addF fk fs = s at *
                obtain ⟨fb, eb⟩ := s
                simp only at hA
                repeat' first | simp (disch := first | with_reducible assumption | omega) only [go_sem, Bool.true_and, Bool.and_true, Bool.and_self, Bool.false_and, Bool.and_false, Bool.true_or, Bool.or_true, Bool.false_or, Bool.or_false, ↓reduceIte, Nat.reduceEqDiff, Nat.reduceAdd, Nat.reduceMul, Nat.reduceSub, Nat.reduceBEq, Nat.reduceLeDiff, Nat.reduceLT, Nat.reduceMod, Nat.reduceDiv, Int.reduceToNat, Int.reducePow, Int.reduceMul, Int.reduceAdd, Int.reduceSub, Int.reduceLE, Int.reduceLT, Int.reduceNeg, Int.reduceDiv, Int.reduceMod, Int.reduceEq, Int.reduceBEq, Int.reduceBNe, f5, f5b, f5r0, f5r1, f5r2, f5r3, f5r4, f5r5, f5r6, f5r7, f5r8, f5r9, f5r10, f5r11, f5r12, f5r13, f5r14, f5r15, f5r16, f5r17, f5r19, f5r20, f5r21, f5r22, f5r23, f5r24, f5r25, f5r26, f5r27, f5r28, f5r29, f5r30, f5r31, f5r32, f5r33, f5r35, f5r36, f5r37, f5r38, f5r40, f5l1, f5, f5b, f5r0, f5r1, f5r2, f5r3, f5r4, f5r5, f5r6, f5r7, f5r8, f5r9, f5r10, f5r11, f5r12, f5r13, f5r14, f5r15, f5r16, f5r17, f5r19, f5r20, f5r21, f5r22, f5r23, f5r24, f5r25, f5r26, f5r27, f5r28, f5r29, f5r30, f5r31, f5r32, f5r33, f5r35, f5r36, f5r37, f5r38, f5r40, f5l2, f5, f5b, f5r0, f5r1, f5r2, f5r3, f5r4, f5r5, f5r6, f5r7, f5r8, f5r9, f5r10, f5r11, f5r12, f5r13, f5r14, f5r15, f5r16, f5r17, f5r19, f5r20, f5r21, f5r22, f5r23, f5r24, f5r25, f5r26, f5r27, f5r28, f5r29, f5r30, f5r31, f5r32, f5r33, f5r35, f5r36, f5r37, f5r38, f5r40, hk, get_old hk, e0, e1] | (refine BrW.of (fun hb => ?_) (fun hb => ?_) <;> (have hb' := hb; try simp only [decide_eq_true_eq, decide_eq_false_iff_not, beq_iff_eq, bne_iff_ne, beq_eq_false_iff_ne, bne_eq_false_iff_eq, Bool.not_eq_true', Bool.not_eq_false', Bool.not_eq_true, Bool.not_eq_false, Bool.and_eq_true, Bool.or_eq_true, Bool.and_eq_false_iff, Bool.or_eq_false_iff, Int.not_lt, Int.not_le, ne_eq, gt_iff_lt, ge_iff_le] at hb') <;> (try (exfalso; omega))) | (refine altW.of ?_ ?_) | (refine .of ((hS _).mono ?_); rintro v J ⟨rfl, rfl⟩) | (refine .of ((hA _).mono ?_); rintro v J ⟨rfl, rfl⟩)
                exact .here rfl
            · rw [if_neg hu, Rat.add_zero] at hnx
              have hall2 : ∀ j, j < i + 1 → up l j = (q : Int) → (share l j).2 = 0 := fun j hj hju => by
                by_cases hji : j = i
                · subst hji; exact absurd hju hu
                · exact hall j (by omega) hju
              clear hSh hAd hall
              generalize hui : up l i = u at *
              generalize wt l i = w at *
              repeat' first | simp (disch := first | with_reducible assumption | omega) only [go_sem, Bool.true_and, Bool.and_true, Bool.and_self, Bool.false_and, Bool.and_false, Bool.true_or, Bool.or_true, Bool.false_or, Bool.or_false, ↓reduceIte, Nat.reduceEqDiff, Nat.reduceAdd, Nat.reduceMul, Nat.reduceSub, Nat.reduceBEq, Nat.reduceLeDiff, Nat.reduceLT, Nat.reduceMod, Nat.reduceDiv, Int.reduceToNat, Int.reducePow, Int.reduceMul, Int.reduceAdd, Int.reduceSub, Int.reduceLE, Int.reduceLT, Int.reduceNeg, Int.reduceDiv, Int.reduceMod, Int.reduceEq, Int.reduceBEq, Int.reduceBNe, f5, f5b, f5r0, f5r1, f5r2, f5r3, f5r4, f5r5, f5r6, f5r7, f5r8, f5r9, f5r10, f5r11, f5r12, f5r13, f5r14, f5r15, f5r16, f5r17, f5r19, f5r20, f5r21, f5r22, f5r23, f5r24, f5r25, f5r26, f5r27, f5r28, f5r29, f5r30, f5r31, f5r32, f5r33, f5r35, f5r36, f5r37, f5r38, f5r40, f5l1, hk, get_old hk, e0, e1] | (refine BrW.of (fun hb => ?_) (fun hb => ?_) <;> (have hb' := hb; try simp only [decide_eq_true_eq, decide_eq_false_iff_not, beq_iff_eq, bne_iff_ne, beq_eq_false_iff_ne, bne_eq_false_iff_eq, Bool.not_eq_true', Bool.not_eq_false', Bool.not_eq_true, Bool.not_eq_false, Bool.and_eq_true, Bool.or_eq_true, Bool.and_eq_false_iff, Bool.or_eq_false_iff, Int.not_lt, Int.not_le, ne_eq, gt_iff_lt, ge_iff_le] at hb') <;> (try (exfalso; omega))) | (refine altW.of ?_ ?_)
              refine RdW.keep [0, 3, 5, 12, 13, 62, 63, 70, 71, 72] (l.length - (i + 1)) (by omega) ?_
              simp (disch := first | with_reducible assumption | omega) only [go_sem, Bool.true_and, Bool.and_true, Bool.and_self, Bool.false_and, Bool.and_false, Bool.true_or, Bool.or_true, Bool.false_or, Bool.or_false, ↓reduceIte, Nat.reduceEqDiff, Nat.reduceAdd, Nat.reduceMul, Nat.reduceSub, Nat.reduceBEq, Nat.reduceLeDiff, Nat.reduceLT, Nat.reduceMod, Nat.reduceDiv, Int.reduceToNat, Int.reducePow, Int.reduceMul, Int.reduceAdd, Int.reduceSub, Int.reduceLE, Int.reduceLT, Int.reduceNeg, Int.reduceDiv, Int.reduceMod, Int.reduceEq, Int.reduceBEq, Int.reduceBNe]
              exact ⟨i + 1, _, _, rfl, rfl, by omega, rfl, by rw [hnx]; exact hfk, hrk, hall2⟩
          · obtain rfl : i = l.length := by omega
            rw [kidQ_all h0 hql hkd] at hfk
            obtain ⟨j, hj, hju⟩ := (kids_iff l q).1 hkd
            have hok := share_up h0 hj hju (hall j hj hju)
            have sa := share_spec h0 hql
            have hS := fun x => hSh q hql x
            clear hSh hAd hall
            generalize share l q = s at *
            obtain ⟨fs, es⟩ := s
            simp only at hS sa hok
            subst hok
            rcases sa with ⟨_, rs, _, rfl⟩ | h4
            · rw [← hfk] at hS rs
              have hsame : sameS [false, false] [Value.int IntKind.i64 fk.num, Value.int IntKind.i64 fk.den] [Value.int IntKind.i64 fk.num, Value.int IntKind.i64 fk.den] = some true := by simp [sameS]
              repeat' first | simp (disch := first | with_reducible assumption | omega) only [go_sem, Bool.true_and, Bool.and_true, Bool.and_self, Bool.false_and, Bool.and_false, Bool.true_or, Bool.or_true, Bool.false_or, Bool.or_false, ↓reduceIte, Nat.reduceEqDiff, Nat.reduceAdd, Nat.reduceMul, Nat.reduceSub, Nat.reduceBEq, Nat.reduceLeDiff, Nat.reduceLT, Nat.reduceMod, Nat.reduceDiv, Int.reduceToNat, Int.reducePow, Int.reduceMul, Int.reduceAdd, Int.reduceSub, Int.reduceLE, Int.reduceLT, Int.reduceNeg, Int.reduceDiv, Int.reduceMod, Int.reduceEq, Int.reduceBEq, Int.reduceBNe, f5, f5b, f5r0, f5r1, f5r2, f5r3, f5r4, f5r5, f5r6, f5r7, f5r8, f5r9, f5r10, f5r11, f5r12, f5r13, f5r14, f5r15, f5r16, f5r17, f5r19, f5r20, f5r21, f5r22, f5r23, f5r24, f5r25, f5r26, f5r27, f5r28, f5r29, f5r30, f5r31, f5r32, f5r33, f5r35, f5r36, f5r37, f5r38, f5r40, f5l1, f5, f5b, f5r0, f5r1, f5r2, f5r3, f5r4, f5r5, f5r6, f5r7, f5r8, f5r9, f5r10, f5r11, f5r12, f5r13, f5r14, f5r15, f5r16, f5r17, f5r19, f5r20, f5r21, f5r22, f5r23, f5r24, f5r25, f5r26, f5r27, f5r28, f5r29, f5r30, f5r31, f5r32, f5r33, f5r35, f5r36, f5r37, f5r38, f5r40, f5l2, hk, get_old hk, hsame] | (refine BrW.of (fun hb => ?_) (fun hb => ?_) <;> (have hb' := hb; try simp only [decide_eq_true_eq, decide_eq_false_iff_not, beq_iff_eq, bne_iff_ne, beq_eq_false_iff_ne, bne_eq_false_iff_eq, Bool.not_eq_true', Bool.not_eq_false', Bool.not_eq_true, Bool.not_eq_false, Bool.and_eq_true, Bool.or_eq_true, Bool.and_eq_false_iff, Bool.or_eq_false_iff, Int.not_lt, Int.not_le, ne_eq, gt_iff_lt, ge_iff_le] at hb') <;> (try (exfalso; omega))) | (refine altW.of ?_ ?_) | (refine .of ((hS _).mono ?_); rintro v J ⟨rfl, rfl⟩)
              refine RdW.keep [0, 3, 5, 62, 63] (l.length - (q + 1)) (by omega) ?_
              simp (disch := first | with_reducible assumption | omega) only [go_sem, Bool.true_and, Bool.and_true, Bool.and_self, Bool.false_and, Bool.and_false, Bool.true_or, Bool.or_true, Bool.false_or, Bool.or_false, ↓reduceIte, Nat.reduceEqDiff, Nat.reduceAdd, Nat.reduceMul, Nat.reduceSub, Nat.reduceBEq, Nat.reduceLeDiff, Nat.reduceLT, Nat.reduceMod, Nat.reduceDiv, Int.reduceToNat, Int.reducePow, Int.reduceMul, Int.reduceAdd, Int.reduceSub, Int.reduceLE, Int.reduceLT, Int.reduceNeg, Int.reduceDiv, Int.reduceMod, Int.reduceEq, Int.reduceBEq, Int.reduceBNe]
              exact ⟨q + 1, _, rfl, rfl, by omega, rfl⟩
            · omega
      · obtain rfl : q = l.length := by omega
        have hsame : sameS [false, false] [Value.int IntKind.i64 1, Value.int IntKind.i64 1] [Value.int IntKind.i64 1, Value.int IntKind.i64 1] = some true := by decide
        repeat' first | simp (disch := first | with_reducible assumption | omega) only [go_sem, Bool.true_and, Bool.and_true, Bool.and_self, Bool.false_and, Bool.and_false, Bool.true_or, Bool.or_true, Bool.false_or, Bool.or_false, ↓reduceIte, Nat.reduceEqDiff, Nat.reduceAdd, Nat.reduceMul, Nat.reduceSub, Nat.reduceBEq, Nat.reduceLeDiff, Nat.reduceLT, Nat.reduceMod, Nat.reduceDiv, Int.reduceToNat, Int.reducePow, Int.reduceMul, Int.reduceAdd, Int.reduceSub, Int.reduceLE, Int.reduceLT, Int.reduceNeg, Int.reduceDiv, Int.reduceMod, Int.reduceEq, Int.reduceBEq, Int.reduceBNe, f5, f5b, f5r0, f5r1, f5r2, f5r3, f5r4, f5r5, f5r6, f5r7, f5r8, f5r9, f5r10, f5r11, f5r12, f5r13, f5r14, f5r15, f5r16, f5r17, f5r19, f5r20, f5r21, f5r22, f5r23, f5r24, f5r25, f5r26, f5r27, f5r28, f5r29, f5r30, f5r31, f5r32, f5r33, f5r35, f5r36, f5r37, f5r38, f5r40, f5l2, f5, f5b, f5r0, f5r1, f5r2, f5r3, f5r4, f5r5, f5r6, f5r7, f5r8, f5r9, f5r10, f5r11, f5r12, f5r13, f5r14, f5r15, f5r16, f5r17, f5r19, f5r20, f5r21, f5r22, f5r23, f5r24, f5r25, f5r26, f5r27, f5r28, f5r29, f5r30, f5r31, f5r32, f5r33, f5r35, f5r36, f5r37, f5r38, f5r40, hsame] | (refine BrW.of (fun hb => ?_) (fun hb => ?_) <;> (have hb' := hb; try simp only [decide_eq_true_eq, decide_eq_false_iff_not, beq_iff_eq, bne_iff_ne, beq_eq_false_iff_ne, bne_eq_false_iff_eq, Bool.not_eq_true', Bool.not_eq_false', Bool.not_eq_true, Bool.not_eq_false, Bool.and_eq_true, Bool.or_eq_true, Bool.and_eq_false_iff, Bool.or_eq_false_iff, Int.not_lt, Int.not_le, ne_eq, gt_iff_lt, ge_iff_le] at hb') <;> (try (exfalso; omega))) | (refine altW.of ?_ ?_)
        exact .here rfl
  · have hne : ¬ e = 0 := fun h => h0 (he.1 h)
    obtain rfl := hbad hne
    repeat' first | simp (disch := first | with_reducible assumption | omega) only [go_sem, Bool.true_and, Bool.and_true, Bool.and_self, Bool.false_and, Bool.and_false, Bool.true_or, Bool.or_true, Bool.false_or, Bool.or_false, ↓reduceIte, Nat.reduceEqDiff, Nat.reduceAdd, Nat.reduceMul, Nat.reduceSub, Nat.reduceBEq, Nat.reduceLeDiff, Nat.reduceLT, Nat.reduceMod, Nat.reduceDiv, Int.reduceToNat, Int.reducePow, Int.reduceMul, Int.reduceAdd, Int.reduceSub, Int.reduceLE, Int.reduceLT, Int.reduceNeg, Int.reduceDiv, Int.reduceMod, Int.reduceEq, Int.reduceBEq, Int.reduceBNe, f5, f5b, f5r0, f5r1, f5r2, f5r3, f5r4, f5r5, f5r6, f5r7, f5r8, f5r9, f5r10, f5r11, f5r12, f5r13, f5r14, f5r15, f5r16, f5r17, f5r19, f5r20, f5r21, f5r22, f5r23, f5r24, f5r25, f5r26, f5r27, f5r28, f5r29, f5r30, f5r31, f5r32, f5r33, f5r35, f5r36, f5r37, f5r38, f5r40] | (refine BrW.of (fun hb => ?_) (fun hb => ?_) <;> (have hb' := hb; try simp only [decide_eq_true_eq, decide_eq_false_iff_not, beq_iff_eq, bne_iff_ne, beq_eq_false_iff_ne, bne_eq_false_iff_eq, Bool.not_eq_true', Bool.not_eq_false', Bool.not_eq_true, Bool.not_eq_false, Bool.and_eq_true, Bool.or_eq_true, Bool.and_eq_false_iff, Bool.or_eq_false_iff, Int.not_lt, Int.not_le, ne_eq, gt_iff_lt, ge_iff_le] at hb') <;> (try (exfalso; omega))) | (refine altW.of ?_ ?_)
    all_goals first | exact .here rfl | (exfalso; omega)
end Go.Proofs.Ytlnocgfblheehaa
