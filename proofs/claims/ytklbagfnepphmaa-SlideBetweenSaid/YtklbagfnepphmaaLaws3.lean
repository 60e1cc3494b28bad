import Derived.Test.YtklbagfnepphmaaLaws2
set_option linter.unusedSimpArgs false
set_option linter.unusedVariables false
set_option maxHeartbeats 1000000
set_option maxRecDepth 20000
namespace Go.Proofs.Ytklbagfnepphmaa
open Go Go.Am
attribute [local irreducible] opsW Ww loopW callW drawW outW outDW gW cW BrW bothW vW resW DropW RdW dcallW Later.run

theorem Most_u (w : Int) (l : List Int) (k o g c : Nat) (H : Heap) (hs : Ints H k o g l) (hl : l.length ≤ 9223372036854775807) :
    ACallK Try.prog 9 [.int .i64 w, slv k o g l.length c] H (fun v H' => ∃ a e, v = .tuple #[a, .int .i64 e] ∧ Le H H' ∧ (e = 0 → okL l ∧ ∃ q g' out, a = slv q 0 g' l.length l.length ∧ Ints H' q 0 g' out ∧ out.length = l.length ∧ ∀ i, i < l.length → Most w.toNat l i (out.getD i 0))) := by
  by_cases h : wrongL w l
  · exact (Most_bad w l k o g c H hs hl h).mono fun v H' ⟨h1, h2⟩ => ⟨_, _, h1, .of_eq h2, fun h => by cases h⟩
  · obtain ⟨h1, h2, h3⟩ := not_wrong h
    obtain ⟨w, rfl⟩ := Int.eq_ofNat_of_zero_le (show 0 ≤ w by omega)
    exact (Most_spec w l k o g c H hs (by omega) (by omega) h3).mono fun v H' ⟨g', o1, out, h1, h2, h4, h5⟩ => ⟨_, _, h1, ⟨_, h2⟩, fun _ => ⟨h3, _, g', out, rfl, by rw [h2]; exact Ints.new _ _ _ false out (by rw [get_new]; rfl), h4, h5⟩⟩

theorem not_badS {s f : Int} {l : List Int} (h : ¬ badS s f l) : 0 ≤ s ∧ s ≤ 10 ∧ okL l ∧ -1073741824 ≤ f ∧ f ≤ 1073741824 := by
  have hw : ¬ wrongL 1 l := fun hw => h (.inr (.inr (.inl hw)))
  have hn := (not_wrong hw).2.2
  unfold badS at h
  refine ⟨?_, ?_, hn, ?_, ?_⟩
  · exact Int.not_lt.1 fun x => h (.inl x)
  · exact Int.not_lt.1 fun x => h (.inr (.inl x))
  · exact Int.not_lt.1 fun x => h (.inr (.inr (.inr (.inl x))))
  · exact Int.not_lt.1 fun x => h (.inr (.inr (.inr (.inr x))))
theorem Smooth_u (s f : Int) (l : List Int) (k o g c : Nat) (H : Heap) (hs : Ints H k o g l) (hl : l.length ≤ 9223372036854775807) :
    ACallK Try.prog 11 [.int .i64 s, .int .i64 f, slv k o g l.length c] H (fun v H' => ∃ a e, v = .tuple #[a, .int .i64 e] ∧ Le H H' ∧ (e = 0 → ¬ badS s f l ∧ ∃ q g', a = slv q 0 g' l.length l.length ∧ Ints H' q 0 g' (smooth (2 ^ s.toNat) (f * 2 ^ s.toNat) l))) := by
  by_cases h : badS s f l
  · exact (Smooth_bad s f l k o g c H hs hl h).mono fun v H' ⟨h1, h2⟩ => ⟨_, _, h1, .of_eq h2, fun h => by cases h⟩
  · obtain ⟨h1, h2, h3, h4, h5⟩ := not_badS h
    obtain ⟨s, rfl⟩ := Int.eq_ofNat_of_zero_le h1
    exact (Smooth_spec s f l k o g c H hs (by omega) h4 h5 h3).mono fun v H' ⟨g', h1, h2⟩ => ⟨_, _, h1, ⟨_, h2⟩, fun _ => ⟨h, _, g', rfl, by rw [h2]; exact Ints.new _ _ _ false _ (get_new0 _ _ _)⟩⟩

theorem SlideShift_args (H : Heap) (vals : List Value) (h : ArgsOk 1048576 H SlideShiftSh vals) : ACallK Try.prog 4 vals H fun v _ => v = .bool true := by
  obtain ⟨_, _, rfl, a1, h⟩ := h.cons
  obtain ⟨_, _, rfl, a2, h⟩ := h.cons
  obtain ⟨_, _, rfl, a3, h⟩ := h.cons
  obtain ⟨_, _, rfl, a4, h⟩ := h.cons
  obtain ⟨_, _, rfl, a5, h⟩ := h.cons
  obtain rfl := h.nil
  obtain ⟨W, rfl, hW⟩ := a1.cell.int_inv
  obtain ⟨s, rfl, _⟩ := a2.cell.int_inv
  obtain ⟨f, rfl, _⟩ := a3.cell.int_inv
  obtain ⟨k, c, l, rfl, hB, hlc, hs, hok⟩ := ints_of a4
  obtain ⟨b, rfl, _⟩ := a5.cell.int_inv
  clear a1 a2 a3 a4 a5 h
  have hkl := hs.lt
  refine .walkW f4_ok (by simp; decide) (by decide) ?_
  by_cases hb : -1000 ≤ b ∧ b ≤ 1000
  · obtain ⟨hb0, hb1⟩ := hb
    repeat' first | simp (disch := first | with_reducible assumption | omega) only [go_sem, Bool.true_and, Bool.and_true, Bool.and_self, Bool.false_and, Bool.and_false, Bool.true_or, Bool.or_true, Bool.false_or, Bool.or_false, ↓reduceIte, Nat.reduceEqDiff, Nat.reduceAdd, Nat.reduceMul, Nat.reduceSub, Nat.reduceBEq, Nat.reduceLeDiff, Nat.reduceLT, Nat.reduceMod, Nat.reduceDiv, Int.reduceToNat, Int.reducePow, Int.reduceMul, Int.reduceAdd, Int.reduceSub, Int.reduceLE, Int.reduceLT, Int.reduceNeg, Int.reduceDiv, Int.reduceMod, Int.reduceEq, Int.reduceBEq, Int.reduceBNe, f4, f4b, f4r0, f4r1, f4r2, f4r3, f4r4, f4r5, f4r6, f4r7, f4r8, f4r9, f4r10, f4r12, f4r13, f4r14, f4r15, f4r16, f4r17, f4r18, f4r19, f4r20, f4r21, f4r22, f4r24, f4r25, f4r26, f4r27, f4r28, f4r29, f4r30, f4r32] | (refine BrW.of (fun hb => ?_) (fun hb => ?_) <;> (have hb' := hb; try simp only [decide_eq_true_eq, decide_eq_false_iff_not, beq_iff_eq, bne_iff_ne, beq_eq_false_iff_ne, bne_eq_false_iff_eq, Bool.not_eq_true', Bool.not_eq_false', Bool.not_eq_true, Bool.not_eq_false, Bool.and_eq_true, Bool.or_eq_true, Bool.and_eq_false_iff, Bool.or_eq_false_iff, Int.not_lt, Int.not_le, ne_eq, gt_iff_lt, ge_iff_le] at hb') <;> (try (exfalso; omega))) | (refine .of ((alive _).mono ?_); rintro v H ⟨rfl, rfl⟩) | (refine .of ((CloneI_spec l k 0 0 c _ hs (by omega) hlc).mono ?_); rintro v _ ⟨g', rfl, rfl⟩)
    rw [flat'_ienc]
    refine loopW.of (by decide) (fun m e H'' => ∃ (i : Nat), e = [(0, .int .i64 W), (1, .int .i64 s), (2, .int .i64 f), (3, slv k 0 0 l.length c), (4, .int .i64 b), (11, slv H.length 0 g' l.length l.length), (34, .int .i64 l.length), (35, .int .i64 i)] ∧
      H'' = H ++ [.cells g' 1 false (ints (upd (fun x => iadd .i64 x b) l i))] ∧ i ≤ l.length ∧ m = l.length - i) l.length ⟨0, rfl, by rw [upd_zero], by omega, rfl⟩ ?_
    rintro m e H'' ⟨i, rfl, rfl, hi, rfl⟩
    by_cases hlt : i < l.length
    · have hll := upd_len (fun x => iadd .i64 x b) l i
      have hgi := upd_get (fun x => iadd .i64 x b) l 0 i hlt
      have e0 := ints_get (upd (fun x => iadd .i64 x b) l i) i (by omega)
      have hst := ints_set (upd (fun x => iadd .i64 x b) l i) i (iadd .i64 (l.getD i 0) b)
      have hcl := ints_length (upd (fun x => iadd .i64 x b) l i)
      rw [upd_succ _ _ _ _ hlt] at hst
      rw [hgi] at e0
      rw [hll] at hcl
      generalize l.getD i 0 = y at *
      generalize hz : iadd .i64 y b = z at *
      repeat' first | simp (disch := first | with_reducible assumption | omega) only [go_sem, Bool.true_and, Bool.and_true, Bool.and_self, Bool.false_and, Bool.and_false, Bool.true_or, Bool.or_true, Bool.false_or, Bool.or_false, ↓reduceIte, Nat.reduceEqDiff, Nat.reduceAdd, Nat.reduceMul, Nat.reduceSub, Nat.reduceBEq, Nat.reduceLeDiff, Nat.reduceLT, Nat.reduceMod, Nat.reduceDiv, Int.reduceToNat, Int.reducePow, Int.reduceMul, Int.reduceAdd, Int.reduceSub, Int.reduceLE, Int.reduceLT, Int.reduceNeg, Int.reduceDiv, Int.reduceMod, Int.reduceEq, Int.reduceBEq, Int.reduceBNe, f4, f4b, f4r0, f4r1, f4r2, f4r3, f4r4, f4r5, f4r6, f4r7, f4r8, f4r9, f4r10, f4r12, f4r13, f4r14, f4r15, f4r16, f4r17, f4r18, f4r19, f4r20, f4r21, f4r22, f4r24, f4r25, f4r26, f4r27, f4r28, f4r29, f4r30, f4r32, f4l0, e0, hcl, hz, hst] | (refine BrW.of (fun hb => ?_) (fun hb => ?_) <;> (have hb' := hb; try simp only [decide_eq_true_eq, decide_eq_false_iff_not, beq_iff_eq, bne_iff_ne, beq_eq_false_iff_ne, bne_eq_false_iff_eq, Bool.not_eq_true', Bool.not_eq_false', Bool.not_eq_true, Bool.not_eq_false, Bool.and_eq_true, Bool.or_eq_true, Bool.and_eq_false_iff, Bool.or_eq_false_iff, Int.not_lt, Int.not_le, ne_eq, gt_iff_lt, ge_iff_le] at hb') <;> (try (exfalso; omega)))
      refine RdW.cut1 [0, 1, 2, 3, 4, 11, 34, 35] (l.length - (i + 1)) ?_ ?_ ?_ ?_
      · omega
      · exact abnd_ints' _ _ _ _ _
      · simp (disch := first | with_reducible assumption | omega) only [go_sem, Bool.true_and, Bool.and_true, Bool.and_self, Bool.false_and, Bool.and_false, Bool.true_or, Bool.or_true, Bool.false_or, Bool.or_false, ↓reduceIte, Nat.reduceEqDiff, Nat.reduceAdd, Nat.reduceMul, Nat.reduceSub, Nat.reduceBEq, Nat.reduceLeDiff, Nat.reduceLT, Nat.reduceMod, Nat.reduceDiv, Int.reduceToNat, Int.reducePow, Int.reduceMul, Int.reduceAdd, Int.reduceSub, Int.reduceLE, Int.reduceLT, Int.reduceNeg, Int.reduceDiv, Int.reduceMod, Int.reduceEq, Int.reduceBEq, Int.reduceBNe]
        simp; omega
      · simp (disch := first | with_reducible assumption | omega) only [go_sem, Bool.true_and, Bool.and_true, Bool.and_self, Bool.false_and, Bool.and_false, Bool.true_or, Bool.or_true, Bool.false_or, Bool.or_false, ↓reduceIte, Nat.reduceEqDiff, Nat.reduceAdd, Nat.reduceMul, Nat.reduceSub, Nat.reduceBEq, Nat.reduceLeDiff, Nat.reduceLT, Nat.reduceMod, Nat.reduceDiv, Int.reduceToNat, Int.reducePow, Int.reduceMul, Int.reduceAdd, Int.reduceSub, Int.reduceLE, Int.reduceLT, Int.reduceNeg, Int.reduceDiv, Int.reduceMod, Int.reduceEq, Int.reduceBEq, Int.reduceBNe]
        exact ⟨i + 1, rfl, rfl, by omega, rfl⟩
    · obtain rfl : i = l.length := by omega
      rw [upd_all]
      have hsm : Ints (H ++ [.cells g' 1 false (ints (l.map (fun x => iadd .i64 x b)))]) H.length 0 g' (l.map (fun x => iadd .i64 x b)) := Ints.new _ _ _ false _ (get_new0 _ _ _)
      replace hs := hs.app [.cells g' 1 false (ints (l.map (fun x => iadd .i64 x b)))]
      obtain ⟨M, hM⟩ : ∃ M, M = l.map (fun x => iadd .i64 x b) := ⟨_, rfl⟩
      have hml : M.length = l.length := by rw [hM]; simp
      have hmap : okL l → M = l.map (· + b) := fun h => by
        rw [hM]
        refine List.map_congr_left fun x hx => ?_
        obtain ⟨j, hj, rfl⟩ := mem_getD (d := 0) hx
        have := h.2 j hj
        exact iadd_i64 _ _ (by omega)
      rw [← hM] at hsm hs ⊢
      clear hM
      generalize hJ : H ++ [.cells g' 1 false (ints M)] = J at *
      clear hJ
      have sp1 := Most_u W l k 0 0 c _ hs (by omega)
      repeat' first | simp (disch := first | with_reducible assumption | omega) only [go_sem, Bool.true_and, Bool.and_true, Bool.and_self, Bool.false_and, Bool.and_false, Bool.true_or, Bool.or_true, Bool.false_or, Bool.or_false, ↓reduceIte, Nat.reduceEqDiff, Nat.reduceAdd, Nat.reduceMul, Nat.reduceSub, Nat.reduceBEq, Nat.reduceLeDiff, Nat.reduceLT, Nat.reduceMod, Nat.reduceDiv, Int.reduceToNat, Int.reducePow, Int.reduceMul, Int.reduceAdd, Int.reduceSub, Int.reduceLE, Int.reduceLT, Int.reduceNeg, Int.reduceDiv, Int.reduceMod, Int.reduceEq, Int.reduceBEq, Int.reduceBNe, f4, f4b, f4r0, f4r1, f4r2, f4r3, f4r4, f4r5, f4r6, f4r7, f4r8, f4r9, f4r10, f4r12, f4r13, f4r14, f4r15, f4r16, f4r17, f4r18, f4r19, f4r20, f4r21, f4r22, f4r24, f4r25, f4r26, f4r27, f4r28, f4r29, f4r30, f4r32, f4l0, f4, f4b, f4r0, f4r1, f4r2, f4r3, f4r4, f4r5, f4r6, f4r7, f4r8, f4r9, f4r10, f4r12, f4r13, f4r14, f4r15, f4r16, f4r17, f4r18, f4r19, f4r20, f4r21, f4r22, f4r24, f4r25, f4r26, f4r27, f4r28, f4r29, f4r30, f4r32] | (refine BrW.of (fun hb => ?_) (fun hb => ?_) <;> (have hb' := hb; try simp only [decide_eq_true_eq, decide_eq_false_iff_not, beq_iff_eq, bne_iff_ne, beq_eq_false_iff_ne, bne_eq_false_iff_eq, Bool.not_eq_true', Bool.not_eq_false', Bool.not_eq_true, Bool.not_eq_false, Bool.and_eq_true, Bool.or_eq_true, Bool.and_eq_false_iff, Bool.or_eq_false_iff, Int.not_lt, Int.not_le, ne_eq, gt_iff_lt, ge_iff_le] at hb') <;> (try (exfalso; omega))) | (refine .of (sp1.mono ?_); rintro v H1 ⟨x1, e1, rfl, le1, hp1⟩)
      have sp2 := Most_u W M H.length 0 g' l.length H1 (hsm.le le1) (by omega)
      rw [hml] at sp2
      repeat' first | simp (disch := first | with_reducible assumption | omega) only [go_sem, Bool.true_and, Bool.and_true, Bool.and_self, Bool.false_and, Bool.and_false, Bool.true_or, Bool.or_true, Bool.false_or, Bool.or_false, ↓reduceIte, Nat.reduceEqDiff, Nat.reduceAdd, Nat.reduceMul, Nat.reduceSub, Nat.reduceBEq, Nat.reduceLeDiff, Nat.reduceLT, Nat.reduceMod, Nat.reduceDiv, Int.reduceToNat, Int.reducePow, Int.reduceMul, Int.reduceAdd, Int.reduceSub, Int.reduceLE, Int.reduceLT, Int.reduceNeg, Int.reduceDiv, Int.reduceMod, Int.reduceEq, Int.reduceBEq, Int.reduceBNe, f4, f4b, f4r0, f4r1, f4r2, f4r3, f4r4, f4r5, f4r6, f4r7, f4r8, f4r9, f4r10, f4r12, f4r13, f4r14, f4r15, f4r16, f4r17, f4r18, f4r19, f4r20, f4r21, f4r22, f4r24, f4r25, f4r26, f4r27, f4r28, f4r29, f4r30, f4r32] | (refine BrW.of (fun hb => ?_) (fun hb => ?_) <;> (have hb' := hb; try simp only [decide_eq_true_eq, decide_eq_false_iff_not, beq_iff_eq, bne_iff_ne, beq_eq_false_iff_ne, bne_eq_false_iff_eq, Bool.not_eq_true', Bool.not_eq_false', Bool.not_eq_true, Bool.not_eq_false, Bool.and_eq_true, Bool.or_eq_true, Bool.and_eq_false_iff, Bool.or_eq_false_iff, Int.not_lt, Int.not_le, ne_eq, gt_iff_lt, ge_iff_le] at hb') <;> (try (exfalso; omega))) | (refine .of (sp2.mono ?_); rintro v H2 ⟨x2, e2, rfl, le2, hp2⟩)
      have sp3 := Smooth_u s f l k 0 0 c H2 (hs.le (le1.trans le2)) (by omega)
      repeat' first | simp (disch := first | with_reducible assumption | omega) only [go_sem, Bool.true_and, Bool.and_true, Bool.and_self, Bool.false_and, Bool.and_false, Bool.true_or, Bool.or_true, Bool.false_or, Bool.or_false, ↓reduceIte, Nat.reduceEqDiff, Nat.reduceAdd, Nat.reduceMul, Nat.reduceSub, Nat.reduceBEq, Nat.reduceLeDiff, Nat.reduceLT, Nat.reduceMod, Nat.reduceDiv, Int.reduceToNat, Int.reducePow, Int.reduceMul, Int.reduceAdd, Int.reduceSub, Int.reduceLE, Int.reduceLT, Int.reduceNeg, Int.reduceDiv, Int.reduceMod, Int.reduceEq, Int.reduceBEq, Int.reduceBNe, f4, f4b, f4r0, f4r1, f4r2, f4r3, f4r4, f4r5, f4r6, f4r7, f4r8, f4r9, f4r10, f4r12, f4r13, f4r14, f4r15, f4r16, f4r17, f4r18, f4r19, f4r20, f4r21, f4r22, f4r24, f4r25, f4r26, f4r27, f4r28, f4r29, f4r30, f4r32] | (refine BrW.of (fun hb => ?_) (fun hb => ?_) <;> (have hb' := hb; try simp only [decide_eq_true_eq, decide_eq_false_iff_not, beq_iff_eq, bne_iff_ne, beq_eq_false_iff_ne, bne_eq_false_iff_eq, Bool.not_eq_true', Bool.not_eq_false', Bool.not_eq_true, Bool.not_eq_false, Bool.and_eq_true, Bool.or_eq_true, Bool.and_eq_false_iff, Bool.or_eq_false_iff, Int.not_lt, Int.not_le, ne_eq, gt_iff_lt, ge_iff_le] at hb') <;> (try (exfalso; omega))) | (refine .of (sp3.mono ?_); rintro v H3 ⟨x3, e3, rfl, le3, hp3⟩)
      have sp4 := Smooth_u s (iadd .i64 f b) M H.length 0 g' l.length H3 (hsm.le (le1.trans (le2.trans le3))) (by omega)
      rw [hml] at sp4
      refine .of (sp4.mono ?_)
      rintro v H4 ⟨x4, e4, rfl, le4, hp4⟩
      clear sp1 sp2 sp3 sp4 hok
      by_cases z1 : e1 = 0
      · by_cases z2 : e2 = 0
        · obtain ⟨n1, q1, g1, m1, rfl, i1, ml1, mm1⟩ := hp1 z1
          obtain ⟨n2, q2, g2, m2, rfl, i2, ml2, mm2⟩ := hp2 z2
          have i1' := i1.le (le2.trans (le3.trans le4))
          have i2' := i2.le (le3.trans le4)
          obtain ⟨ro1, cs1, k1, _, u1⟩ := Ints.cell i1'
          obtain ⟨ro2, cs2, k2, _, u2⟩ := Ints.cell i2'
          simp only [Nat.zero_add] at u1 u2
          rw [hmap n1] at mm2
          subst z1 z2
          repeat' first | simp (disch := first | with_reducible assumption | omega) only [go_sem, Bool.true_and, Bool.and_true, Bool.and_self, Bool.false_and, Bool.and_false, Bool.true_or, Bool.or_true, Bool.false_or, Bool.or_false, ↓reduceIte, Nat.reduceEqDiff, Nat.reduceAdd, Nat.reduceMul, Nat.reduceSub, Nat.reduceBEq, Nat.reduceLeDiff, Nat.reduceLT, Nat.reduceMod, Nat.reduceDiv, Int.reduceToNat, Int.reducePow, Int.reduceMul, Int.reduceAdd, Int.reduceSub, Int.reduceLE, Int.reduceLT, Int.reduceNeg, Int.reduceDiv, Int.reduceMod, Int.reduceEq, Int.reduceBEq, Int.reduceBNe, f4, f4b, f4r0, f4r1, f4r2, f4r3, f4r4, f4r5, f4r6, f4r7, f4r8, f4r9, f4r10, f4r12, f4r13, f4r14, f4r15, f4r16, f4r17, f4r18, f4r19, f4r20, f4r21, f4r22, f4r24, f4r25, f4r26, f4r27, f4r28, f4r29, f4r30, f4r32, k1, k2] | (refine BrW.of (fun hb => ?_) (fun hb => ?_) <;> (have hb' := hb; try simp only [decide_eq_true_eq, decide_eq_false_iff_not, beq_iff_eq, bne_iff_ne, beq_eq_false_iff_ne, bne_eq_false_iff_eq, Bool.not_eq_true', Bool.not_eq_false', Bool.not_eq_true, Bool.not_eq_false, Bool.and_eq_true, Bool.or_eq_true, Bool.and_eq_false_iff, Bool.or_eq_false_iff, Int.not_lt, Int.not_le, ne_eq, gt_iff_lt, ge_iff_le] at hb') <;> (try (exfalso; omega)))
          refine loopW.of (by decide) (fun m e H'' => ∃ (i : Nat), e = [(4, .int .i64 b), (13, slv q1 0 g1 l.length l.length), (15, slv q2 0 g2 l.length l.length), (17, x3), (18, .int .i64 e3), (19, x4), (20, .int .i64 e4), (81, .int .i64 l.length), (82, .int .i64 i)] ∧ H'' = H4 ∧ i ≤ l.length ∧ m = l.length - i) l.length ⟨0, rfl, rfl, by omega, rfl⟩ ?_
          rintro m e H4 ⟨i, rfl, rfl, hi, rfl⟩
          by_cases hlt : i < l.length
          · have M1 := mm1 i hlt
            have M2 := mm2 i hlt
            have r1 := u1 i (by omega)
            have r2 := u2 i (by omega)
            have hsh := M1.shift (b := b) (fun j hj => by simp [List.getD_eq_getElem?_getD, show j < l.length by omega]) M2
            have hrg : -1073741824 ≤ m1.getD i 0 ∧ m1.getD i 0 ≤ 1073741824 := by
              obtain ⟨j, j1, j2, j3⟩ := M1.some'
              have := n1.2 j (by omega)
              omega
            rw [hsh] at r2
            clear mm1 mm2 u1 u2 M1 M2 hsh hp1 hp2
            generalize m1.getD i 0 = x at *
            repeat' first | simp (disch := first | with_reducible assumption | omega) only [go_sem, Bool.true_and, Bool.and_true, Bool.and_self, Bool.false_and, Bool.and_false, Bool.true_or, Bool.or_true, Bool.false_or, Bool.or_false, ↓reduceIte, Nat.reduceEqDiff, Nat.reduceAdd, Nat.reduceMul, Nat.reduceSub, Nat.reduceBEq, Nat.reduceLeDiff, Nat.reduceLT, Nat.reduceMod, Nat.reduceDiv, Int.reduceToNat, Int.reducePow, Int.reduceMul, Int.reduceAdd, Int.reduceSub, Int.reduceLE, Int.reduceLT, Int.reduceNeg, Int.reduceDiv, Int.reduceMod, Int.reduceEq, Int.reduceBEq, Int.reduceBNe, f4, f4b, f4r0, f4r1, f4r2, f4r3, f4r4, f4r5, f4r6, f4r7, f4r8, f4r9, f4r10, f4r12, f4r13, f4r14, f4r15, f4r16, f4r17, f4r18, f4r19, f4r20, f4r21, f4r22, f4r24, f4r25, f4r26, f4r27, f4r28, f4r29, f4r30, f4r32, f4l1, k1, k2, r1, r2] | (refine BrW.of (fun hb => ?_) (fun hb => ?_) <;> (have hb' := hb; try simp only [decide_eq_true_eq, decide_eq_false_iff_not, beq_iff_eq, bne_iff_ne, beq_eq_false_iff_ne, bne_eq_false_iff_eq, Bool.not_eq_true', Bool.not_eq_false', Bool.not_eq_true, Bool.not_eq_false, Bool.and_eq_true, Bool.or_eq_true, Bool.and_eq_false_iff, Bool.or_eq_false_iff, Int.not_lt, Int.not_le, ne_eq, gt_iff_lt, ge_iff_le] at hb') <;> (try (exfalso; omega)))
            refine RdW.keep [4, 13, 15, 17, 18, 19, 20, 81, 82] (l.length - (i + 1)) (by omega) ?_
            simp (disch := first | with_reducible assumption | omega) only [go_sem, Bool.true_and, Bool.and_true, Bool.and_self, Bool.false_and, Bool.and_false, Bool.true_or, Bool.or_true, Bool.false_or, Bool.or_false, ↓reduceIte, Nat.reduceEqDiff, Nat.reduceAdd, Nat.reduceMul, Nat.reduceSub, Nat.reduceBEq, Nat.reduceLeDiff, Nat.reduceLT, Nat.reduceMod, Nat.reduceDiv, Int.reduceToNat, Int.reducePow, Int.reduceMul, Int.reduceAdd, Int.reduceSub, Int.reduceLE, Int.reduceLT, Int.reduceNeg, Int.reduceDiv, Int.reduceMod, Int.reduceEq, Int.reduceBEq, Int.reduceBNe]
            exact ⟨i + 1, rfl, by omega, rfl⟩
          · by_cases z3 : e3 = 0
            · by_cases z4 : e4 = 0
              · obtain ⟨n3, q3, g3, rfl, i3⟩ := hp3 z3
                obtain ⟨n4, q4, g4, rfl, i4⟩ := hp4 z4
                have i3' := i3.le le4
                obtain ⟨s1, s2, s3, s4, s5⟩ := not_badS n3
                obtain ⟨s, rfl⟩ := Int.eq_ofNat_of_zero_le s1
                rw [hmap s3, iadd_i64 f b (by omega)] at i4
                rw [Int.toNat_natCast] at i3' i4
                rw [show (f + b) * 2 ^ s = f * 2 ^ s + b * 2 ^ s from Int.add_mul _ _ _] at i4
                have hd : (1 : Int) ≤ 2 ^ s := by
                  have h1 := Nat.one_le_two_pow (n := s)
                  have h3 : ((2 ^ s : Nat) : Int) = 2 ^ s := by simp
                  omega
                rw [smooth_shift hd] at i4
                have hbt := fun i hi => smooth_between (lo := -1073741824) (hi := 1073741824) hd l (f * 2 ^ s) i hi (Int.mul_le_mul_of_nonneg_right s4 (by omega)) (Int.mul_lt_mul_of_pos_right (by omega) (by omega)) (fun j hj => s3.2 j (by omega))
                have hsl := smooth_length (2 ^ s) l (f * 2 ^ s)
                generalize smooth (2 ^ s) (f * 2 ^ s) l = S at *
                obtain ⟨ro3, cs3, k3, _, u3⟩ := Ints.cell i3'
                obtain ⟨ro4, cs4, k4, _, u4⟩ := Ints.cell i4
                simp only [Nat.zero_add] at u3 u4
                subst z3 z4
                repeat' first | simp (disch := first | with_reducible assumption | omega) only [go_sem, Bool.true_and, Bool.and_true, Bool.and_self, Bool.false_and, Bool.and_false, Bool.true_or, Bool.or_true, Bool.false_or, Bool.or_false, ↓reduceIte, Nat.reduceEqDiff, Nat.reduceAdd, Nat.reduceMul, Nat.reduceSub, Nat.reduceBEq, Nat.reduceLeDiff, Nat.reduceLT, Nat.reduceMod, Nat.reduceDiv, Int.reduceToNat, Int.reducePow, Int.reduceMul, Int.reduceAdd, Int.reduceSub, Int.reduceLE, Int.reduceLT, Int.reduceNeg, Int.reduceDiv, Int.reduceMod, Int.reduceEq, Int.reduceBEq, Int.reduceBNe, f4, f4b, f4r0, f4r1, f4r2, f4r3, f4r4, f4r5, f4r6, f4r7, f4r8, f4r9, f4r10, f4r12, f4r13, f4r14, f4r15, f4r16, f4r17, f4r18, f4r19, f4r20, f4r21, f4r22, f4r24, f4r25, f4r26, f4r27, f4r28, f4r29, f4r30, f4r32, f4l1, k3, k4] | (refine BrW.of (fun hb => ?_) (fun hb => ?_) <;> (have hb' := hb; try simp only [decide_eq_true_eq, decide_eq_false_iff_not, beq_iff_eq, bne_iff_ne, beq_eq_false_iff_ne, bne_eq_false_iff_eq, Bool.not_eq_true', Bool.not_eq_false', Bool.not_eq_true, Bool.not_eq_false, Bool.and_eq_true, Bool.or_eq_true, Bool.and_eq_false_iff, Bool.or_eq_false_iff, Int.not_lt, Int.not_le, ne_eq, gt_iff_lt, ge_iff_le] at hb') <;> (try (exfalso; omega)))
                refine loopW.of (by decide) (fun m e H'' => ∃ (i : Nat), e = [(4, .int .i64 b), (17, slv q3 0 g3 l.length l.length), (19, slv q4 0 g4 l.length l.length), (110, .int .i64 l.length), (111, .int .i64 i)] ∧ H'' = H4 ∧ i ≤ l.length ∧ m = l.length - i) l.length ⟨0, rfl, rfl, by omega, rfl⟩ ?_
                rintro m e H'' ⟨i, rfl, rfl, hi, rfl⟩
                by_cases hlt : i < l.length
                · have r3 := u3 i (by omega)
                  have r4 := u4 i (by simp; omega)
                  have hb3 := hbt i hlt
                  rw [show (S.map (· + b)).getD i 0 = S.getD i 0 + b by simp [List.getD_eq_getElem?_getD, show i < S.length by omega]] at r4
                  clear hbt u3 u4
                  generalize S.getD i 0 = x at *
                  repeat' first | simp (disch := first | with_reducible assumption | omega) only [go_sem, Bool.true_and, Bool.and_true, Bool.and_self, Bool.false_and, Bool.and_false, Bool.true_or, Bool.or_true, Bool.false_or, Bool.or_false, ↓reduceIte, Nat.reduceEqDiff, Nat.reduceAdd, Nat.reduceMul, Nat.reduceSub, Nat.reduceBEq, Nat.reduceLeDiff, Nat.reduceLT, Nat.reduceMod, Nat.reduceDiv, Int.reduceToNat, Int.reducePow, Int.reduceMul, Int.reduceAdd, Int.reduceSub, Int.reduceLE, Int.reduceLT, Int.reduceNeg, Int.reduceDiv, Int.reduceMod, Int.reduceEq, Int.reduceBEq, Int.reduceBNe, f4, f4b, f4r0, f4r1, f4r2, f4r3, f4r4, f4r5, f4r6, f4r7, f4r8, f4r9, f4r10, f4r12, f4r13, f4r14, f4r15, f4r16, f4r17, f4r18, f4r19, f4r20, f4r21, f4r22, f4r24, f4r25, f4r26, f4r27, f4r28, f4r29, f4r30, f4r32, f4l2, k3, k4, r3, r4] | (refine BrW.of (fun hb => ?_) (fun hb => ?_) <;> (have hb' := hb; try simp only [decide_eq_true_eq, decide_eq_false_iff_not, beq_iff_eq, bne_iff_ne, beq_eq_false_iff_ne, bne_eq_false_iff_eq, Bool.not_eq_true', Bool.not_eq_false', Bool.not_eq_true, Bool.not_eq_false, Bool.and_eq_true, Bool.or_eq_true, Bool.and_eq_false_iff, Bool.or_eq_false_iff, Int.not_lt, Int.not_le, ne_eq, gt_iff_lt, ge_iff_le] at hb') <;> (try (exfalso; omega)))
                  refine RdW.keep [4, 17, 19, 110, 111] (l.length - (i + 1)) (by omega) ?_
                  simp (disch := first | with_reducible assumption | omega) only [go_sem, Bool.true_and, Bool.and_true, Bool.and_self, Bool.false_and, Bool.and_false, Bool.true_or, Bool.or_true, Bool.false_or, Bool.or_false, ↓reduceIte, Nat.reduceEqDiff, Nat.reduceAdd, Nat.reduceMul, Nat.reduceSub, Nat.reduceBEq, Nat.reduceLeDiff, Nat.reduceLT, Nat.reduceMod, Nat.reduceDiv, Int.reduceToNat, Int.reducePow, Int.reduceMul, Int.reduceAdd, Int.reduceSub, Int.reduceLE, Int.reduceLT, Int.reduceNeg, Int.reduceDiv, Int.reduceMod, Int.reduceEq, Int.reduceBEq, Int.reduceBNe]
                  exact ⟨i + 1, rfl, by omega, rfl⟩
                · repeat' first | simp (disch := first | with_reducible assumption | omega) only [go_sem, Bool.true_and, Bool.and_true, Bool.and_self, Bool.false_and, Bool.and_false, Bool.true_or, Bool.or_true, Bool.false_or, Bool.or_false, ↓reduceIte, Nat.reduceEqDiff, Nat.reduceAdd, Nat.reduceMul, Nat.reduceSub, Nat.reduceBEq, Nat.reduceLeDiff, Nat.reduceLT, Nat.reduceMod, Nat.reduceDiv, Int.reduceToNat, Int.reducePow, Int.reduceMul, Int.reduceAdd, Int.reduceSub, Int.reduceLE, Int.reduceLT, Int.reduceNeg, Int.reduceDiv, Int.reduceMod, Int.reduceEq, Int.reduceBEq, Int.reduceBNe, f4, f4b, f4r0, f4r1, f4r2, f4r3, f4r4, f4r5, f4r6, f4r7, f4r8, f4r9, f4r10, f4r12, f4r13, f4r14, f4r15, f4r16, f4r17, f4r18, f4r19, f4r20, f4r21, f4r22, f4r24, f4r25, f4r26, f4r27, f4r28, f4r29, f4r30, f4r32, f4l2, f4, f4b, f4r0, f4r1, f4r2, f4r3, f4r4, f4r5, f4r6, f4r7, f4r8, f4r9, f4r10, f4r12, f4r13, f4r14, f4r15, f4r16, f4r17, f4r18, f4r19, f4r20, f4r21, f4r22, f4r24, f4r25, f4r26, f4r27, f4r28, f4r29, f4r30, f4r32] | (refine BrW.of (fun hb => ?_) (fun hb => ?_) <;> (have hb' := hb; try simp only [decide_eq_true_eq, decide_eq_false_iff_not, beq_iff_eq, bne_iff_ne, beq_eq_false_iff_ne, bne_eq_false_iff_eq, Bool.not_eq_true', Bool.not_eq_false', Bool.not_eq_true, Bool.not_eq_false, Bool.and_eq_true, Bool.or_eq_true, Bool.and_eq_false_iff, Bool.or_eq_false_iff, Int.not_lt, Int.not_le, ne_eq, gt_iff_lt, ge_iff_le] at hb') <;> (try (exfalso; omega)))
                  exact .here rfl
              · subst z3
                have z4' : (e4 == 0) = false := by simpa using z4
                repeat' first | simp (disch := first | with_reducible assumption | omega) only [go_sem, Bool.true_and, Bool.and_true, Bool.and_self, Bool.false_and, Bool.and_false, Bool.true_or, Bool.or_true, Bool.false_or, Bool.or_false, ↓reduceIte, Nat.reduceEqDiff, Nat.reduceAdd, Nat.reduceMul, Nat.reduceSub, Nat.reduceBEq, Nat.reduceLeDiff, Nat.reduceLT, Nat.reduceMod, Nat.reduceDiv, Int.reduceToNat, Int.reducePow, Int.reduceMul, Int.reduceAdd, Int.reduceSub, Int.reduceLE, Int.reduceLT, Int.reduceNeg, Int.reduceDiv, Int.reduceMod, Int.reduceEq, Int.reduceBEq, Int.reduceBNe, f4, f4b, f4r0, f4r1, f4r2, f4r3, f4r4, f4r5, f4r6, f4r7, f4r8, f4r9, f4r10, f4r12, f4r13, f4r14, f4r15, f4r16, f4r17, f4r18, f4r19, f4r20, f4r21, f4r22, f4r24, f4r25, f4r26, f4r27, f4r28, f4r29, f4r30, f4r32, f4l1, z4'] | (refine BrW.of (fun hb => ?_) (fun hb => ?_) <;> (have hb' := hb; try simp only [decide_eq_true_eq, decide_eq_false_iff_not, beq_iff_eq, bne_iff_ne, beq_eq_false_iff_ne, bne_eq_false_iff_eq, Bool.not_eq_true', Bool.not_eq_false', Bool.not_eq_true, Bool.not_eq_false, Bool.and_eq_true, Bool.or_eq_true, Bool.and_eq_false_iff, Bool.or_eq_false_iff, Int.not_lt, Int.not_le, ne_eq, gt_iff_lt, ge_iff_le] at hb') <;> (try (exfalso; omega)))
                exact .here rfl
            · have z3' : (e3 == 0) = false := by simpa using z3
              repeat' first | simp (disch := first | with_reducible assumption | omega) only [go_sem, Bool.true_and, Bool.and_true, Bool.and_self, Bool.false_and, Bool.and_false, Bool.true_or, Bool.or_true, Bool.false_or, Bool.or_false, ↓reduceIte, Nat.reduceEqDiff, Nat.reduceAdd, Nat.reduceMul, Nat.reduceSub, Nat.reduceBEq, Nat.reduceLeDiff, Nat.reduceLT, Nat.reduceMod, Nat.reduceDiv, Int.reduceToNat, Int.reducePow, Int.reduceMul, Int.reduceAdd, Int.reduceSub, Int.reduceLE, Int.reduceLT, Int.reduceNeg, Int.reduceDiv, Int.reduceMod, Int.reduceEq, Int.reduceBEq, Int.reduceBNe, f4, f4b, f4r0, f4r1, f4r2, f4r3, f4r4, f4r5, f4r6, f4r7, f4r8, f4r9, f4r10, f4r12, f4r13, f4r14, f4r15, f4r16, f4r17, f4r18, f4r19, f4r20, f4r21, f4r22, f4r24, f4r25, f4r26, f4r27, f4r28, f4r29, f4r30, f4r32, f4l1, z3'] | (refine BrW.of (fun hb => ?_) (fun hb => ?_) <;> (have hb' := hb; try simp only [decide_eq_true_eq, decide_eq_false_iff_not, beq_iff_eq, bne_iff_ne, beq_eq_false_iff_ne, bne_eq_false_iff_eq, Bool.not_eq_true', Bool.not_eq_false', Bool.not_eq_true, Bool.not_eq_false, Bool.and_eq_true, Bool.or_eq_true, Bool.and_eq_false_iff, Bool.or_eq_false_iff, Int.not_lt, Int.not_le, ne_eq, gt_iff_lt, ge_iff_le] at hb') <;> (try (exfalso; omega)))
              exact .here rfl
        · have z2' : (e2 == 0) = false := by simpa using z2
          subst z1
          by_cases z3 : e3 = 0
          · by_cases z4 : e4 = 0
            · obtain ⟨n3, q3, g3, rfl, i3⟩ := hp3 z3
              obtain ⟨n4, q4, g4, rfl, i4⟩ := hp4 z4
              have i3' := i3.le le4
              obtain ⟨s1, s2, s3, s4, s5⟩ := not_badS n3
              obtain ⟨s, rfl⟩ := Int.eq_ofNat_of_zero_le s1
              rw [hmap s3, iadd_i64 f b (by omega)] at i4
              rw [Int.toNat_natCast] at i3' i4
              rw [show (f + b) * 2 ^ s = f * 2 ^ s + b * 2 ^ s from Int.add_mul _ _ _] at i4
              have hd : (1 : Int) ≤ 2 ^ s := by
                have h1 := Nat.one_le_two_pow (n := s)
                have h3 : ((2 ^ s : Nat) : Int) = 2 ^ s := by simp
                omega
              rw [smooth_shift hd] at i4
              have hbt := fun i hi => smooth_between (lo := -1073741824) (hi := 1073741824) hd l (f * 2 ^ s) i hi (Int.mul_le_mul_of_nonneg_right s4 (by omega)) (Int.mul_lt_mul_of_pos_right (by omega) (by omega)) (fun j hj => s3.2 j (by omega))
              have hsl := smooth_length (2 ^ s) l (f * 2 ^ s)
              generalize smooth (2 ^ s) (f * 2 ^ s) l = S at *
              obtain ⟨ro3, cs3, k3, _, u3⟩ := Ints.cell i3'
              obtain ⟨ro4, cs4, k4, _, u4⟩ := Ints.cell i4
              simp only [Nat.zero_add] at u3 u4
              subst z3 z4
              repeat' first | simp (disch := first | with_reducible assumption | omega) only [go_sem, Bool.true_and, Bool.and_true, Bool.and_self, Bool.false_and, Bool.and_false, Bool.true_or, Bool.or_true, Bool.false_or, Bool.or_false, ↓reduceIte, Nat.reduceEqDiff, Nat.reduceAdd, Nat.reduceMul, Nat.reduceSub, Nat.reduceBEq, Nat.reduceLeDiff, Nat.reduceLT, Nat.reduceMod, Nat.reduceDiv, Int.reduceToNat, Int.reducePow, Int.reduceMul, Int.reduceAdd, Int.reduceSub, Int.reduceLE, Int.reduceLT, Int.reduceNeg, Int.reduceDiv, Int.reduceMod, Int.reduceEq, Int.reduceBEq, Int.reduceBNe, f4, f4b, f4r0, f4r1, f4r2, f4r3, f4r4, f4r5, f4r6, f4r7, f4r8, f4r9, f4r10, f4r12, f4r13, f4r14, f4r15, f4r16, f4r17, f4r18, f4r19, f4r20, f4r21, f4r22, f4r24, f4r25, f4r26, f4r27, f4r28, f4r29, f4r30, f4r32, z2', k3, k4] | (refine BrW.of (fun hb => ?_) (fun hb => ?_) <;> (have hb' := hb; try simp only [decide_eq_true_eq, decide_eq_false_iff_not, beq_iff_eq, bne_iff_ne, beq_eq_false_iff_ne, bne_eq_false_iff_eq, Bool.not_eq_true', Bool.not_eq_false', Bool.not_eq_true, Bool.not_eq_false, Bool.and_eq_true, Bool.or_eq_true, Bool.and_eq_false_iff, Bool.or_eq_false_iff, Int.not_lt, Int.not_le, ne_eq, gt_iff_lt, ge_iff_le] at hb') <;> (try (exfalso; omega)))
              refine loopW.of (by decide) (fun m e H'' => ∃ (i : Nat), e = [(4, .int .i64 b), (17, slv q3 0 g3 l.length l.length), (19, slv q4 0 g4 l.length l.length), (110, .int .i64 l.length), (111, .int .i64 i)] ∧ H'' = H4 ∧ i ≤ l.length ∧ m = l.length - i) l.length ⟨0, rfl, rfl, by omega, rfl⟩ ?_
              rintro m e H'' ⟨i, rfl, rfl, hi, rfl⟩
              by_cases hlt : i < l.length
              · have r3 := u3 i (by omega)
                have r4 := u4 i (by simp; omega)
                have hb3 := hbt i hlt
                rw [show (S.map (· + b)).getD i 0 = S.getD i 0 + b by simp [List.getD_eq_getElem?_getD, show i < S.length by omega]] at r4
                clear hbt u3 u4
                generalize S.getD i 0 = x at *
                repeat' first | simp (disch := first | with_reducible assumption | omega) only [go_sem, Bool.true_and, Bool.and_true, Bool.and_self, Bool.false_and, Bool.and_false, Bool.true_or, Bool.or_true, Bool.false_or, Bool.or_false, ↓reduceIte, Nat.reduceEqDiff, Nat.reduceAdd, Nat.reduceMul, Nat.reduceSub, Nat.reduceBEq, Nat.reduceLeDiff, Nat.reduceLT, Nat.reduceMod, Nat.reduceDiv, Int.reduceToNat, Int.reducePow, Int.reduceMul, Int.reduceAdd, Int.reduceSub, Int.reduceLE, Int.reduceLT, Int.reduceNeg, Int.reduceDiv, Int.reduceMod, Int.reduceEq, Int.reduceBEq, Int.reduceBNe, f4, f4b, f4r0, f4r1, f4r2, f4r3, f4r4, f4r5, f4r6, f4r7, f4r8, f4r9, f4r10, f4r12, f4r13, f4r14, f4r15, f4r16, f4r17, f4r18, f4r19, f4r20, f4r21, f4r22, f4r24, f4r25, f4r26, f4r27, f4r28, f4r29, f4r30, f4r32, f4l2, k3, k4, r3, r4] | (refine BrW.of (fun hb => ?_) (fun hb => ?_) <;> (have hb' := hb; try simp only [decide_eq_true_eq, decide_eq_false_iff_not, beq_iff_eq, bne_iff_ne, beq_eq_false_iff_ne, bne_eq_false_iff_eq, Bool.not_eq_true', Bool.not_eq_false', Bool.not_eq_true, Bool.not_eq_false, Bool.and_eq_true, Bool.or_eq_true, Bool.and_eq_false_iff, Bool.or_eq_false_iff, Int.not_lt, Int.not_le, ne_eq, gt_iff_lt, ge_iff_le] at hb') <;> (try (exfalso; omega)))
                refine RdW.keep [4, 17, 19, 110, 111] (l.length - (i + 1)) (by omega) ?_
                simp (disch := first | with_reducible assumption | omega) only [go_sem, Bool.true_and, Bool.and_true, Bool.and_self, Bool.false_and, Bool.and_false, Bool.true_or, Bool.or_true, Bool.false_or, Bool.or_false, ↓reduceIte, Nat.reduceEqDiff, Nat.reduceAdd, Nat.reduceMul, Nat.reduceSub, Nat.reduceBEq, Nat.reduceLeDiff, Nat.reduceLT, Nat.reduceMod, Nat.reduceDiv, Int.reduceToNat, Int.reducePow, Int.reduceMul, Int.reduceAdd, Int.reduceSub, Int.reduceLE, Int.reduceLT, Int.reduceNeg, Int.reduceDiv, Int.reduceMod, Int.reduceEq, Int.reduceBEq, Int.reduceBNe]
                exact ⟨i + 1, rfl, by omega, rfl⟩
              · repeat' first | simp (disch := first | with_reducible assumption | omega) only [go_sem, Bool.true_and, Bool.and_true, Bool.and_self, Bool.false_and, Bool.and_false, Bool.true_or, Bool.or_true, Bool.false_or, Bool.or_false, ↓reduceIte, Nat.reduceEqDiff, Nat.reduceAdd, Nat.reduceMul, Nat.reduceSub, Nat.reduceBEq, Nat.reduceLeDiff, Nat.reduceLT, Nat.reduceMod, Nat.reduceDiv, Int.reduceToNat, Int.reducePow, Int.reduceMul, Int.reduceAdd, Int.reduceSub, Int.reduceLE, Int.reduceLT, Int.reduceNeg, Int.reduceDiv, Int.reduceMod, Int.reduceEq, Int.reduceBEq, Int.reduceBNe, f4, f4b, f4r0, f4r1, f4r2, f4r3, f4r4, f4r5, f4r6, f4r7, f4r8, f4r9, f4r10, f4r12, f4r13, f4r14, f4r15, f4r16, f4r17, f4r18, f4r19, f4r20, f4r21, f4r22, f4r24, f4r25, f4r26, f4r27, f4r28, f4r29, f4r30, f4r32, f4l2, f4, f4b, f4r0, f4r1, f4r2, f4r3, f4r4, f4r5, f4r6, f4r7, f4r8, f4r9, f4r10, f4r12, f4r13, f4r14, f4r15, f4r16, f4r17, f4r18, f4r19, f4r20, f4r21, f4r22, f4r24, f4r25, f4r26, f4r27, f4r28, f4r29, f4r30, f4r32] | (refine BrW.of (fun hb => ?_) (fun hb => ?_) <;> (have hb' := hb; try simp only [decide_eq_true_eq, decide_eq_false_iff_not, beq_iff_eq, bne_iff_ne, beq_eq_false_iff_ne, bne_eq_false_iff_eq, Bool.not_eq_true', Bool.not_eq_false', Bool.not_eq_true, Bool.not_eq_false, Bool.and_eq_true, Bool.or_eq_true, Bool.and_eq_false_iff, Bool.or_eq_false_iff, Int.not_lt, Int.not_le, ne_eq, gt_iff_lt, ge_iff_le] at hb') <;> (try (exfalso; omega)))
                exact .here rfl
            · subst z3
              have z4' : (e4 == 0) = false := by simpa using z4
              repeat' first | simp (disch := first | with_reducible assumption | omega) only [go_sem, Bool.true_and, Bool.and_true, Bool.and_self, Bool.false_and, Bool.and_false, Bool.true_or, Bool.or_true, Bool.false_or, Bool.or_false, ↓reduceIte, Nat.reduceEqDiff, Nat.reduceAdd, Nat.reduceMul, Nat.reduceSub, Nat.reduceBEq, Nat.reduceLeDiff, Nat.reduceLT, Nat.reduceMod, Nat.reduceDiv, Int.reduceToNat, Int.reducePow, Int.reduceMul, Int.reduceAdd, Int.reduceSub, Int.reduceLE, Int.reduceLT, Int.reduceNeg, Int.reduceDiv, Int.reduceMod, Int.reduceEq, Int.reduceBEq, Int.reduceBNe, f4, f4b, f4r0, f4r1, f4r2, f4r3, f4r4, f4r5, f4r6, f4r7, f4r8, f4r9, f4r10, f4r12, f4r13, f4r14, f4r15, f4r16, f4r17, f4r18, f4r19, f4r20, f4r21, f4r22, f4r24, f4r25, f4r26, f4r27, f4r28, f4r29, f4r30, f4r32, z2', z4'] | (refine BrW.of (fun hb => ?_) (fun hb => ?_) <;> (have hb' := hb; try simp only [decide_eq_true_eq, decide_eq_false_iff_not, beq_iff_eq, bne_iff_ne, beq_eq_false_iff_ne, bne_eq_false_iff_eq, Bool.not_eq_true', Bool.not_eq_false', Bool.not_eq_true, Bool.not_eq_false, Bool.and_eq_true, Bool.or_eq_true, Bool.and_eq_false_iff, Bool.or_eq_false_iff, Int.not_lt, Int.not_le, ne_eq, gt_iff_lt, ge_iff_le] at hb') <;> (try (exfalso; omega)))
              exact .here rfl
          · have z3' : (e3 == 0) = false := by simpa using z3
            repeat' first | simp (disch := first | with_reducible assumption | omega) only [go_sem, Bool.true_and, Bool.and_true, Bool.and_self, Bool.false_and, Bool.and_false, Bool.true_or, Bool.or_true, Bool.false_or, Bool.or_false, ↓reduceIte, Nat.reduceEqDiff, Nat.reduceAdd, Nat.reduceMul, Nat.reduceSub, Nat.reduceBEq, Nat.reduceLeDiff, Nat.reduceLT, Nat.reduceMod, Nat.reduceDiv, Int.reduceToNat, Int.reducePow, Int.reduceMul, Int.reduceAdd, Int.reduceSub, Int.reduceLE, Int.reduceLT, Int.reduceNeg, Int.reduceDiv, Int.reduceMod, Int.reduceEq, Int.reduceBEq, Int.reduceBNe, f4, f4b, f4r0, f4r1, f4r2, f4r3, f4r4, f4r5, f4r6, f4r7, f4r8, f4r9, f4r10, f4r12, f4r13, f4r14, f4r15, f4r16, f4r17, f4r18, f4r19, f4r20, f4r21, f4r22, f4r24, f4r25, f4r26, f4r27, f4r28, f4r29, f4r30, f4r32, z2', z3'] | (refine BrW.of (fun hb => ?_) (fun hb => ?_) <;> (have hb' := hb; try simp only [decide_eq_true_eq, decide_eq_false_iff_not, beq_iff_eq, bne_iff_ne, beq_eq_false_iff_ne, bne_eq_false_iff_eq, Bool.not_eq_true', Bool.not_eq_false', Bool.not_eq_true, Bool.not_eq_false, Bool.and_eq_true, Bool.or_eq_true, Bool.and_eq_false_iff, Bool.or_eq_false_iff, Int.not_lt, Int.not_le, ne_eq, gt_iff_lt, ge_iff_le] at hb') <;> (try (exfalso; omega)))
            exact .here rfl
      · have z1' : (e1 == 0) = false := by simpa using z1
        by_cases z3 : e3 = 0
        · by_cases z4 : e4 = 0
          · obtain ⟨n3, q3, g3, rfl, i3⟩ := hp3 z3
            obtain ⟨n4, q4, g4, rfl, i4⟩ := hp4 z4
            have i3' := i3.le le4
            obtain ⟨s1, s2, s3, s4, s5⟩ := not_badS n3
            obtain ⟨s, rfl⟩ := Int.eq_ofNat_of_zero_le s1
            rw [hmap s3, iadd_i64 f b (by omega)] at i4
            rw [Int.toNat_natCast] at i3' i4
            rw [show (f + b) * 2 ^ s = f * 2 ^ s + b * 2 ^ s from Int.add_mul _ _ _] at i4
            have hd : (1 : Int) ≤ 2 ^ s := by
              have h1 := Nat.one_le_two_pow (n := s)
              have h3 : ((2 ^ s : Nat) : Int) = 2 ^ s := by simp
              omega
            rw [smooth_shift hd] at i4
            have hbt := fun i hi => smooth_between (lo := -1073741824) (hi := 1073741824) hd l (f * 2 ^ s) i hi (Int.mul_le_mul_of_nonneg_right s4 (by omega)) (Int.mul_lt_mul_of_pos_right (by omega) (by omega)) (fun j hj => s3.2 j (by omega))
            have hsl := smooth_length (2 ^ s) l (f * 2 ^ s)
            generalize smooth (2 ^ s) (f * 2 ^ s) l = S at *
            obtain ⟨ro3, cs3, k3, _, u3⟩ := Ints.cell i3'
            obtain ⟨ro4, cs4, k4, _, u4⟩ := Ints.cell i4
            simp only [Nat.zero_add] at u3 u4
            subst z3 z4
            repeat' first | simp (disch := first | with_reducible assumption | omega) only [go_sem, Bool.true_and, Bool.and_true, Bool.and_self, Bool.false_and, Bool.and_false, Bool.true_or, Bool.or_true, Bool.false_or, Bool.or_false, ↓reduceIte, Nat.reduceEqDiff, Nat.reduceAdd, Nat.reduceMul, Nat.reduceSub, Nat.reduceBEq, Nat.reduceLeDiff, Nat.reduceLT, Nat.reduceMod, Nat.reduceDiv, Int.reduceToNat, Int.reducePow, Int.reduceMul, Int.reduceAdd, Int.reduceSub, Int.reduceLE, Int.reduceLT, Int.reduceNeg, Int.reduceDiv, Int.reduceMod, Int.reduceEq, Int.reduceBEq, Int.reduceBNe, f4, f4b, f4r0, f4r1, f4r2, f4r3, f4r4, f4r5, f4r6, f4r7, f4r8, f4r9, f4r10, f4r12, f4r13, f4r14, f4r15, f4r16, f4r17, f4r18, f4r19, f4r20, f4r21, f4r22, f4r24, f4r25, f4r26, f4r27, f4r28, f4r29, f4r30, f4r32, z1', k3, k4] | (refine BrW.of (fun hb => ?_) (fun hb => ?_) <;> (have hb' := hb; try simp only [decide_eq_true_eq, decide_eq_false_iff_not, beq_iff_eq, bne_iff_ne, beq_eq_false_iff_ne, bne_eq_false_iff_eq, Bool.not_eq_true', Bool.not_eq_false', Bool.not_eq_true, Bool.not_eq_false, Bool.and_eq_true, Bool.or_eq_true, Bool.and_eq_false_iff, Bool.or_eq_false_iff, Int.not_lt, Int.not_le, ne_eq, gt_iff_lt, ge_iff_le] at hb') <;> (try (exfalso; omega)))
            refine loopW.of (by decide) (fun m e H'' => ∃ (i : Nat), e = [(4, .int .i64 b), (17, slv q3 0 g3 l.length l.length), (19, slv q4 0 g4 l.length l.length), (110, .int .i64 l.length), (111, .int .i64 i)] ∧ H'' = H4 ∧ i ≤ l.length ∧ m = l.length - i) l.length ⟨0, rfl, rfl, by omega, rfl⟩ ?_
            rintro m e H'' ⟨i, rfl, rfl, hi, rfl⟩
            by_cases hlt : i < l.length
            · have r3 := u3 i (by omega)
              have r4 := u4 i (by simp; omega)
              have hb3 := hbt i hlt
              rw [show (S.map (· + b)).getD i 0 = S.getD i 0 + b by simp [List.getD_eq_getElem?_getD, show i < S.length by omega]] at r4
              clear hbt u3 u4
              generalize S.getD i 0 = x at *
              repeat' first | simp (disch := first | with_reducible assumption | omega) only [go_sem, Bool.true_and, Bool.and_true, Bool.and_self, Bool.false_and, Bool.and_false, Bool.true_or, Bool.or_true, Bool.false_or, Bool.or_false, ↓reduceIte, Nat.reduceEqDiff, Nat.reduceAdd, Nat.reduceMul, Nat.reduceSub, Nat.reduceBEq, Nat.reduceLeDiff, Nat.reduceLT, Nat.reduceMod, Nat.reduceDiv, Int.reduceToNat, Int.reducePow, Int.reduceMul, Int.reduceAdd, Int.reduceSub, Int.reduceLE, Int.reduceLT, Int.reduceNeg, Int.reduceDiv, Int.reduceMod, Int.reduceEq, Int.reduceBEq, Int.reduceBNe, f4, f4b, f4r0, f4r1, f4r2, f4r3, f4r4, f4r5, f4r6, f4r7, f4r8, f4r9, f4r10, f4r12, f4r13, f4r14, f4r15, f4r16, f4r17, f4r18, f4r19, f4r20, f4r21, f4r22, f4r24, f4r25, f4r26, f4r27, f4r28, f4r29, f4r30, f4r32, f4l2, k3, k4, r3, r4] | (refine BrW.of (fun hb => ?_) (fun hb => ?_) <;> (have hb' := hb; try simp only [decide_eq_true_eq, decide_eq_false_iff_not, beq_iff_eq, bne_iff_ne, beq_eq_false_iff_ne, bne_eq_false_iff_eq, Bool.not_eq_true', Bool.not_eq_false', Bool.not_eq_true, Bool.not_eq_false, Bool.and_eq_true, Bool.or_eq_true, Bool.and_eq_false_iff, Bool.or_eq_false_iff, Int.not_lt, Int.not_le, ne_eq, gt_iff_lt, ge_iff_le] at hb') <;> (try (exfalso; omega)))
              refine RdW.keep [4, 17, 19, 110, 111] (l.length - (i + 1)) (by omega) ?_
              simp (disch := first | with_reducible assumption | omega) only [go_sem, Bool.true_and, Bool.and_true, Bool.and_self, Bool.false_and, Bool.and_false, Bool.true_or, Bool.or_true, Bool.false_or, Bool.or_false, ↓reduceIte, Nat.reduceEqDiff, Nat.reduceAdd, Nat.reduceMul, Nat.reduceSub, Nat.reduceBEq, Nat.reduceLeDiff, Nat.reduceLT, Nat.reduceMod, Nat.reduceDiv, Int.reduceToNat, Int.reducePow, Int.reduceMul, Int.reduceAdd, Int.reduceSub, Int.reduceLE, Int.reduceLT, Int.reduceNeg, Int.reduceDiv, Int.reduceMod, Int.reduceEq, Int.reduceBEq, Int.reduceBNe]
              exact ⟨i + 1, rfl, by omega, rfl⟩
            · repeat' first | simp (disch := first | with_reducible assumption | omega) only [go_sem, Bool.true_and, Bool.and_true, Bool.and_self, Bool.false_and, Bool.and_false, Bool.true_or, Bool.or_true, Bool.false_or, Bool.or_false, ↓reduceIte, Nat.reduceEqDiff, Nat.reduceAdd, Nat.reduceMul, Nat.reduceSub, Nat.reduceBEq, Nat.reduceLeDiff, Nat.reduceLT, Nat.reduceMod, Nat.reduceDiv, Int.reduceToNat, Int.reducePow, Int.reduceMul, Int.reduceAdd, Int.reduceSub, Int.reduceLE, Int.reduceLT, Int.reduceNeg, Int.reduceDiv, Int.reduceMod, Int.reduceEq, Int.reduceBEq, Int.reduceBNe, f4, f4b, f4r0, f4r1, f4r2, f4r3, f4r4, f4r5, f4r6, f4r7, f4r8, f4r9, f4r10, f4r12, f4r13, f4r14, f4r15, f4r16, f4r17, f4r18, f4r19, f4r20, f4r21, f4r22, f4r24, f4r25, f4r26, f4r27, f4r28, f4r29, f4r30, f4r32, f4l2, f4, f4b, f4r0, f4r1, f4r2, f4r3, f4r4, f4r5, f4r6, f4r7, f4r8, f4r9, f4r10, f4r12, f4r13, f4r14, f4r15, f4r16, f4r17, f4r18, f4r19, f4r20, f4r21, f4r22, f4r24, f4r25, f4r26, f4r27, f4r28, f4r29, f4r30, f4r32] | (refine BrW.of (fun hb => ?_) (fun hb => ?_) <;> (have hb' := hb; try simp only [decide_eq_true_eq, decide_eq_false_iff_not, beq_iff_eq, bne_iff_ne, beq_eq_false_iff_ne, bne_eq_false_iff_eq, Bool.not_eq_true', Bool.not_eq_false', Bool.not_eq_true, Bool.not_eq_false, Bool.and_eq_true, Bool.or_eq_true, Bool.and_eq_false_iff, Bool.or_eq_false_iff, Int.not_lt, Int.not_le, ne_eq, gt_iff_lt, ge_iff_le] at hb') <;> (try (exfalso; omega)))
              exact .here rfl
          · subst z3
            have z4' : (e4 == 0) = false := by simpa using z4
            repeat' first | simp (disch := first | with_reducible assumption | omega) only [go_sem, Bool.true_and, Bool.and_true, Bool.and_self, Bool.false_and, Bool.and_false, Bool.true_or, Bool.or_true, Bool.false_or, Bool.or_false, ↓reduceIte, Nat.reduceEqDiff, Nat.reduceAdd, Nat.reduceMul, Nat.reduceSub, Nat.reduceBEq, Nat.reduceLeDiff, Nat.reduceLT, Nat.reduceMod, Nat.reduceDiv, Int.reduceToNat, Int.reducePow, Int.reduceMul, Int.reduceAdd, Int.reduceSub, Int.reduceLE, Int.reduceLT, Int.reduceNeg, Int.reduceDiv, Int.reduceMod, Int.reduceEq, Int.reduceBEq, Int.reduceBNe, f4, f4b, f4r0, f4r1, f4r2, f4r3, f4r4, f4r5, f4r6, f4r7, f4r8, f4r9, f4r10, f4r12, f4r13, f4r14, f4r15, f4r16, f4r17, f4r18, f4r19, f4r20, f4r21, f4r22, f4r24, f4r25, f4r26, f4r27, f4r28, f4r29, f4r30, f4r32, z1', z4'] | (refine BrW.of (fun hb => ?_) (fun hb => ?_) <;> (have hb' := hb; try simp only [decide_eq_true_eq, decide_eq_false_iff_not, beq_iff_eq, bne_iff_ne, beq_eq_false_iff_ne, bne_eq_false_iff_eq, Bool.not_eq_true', Bool.not_eq_false', Bool.not_eq_true, Bool.not_eq_false, Bool.and_eq_true, Bool.or_eq_true, Bool.and_eq_false_iff, Bool.or_eq_false_iff, Int.not_lt, Int.not_le, ne_eq, gt_iff_lt, ge_iff_le] at hb') <;> (try (exfalso; omega)))
            exact .here rfl
        · have z3' : (e3 == 0) = false := by simpa using z3
          repeat' first | simp (disch := first | with_reducible assumption | omega) only [go_sem, Bool.true_and, Bool.and_true, Bool.and_self, Bool.false_and, Bool.and_false, Bool.true_or, Bool.or_true, Bool.false_or, Bool.or_false, ↓reduceIte, Nat.reduceEqDiff, Nat.reduceAdd, Nat.reduceMul, Nat.reduceSub, Nat.reduceBEq, Nat.reduceLeDiff, Nat.reduceLT, Nat.reduceMod, Nat.reduceDiv, Int.reduceToNat, Int.reducePow, Int.reduceMul, Int.reduceAdd, Int.reduceSub, Int.reduceLE, Int.reduceLT, Int.reduceNeg, Int.reduceDiv, Int.reduceMod, Int.reduceEq, Int.reduceBEq, Int.reduceBNe, f4, f4b, f4r0, f4r1, f4r2, f4r3, f4r4, f4r5, f4r6, f4r7, f4r8, f4r9, f4r10, f4r12, f4r13, f4r14, f4r15, f4r16, f4r17, f4r18, f4r19, f4r20, f4r21, f4r22, f4r24, f4r25, f4r26, f4r27, f4r28, f4r29, f4r30, f4r32, z1', z3'] | (refine BrW.of (fun hb => ?_) (fun hb => ?_) <;> (have hb' := hb; try simp only [decide_eq_true_eq, decide_eq_false_iff_not, beq_iff_eq, bne_iff_ne, beq_eq_false_iff_ne, bne_eq_false_iff_eq, Bool.not_eq_true', Bool.not_eq_false', Bool.not_eq_true, Bool.not_eq_false, Bool.and_eq_true, Bool.or_eq_true, Bool.and_eq_false_iff, Bool.or_eq_false_iff, Int.not_lt, Int.not_le, ne_eq, gt_iff_lt, ge_iff_le] at hb') <;> (try (exfalso; omega)))
          exact .here rfl
  · by_cases hb0 : b < -1000
    · repeat' first | simp (disch := first | with_reducible assumption | omega) only [go_sem, Bool.true_and, Bool.and_true, Bool.and_self, Bool.false_and, Bool.and_false, Bool.true_or, Bool.or_true, Bool.false_or, Bool.or_false, ↓reduceIte, Nat.reduceEqDiff, Nat.reduceAdd, Nat.reduceMul, Nat.reduceSub, Nat.reduceBEq, Nat.reduceLeDiff, Nat.reduceLT, Nat.reduceMod, Nat.reduceDiv, Int.reduceToNat, Int.reducePow, Int.reduceMul, Int.reduceAdd, Int.reduceSub, Int.reduceLE, Int.reduceLT, Int.reduceNeg, Int.reduceDiv, Int.reduceMod, Int.reduceEq, Int.reduceBEq, Int.reduceBNe, f4, f4b, f4r0, f4r1, f4r2, f4r3, f4r4, f4r5, f4r6, f4r7, f4r8, f4r9, f4r10, f4r12, f4r13, f4r14, f4r15, f4r16, f4r17, f4r18, f4r19, f4r20, f4r21, f4r22, f4r24, f4r25, f4r26, f4r27, f4r28, f4r29, f4r30, f4r32] | (refine BrW.of (fun hb => ?_) (fun hb => ?_) <;> (have hb' := hb; try simp only [decide_eq_true_eq, decide_eq_false_iff_not, beq_iff_eq, bne_iff_ne, beq_eq_false_iff_ne, bne_eq_false_iff_eq, Bool.not_eq_true', Bool.not_eq_false', Bool.not_eq_true, Bool.not_eq_false, Bool.and_eq_true, Bool.or_eq_true, Bool.and_eq_false_iff, Bool.or_eq_false_iff, Int.not_lt, Int.not_le, ne_eq, gt_iff_lt, ge_iff_le] at hb') <;> (try (exfalso; omega))) | (refine .of ((alive _).mono ?_); rintro v H ⟨rfl, rfl⟩)
      all_goals exact .here rfl
    · have hb1 : 1000 < b := by omega
      clear hb
      repeat' first | simp (disch := first | with_reducible assumption | omega) only [go_sem, Bool.true_and, Bool.and_true, Bool.and_self, Bool.false_and, Bool.and_false, Bool.true_or, Bool.or_true, Bool.false_or, Bool.or_false, ↓reduceIte, Nat.reduceEqDiff, Nat.reduceAdd, Nat.reduceMul, Nat.reduceSub, Nat.reduceBEq, Nat.reduceLeDiff, Nat.reduceLT, Nat.reduceMod, Nat.reduceDiv, Int.reduceToNat, Int.reducePow, Int.reduceMul, Int.reduceAdd, Int.reduceSub, Int.reduceLE, Int.reduceLT, Int.reduceNeg, Int.reduceDiv, Int.reduceMod, Int.reduceEq, Int.reduceBEq, Int.reduceBNe, f4, f4b, f4r0, f4r1, f4r2, f4r3, f4r4, f4r5, f4r6, f4r7, f4r8, f4r9, f4r10, f4r12, f4r13, f4r14, f4r15, f4r16, f4r17, f4r18, f4r19, f4r20, f4r21, f4r22, f4r24, f4r25, f4r26, f4r27, f4r28, f4r29, f4r30, f4r32] | (refine BrW.of (fun hb => ?_) (fun hb => ?_) <;> (have hb' := hb; try simp only [decide_eq_true_eq, decide_eq_false_iff_not, beq_iff_eq, bne_iff_ne, beq_eq_false_iff_ne, bne_eq_false_iff_eq, Bool.not_eq_true', Bool.not_eq_false', Bool.not_eq_true, Bool.not_eq_false, Bool.and_eq_true, Bool.or_eq_true, Bool.and_eq_false_iff, Bool.or_eq_false_iff, Int.not_lt, Int.not_le, ne_eq, gt_iff_lt, ge_iff_le] at hb') <;> (try (exfalso; omega))) | (refine .of ((alive _).mono ?_); rintro v H ⟨rfl, rfl⟩)
      all_goals exact .here rfl
end Go.Proofs.Ytklbagfnepphmaa
