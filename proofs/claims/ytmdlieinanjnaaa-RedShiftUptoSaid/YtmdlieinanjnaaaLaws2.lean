import Derived.Test.YtmdlieinanjnaaaLaws
set_option linter.unusedSimpArgs false
set_option linter.unusedVariables false
set_option maxHeartbeats 1000000
set_option maxRecDepth 20000
namespace Go.Proofs.Ytmdlieinanjnaaa
open Go Go.Am
attribute [local irreducible] opsW Ww loopW callW drawW outW outDW gW cW BrW bothW vW resW DropW RdW dcallW Later.run

/-- So much later, as the program reckons. -/
def X.wadd (b : Int) (x : X) : X := ⟨iadd .i64 x.at' b, x.wa⟩

theorem mem_getD {α : Type} {l : List α} {x d : α} (h : x ∈ l) : ∃ j, j < l.length ∧ l.getD j d = x := by
  obtain ⟨j, hj, e⟩ := List.getElem_of_mem h
  exact ⟨j, hj, by rw [List.getD_eq_getElem?_getD, List.getElem?_eq_getElem hj]; exact e⟩
theorem run_at {tg iv : Int} : ∀ {l : List X} {last : Int} {s : St} {out : List Bool}, run tg iv last s l = some out → 0 ≤ last → ∀ i, i < l.length → 0 ≤ (l.getD i x0).at' ∧ (l.getD i x0).at' ≤ 1099511627776
  | [], _, _, _, _, _, i, hi => by simp at hi
  | x :: r, last, s, out, h, h0, i, hi => by
    rw [run_cons] at h
    by_cases hg : okX last x
    · rw [if_pos hg] at h
      obtain ⟨o, h1, rfl⟩ := Option.map_eq_some_iff.1 h
      have g0 := hg.1
      have g1 := hg.2.1
      cases i with
      | zero => simp only [List.getD_cons_zero]; omega
      | succ i => simp only [List.getD_cons_succ]; exact run_at h1 (by omega) i (by simpa using hi)
    · rw [if_neg hg] at h; cases h
theorem Play_u (tg iv : Int) (l : List X) (k o g c : Nat) (H : Heap) (hs : Xs H k o g l) :
    ACallK Try.prog 8 [.int .i64 tg, .int .i64 iv, slv k o g l.length c] H (fun v H' => ∃ a e, v = .tuple #[a, .int .i64 e] ∧ Le H H' ∧ (e = 0 → good tg iv l ∧ ∃ q g' out, a = slv q 0 g' l.length l.length ∧ Bools H' q 0 g' out ∧ run tg iv 0 .zero l = some out)) := by
  by_cases h : good tg iv l
  · refine (Play_spec tg iv l k o g c H hs h).mono fun v H' h1 => ?_
    rcases h1 with ⟨_, h2, h3⟩ | ⟨out, g', o1, h2, h3, h4⟩
    · exact ⟨_, _, h2, h3, fun h => by cases h⟩
    · exact ⟨_, _, h3, ⟨_, h4⟩, fun _ => ⟨h, _, g', out, rfl, by rw [h4]; exact Bools.new _ _ _ false out (by rw [get_new]; rfl), h2⟩⟩
  · exact (Play_wrong tg iv l k o g c H hs h).mono fun v H' ⟨h1, h2⟩ => ⟨_, _, h1, .of_eq h2, fun h => by cases h⟩

theorem RedShift_args (H : Heap) (vals : List Value) (h : ArgsOk 1048576 H RedShiftSh vals) : ACallK Try.prog 6 vals H fun v _ => v = .bool true := by
  obtain ⟨_, _, rfl, a1, h⟩ := h.cons
  obtain ⟨_, _, rfl, a2, h⟩ := h.cons
  obtain ⟨_, _, rfl, a3, h⟩ := h.cons
  obtain ⟨_, _, rfl, a4, h⟩ := h.cons
  obtain rfl := h.nil
  obtain ⟨tg, rfl, htg⟩ := a1.cell.int_inv
  obtain ⟨iv, rfl, hiv⟩ := a2.cell.int_inv
  obtain ⟨b, rfl, hn⟩ := a4.cell.int_inv
  obtain ⟨k, c, l, rfl, hB, hlc, hs, hok⟩ := rows_of (enc := X.cells) (ok := fun s => -9223372036854775808 ≤ s.at' ∧ s.at' ≤ 9223372036854775807) 2 (fun _ => rfl) x0 rfl (fun cs h => X.of cs h) a3
  clear a1 a2 a3 a4 htg hiv hn h
  have hkl := hs.lt
  refine .walkW f6_ok (by simp; decide) (by decide) ?_
  by_cases hb : 0 ≤ b ∧ b ≤ 1073741824
  · obtain ⟨hb0, hb1⟩ := hb
    repeat' first | simp (disch := first | with_reducible assumption | omega) only [go_sem, Bool.true_and, Bool.and_true, Bool.and_self, Bool.false_and, Bool.and_false, Bool.true_or, Bool.or_true, Bool.false_or, Bool.or_false, ↓reduceIte, Nat.reduceEqDiff, Nat.reduceAdd, Nat.reduceMul, Nat.reduceSub, Nat.reduceBEq, Nat.reduceLeDiff, Nat.reduceLT, Nat.reduceMod, Nat.reduceDiv, Int.reduceToNat, Int.reducePow, Int.reduceMul, Int.reduceAdd, Int.reduceSub, Int.reduceLE, Int.reduceLT, Int.reduceNeg, Int.reduceDiv, Int.reduceMod, Int.reduceEq, Int.reduceBEq, Int.reduceBNe, f6, f6b, f6r0, f6r1, f6r2, f6r3, f6r4, f6r5, f6r6, f6r7, f6r8, f6r9, f6r10, f6r12, f6r13, f6r14] | (refine BrW.of (fun hb => ?_) (fun hb => ?_) <;> (have hb' := hb; try simp only [decide_eq_true_eq, decide_eq_false_iff_not, beq_iff_eq, bne_iff_ne, beq_eq_false_iff_ne, bne_eq_false_iff_eq, Bool.not_eq_true', Bool.not_eq_false', Bool.not_eq_true, Bool.not_eq_false, Bool.and_eq_true, Bool.or_eq_true, Bool.and_eq_false_iff, Bool.or_eq_false_iff, Int.not_lt, Int.not_le, ne_eq, gt_iff_lt, ge_iff_le] at hb') <;> (try (exfalso; omega))) | (refine .of ((alive _).mono ?_); rintro v H ⟨rfl, rfl⟩) | (refine .of ((CloneX_spec l k 0 0 c _ hs (by omega) hlc).mono ?_); rintro v _ ⟨g', rfl, rfl⟩)
    refine loopW.of (by decide) (fun m e H'' => ∃ (i : Nat), e = [(0, .int .i64 tg), (1, .int .i64 iv), (2, slv k 0 0 l.length c), (3, .int .i64 b), (9, slv H.length 0 g' l.length l.length), (26, .int .i64 l.length), (27, .int .i64 i)] ∧
      H'' = H ++ [.cells g' 2 false (flat' X.cells (upd (X.wadd b) l i))] ∧ i ≤ l.length ∧ m = l.length - i) l.length ⟨0, rfl, by rw [upd_zero], by omega, rfl⟩ ?_
    rintro m e H'' ⟨i, rfl, rfl, hi, rfl⟩
    by_cases hlt : i < l.length
    · have hll := upd_len (X.wadd b) l i
      have hcl := flat'_length (enc := X.cells) (s := 2) (fun _ => rfl) (upd (X.wadd b) l i)
      have hgi := upd_get (X.wadd b) l x0 i hlt
      have e0 := flat'_get (enc := X.cells) (s := 2) (fun _ => rfl) x0 (upd (X.wadd b) l i) i 0 (by omega) (by omega)
      have hst := flat'_set (enc := X.cells) (s := 2) (fun _ => rfl) x0 (a' := X.wadd b (l.getD i x0)) (v := .int .i64 (iadd .i64 (l.getD i x0).at' b)) (upd (X.wadd b) l i) i 0 (by omega) (by omega) (by rw [hgi]; rfl)
      rw [upd_succ _ _ _ _ hlt] at hst
      rw [hgi] at e0
      rw [hll] at hcl
      simp only [X.cells, Nat.add_zero, List.getElem?_cons_zero] at e0
      simp only [Nat.add_zero] at hst
      generalize l.getD i x0 = y at *
      generalize hz : iadd .i64 y.at' b = z at *
      repeat' first | simp (disch := first | with_reducible assumption | omega) only [go_sem, Bool.true_and, Bool.and_true, Bool.and_self, Bool.false_and, Bool.and_false, Bool.true_or, Bool.or_true, Bool.false_or, Bool.or_false, ↓reduceIte, Nat.reduceEqDiff, Nat.reduceAdd, Nat.reduceMul, Nat.reduceSub, Nat.reduceBEq, Nat.reduceLeDiff, Nat.reduceLT, Nat.reduceMod, Nat.reduceDiv, Int.reduceToNat, Int.reducePow, Int.reduceMul, Int.reduceAdd, Int.reduceSub, Int.reduceLE, Int.reduceLT, Int.reduceNeg, Int.reduceDiv, Int.reduceMod, Int.reduceEq, Int.reduceBEq, Int.reduceBNe, f6, f6b, f6r0, f6r1, f6r2, f6r3, f6r4, f6r5, f6r6, f6r7, f6r8, f6r9, f6r10, f6r12, f6r13, f6r14, f6l0, e0, hcl, hz, hst] | (refine BrW.of (fun hb => ?_) (fun hb => ?_) <;> (have hb' := hb; try simp only [decide_eq_true_eq, decide_eq_false_iff_not, beq_iff_eq, bne_iff_ne, beq_eq_false_iff_ne, bne_eq_false_iff_eq, Bool.not_eq_true', Bool.not_eq_false', Bool.not_eq_true, Bool.not_eq_false, Bool.and_eq_true, Bool.or_eq_true, Bool.and_eq_false_iff, Bool.or_eq_false_iff, Int.not_lt, Int.not_le, ne_eq, gt_iff_lt, ge_iff_le] at hb') <;> (try (exfalso; omega)))
      refine RdW.cut1 [0, 1, 2, 3, 9, 26, 27] (l.length - (i + 1)) ?_ ?_ ?_ ?_
      · omega
      · exact abnd_flat (flat_rows (fun _ => by simp [X.cells, flat]) _)
      · simp (disch := first | with_reducible assumption | omega) only [go_sem, Bool.true_and, Bool.and_true, Bool.and_self, Bool.false_and, Bool.and_false, Bool.true_or, Bool.or_true, Bool.false_or, Bool.or_false, ↓reduceIte, Nat.reduceEqDiff, Nat.reduceAdd, Nat.reduceMul, Nat.reduceSub, Nat.reduceBEq, Nat.reduceLeDiff, Nat.reduceLT, Nat.reduceMod, Nat.reduceDiv, Int.reduceToNat, Int.reducePow, Int.reduceMul, Int.reduceAdd, Int.reduceSub, Int.reduceLE, Int.reduceLT, Int.reduceNeg, Int.reduceDiv, Int.reduceMod, Int.reduceEq, Int.reduceBEq, Int.reduceBNe]
        simp; omega
      · simp (disch := first | with_reducible assumption | omega) only [go_sem, Bool.true_and, Bool.and_true, Bool.and_self, Bool.false_and, Bool.and_false, Bool.true_or, Bool.or_true, Bool.false_or, Bool.or_false, ↓reduceIte, Nat.reduceEqDiff, Nat.reduceAdd, Nat.reduceMul, Nat.reduceSub, Nat.reduceBEq, Nat.reduceLeDiff, Nat.reduceLT, Nat.reduceMod, Nat.reduceDiv, Int.reduceToNat, Int.reducePow, Int.reduceMul, Int.reduceAdd, Int.reduceSub, Int.reduceLE, Int.reduceLT, Int.reduceNeg, Int.reduceDiv, Int.reduceMod, Int.reduceEq, Int.reduceBEq, Int.reduceBNe]
        exact ⟨i + 1, rfl, rfl, by omega, rfl⟩
    · obtain rfl : i = l.length := by omega
      rw [upd_all]
      have hsm : Xs (H ++ [.cells g' 2 false (flat' X.cells (l.map (X.wadd b)))]) H.length 0 g' (l.map (X.wadd b)) := Tbl.new (enc := X.cells) (s := 2) (d := x0) (fun _ => rfl) _ _ _ false _ (get_new0 _ _ _)
      replace hs := hs.app [.cells g' 2 false (flat' X.cells (l.map (X.wadd b)))]
      generalize H ++ [.cells g' 2 false (flat' X.cells (l.map (X.wadd b)))] = J at *
      have sp1 := Play_u tg iv l k 0 0 c _ hs
      repeat' first | simp (disch := first | with_reducible assumption | omega) only [go_sem, Bool.true_and, Bool.and_true, Bool.and_self, Bool.false_and, Bool.and_false, Bool.true_or, Bool.or_true, Bool.false_or, Bool.or_false, ↓reduceIte, Nat.reduceEqDiff, Nat.reduceAdd, Nat.reduceMul, Nat.reduceSub, Nat.reduceBEq, Nat.reduceLeDiff, Nat.reduceLT, Nat.reduceMod, Nat.reduceDiv, Int.reduceToNat, Int.reducePow, Int.reduceMul, Int.reduceAdd, Int.reduceSub, Int.reduceLE, Int.reduceLT, Int.reduceNeg, Int.reduceDiv, Int.reduceMod, Int.reduceEq, Int.reduceBEq, Int.reduceBNe, f6, f6b, f6r0, f6r1, f6r2, f6r3, f6r4, f6r5, f6r6, f6r7, f6r8, f6r9, f6r10, f6r12, f6r13, f6r14, f6l0, f6, f6b, f6r0, f6r1, f6r2, f6r3, f6r4, f6r5, f6r6, f6r7, f6r8, f6r9, f6r10, f6r12, f6r13, f6r14] | (refine BrW.of (fun hb => ?_) (fun hb => ?_) <;> (have hb' := hb; try simp only [decide_eq_true_eq, decide_eq_false_iff_not, beq_iff_eq, bne_iff_ne, beq_eq_false_iff_ne, bne_eq_false_iff_eq, Bool.not_eq_true', Bool.not_eq_false', Bool.not_eq_true, Bool.not_eq_false, Bool.and_eq_true, Bool.or_eq_true, Bool.and_eq_false_iff, Bool.or_eq_false_iff, Int.not_lt, Int.not_le, ne_eq, gt_iff_lt, ge_iff_le] at hb') <;> (try (exfalso; omega))) | (refine .of (sp1.mono ?_); rintro v H1 ⟨x1, e1, rfl, le1, hp1⟩)
      have sp2 := Play_u tg iv (l.map (X.wadd b)) H.length 0 g' l.length H1 (hsm.le le1)
      rw [List.length_map] at sp2
      refine .of (sp2.mono ?_)
      rintro v H2 ⟨x2, e2, rfl, le2, hp2⟩
      by_cases z1 : e1 = 0
      · by_cases z2 : e2 = 0
        · obtain ⟨n1, q1, g1, m1, rfl, i1, r1⟩ := hp1 z1
          obtain ⟨n2, q2, g2, m2, rfl, i2, r2⟩ := hp2 z2
          have hlen1 := run_length r1
          have hlen2 := run_length r2
          simp only [List.length_map] at hlen2
          have hat : ∀ i, i < l.length → 0 ≤ (l.getD i x0).at' ∧ (l.getD i x0).at' ≤ 1099511627776 := run_at r1 (by omega)
          have hmap : l.map (X.wadd b) = l.map (fun x => ⟨x.at' + b, x.wa⟩) := by
            refine List.map_congr_left fun x hx => ?_
            obtain ⟨j, hj, rfl⟩ := mem_getD (d := x0) hx
            have := hat j hj
            unfold X.wadd
            rw [iadd_i64 _ _ (by omega)]
          rw [hmap] at r2
          obtain rfl := run_later ⟨n1.2.2.1, n1.2.2.2.1⟩ hb0 (Inv.zero 0 (by omega) (by omega)) ⟨by simp [St.zero], rfl, rfl, fun h => by cases h⟩ r1 r2
          have hE := EqualB_spec m2 m2 q1 0 g1 m2.length q2 0 g2 m2.length _ (i1.le le2) i2 (by omega) (by omega)
          rw [hlen1] at hE
          subst z1 z2
          repeat' first | simp (disch := first | with_reducible assumption | omega) only [go_sem, Bool.true_and, Bool.and_true, Bool.and_self, Bool.false_and, Bool.and_false, Bool.true_or, Bool.or_true, Bool.false_or, Bool.or_false, ↓reduceIte, Nat.reduceEqDiff, Nat.reduceAdd, Nat.reduceMul, Nat.reduceSub, Nat.reduceBEq, Nat.reduceLeDiff, Nat.reduceLT, Nat.reduceMod, Nat.reduceDiv, Int.reduceToNat, Int.reducePow, Int.reduceMul, Int.reduceAdd, Int.reduceSub, Int.reduceLE, Int.reduceLT, Int.reduceNeg, Int.reduceDiv, Int.reduceMod, Int.reduceEq, Int.reduceBEq, Int.reduceBNe, f6, f6b, f6r0, f6r1, f6r2, f6r3, f6r4, f6r5, f6r6, f6r7, f6r8, f6r9, f6r10, f6r12, f6r13, f6r14] | (refine BrW.of (fun hb => ?_) (fun hb => ?_) <;> (have hb' := hb; try simp only [decide_eq_true_eq, decide_eq_false_iff_not, beq_iff_eq, bne_iff_ne, beq_eq_false_iff_ne, bne_eq_false_iff_eq, Bool.not_eq_true', Bool.not_eq_false', Bool.not_eq_true, Bool.not_eq_false, Bool.and_eq_true, Bool.or_eq_true, Bool.and_eq_false_iff, Bool.or_eq_false_iff, Int.not_lt, Int.not_le, ne_eq, gt_iff_lt, ge_iff_le] at hb') <;> (try (exfalso; omega))) | (refine .of (hE.mono ?_); rintro v _ ⟨rfl, rfl⟩)
          exact .here (by simp)
        · have z2' : (e2 != 0) = true := by simpa using z2
          subst z1
          repeat' first | simp (disch := first | with_reducible assumption | omega) only [go_sem, Bool.true_and, Bool.and_true, Bool.and_self, Bool.false_and, Bool.and_false, Bool.true_or, Bool.or_true, Bool.false_or, Bool.or_false, ↓reduceIte, Nat.reduceEqDiff, Nat.reduceAdd, Nat.reduceMul, Nat.reduceSub, Nat.reduceBEq, Nat.reduceLeDiff, Nat.reduceLT, Nat.reduceMod, Nat.reduceDiv, Int.reduceToNat, Int.reducePow, Int.reduceMul, Int.reduceAdd, Int.reduceSub, Int.reduceLE, Int.reduceLT, Int.reduceNeg, Int.reduceDiv, Int.reduceMod, Int.reduceEq, Int.reduceBEq, Int.reduceBNe, f6, f6b, f6r0, f6r1, f6r2, f6r3, f6r4, f6r5, f6r6, f6r7, f6r8, f6r9, f6r10, f6r12, f6r13, f6r14, z2'] | (refine BrW.of (fun hb => ?_) (fun hb => ?_) <;> (have hb' := hb; try simp only [decide_eq_true_eq, decide_eq_false_iff_not, beq_iff_eq, bne_iff_ne, beq_eq_false_iff_ne, bne_eq_false_iff_eq, Bool.not_eq_true', Bool.not_eq_false', Bool.not_eq_true, Bool.not_eq_false, Bool.and_eq_true, Bool.or_eq_true, Bool.and_eq_false_iff, Bool.or_eq_false_iff, Int.not_lt, Int.not_le, ne_eq, gt_iff_lt, ge_iff_le] at hb') <;> (try (exfalso; omega)))
          all_goals exact .here rfl
      · have z1' : (e1 != 0) = true := by simpa using z1
        repeat' first | simp (disch := first | with_reducible assumption | omega) only [go_sem, Bool.true_and, Bool.and_true, Bool.and_self, Bool.false_and, Bool.and_false, Bool.true_or, Bool.or_true, Bool.false_or, Bool.or_false, ↓reduceIte, Nat.reduceEqDiff, Nat.reduceAdd, Nat.reduceMul, Nat.reduceSub, Nat.reduceBEq, Nat.reduceLeDiff, Nat.reduceLT, Nat.reduceMod, Nat.reduceDiv, Int.reduceToNat, Int.reducePow, Int.reduceMul, Int.reduceAdd, Int.reduceSub, Int.reduceLE, Int.reduceLT, Int.reduceNeg, Int.reduceDiv, Int.reduceMod, Int.reduceEq, Int.reduceBEq, Int.reduceBNe, f6, f6b, f6r0, f6r1, f6r2, f6r3, f6r4, f6r5, f6r6, f6r7, f6r8, f6r9, f6r10, f6r12, f6r13, f6r14, z1'] | (refine BrW.of (fun hb => ?_) (fun hb => ?_) <;> (have hb' := hb; try simp only [decide_eq_true_eq, decide_eq_false_iff_not, beq_iff_eq, bne_iff_ne, beq_eq_false_iff_ne, bne_eq_false_iff_eq, Bool.not_eq_true', Bool.not_eq_false', Bool.not_eq_true, Bool.not_eq_false, Bool.and_eq_true, Bool.or_eq_true, Bool.and_eq_false_iff, Bool.or_eq_false_iff, Int.not_lt, Int.not_le, ne_eq, gt_iff_lt, ge_iff_le] at hb') <;> (try (exfalso; omega)))
        all_goals exact .here rfl
  · by_cases hb0 : b < 0
    · repeat' first | simp (disch := first | with_reducible assumption | omega) only [go_sem, Bool.true_and, Bool.and_true, Bool.and_self, Bool.false_and, Bool.and_false, Bool.true_or, Bool.or_true, Bool.false_or, Bool.or_false, ↓reduceIte, Nat.reduceEqDiff, Nat.reduceAdd, Nat.reduceMul, Nat.reduceSub, Nat.reduceBEq, Nat.reduceLeDiff, Nat.reduceLT, Nat.reduceMod, Nat.reduceDiv, Int.reduceToNat, Int.reducePow, Int.reduceMul, Int.reduceAdd, Int.reduceSub, Int.reduceLE, Int.reduceLT, Int.reduceNeg, Int.reduceDiv, Int.reduceMod, Int.reduceEq, Int.reduceBEq, Int.reduceBNe, f6, f6b, f6r0, f6r1, f6r2, f6r3, f6r4, f6r5, f6r6, f6r7, f6r8, f6r9, f6r10, f6r12, f6r13, f6r14] | (refine BrW.of (fun hb => ?_) (fun hb => ?_) <;> (have hb' := hb; try simp only [decide_eq_true_eq, decide_eq_false_iff_not, beq_iff_eq, bne_iff_ne, beq_eq_false_iff_ne, bne_eq_false_iff_eq, Bool.not_eq_true', Bool.not_eq_false', Bool.not_eq_true, Bool.not_eq_false, Bool.and_eq_true, Bool.or_eq_true, Bool.and_eq_false_iff, Bool.or_eq_false_iff, Int.not_lt, Int.not_le, ne_eq, gt_iff_lt, ge_iff_le] at hb') <;> (try (exfalso; omega))) | (refine .of ((alive _).mono ?_); rintro v H ⟨rfl, rfl⟩)
      all_goals exact .here rfl
    · have hb1 : 1073741824 < b := by omega
      clear hb
      repeat' first | simp (disch := first | with_reducible assumption | omega) only [go_sem, Bool.true_and, Bool.and_true, Bool.and_self, Bool.false_and, Bool.and_false, Bool.true_or, Bool.or_true, Bool.false_or, Bool.or_false, ↓reduceIte, Nat.reduceEqDiff, Nat.reduceAdd, Nat.reduceMul, Nat.reduceSub, Nat.reduceBEq, Nat.reduceLeDiff, Nat.reduceLT, Nat.reduceMod, Nat.reduceDiv, Int.reduceToNat, Int.reducePow, Int.reduceMul, Int.reduceAdd, Int.reduceSub, Int.reduceLE, Int.reduceLT, Int.reduceNeg, Int.reduceDiv, Int.reduceMod, Int.reduceEq, Int.reduceBEq, Int.reduceBNe, f6, f6b, f6r0, f6r1, f6r2, f6r3, f6r4, f6r5, f6r6, f6r7, f6r8, f6r9, f6r10, f6r12, f6r13, f6r14] | (refine BrW.of (fun hb => ?_) (fun hb => ?_) <;> (have hb' := hb; try simp only [decide_eq_true_eq, decide_eq_false_iff_not, beq_iff_eq, bne_iff_ne, beq_eq_false_iff_ne, bne_eq_false_iff_eq, Bool.not_eq_true', Bool.not_eq_false', Bool.not_eq_true, Bool.not_eq_false, Bool.and_eq_true, Bool.or_eq_true, Bool.and_eq_false_iff, Bool.or_eq_false_iff, Int.not_lt, Int.not_le, ne_eq, gt_iff_lt, ge_iff_le] at hb') <;> (try (exfalso; omega))) | (refine .of ((alive _).mono ?_); rintro v H ⟨rfl, rfl⟩)
      all_goals exact .here rfl
end Go.Proofs.Ytmdlieinanjnaaa
