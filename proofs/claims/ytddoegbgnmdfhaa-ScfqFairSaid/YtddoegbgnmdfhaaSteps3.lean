import Derived.Test.YtddoegbgnmdfhaaSteps2
set_option linter.unusedSimpArgs false
set_option linter.unusedVariables false
set_option maxHeartbeats 4000000
set_option maxRecDepth 20000
namespace Go.Proofs.Ytddoegbgnmdfhaa
open Go Go.Am
attribute [local irreducible] opsW Ww loopW callW drawW outW outDW gW cW BrW bothW vW resW DropW RdW dcallW altW Later.run

theorem Play_spec (ws : List Int) (ops : List Op) (ww wo : Value) (A : Nat → Prop) (H : Heap) (hw0 : IsN A H ww ws) (ho0 : IsO A H wo ops) (hwl : ws.length ≤ 9223372036854775807) (hol : ops.length ≤ 9223372036854775807) :
    ACallK Try.prog 7 [ww, wo] H (fun v H' => ∃ a b c e, v = .tuple #[a, b, c, .int .i64 e] ∧ Le H H' ∧ (e = 0 ↔ (ws.length ≤ 16 ∧ ∀ k, k < ws.length → 1 ≤ ws.getD k 0 ∧ ws.getD k 0 ≤ 12) ∧ ops.length ≤ 400) ∧ (e ≠ 0 → b = .slice none 0 0 ∧ e = 2) ∧
      (e = 0 → IsN (fun _ => True) H' a (runR ws ops).errs ∧ IsS (fun _ => True) H' b (runR ws ops).sent ∧ IsN (fun _ => True) H' c ((runR ws ops).nd.fl.map fun f => (f.t.length : Int)))) := by
  have hW := Wrong_spec ws ww A H hw0 hwl
  obtain ⟨kw, ow, gw, cw, _, rfl, hs, hc⟩ := hw0
  obtain ⟨ro, cs, hk, hcl, hcs⟩ := Ints.cell hs
  obtain ⟨ko, oo, go, co, _, rfl, hso, hco⟩ := ho0
  obtain ⟨roo, cso, hko, q2, q3⟩ := hso.at'
  refine .walkW f7_ok (by simp; decide) (by decide) ?_
  by_cases hok : ws.length ≤ 16 ∧ ∀ k, k < ws.length → 1 ≤ ws.getD k 0 ∧ ws.getD k 0 ≤ 12
  · by_cases h400 : ops.length ≤ 400
    · repeat' first | simp (disch := first | with_reducible assumption | omega) only [go_sem, Bool.true_and, Bool.and_true, Bool.and_self, Bool.false_and, Bool.and_false, Bool.true_or, Bool.or_true, Bool.false_or, Bool.or_false, ↓reduceIte, Nat.reduceEqDiff, Nat.reduceAdd, Nat.reduceMul, Nat.reduceSub, Nat.reduceBEq, Nat.reduceLeDiff, Nat.reduceLT, Nat.reduceMod, Nat.reduceDiv, Int.reduceToNat, Int.reducePow, Int.reduceMul, Int.reduceAdd, Int.reduceSub, Int.reduceLE, Int.reduceLT, Int.reduceNeg, Int.reduceDiv, Int.reduceMod, Int.reduceEq, Int.reduceBEq, Int.reduceBNe, f7, f7b, f7r0, f7r1, f7r2, f7r3, f7r4, f7r5, f7r6, f7r7, f7r8, f7r9, f7r10, f7r11, f7r12, f7r13, f7r14, f7r15, f7r16, f7r17, f7r18, f7r19, f7r20, f7r21, f7r22, f7r23, f7r24, f7r25, f7r26, f7r27, f7r28, f7r29, f7r30, f7r31, f7r32, f7r34, f7r35, f7r36, f7r37, f7r38, f7r39, f7r40, f7r41, f7r42, f7r44, f7r45, f7r46, f7r47, f7r48, f7r49, f7r51, hk, hko, get_old hk, get_old hko] | (refine BrW.of (fun hb => ?_) (fun hb => ?_) <;> (have hb' := hb; try simp only [decide_eq_true_eq, decide_eq_false_iff_not, beq_iff_eq, bne_iff_ne, beq_eq_false_iff_ne, bne_eq_false_iff_eq, Bool.not_eq_true', Bool.not_eq_false', Bool.not_eq_true, Bool.not_eq_false, Bool.and_eq_true, Bool.or_eq_true, Bool.and_eq_false_iff, Bool.or_eq_false_iff, Int.not_lt, Int.not_le, ne_eq, gt_iff_lt, ge_iff_le] at hb') <;> (try (exfalso; omega))) | (refine altW.of ?_ ?_) | (refine .of (hW.mono ?_); rintro v H ⟨e, rfl, he, he2, rfl⟩; obtain rfl := he.2 hok; clear he2)
      have n3 := nils3_flat ws.length
      rw [n3]
      have hkl := (List.getElem?_eq_some_iff.1 hk).1
      have hkol := (List.getElem?_eq_some_iff.1 hko).1
      have hn16 := hok.1
      have hokw : okW ws := hok
      refine loopW.ghost 11 1 rfl ?_
      simp (disch := first | with_reducible assumption | omega) only [go_sem, Bool.true_and, Bool.and_true, Bool.and_self, Bool.false_and, Bool.and_false, Bool.true_or, Bool.or_true, Bool.false_or, Bool.or_false, ↓reduceIte, Nat.reduceEqDiff, Nat.reduceAdd, Nat.reduceMul, Nat.reduceSub, Nat.reduceBEq, Nat.reduceLeDiff, Nat.reduceLT, Nat.reduceMod, Nat.reduceDiv, Int.reduceToNat, Int.reducePow, Int.reduceMul, Int.reduceAdd, Int.reduceSub, Int.reduceLE, Int.reduceLT, Int.reduceNeg, Int.reduceDiv, Int.reduceMod, Int.reduceEq, Int.reduceBEq, Int.reduceBNe]
      refine loopW.ghost 12 2 rfl ?_
      simp (disch := first | with_reducible assumption | omega) only [go_sem, Bool.true_and, Bool.and_true, Bool.and_self, Bool.false_and, Bool.and_false, Bool.true_or, Bool.or_true, Bool.false_or, Bool.or_false, ↓reduceIte, Nat.reduceEqDiff, Nat.reduceAdd, Nat.reduceMul, Nat.reduceSub, Nat.reduceBEq, Nat.reduceLeDiff, Nat.reduceLT, Nat.reduceMod, Nat.reduceDiv, Int.reduceToNat, Int.reducePow, Int.reduceMul, Int.reduceAdd, Int.reduceSub, Int.reduceLE, Int.reduceLT, Int.reduceNeg, Int.reduceDiv, Int.reduceMod, Int.reduceEq, Int.reduceBEq, Int.reduceBNe]
      have hst : Rd7 H (runR ws (ops.take 0)) 0 0 (H ++ [.cells 0 3 false (flat' Rw.cells (List.replicate ws.length r0)), .cells 0 1 false [], .cells 0 2 false []]) := by
        refine ⟨⟨List.replicate ws.length r0, ?_, by simp [runR, startR], fun k hk => ?_, ?_⟩, ?_, ?_, fun j hj => List.getElem?_append_left hj, by simp⟩
        · rw [get_new0]
        · simp only [runR, List.take_zero, List.foldl_nil, startR, List.length_replicate, List.getD_eq_getElem?_getD, List.getElem?_replicate] at hk ⊢
          rw [if_pos hk, if_pos hk]; exact ⟨rfl, fun _ => rfl, fun _ => rfl⟩
        · simp only [runR, List.take_zero, List.foldl_nil, startR, List.length_replicate]
          have hr : ∀ k, (List.replicate ws.length r0).getD k r0 = r0 := fun k => by
            simp only [List.getD_eq_getElem?_getD, List.getElem?_replicate]; split <;> rfl
          have hf : ∀ k, (List.replicate ws.length f0).getD k f0 = f0 := fun k => by
            simp only [List.getD_eq_getElem?_getD, List.getElem?_replicate]; split <;> rfl
          refine (Own.nil _ _ _ (fun k hk => ?_)).cong (fun _ _ => rfl) (fun k hk => ?_)
          · unfold vv; rw [hr]; split <;> rfl
          · unfold ll; rw [hf]; split <;> rfl
        · rw [get_new]; rfl
        · rw [get_new]; rfl
      refine loopW.of (by decide) (fun m e J => ∃ (i ge gt : Nat), e = [(0, slv kw ow gw ws.length cw), (9, slv H.length 0 0 ws.length ws.length), (10, .int .i64 (runR ws (ops.take i)).nd.t), (11, slv (H.length + 1) 0 ge i i), (12, slv (H.length + 2) 0 gt (runR ws (ops.take i)).sent.length (runR ws (ops.take i)).sent.length), (35, slv ko oo go ops.length co), (36, .int .i64 ops.length), (37, .int .i64 i)] ∧
        Rd7 H (runR ws (ops.take i)) ge gt J ∧ i ≤ ops.length ∧ m = ops.length - i) ops.length ⟨0, 0, 0, rfl, hst, by omega, rfl⟩ ?_
      rintro m e J ⟨i, ge, gt, rfl, hR, hi, rfl⟩
      have hkJ : J[kw]? = _ := (hR.old kw hkl).trans hk
      have hkoJ : J[ko]? = _ := (hR.old ko hkol).trans hko
      by_cases hlt : i < ops.length
      · have hR2 := run_okN hokw ops i (by omega)
        have hql := run_qlen ws ops i (by omega)
        have hln := run_lens ws (ops.take i)
        have htl : (ops.take i).length = i := by rw [List.length_take]; omega
        rw [htl] at hln
        have hsn := run_snoc_at ws ops i hlt
        have x0 := q3 i hlt 0 (by omega)
        have x1 := q3 i hlt 1 (by omega)
        have x2 := q3 i hlt 2 (by omega)
        simp only [Op.cells, List.getElem?_cons_zero, List.getElem?_cons_succ, Nat.add_zero, show oo + i * 3 + 2 = oo + i * 3 + 1 + 1 by omega] at x0 x1 x2
        have hMi : 50000000 * (i : Int) ≤ 1000000000000000 := by omega
        have hwc := fun k hk => hcs k hk
        have hwb := fun k hk => hokw.2 k hk
        generalize ops.getD i o0 = o at *
        generalize 50000000 * (i : Int) = M at *
        generalize runR ws (ops.take i) = r at *
        clear hst hcs q3
        have ic := ints_length r.errs
        have it := ints_take r.errs i (by omega)
        have isn := fun x => ints_snoc r.errs x
        have fl := flatS_len r.sent
        have ft := flatS_take r.sent
        have hni : ¬ i + 1 ≤ i := by omega
        have hni2 : ¬ r.sent.length + 1 ≤ r.sent.length := by omega
        have hJl := hR.len
        rw [hln.1] at ic
        have hst2 := hsn
        unfold stepR at hst2
        have h1' := hR.e
        have hR1 := hR.app [.cells 0 0 false [.int .i64 o.k, .int .i64 o.f, .int .i64 o.b]]
        obtain ⟨rs, hF, hrl, hrs, hOwn⟩ := hR.wf
        by_cases h1 : o.k = 1
        · rw [if_pos h1] at hst2
          by_cases h3 : o.f < 0 ∨ (ws.length : Int) ≤ o.f
          · rw [if_pos h3] at hst2
            repeat' first | simp (disch := first | with_reducible assumption | omega) only [go_sem, Bool.true_and, Bool.and_true, Bool.and_self, Bool.false_and, Bool.and_false, Bool.true_or, Bool.or_true, Bool.false_or, Bool.or_false, ↓reduceIte, Nat.reduceEqDiff, Nat.reduceAdd, Nat.reduceMul, Nat.reduceSub, Nat.reduceBEq, Nat.reduceLeDiff, Nat.reduceLT, Nat.reduceMod, Nat.reduceDiv, Int.reduceToNat, Int.reducePow, Int.reduceMul, Int.reduceAdd, Int.reduceSub, Int.reduceLE, Int.reduceLT, Int.reduceNeg, Int.reduceDiv, Int.reduceMod, Int.reduceEq, Int.reduceBEq, Int.reduceBNe, f7, f7b, f7r0, f7r1, f7r2, f7r3, f7r4, f7r5, f7r6, f7r7, f7r8, f7r9, f7r10, f7r11, f7r12, f7r13, f7r14, f7r15, f7r16, f7r17, f7r18, f7r19, f7r20, f7r21, f7r22, f7r23, f7r24, f7r25, f7r26, f7r27, f7r28, f7r29, f7r30, f7r31, f7r32, f7r34, f7r35, f7r36, f7r37, f7r38, f7r39, f7r40, f7r41, f7r42, f7r44, f7r45, f7r46, f7r47, f7r48, f7r49, f7r51, f7l1, hkoJ, get_old hkoJ, get_old hkJ, x0, x1, x2, get_old h1', ic, it, isn, hni, hF, get_old hF] | (refine BrW.of (fun hb => ?_) (fun hb => ?_) <;> (have hb' := hb; try simp only [decide_eq_true_eq, decide_eq_false_iff_not, beq_iff_eq, bne_iff_ne, beq_eq_false_iff_ne, bne_eq_false_iff_eq, Bool.not_eq_true', Bool.not_eq_false', Bool.not_eq_true, Bool.not_eq_false, Bool.and_eq_true, Bool.or_eq_true, Bool.and_eq_false_iff, Bool.or_eq_false_iff, Int.not_lt, Int.not_le, ne_eq, gt_iff_lt, ge_iff_le] at hb') <;> (try (exfalso; omega))) | (refine altW.of ?_ ?_)
            all_goals (try (exfalso; omega))
            all_goals refine RdW.keep [0, 9, 10, 11, 12, 35, 36, 37] (ops.length - (i + 1)) (by omega) ?_
            all_goals simp (disch := first | with_reducible assumption | omega) only [go_sem, Bool.true_and, Bool.and_true, Bool.and_self, Bool.false_and, Bool.and_false, Bool.true_or, Bool.or_true, Bool.false_or, Bool.or_false, ↓reduceIte, Nat.reduceEqDiff, Nat.reduceAdd, Nat.reduceMul, Nat.reduceSub, Nat.reduceBEq, Nat.reduceLeDiff, Nat.reduceLT, Nat.reduceMod, Nat.reduceDiv, Int.reduceToNat, Int.reducePow, Int.reduceMul, Int.reduceAdd, Int.reduceSub, Int.reduceLE, Int.reduceLT, Int.reduceNeg, Int.reduceDiv, Int.reduceMod, Int.reduceEq, Int.reduceBEq, Int.reduceBNe]
            all_goals refine ⟨i + 1, ge + 1, gt, by rw [hst2]; simp, ?_, by omega, rfl⟩
            all_goals rw [hst2]
            all_goals exact (hR.app _).setE _
          · rw [if_neg h3] at hst2
            by_cases h4 : o.b < 1 ∨ 1500 < o.b
            · rw [if_pos h4] at hst2
              repeat' first | simp (disch := first | with_reducible assumption | omega) only [go_sem, Bool.true_and, Bool.and_true, Bool.and_self, Bool.false_and, Bool.and_false, Bool.true_or, Bool.or_true, Bool.false_or, Bool.or_false, ↓reduceIte, Nat.reduceEqDiff, Nat.reduceAdd, Nat.reduceMul, Nat.reduceSub, Nat.reduceBEq, Nat.reduceLeDiff, Nat.reduceLT, Nat.reduceMod, Nat.reduceDiv, Int.reduceToNat, Int.reducePow, Int.reduceMul, Int.reduceAdd, Int.reduceSub, Int.reduceLE, Int.reduceLT, Int.reduceNeg, Int.reduceDiv, Int.reduceMod, Int.reduceEq, Int.reduceBEq, Int.reduceBNe, f7, f7b, f7r0, f7r1, f7r2, f7r3, f7r4, f7r5, f7r6, f7r7, f7r8, f7r9, f7r10, f7r11, f7r12, f7r13, f7r14, f7r15, f7r16, f7r17, f7r18, f7r19, f7r20, f7r21, f7r22, f7r23, f7r24, f7r25, f7r26, f7r27, f7r28, f7r29, f7r30, f7r31, f7r32, f7r34, f7r35, f7r36, f7r37, f7r38, f7r39, f7r40, f7r41, f7r42, f7r44, f7r45, f7r46, f7r47, f7r48, f7r49, f7r51, f7l1, hkoJ, get_old hkoJ, get_old hkJ, x0, x1, x2, get_old h1', ic, it, isn, hni, hF, get_old hF] | (refine BrW.of (fun hb => ?_) (fun hb => ?_) <;> (have hb' := hb; try simp only [decide_eq_true_eq, decide_eq_false_iff_not, beq_iff_eq, bne_iff_ne, beq_eq_false_iff_ne, bne_eq_false_iff_eq, Bool.not_eq_true', Bool.not_eq_false', Bool.not_eq_true, Bool.not_eq_false, Bool.and_eq_true, Bool.or_eq_true, Bool.and_eq_false_iff, Bool.or_eq_false_iff, Int.not_lt, Int.not_le, ne_eq, gt_iff_lt, ge_iff_le] at hb') <;> (try (exfalso; omega))) | (refine altW.of ?_ ?_)
              all_goals (try (exfalso; omega))
              all_goals refine RdW.keep [0, 9, 10, 11, 12, 35, 36, 37] (ops.length - (i + 1)) (by omega) ?_
              all_goals simp (disch := first | with_reducible assumption | omega) only [go_sem, Bool.true_and, Bool.and_true, Bool.and_self, Bool.false_and, Bool.and_false, Bool.true_or, Bool.or_true, Bool.false_or, Bool.or_false, ↓reduceIte, Nat.reduceEqDiff, Nat.reduceAdd, Nat.reduceMul, Nat.reduceSub, Nat.reduceBEq, Nat.reduceLeDiff, Nat.reduceLT, Nat.reduceMod, Nat.reduceDiv, Int.reduceToNat, Int.reducePow, Int.reduceMul, Int.reduceAdd, Int.reduceSub, Int.reduceLE, Int.reduceLT, Int.reduceNeg, Int.reduceDiv, Int.reduceMod, Int.reduceEq, Int.reduceBEq, Int.reduceBNe]
              all_goals refine ⟨i + 1, ge + 1, gt, by rw [hst2]; simp, ?_, by omega, rfl⟩
              all_goals rw [hst2]
              all_goals exact (hR.app _).setE _
            · rw [if_neg h4] at hst2
              -- CUT1
              obtain ⟨k, hk'⟩ := Int.eq_ofNat_of_zero_le (show 0 ≤ o.f by omega)
              rw [hk'] at x1 hst2 h3
              rw [Int.toNat_natCast] at hst2
              have hkn : k < ws.length := by omega
              have hkf : k < r.nd.fl.length := by omega
              obtain ⟨q, oq, gq, csq, hX⟩ := hOwn
              have hatb := hX.at' (2 * k) (by omega)
              have hatt := hX.at' (2 * k + 1) (by omega)
              rw [vv_b, ll_b] at hatb
              rw [vv_t, ll_t] at hatt
              have hbt := (hR2.f k).2.2.2
              have hlb := (hR2.f k).1
              have htb := hR2.t
              have hqlk := hql k
              have hwk := hwb k hkn
              have hwck := hwc k hkn
              have htg := tag_bound (x := o.b) hwk (by omega)
              have fl1 := flatR_len rs
              have g2 := flat'_get (enc := Rw.cells) (s := 3) (fun _ => rfl) r0 rs k 2 (by omega) (by omega)
              simp only [Rw.cells, List.getElem?_cons_zero, List.getElem?_cons_succ] at g2
              rw [(hrs k hkf).1] at g2
              have hset2 : (flat' Rw.cells rs).set (k * 3 + 2) (.int .i64 (max (r.nd.fl.getD k f0).l r.nd.t + o.b * (27720 / ws.getD k 0))) = flat' Rw.cells (rs.set k ⟨(rs.getD k r0).v, (rs.getD k r0).u, max (r.nd.fl.getD k f0).l r.nd.t + o.b * (27720 / ws.getD k 0)⟩) :=
                flat'_set (enc := Rw.cells) (s := 3) (fun _ => rfl) r0 (a' := ⟨(rs.getD k r0).v, (rs.getD k r0).u, max (r.nd.fl.getD k f0).l r.nd.t + o.b * (27720 / ws.getD k 0)⟩) (v := .int .i64 (max (r.nd.fl.getD k f0).l r.nd.t + o.b * (27720 / ws.getD k 0))) rs k 2 (by omega) (by omega) rfl
              have hin : inN ws r.nd k o.b = ⟨r.nd.fl.set k ⟨(r.nd.fl.getD k f0).b ++ [o.b], (r.nd.fl.getD k f0).t ++ [max (r.nd.fl.getD k f0).l r.nd.t + o.b * (27720 / ws.getD k 0)], max (r.nd.fl.getD k f0).l r.nd.t + o.b * (27720 / ws.getD k 0)⟩, r.nd.t⟩ := rfl
              rw [hin] at hst2
              have hLb : 0 ≤ max (r.nd.fl.getD k f0).l r.nd.t ∧ max (r.nd.fl.getD k f0).l r.nd.t ≤ 1000000000000000 := by omega
              have hgr : ∀ (x : Rw) (j : Nat), j < 3 → (flat' Rw.cells (rs.set k x))[k * 3 + j]? = (Rw.cells x)[j]? := fun x j hj => by
                have := flat'_get (enc := Rw.cells) (s := 3) (fun _ => rfl) r0 (rs.set k x) k j (by rw [List.length_set]; omega) (by omega)
                rwa [getD_setR _ _ _ _ (by omega), if_pos rfl] at this
              have hg0 : ∀ x : Rw, (flat' Rw.cells (rs.set k x))[k * 3]? = some x.v := fun x => by simpa [Rw.cells] using hgr x 0 (by omega)
              have hg1 : ∀ x : Rw, (flat' Rw.cells (rs.set k x))[k * 3 + 1]? = some x.u := fun x => by simpa [Rw.cells] using hgr x 1 (by omega)
              have hg2 : ∀ x : Rw, (flat' Rw.cells (rs.set k x))[k * 3 + 2]? = some (.int .i64 x.l) := fun x => by simpa [Rw.cells] using hgr x 2 (by omega)
              have hgl : ∀ x : Rw, (flat' Rw.cells (rs.set k x)).length = r.nd.fl.length * 3 := fun x => by rw [flatR_len, List.length_set, hrl]
              have hs0 : ∀ (x : Rw) (v : Value), (flat' Rw.cells (rs.set k x)).set (k * 3) v = flat' Rw.cells (rs.set k ⟨v, x.u, x.l⟩) := fun x v => by
                have := flat'_set (enc := Rw.cells) (s := 3) (fun _ => rfl) r0 (a' := ⟨v, x.u, x.l⟩) (v := v) (rs.set k x) k 0 (by rw [List.length_set]; omega) (by omega) (by rw [getD_setR _ _ _ _ (by omega), if_pos rfl]; rfl)
                rw [List.set_set] at this
                simpa using this
              have hs1 : ∀ (x : Rw) (v : Value), (flat' Rw.cells (rs.set k x)).set (k * 3 + 1) v = flat' Rw.cells (rs.set k ⟨x.v, v, x.l⟩) := fun x v => by
                have := flat'_set (enc := Rw.cells) (s := 3) (fun _ => rfl) r0 (a' := ⟨x.v, v, x.l⟩) (v := v) (rs.set k x) k 1 (by rw [List.length_set]; omega) (by omega) (by rw [getD_setR _ _ _ _ (by omega), if_pos rfl]; rfl)
                rw [List.set_set] at this
                exact this
              rw [hrl] at fl1
              generalize hL : max (r.nd.fl.getD k f0).l r.nd.t + o.b * (27720 / ws.getD k 0) = L at *
              generalize hX0 : flat' Rw.cells rs = X0 at *
              have nO : ∀ op y Z, ((J ++ [op]).set H.length y ++ Z)[J.length]? = some op := fun op y Z => get_old ((get_set_miss (by omega)).trans (get_new0 J op [])) Z
              have nO0 : ∀ op y, ((J ++ [op]).set H.length y)[J.length]? = some op := fun op y => (get_set_miss (by omega)).trans (get_new0 J op [])
              have nF : ∀ X y Z, ((J ++ X).set H.length y ++ Z)[H.length]? = some y := fun X y Z => get_old (get_set_hit (get_old hF X)) Z
              have nF0 : ∀ X y, ((J ++ X).set H.length y)[H.length]? = some y := fun X y => get_set_hit (get_old hF X)
              have nF1 : ∀ X y Z z, (((J ++ X).set H.length y ++ Z).set H.length z)[H.length]? = some z := fun X y Z z => get_set_hit (nF X y Z)
              have nE : ∀ X y Z z U, (((J ++ X).set H.length y ++ Z).set H.length z ++ U)[H.length + 1]? = _ := fun X y Z z U => get_old ((get_set_miss (by omega)).trans (get_old ((get_set_miss (by omega)).trans (get_old h1' X)) Z)) U
              have hdone : ∀ (J' : Heap) (f' : Fq) (U : Heap), WF (H.length + 3) H.length (r.nd.fl.set k f') J' → J.length ≤ J'.length → (∀ j, j < H.length + 3 → j ≠ H.length → J'[j]? = J[j]?) → Rd7 H ⟨r.errs ++ [0], r.sent, ⟨r.nd.fl.set k f', r.nd.t⟩⟩ (ge + 1) gt ((J' ++ U).set (H.length + 1) (.cells (ge + 1) 1 false (ints (r.errs ++ [0])))) :=
                fun J' f' U a b c => ((hR.go (nd' := ⟨r.nd.fl.set k f', r.nd.t⟩) a b c).app U).setE _
              have hKl : ∀ op y, ((J ++ [op]).set H.length y).length = J.length + 1 := fun op y => by simp
              rcases hatb with ⟨hv, hbn⟩ | ⟨hv, hqP, hQ, hd, ho⟩
              · have htn : (r.nd.fl.getD k f0).t = [] := by rw [hbn] at hbt; exact List.eq_nil_of_length_eq_zero hbt.symm
                rcases hatt with ⟨hu, _⟩ | ⟨hu, _⟩
                · rw [hv, hu] at hset2
                  rw [hbn, htn] at hst2
                  simp only [List.nil_append] at hst2
                  have nQ : ∀ op y Z z i, (((J ++ [op]).set H.length y ++ Z).set H.length z)[((J ++ [op]).set H.length y).length + i]? = Z[i]? := fun op y Z z i => (get_set_miss (by rw [hKl]; omega)).trans (get_new _ Z i)
                  have nJ : ∀ op y Z z j, j < J.length → j ≠ H.length → (((J ++ [op]).set H.length y ++ Z).set H.length z)[j]? = J[j]? := fun op y Z z j h1 h2 => by
                    rw [List.getElem?_set_ne (by omega), List.getElem?_append_left (by rw [hKl]; omega), List.getElem?_set_ne (by omega), List.getElem?_append_left (by omega)]
                  repeat' first | simp (disch := first | with_reducible assumption | omega) only [go_sem, Bool.true_and, Bool.and_true, Bool.and_self, Bool.false_and, Bool.and_false, Bool.true_or, Bool.or_true, Bool.false_or, Bool.or_false, ↓reduceIte, Nat.reduceEqDiff, Nat.reduceAdd, Nat.reduceMul, Nat.reduceSub, Nat.reduceBEq, Nat.reduceLeDiff, Nat.reduceLT, Nat.reduceMod, Nat.reduceDiv, Int.reduceToNat, Int.reducePow, Int.reduceMul, Int.reduceAdd, Int.reduceSub, Int.reduceLE, Int.reduceLT, Int.reduceNeg, Int.reduceDiv, Int.reduceMod, Int.reduceEq, Int.reduceBEq, Int.reduceBNe, f7, f7b, f7r0, f7r1, f7r2, f7r3, f7r4, f7r5, f7r6, f7r7, f7r8, f7r9, f7r10, f7r11, f7r12, f7r13, f7r14, f7r15, f7r16, f7r17, f7r18, f7r19, f7r20, f7r21, f7r22, f7r23, f7r24, f7r25, f7r26, f7r27, f7r28, f7r29, f7r30, f7r31, f7r32, f7r34, f7r35, f7r36, f7r37, f7r38, f7r39, f7r40, f7r41, f7r42, f7r44, f7r45, f7r46, f7r47, f7r48, f7r49, f7r51, f7l1, hkoJ, get_old hkoJ, get_old hkJ, x0, x1, x2, get_old h1', ic, it, isn, hni, hF, get_old hF, g2, hset2, hwck, hL, nO, nO0, nF, nF0, nF1, nE, hg0, hg1, hg2, hgl, hs0, hs1, fl1, List.set_set] | (refine BrW.of (fun hb => ?_) (fun hb => ?_) <;> (have hb' := hb; try simp only [decide_eq_true_eq, decide_eq_false_iff_not, beq_iff_eq, bne_iff_ne, beq_eq_false_iff_ne, bne_eq_false_iff_eq, Bool.not_eq_true', Bool.not_eq_false', Bool.not_eq_true, Bool.not_eq_false, Bool.and_eq_true, Bool.or_eq_true, Bool.and_eq_false_iff, Bool.or_eq_false_iff, Int.not_lt, Int.not_le, ne_eq, gt_iff_lt, ge_iff_le] at hb') <;> (try (exfalso; omega))) | (refine altW.of ?_ ?_)
                  all_goals refine RdW.keep [0, 9, 10, 11, 12, 35, 36, 37] (ops.length - (i + 1)) (by omega) ?_
                  all_goals simp (disch := first | with_reducible assumption | omega) only [go_sem, Bool.true_and, Bool.and_true, Bool.and_self, Bool.false_and, Bool.and_false, Bool.true_or, Bool.or_true, Bool.false_or, Bool.or_false, ↓reduceIte, Nat.reduceEqDiff, Nat.reduceAdd, Nat.reduceMul, Nat.reduceSub, Nat.reduceBEq, Nat.reduceLeDiff, Nat.reduceLT, Nat.reduceMod, Nat.reduceDiv, Int.reduceToNat, Int.reducePow, Int.reduceMul, Int.reduceAdd, Int.reduceSub, Int.reduceLE, Int.reduceLT, Int.reduceNeg, Int.reduceDiv, Int.reduceMod, Int.reduceEq, Int.reduceBEq, Int.reduceBNe]
                  all_goals refine ⟨i + 1, ge + 1, gt, by rw [hst2]; rfl, ?_, by omega, rfl⟩
                  all_goals rw [hst2]
                  all_goals refine hdone _ ⟨[o.b], [L], L⟩ _ (WF.step2 (f' := ⟨[o.b], [L], L⟩) (by omega) hrl hrs hX hkf (nF1 _ _ _ _) (by rw [hKl]; omega) (by rw [hKl]; omega) ((nQ _ _ _ _ _).trans (by rfl)) ((nQ _ _ _ _ _).trans (by rfl)) (by rfl) (by rfl) (by simp) (by simp) (by omega) (fun j hj e1 e2 e3 => ?_)) (by simp; omega) (fun j e1 e2 => nJ _ _ _ _ _ (by omega) e2)
                  all_goals
                    have := hX.lt hj e3
                    have := hX.ge hj e3
                    exact ⟨by rw [hKl]; omega, by rw [hKl]; omega, nJ _ _ _ _ _ (by omega) (by omega)⟩
                · exact absurd ((hrs k hkf).2.1 hv) (by rw [hu]; exact slv_ne _ _ _ _ _)
              · rcases hatt with ⟨hu, _⟩ | ⟨hu, hqP2, hQ2, hd2, ho2⟩
                · exact absurd ((hrs k hkf).2.2 hu) (by rw [hv]; exact slv_ne _ _ _ _ _)
                · have hq12 : q (2 * k) ≠ q (2 * k + 1) := hX.inj _ _ (by omega) (by omega) (by omega) (by rw [vv_b, hv]; exact slv_ne _ _ _ _ _) (by rw [vv_t, hu]; exact slv_ne _ _ _ _ _)
                  have hjq : ∀ j, j < 2 * r.nd.fl.length → j ≠ 2 * k → j ≠ 2 * k + 1 → vv rs j ≠ .slice none 0 0 → q j ≠ q (2 * k) ∧ q j ≠ q (2 * k + 1) := fun j hj e1 e2 e3 => ⟨hX.inj _ _ hj (by omega) e1 e3 (by rw [vv_b, hv]; exact slv_ne _ _ _ _ _), hX.inj _ _ hj (by omega) e2 e3 (by rw [vv_t, hu]; exact slv_ne _ _ _ _ _)⟩
                  rw [hv, hu] at hset2
                  have hql1 := drop_len hd ho
                  have hdt1 := drop_ints hd
                  have hql2 := drop_len hd2 ho2
                  have hdt2 := drop_ints hd2
                  have il1 := ints_length (r.nd.fl.getD k f0).b
                  have is1 := ints_snoc (r.nd.fl.getD k f0).b o.b
                  have il2 := ints_length (r.nd.fl.getD k f0).t
                  have is2 := ints_snoc (r.nd.fl.getD k f0).t L
                  have hQl1 := (List.getElem?_eq_some_iff.1 hQ).1
                  have hQl2 := (List.getElem?_eq_some_iff.1 hQ2).1
                  have hn1 : ¬ (r.nd.fl.getD k f0).b.length + 1 ≤ (r.nd.fl.getD k f0).b.length := by omega
                  have hn2 : ¬ (r.nd.fl.getD k f0).t.length + 1 ≤ (r.nd.fl.getD k f0).t.length := by omega
                  have hlb1 : ((r.nd.fl.getD k f0).b ++ [o.b]).length = (r.nd.fl.getD k f0).b.length + 1 := by rw [List.length_append]; rfl
                  have hlt1 : ((r.nd.fl.getD k f0).t ++ [L]).length = (r.nd.fl.getD k f0).t.length + 1 := by rw [List.length_append]; rfl
                  generalize hB' : (r.nd.fl.getD k f0).b ++ [o.b] = B' at *
                  generalize hT' : (r.nd.fl.getD k f0).t ++ [L] = T' at *
                  generalize (r.nd.fl.getD k f0).b = B at *
                  generalize (r.nd.fl.getD k f0).t = T at *
                  generalize hQ1 : q (2 * k) = Q1 at *
                  generalize hQ2' : q (2 * k + 1) = Q2 at *
                  have m1 : ∀ op y Z, ((J ++ [op]).set H.length y ++ Z)[Q1]? = _ := fun op y Z => get_old ((get_set_miss (by omega)).trans (get_old hQ _)) Z
                  have m10 : ∀ op y, ((J ++ [op]).set H.length y)[Q1]? = _ := fun op y => (get_set_miss (by omega)).trans (get_old hQ _)
                  have m20 : ∀ op y, ((J ++ [op]).set H.length y)[Q2]? = _ := fun op y => (get_set_miss (by omega)).trans (get_old hQ2 _)
                  have m2 : ∀ op y Z A, (((J ++ [op]).set H.length y ++ Z).set Q1 A)[Q2]? = _ := fun op y Z A => (get_set_miss (by omega)).trans (get_old (m20 op y) Z)
                  have m2' : ∀ op y Z A Z', (((J ++ [op]).set H.length y ++ Z).set Q1 A ++ Z')[Q2]? = _ := fun op y Z A Z' => get_old (m2 op y Z A) Z'
                  have mB : ∀ op y a Z A, (((J ++ [op]).set H.length y ++ a :: Z).set Q1 A)[((J ++ [op]).set H.length y).length]? = some a := fun op y a Z A => (get_set_miss (by rw [hKl]; omega)).trans (get_new0 _ a Z)
                  have mB1 : ∀ op y Z A i, (((J ++ [op]).set H.length y ++ Z).set Q1 A)[((J ++ [op]).set H.length y).length + i]? = Z[i]? := fun op y Z A i => (get_set_miss (by rw [hKl]; omega)).trans (get_new _ Z i)
                  have f1 : ∀ op y Z A B, ((((J ++ [op]).set H.length y ++ Z).set Q1 A).set Q2 B)[H.length]? = some y := fun op y Z A B => (get_set_miss (by omega)).trans ((get_set_miss (by omega)).trans (nF _ y Z))
                  have f1' : ∀ op y Z A Z' B, ((((J ++ [op]).set H.length y ++ Z).set Q1 A ++ Z').set Q2 B)[H.length]? = some y := fun op y Z A Z' B => (get_set_miss (by omega)).trans (get_old ((get_set_miss (by omega)).trans (nF _ y Z)) Z')
                  have f0 : ∀ op y Z A, (((J ++ [op]).set H.length y ++ Z).set Q1 A)[H.length]? = some y := fun op y Z A => (get_set_miss (by omega)).trans (nF _ y Z)
                  have f0' : ∀ op y Z A Z', (((J ++ [op]).set H.length y ++ Z).set Q1 A ++ Z')[H.length]? = some y := fun op y Z A Z' => get_old (f0 op y Z A) Z'
                  have oA : ∀ op y Z A, (((J ++ [op]).set H.length y ++ Z).set Q1 A)[J.length]? = some op := fun op y Z A => (get_set_miss (by omega)).trans (nO op y Z)
                  have oA' : ∀ op y Z A Z', (((J ++ [op]).set H.length y ++ Z).set Q1 A ++ Z')[J.length]? = some op := fun op y Z A Z' => get_old (oA op y Z A) Z'
                  have f2 : ∀ op y Z A B z, (((((J ++ [op]).set H.length y ++ Z).set Q1 A).set Q2 B).set H.length z)[H.length]? = some z := fun op y Z A B z => get_set_hit (f1 op y Z A B)
                  have f2' : ∀ op y Z A Z' B z, (((((J ++ [op]).set H.length y ++ Z).set Q1 A ++ Z').set Q2 B).set H.length z)[H.length]? = some z := fun op y Z A Z' B z => get_set_hit (f1' op y Z A Z' B)
                  have nJ : ∀ op y Z A B z j, j < J.length → j ≠ H.length → j ≠ Q1 → j ≠ Q2 → (((((J ++ [op]).set H.length y ++ Z).set Q1 A).set Q2 B).set H.length z)[j]? = J[j]? := fun op y Z A B z j h1 h2 h3 h4 => by
                    rw [List.getElem?_set_ne (by omega), List.getElem?_set_ne (by omega), List.getElem?_set_ne (by omega), List.getElem?_append_left (by rw [hKl]; omega), List.getElem?_set_ne (by omega), List.getElem?_append_left (by omega)]
                  have nJ' : ∀ op y Z A Z' B z j, j < J.length → j ≠ H.length → j ≠ Q1 → j ≠ Q2 → (((((J ++ [op]).set H.length y ++ Z).set Q1 A ++ Z').set Q2 B).set H.length z)[j]? = J[j]? := fun op y Z A Z' B z j h1 h2 h3 h4 => by
                    rw [List.getElem?_set_ne (by omega), List.getElem?_set_ne (by omega), List.getElem?_append_left (by rw [List.length_set, List.length_append, hKl]; omega), List.getElem?_set_ne (by omega), List.getElem?_append_left (by rw [hKl]; omega), List.getElem?_set_ne (by omega), List.getElem?_append_left (by omega)]
                  have gE : ∀ op y Z A B z U, (((((J ++ [op]).set H.length y ++ Z).set Q1 A).set Q2 B).set H.length z ++ U)[H.length + 1]? = _ := fun op y Z A B z U => get_old ((nJ op y Z A B z _ (by omega) (by omega) (by omega) (by omega)).trans h1') U
                  have gE' : ∀ op y Z A Z' B z U, (((((J ++ [op]).set H.length y ++ Z).set Q1 A ++ Z').set Q2 B).set H.length z ++ U)[H.length + 1]? = _ := fun op y Z A Z' B z U => get_old ((nJ' op y Z A Z' B z _ (by omega) (by omega) (by omega) (by omega)).trans h1') U
                  have c1 : ∀ op y Z A B z, (((((J ++ [op]).set H.length y ++ Z).set Q1 A).set Q2 B).set H.length z)[Q1]? = some A := fun op y Z A B z => (get_set_miss (by omega)).trans ((get_set_miss (by omega)).trans (get_set_hit (m1 op y Z)))
                  have c1' : ∀ op y Z A Z' B z, (((((J ++ [op]).set H.length y ++ Z).set Q1 A ++ Z').set Q2 B).set H.length z)[Q1]? = some A := fun op y Z A Z' B z => (get_set_miss (by omega)).trans ((get_set_miss (by omega)).trans (get_old (get_set_hit (m1 op y Z)) Z'))
                  have c2 : ∀ op y Z A B z, (((((J ++ [op]).set H.length y ++ Z).set Q1 A).set Q2 B).set H.length z)[Q2]? = some B := fun op y Z A B z => (get_set_miss (by omega)).trans (get_set_hit (m2 op y Z A))
                  have c2' : ∀ op y Z A Z' B z, (((((J ++ [op]).set H.length y ++ Z).set Q1 A ++ Z').set Q2 B).set H.length z)[Q2]? = some B := fun op y Z A Z' B z => (get_set_miss (by omega)).trans (get_set_hit (m2' op y Z A Z'))
                  repeat' first | simp (disch := first | with_reducible assumption | omega) only [go_sem, Bool.true_and, Bool.and_true, Bool.and_self, Bool.false_and, Bool.and_false, Bool.true_or, Bool.or_true, Bool.false_or, Bool.or_false, ↓reduceIte, Nat.reduceEqDiff, Nat.reduceAdd, Nat.reduceMul, Nat.reduceSub, Nat.reduceBEq, Nat.reduceLeDiff, Nat.reduceLT, Nat.reduceMod, Nat.reduceDiv, Int.reduceToNat, Int.reducePow, Int.reduceMul, Int.reduceAdd, Int.reduceSub, Int.reduceLE, Int.reduceLT, Int.reduceNeg, Int.reduceDiv, Int.reduceMod, Int.reduceEq, Int.reduceBEq, Int.reduceBNe, f7, f7b, f7r0, f7r1, f7r2, f7r3, f7r4, f7r5, f7r6, f7r7, f7r8, f7r9, f7r10, f7r11, f7r12, f7r13, f7r14, f7r15, f7r16, f7r17, f7r18, f7r19, f7r20, f7r21, f7r22, f7r23, f7r24, f7r25, f7r26, f7r27, f7r28, f7r29, f7r30, f7r31, f7r32, f7r34, f7r35, f7r36, f7r37, f7r38, f7r39, f7r40, f7r41, f7r42, f7r44, f7r45, f7r46, f7r47, f7r48, f7r49, f7r51, f7l1, hkoJ, get_old hkoJ, get_old hkJ, x0, x1, x2, get_old h1', ic, it, isn, hni, hF, get_old hF, g2, hset2, hwck, hL, nO, nO0, nF, nF0, hg0, hg1, hg2, hgl, hs0, hs1, fl1, List.set_set, il1, il2, is1, is2, hdt1, hdt2, hn1, hn2, m1, m10, m20, m2, m2', mB, mB1, f1, f1', f2, f2', gE, gE', f0, f0', oA, oA'] | (refine BrW.of (fun hb => ?_) (fun hb => ?_) <;> (have hb' := hb; try simp only [decide_eq_true_eq, decide_eq_false_iff_not, beq_iff_eq, bne_iff_ne, beq_eq_false_iff_ne, bne_eq_false_iff_eq, Bool.not_eq_true', Bool.not_eq_false', Bool.not_eq_true, Bool.not_eq_false, Bool.and_eq_true, Bool.or_eq_true, Bool.and_eq_false_iff, Bool.or_eq_false_iff, Int.not_lt, Int.not_le, ne_eq, gt_iff_lt, ge_iff_le] at hb') <;> (try (exfalso; omega))) | (refine altW.of ?_ ?_)
                  all_goals refine RdW.keep [0, 9, 10, 11, 12, 35, 36, 37] (ops.length - (i + 1)) (by omega) ?_
                  all_goals simp (disch := first | with_reducible assumption | omega) only [go_sem, Bool.true_and, Bool.and_true, Bool.and_self, Bool.false_and, Bool.and_false, Bool.true_or, Bool.or_true, Bool.false_or, Bool.or_false, ↓reduceIte, Nat.reduceEqDiff, Nat.reduceAdd, Nat.reduceMul, Nat.reduceSub, Nat.reduceBEq, Nat.reduceLeDiff, Nat.reduceLT, Nat.reduceMod, Nat.reduceDiv, Int.reduceToNat, Int.reducePow, Int.reduceMul, Int.reduceAdd, Int.reduceSub, Int.reduceLE, Int.reduceLT, Int.reduceNeg, Int.reduceDiv, Int.reduceMod, Int.reduceEq, Int.reduceBEq, Int.reduceBNe]
                  all_goals refine ⟨i + 1, ge + 1, gt, by rw [hst2]; rfl, ?_, by omega, rfl⟩
                  all_goals rw [hst2, ← hlb1, ← hlt1]
                  all_goals first
                    | refine hdone _ ⟨B', T', L⟩ _ (WF.step2 (f' := ⟨B', T', L⟩) (by omega) hrl hrs hX hkf (f2 _ _ _ _ _ _) (by omega) (by omega) (c1 _ _ _ _ _ _) (c2 _ _ _ _ _ _) (by rw [List.drop_zero]) (by rw [List.drop_zero]) (by omega) (by omega) hq12 (fun j hj e1 e2 e3 => ⟨(hjq j hj e1 e2 e3).1, (hjq j hj e1 e2 e3).2, nJ _ _ _ _ _ _ _ (hX.lt hj e3) (by have := hX.ge hj e3; omega) (hjq j hj e1 e2 e3).1 (hjq j hj e1 e2 e3).2⟩)) (by simp; omega) (fun j e1 e2 => nJ _ _ _ _ _ _ _ (by omega) e2 (by omega) (by omega))
                    | refine hdone _ ⟨B', T', L⟩ _ (WF.step2 (f' := ⟨B', T', L⟩) (by omega) hrl hrs hX hkf (f2' _ _ _ _ _ _ _) (by omega) (by omega) (c1' _ _ _ _ _ _ _) (c2' _ _ _ _ _ _ _) (by rw [List.drop_zero]) (by rw [List.drop_zero]) (by omega) (by omega) hq12 (fun j hj e1 e2 e3 => ⟨(hjq j hj e1 e2 e3).1, (hjq j hj e1 e2 e3).2, nJ' _ _ _ _ _ _ _ _ (hX.lt hj e3) (by have := hX.ge hj e3; omega) (hjq j hj e1 e2 e3).1 (hjq j hj e1 e2 e3).2⟩)) (by simp; omega) (fun j e1 e2 => nJ' _ _ _ _ _ _ _ _ (by omega) e2 (by omega) (by omega))
              -- END1
        · rw [if_neg h1] at hst2
          by_cases h2 : o.k = 2
          · rw [if_pos h2] at hst2
            repeat' first | simp (disch := first | with_reducible assumption | omega) only [go_sem, Bool.true_and, Bool.and_true, Bool.and_self, Bool.false_and, Bool.and_false, Bool.true_or, Bool.or_true, Bool.false_or, Bool.or_false, ↓reduceIte, Nat.reduceEqDiff, Nat.reduceAdd, Nat.reduceMul, Nat.reduceSub, Nat.reduceBEq, Nat.reduceLeDiff, Nat.reduceLT, Nat.reduceMod, Nat.reduceDiv, Int.reduceToNat, Int.reducePow, Int.reduceMul, Int.reduceAdd, Int.reduceSub, Int.reduceLE, Int.reduceLT, Int.reduceNeg, Int.reduceDiv, Int.reduceMod, Int.reduceEq, Int.reduceBEq, Int.reduceBNe, f7, f7b, f7r0, f7r1, f7r2, f7r3, f7r4, f7r5, f7r6, f7r7, f7r8, f7r9, f7r10, f7r11, f7r12, f7r13, f7r14, f7r15, f7r16, f7r17, f7r18, f7r19, f7r20, f7r21, f7r22, f7r23, f7r24, f7r25, f7r26, f7r27, f7r28, f7r29, f7r30, f7r31, f7r32, f7r34, f7r35, f7r36, f7r37, f7r38, f7r39, f7r40, f7r41, f7r42, f7r44, f7r45, f7r46, f7r47, f7r48, f7r49, f7r51, f7l1, hkoJ, get_old hkoJ, get_old hkJ, x0, x1, x2, get_old h1', ic, it, isn, hni, hF, get_old hF] | (refine BrW.of (fun hb => ?_) (fun hb => ?_) <;> (have hb' := hb; try simp only [decide_eq_true_eq, decide_eq_false_iff_not, beq_iff_eq, bne_iff_ne, beq_eq_false_iff_ne, bne_eq_false_iff_eq, Bool.not_eq_true', Bool.not_eq_false', Bool.not_eq_true, Bool.not_eq_false, Bool.and_eq_true, Bool.or_eq_true, Bool.and_eq_false_iff, Bool.or_eq_false_iff, Int.not_lt, Int.not_le, ne_eq, gt_iff_lt, ge_iff_le] at hb') <;> (try (exfalso; omega))) | (refine altW.of ?_ ?_)
            have hnl := hln.2.2
            clear hOwn hF
            refine loopW.of (by decide) (fun m e J' => ∃ (j : Nat) (x : Heap), e = [(0, slv kw ow gw ws.length cw), (9, slv H.length 0 0 ws.length ws.length), (10, .int .i64 r.nd.t), (11, slv (H.length + 1) 0 ge i i), (12, slv (H.length + 2) 0 gt r.sent.length r.sent.length), (15, .int .i64 0), (17, .int .i64 (bestN r.nd.fl j)), (35, slv ko oo go ops.length co), (36, .int .i64 ops.length), (37, .int .i64 i), (114, slv H.length 0 0 ws.length ws.length), (115, .int .i64 ws.length), (116, .int .i64 j)] ∧
              J' = J ++ x ∧ j ≤ ws.length ∧ m = ws.length - j) ws.length ⟨0, _, rfl, rfl, by omega, rfl⟩ ?_
            rintro m e J' ⟨j, x, rfl, rfl, hj, rfl⟩
            have hRx := hR.app x
            clear hR hR1
            generalize hJ1 : J ++ x = J1 at *
            obtain ⟨rs, hF, hrl, hrs, hOwn⟩ := hRx.wf
            rw [hnl] at hrl hrs hOwn
            obtain ⟨q, oq, gq, csq, hX⟩ := hOwn
            have fl1 := flatR_len rs
            rw [hrl] at fl1
            have hrow : ∀ k, k < ws.length → (flat' Rw.cells rs)[k * 3]? = some (rs.getD k r0).v ∧ (flat' Rw.cells rs)[k * 3 + 1]? = some (rs.getD k r0).u ∧ (flat' Rw.cells rs)[k * 3 + 1 + 1]? = some (.int .i64 (rs.getD k r0).l) := fun k hk => by
              have g0 := flat'_get (enc := Rw.cells) (s := 3) (fun _ => rfl) r0 rs k 0 (by omega) (by omega)
              have g1 := flat'_get (enc := Rw.cells) (s := 3) (fun _ => rfl) r0 rs k 1 (by omega) (by omega)
              have g2 := flat'_get (enc := Rw.cells) (s := 3) (fun _ => rfl) r0 rs k 2 (by omega) (by omega)
              exact ⟨g0, g1, g2⟩
            have htag : ∀ k, k < ws.length → ((rs.getD k r0).u = .slice none 0 0 ∧ (r.nd.fl.getD k f0).t = []) ∨ ∃ cs, (rs.getD k r0).u = slv (q (2 * k + 1)) (oq (2 * k + 1)) (gq (2 * k + 1)) (r.nd.fl.getD k f0).t.length (r.nd.fl.getD k f0).t.length ∧ J1[q (2 * k + 1)]? = some (.cells (gq (2 * k + 1)) 1 false cs) ∧ ((r.nd.fl.getD k f0).t ≠ [] → cs[oq (2 * k + 1)]? = some (.int .i64 (headQ (r.nd.fl.getD k f0).t))) := fun k hk => by
              have hat := hX.at' (2 * k + 1) (by omega)
              rw [vv_t, ll_t] at hat
              rcases hat with h | ⟨hu, _, hQ, hd, ho⟩
              · exact .inl h
              · refine .inr ⟨_, hu, hQ, fun hne => ?_⟩
                cases ht : (r.nd.fl.getD k f0).t with
                | nil => exact (hne ht).elim
                | cons y t' =>
                  rw [ht] at hd
                  have h1 := congrArg (fun l => l[0]?) hd
                  simp only [List.getElem?_drop, Nat.add_zero] at h1
                  rw [h1]; rfl
            by_cases hlt2 : j < ws.length
            · obtain ⟨g0, g1, g2⟩ := hrow j hlt2
              have hqj := (hql j).2
              rcases htag j hlt2 with ⟨hu, htn⟩ | ⟨cs1, hu, hQ1, hy⟩
              · have hbs := bestN_no (fl := r.nd.fl) (i := j) (fun h => h.1 htn)
                rw [hu] at g1
                clear htag hrow hX hrs hql hst2 hRx
                generalize bestN r.nd.fl j = bst at *
                repeat' first | simp (disch := first | with_reducible assumption | omega) only [go_sem, Bool.true_and, Bool.and_true, Bool.and_self, Bool.false_and, Bool.and_false, Bool.true_or, Bool.or_true, Bool.false_or, Bool.or_false, ↓reduceIte, Nat.reduceEqDiff, Nat.reduceAdd, Nat.reduceMul, Nat.reduceSub, Nat.reduceBEq, Nat.reduceLeDiff, Nat.reduceLT, Nat.reduceMod, Nat.reduceDiv, Int.reduceToNat, Int.reducePow, Int.reduceMul, Int.reduceAdd, Int.reduceSub, Int.reduceLE, Int.reduceLT, Int.reduceNeg, Int.reduceDiv, Int.reduceMod, Int.reduceEq, Int.reduceBEq, Int.reduceBNe, f7, f7b, f7r0, f7r1, f7r2, f7r3, f7r4, f7r5, f7r6, f7r7, f7r8, f7r9, f7r10, f7r11, f7r12, f7r13, f7r14, f7r15, f7r16, f7r17, f7r18, f7r19, f7r20, f7r21, f7r22, f7r23, f7r24, f7r25, f7r26, f7r27, f7r28, f7r29, f7r30, f7r31, f7r32, f7r34, f7r35, f7r36, f7r37, f7r38, f7r39, f7r40, f7r41, f7r42, f7r44, f7r45, f7r46, f7r47, f7r48, f7r49, f7r51, f7l0, hF, get_old hF, g0, g1, g2, fl1] | (refine BrW.of (fun hb => ?_) (fun hb => ?_) <;> (have hb' := hb; try simp only [decide_eq_true_eq, decide_eq_false_iff_not, beq_iff_eq, bne_iff_ne, beq_eq_false_iff_ne, bne_eq_false_iff_eq, Bool.not_eq_true', Bool.not_eq_false', Bool.not_eq_true, Bool.not_eq_false, Bool.and_eq_true, Bool.or_eq_true, Bool.and_eq_false_iff, Bool.or_eq_false_iff, Int.not_lt, Int.not_le, ne_eq, gt_iff_lt, ge_iff_le] at hb') <;> (try (exfalso; omega))) | (refine altW.of ?_ ?_)
                refine RdW.keep [0, 9, 10, 11, 12, 15, 17, 35, 36, 37, 114, 115, 116] (ws.length - (j + 1)) (by omega) ?_
                simp (disch := first | with_reducible assumption | omega) only [go_sem, Bool.true_and, Bool.and_true, Bool.and_self, Bool.false_and, Bool.and_false, Bool.true_or, Bool.or_true, Bool.false_or, Bool.or_false, ↓reduceIte, Nat.reduceEqDiff, Nat.reduceAdd, Nat.reduceMul, Nat.reduceSub, Nat.reduceBEq, Nat.reduceLeDiff, Nat.reduceLT, Nat.reduceMod, Nat.reduceDiv, Int.reduceToNat, Int.reducePow, Int.reduceMul, Int.reduceAdd, Int.reduceSub, Int.reduceLE, Int.reduceLT, Int.reduceNeg, Int.reduceDiv, Int.reduceMod, Int.reduceEq, Int.reduceBEq, Int.reduceBNe]
                exact ⟨j + 1, x ++ _, by rw [hbs]; rfl, by rw [← hJ1, List.append_assoc], by omega, rfl⟩
              · rw [hu] at g1
                by_cases htn : (r.nd.fl.getD j f0).t = []
                · have hbs := bestN_no (fl := r.nd.fl) (i := j) (fun h => h.1 htn)
                  rw [htn] at g1
                  simp only [List.length_nil] at g1
                  clear htag hrow hX hrs hql hst2 hRx
                  generalize bestN r.nd.fl j = bst at *
                  repeat' first | simp (disch := first | with_reducible assumption | omega) only [go_sem, Bool.true_and, Bool.and_true, Bool.and_self, Bool.false_and, Bool.and_false, Bool.true_or, Bool.or_true, Bool.false_or, Bool.or_false, ↓reduceIte, Nat.reduceEqDiff, Nat.reduceAdd, Nat.reduceMul, Nat.reduceSub, Nat.reduceBEq, Nat.reduceLeDiff, Nat.reduceLT, Nat.reduceMod, Nat.reduceDiv, Int.reduceToNat, Int.reducePow, Int.reduceMul, Int.reduceAdd, Int.reduceSub, Int.reduceLE, Int.reduceLT, Int.reduceNeg, Int.reduceDiv, Int.reduceMod, Int.reduceEq, Int.reduceBEq, Int.reduceBNe, f7, f7b, f7r0, f7r1, f7r2, f7r3, f7r4, f7r5, f7r6, f7r7, f7r8, f7r9, f7r10, f7r11, f7r12, f7r13, f7r14, f7r15, f7r16, f7r17, f7r18, f7r19, f7r20, f7r21, f7r22, f7r23, f7r24, f7r25, f7r26, f7r27, f7r28, f7r29, f7r30, f7r31, f7r32, f7r34, f7r35, f7r36, f7r37, f7r38, f7r39, f7r40, f7r41, f7r42, f7r44, f7r45, f7r46, f7r47, f7r48, f7r49, f7r51, f7l0, hF, get_old hF, g0, g1, g2, fl1, hQ1, get_old hQ1] | (refine BrW.of (fun hb => ?_) (fun hb => ?_) <;> (have hb' := hb; try simp only [decide_eq_true_eq, decide_eq_false_iff_not, beq_iff_eq, bne_iff_ne, beq_eq_false_iff_ne, bne_eq_false_iff_eq, Bool.not_eq_true', Bool.not_eq_false', Bool.not_eq_true, Bool.not_eq_false, Bool.and_eq_true, Bool.or_eq_true, Bool.and_eq_false_iff, Bool.or_eq_false_iff, Int.not_lt, Int.not_le, ne_eq, gt_iff_lt, ge_iff_le] at hb') <;> (try (exfalso; omega))) | (refine altW.of ?_ ?_)
                  refine RdW.keep [0, 9, 10, 11, 12, 15, 17, 35, 36, 37, 114, 115, 116] (ws.length - (j + 1)) (by omega) ?_
                  simp (disch := first | with_reducible assumption | omega) only [go_sem, Bool.true_and, Bool.and_true, Bool.and_self, Bool.false_and, Bool.and_false, Bool.true_or, Bool.or_true, Bool.false_or, Bool.or_false, ↓reduceIte, Nat.reduceEqDiff, Nat.reduceAdd, Nat.reduceMul, Nat.reduceSub, Nat.reduceBEq, Nat.reduceLeDiff, Nat.reduceLT, Nat.reduceMod, Nat.reduceDiv, Int.reduceToNat, Int.reducePow, Int.reduceMul, Int.reduceAdd, Int.reduceSub, Int.reduceLE, Int.reduceLT, Int.reduceNeg, Int.reduceDiv, Int.reduceMod, Int.reduceEq, Int.reduceBEq, Int.reduceBNe]
                  exact ⟨j + 1, x ++ _, by rw [hbs]; rfl, by rw [← hJ1, List.append_assoc], by omega, rfl⟩
                · have hy := hy htn
                  have hl0 := List.length_pos_iff.2 htn
                  by_cases hbn : bestN r.nd.fl j < 0
                  · have hbs := bestN_yes (fl := r.nd.fl) (i := j) ⟨htn, .inl hbn⟩
                    clear htag hrow hX hrs hql hst2 hRx
                    generalize bestN r.nd.fl j = bst at *
                    repeat' first | simp (disch := first | with_reducible assumption | omega) only [go_sem, Bool.true_and, Bool.and_true, Bool.and_self, Bool.false_and, Bool.and_false, Bool.true_or, Bool.or_true, Bool.false_or, Bool.or_false, ↓reduceIte, Nat.reduceEqDiff, Nat.reduceAdd, Nat.reduceMul, Nat.reduceSub, Nat.reduceBEq, Nat.reduceLeDiff, Nat.reduceLT, Nat.reduceMod, Nat.reduceDiv, Int.reduceToNat, Int.reducePow, Int.reduceMul, Int.reduceAdd, Int.reduceSub, Int.reduceLE, Int.reduceLT, Int.reduceNeg, Int.reduceDiv, Int.reduceMod, Int.reduceEq, Int.reduceBEq, Int.reduceBNe, f7, f7b, f7r0, f7r1, f7r2, f7r3, f7r4, f7r5, f7r6, f7r7, f7r8, f7r9, f7r10, f7r11, f7r12, f7r13, f7r14, f7r15, f7r16, f7r17, f7r18, f7r19, f7r20, f7r21, f7r22, f7r23, f7r24, f7r25, f7r26, f7r27, f7r28, f7r29, f7r30, f7r31, f7r32, f7r34, f7r35, f7r36, f7r37, f7r38, f7r39, f7r40, f7r41, f7r42, f7r44, f7r45, f7r46, f7r47, f7r48, f7r49, f7r51, f7l0, hF, get_old hF, g0, g1, g2, fl1, hQ1, get_old hQ1] | (refine BrW.of (fun hb => ?_) (fun hb => ?_) <;> (have hb' := hb; try simp only [decide_eq_true_eq, decide_eq_false_iff_not, beq_iff_eq, bne_iff_ne, beq_eq_false_iff_ne, bne_eq_false_iff_eq, Bool.not_eq_true', Bool.not_eq_false', Bool.not_eq_true, Bool.not_eq_false, Bool.and_eq_true, Bool.or_eq_true, Bool.and_eq_false_iff, Bool.or_eq_false_iff, Int.not_lt, Int.not_le, ne_eq, gt_iff_lt, ge_iff_le] at hb') <;> (try (exfalso; omega))) | (refine altW.of ?_ ?_)
                    refine RdW.keep [0, 9, 10, 11, 12, 15, 17, 35, 36, 37, 114, 115, 116] (ws.length - (j + 1)) (by omega) ?_
                    simp (disch := first | with_reducible assumption | omega) only [go_sem, Bool.true_and, Bool.and_true, Bool.and_self, Bool.false_and, Bool.and_false, Bool.true_or, Bool.or_true, Bool.false_or, Bool.or_false, ↓reduceIte, Nat.reduceEqDiff, Nat.reduceAdd, Nat.reduceMul, Nat.reduceSub, Nat.reduceBEq, Nat.reduceLeDiff, Nat.reduceLT, Nat.reduceMod, Nat.reduceDiv, Int.reduceToNat, Int.reducePow, Int.reduceMul, Int.reduceAdd, Int.reduceSub, Int.reduceLE, Int.reduceLT, Int.reduceNeg, Int.reduceDiv, Int.reduceMod, Int.reduceEq, Int.reduceBEq, Int.reduceBNe]
                    exact ⟨j + 1, x ++ _, by rw [hbs]; rfl, by rw [← hJ1, List.append_assoc], by omega, rfl⟩
                  · rcases bestN_cases r.nd.fl j with ⟨h, _⟩ | ⟨k, hkj, htk, hbk, _⟩
                    · omega
                    · obtain ⟨_, g1k, _⟩ := hrow k (by omega)
                      have hqk := (hql k).2
                      rcases htag k (by omega) with ⟨_, h⟩ | ⟨cs2, hu2, hQ2, hy2⟩
                      · exact (htk h).elim
                      · have hy2 := hy2 htk
                        have hl2 := List.length_pos_iff.2 htk
                        rw [hu2] at g1k
                        have hbb : bestN r.nd.fl (j + 1) = if headQ (r.nd.fl.getD j f0).t < headQ (r.nd.fl.getD k f0).t then (j : Int) else k := by
                          by_cases h : headQ (r.nd.fl.getD j f0).t < headQ (r.nd.fl.getD k f0).t
                          · rw [if_pos h]; exact bestN_yes ⟨htn, .inr (by rw [hbk, Int.toNat_natCast]; exact h)⟩
                          · rw [if_neg h, ← hbk]; exact bestN_no (fun h' => h'.2.elim hbn (by rw [hbk, Int.toNat_natCast]; exact h))
                        rw [hbk]
                        clear htag hrow hX hrs hql hst2 hRx hbn hbk
                        generalize headQ (r.nd.fl.getD j f0).t = yj at *
                        generalize headQ (r.nd.fl.getD k f0).t = yk at *
                        by_cases hlt3 : yj < yk
                        · have hbs := hbb.trans (if_pos hlt3)
                          clear hbb
                          repeat' first | simp (disch := first | with_reducible assumption | omega) only [go_sem, Bool.true_and, Bool.and_true, Bool.and_self, Bool.false_and, Bool.and_false, Bool.true_or, Bool.or_true, Bool.false_or, Bool.or_false, ↓reduceIte, Nat.reduceEqDiff, Nat.reduceAdd, Nat.reduceMul, Nat.reduceSub, Nat.reduceBEq, Nat.reduceLeDiff, Nat.reduceLT, Nat.reduceMod, Nat.reduceDiv, Int.reduceToNat, Int.reducePow, Int.reduceMul, Int.reduceAdd, Int.reduceSub, Int.reduceLE, Int.reduceLT, Int.reduceNeg, Int.reduceDiv, Int.reduceMod, Int.reduceEq, Int.reduceBEq, Int.reduceBNe, f7, f7b, f7r0, f7r1, f7r2, f7r3, f7r4, f7r5, f7r6, f7r7, f7r8, f7r9, f7r10, f7r11, f7r12, f7r13, f7r14, f7r15, f7r16, f7r17, f7r18, f7r19, f7r20, f7r21, f7r22, f7r23, f7r24, f7r25, f7r26, f7r27, f7r28, f7r29, f7r30, f7r31, f7r32, f7r34, f7r35, f7r36, f7r37, f7r38, f7r39, f7r40, f7r41, f7r42, f7r44, f7r45, f7r46, f7r47, f7r48, f7r49, f7r51, f7l0, hF, get_old hF, g0, g1, g2, fl1, g1k, hQ1, get_old hQ1, hQ2, get_old hQ2, hy, hy2] | (refine BrW.of (fun hb => ?_) (fun hb => ?_) <;> (have hb' := hb; try simp only [decide_eq_true_eq, decide_eq_false_iff_not, beq_iff_eq, bne_iff_ne, beq_eq_false_iff_ne, bne_eq_false_iff_eq, Bool.not_eq_true', Bool.not_eq_false', Bool.not_eq_true, Bool.not_eq_false, Bool.and_eq_true, Bool.or_eq_true, Bool.and_eq_false_iff, Bool.or_eq_false_iff, Int.not_lt, Int.not_le, ne_eq, gt_iff_lt, ge_iff_le] at hb') <;> (try (exfalso; omega))) | (refine altW.of ?_ ?_)
                          refine RdW.keep [0, 9, 10, 11, 12, 15, 17, 35, 36, 37, 114, 115, 116] (ws.length - (j + 1)) (by omega) ?_
                          simp (disch := first | with_reducible assumption | omega) only [go_sem, Bool.true_and, Bool.and_true, Bool.and_self, Bool.false_and, Bool.and_false, Bool.true_or, Bool.or_true, Bool.false_or, Bool.or_false, ↓reduceIte, Nat.reduceEqDiff, Nat.reduceAdd, Nat.reduceMul, Nat.reduceSub, Nat.reduceBEq, Nat.reduceLeDiff, Nat.reduceLT, Nat.reduceMod, Nat.reduceDiv, Int.reduceToNat, Int.reducePow, Int.reduceMul, Int.reduceAdd, Int.reduceSub, Int.reduceLE, Int.reduceLT, Int.reduceNeg, Int.reduceDiv, Int.reduceMod, Int.reduceEq, Int.reduceBEq, Int.reduceBNe]
                          exact ⟨j + 1, x ++ _, by rw [hbs]; rfl, by rw [← hJ1, List.append_assoc], by omega, rfl⟩
                        · have hbs := hbb.trans (if_neg hlt3)
                          clear hbb
                          repeat' first | simp (disch := first | with_reducible assumption | omega) only [go_sem, Bool.true_and, Bool.and_true, Bool.and_self, Bool.false_and, Bool.and_false, Bool.true_or, Bool.or_true, Bool.false_or, Bool.or_false, ↓reduceIte, Nat.reduceEqDiff, Nat.reduceAdd, Nat.reduceMul, Nat.reduceSub, Nat.reduceBEq, Nat.reduceLeDiff, Nat.reduceLT, Nat.reduceMod, Nat.reduceDiv, Int.reduceToNat, Int.reducePow, Int.reduceMul, Int.reduceAdd, Int.reduceSub, Int.reduceLE, Int.reduceLT, Int.reduceNeg, Int.reduceDiv, Int.reduceMod, Int.reduceEq, Int.reduceBEq, Int.reduceBNe, f7, f7b, f7r0, f7r1, f7r2, f7r3, f7r4, f7r5, f7r6, f7r7, f7r8, f7r9, f7r10, f7r11, f7r12, f7r13, f7r14, f7r15, f7r16, f7r17, f7r18, f7r19, f7r20, f7r21, f7r22, f7r23, f7r24, f7r25, f7r26, f7r27, f7r28, f7r29, f7r30, f7r31, f7r32, f7r34, f7r35, f7r36, f7r37, f7r38, f7r39, f7r40, f7r41, f7r42, f7r44, f7r45, f7r46, f7r47, f7r48, f7r49, f7r51, f7l0, hF, get_old hF, g0, g1, g2, fl1, g1k, hQ1, get_old hQ1, hQ2, get_old hQ2, hy, hy2] | (refine BrW.of (fun hb => ?_) (fun hb => ?_) <;> (have hb' := hb; try simp only [decide_eq_true_eq, decide_eq_false_iff_not, beq_iff_eq, bne_iff_ne, beq_eq_false_iff_ne, bne_eq_false_iff_eq, Bool.not_eq_true', Bool.not_eq_false', Bool.not_eq_true, Bool.not_eq_false, Bool.and_eq_true, Bool.or_eq_true, Bool.and_eq_false_iff, Bool.or_eq_false_iff, Int.not_lt, Int.not_le, ne_eq, gt_iff_lt, ge_iff_le] at hb') <;> (try (exfalso; omega))) | (refine altW.of ?_ ?_)
                          refine RdW.keep [0, 9, 10, 11, 12, 15, 17, 35, 36, 37, 114, 115, 116] (ws.length - (j + 1)) (by omega) ?_
                          simp (disch := first | with_reducible assumption | omega) only [go_sem, Bool.true_and, Bool.and_true, Bool.and_self, Bool.false_and, Bool.and_false, Bool.true_or, Bool.or_true, Bool.false_or, Bool.or_false, ↓reduceIte, Nat.reduceEqDiff, Nat.reduceAdd, Nat.reduceMul, Nat.reduceSub, Nat.reduceBEq, Nat.reduceLeDiff, Nat.reduceLT, Nat.reduceMod, Nat.reduceDiv, Int.reduceToNat, Int.reducePow, Int.reduceMul, Int.reduceAdd, Int.reduceSub, Int.reduceLE, Int.reduceLT, Int.reduceNeg, Int.reduceDiv, Int.reduceMod, Int.reduceEq, Int.reduceBEq, Int.reduceBNe]
                          exact ⟨j + 1, x ++ _, by rw [hbs]; rfl, by rw [← hJ1, List.append_assoc], by omega, rfl⟩
            · obtain rfl : j = ws.length := by omega
              have hpk : pickK r.nd = bestN r.nd.fl ws.length := by unfold pickK; rw [hnl]
              have hE := hRx.e
              have hT := hRx.t
              have hJl1 := hRx.len
              rcases bestN_cases r.nd.fl ws.length with ⟨hbn, _⟩ | ⟨k, hkn, htk, hbk, _⟩
              · rw [hpk, hbn, if_pos (by decide)] at hst2
                rw [hbn]
                repeat' first | simp (disch := first | with_reducible assumption | omega) only [go_sem, Bool.true_and, Bool.and_true, Bool.and_self, Bool.false_and, Bool.and_false, Bool.true_or, Bool.or_true, Bool.false_or, Bool.or_false, ↓reduceIte, Nat.reduceEqDiff, Nat.reduceAdd, Nat.reduceMul, Nat.reduceSub, Nat.reduceBEq, Nat.reduceLeDiff, Nat.reduceLT, Nat.reduceMod, Nat.reduceDiv, Int.reduceToNat, Int.reducePow, Int.reduceMul, Int.reduceAdd, Int.reduceSub, Int.reduceLE, Int.reduceLT, Int.reduceNeg, Int.reduceDiv, Int.reduceMod, Int.reduceEq, Int.reduceBEq, Int.reduceBNe, f7, f7b, f7r0, f7r1, f7r2, f7r3, f7r4, f7r5, f7r6, f7r7, f7r8, f7r9, f7r10, f7r11, f7r12, f7r13, f7r14, f7r15, f7r16, f7r17, f7r18, f7r19, f7r20, f7r21, f7r22, f7r23, f7r24, f7r25, f7r26, f7r27, f7r28, f7r29, f7r30, f7r31, f7r32, f7r34, f7r35, f7r36, f7r37, f7r38, f7r39, f7r40, f7r41, f7r42, f7r44, f7r45, f7r46, f7r47, f7r48, f7r49, f7r51, f7l0, f7, f7b, f7r0, f7r1, f7r2, f7r3, f7r4, f7r5, f7r6, f7r7, f7r8, f7r9, f7r10, f7r11, f7r12, f7r13, f7r14, f7r15, f7r16, f7r17, f7r18, f7r19, f7r20, f7r21, f7r22, f7r23, f7r24, f7r25, f7r26, f7r27, f7r28, f7r29, f7r30, f7r31, f7r32, f7r34, f7r35, f7r36, f7r37, f7r38, f7r39, f7r40, f7r41, f7r42, f7r44, f7r45, f7r46, f7r47, f7r48, f7r49, f7r51, f7l1, get_old hE, hE, ic, it, isn, hni] | (refine BrW.of (fun hb => ?_) (fun hb => ?_) <;> (have hb' := hb; try simp only [decide_eq_true_eq, decide_eq_false_iff_not, beq_iff_eq, bne_iff_ne, beq_eq_false_iff_ne, bne_eq_false_iff_eq, Bool.not_eq_true', Bool.not_eq_false', Bool.not_eq_true, Bool.not_eq_false, Bool.and_eq_true, Bool.or_eq_true, Bool.and_eq_false_iff, Bool.or_eq_false_iff, Int.not_lt, Int.not_le, ne_eq, gt_iff_lt, ge_iff_le] at hb') <;> (try (exfalso; omega))) | (refine altW.of ?_ ?_)
                refine RdW.keep [0, 9, 10, 11, 12, 35, 36, 37] (ops.length - (i + 1)) (by omega) ?_
                simp (disch := first | with_reducible assumption | omega) only [go_sem, Bool.true_and, Bool.and_true, Bool.and_self, Bool.false_and, Bool.and_false, Bool.true_or, Bool.or_true, Bool.false_or, Bool.or_false, ↓reduceIte, Nat.reduceEqDiff, Nat.reduceAdd, Nat.reduceMul, Nat.reduceSub, Nat.reduceBEq, Nat.reduceLeDiff, Nat.reduceLT, Nat.reduceMod, Nat.reduceDiv, Int.reduceToNat, Int.reducePow, Int.reduceMul, Int.reduceAdd, Int.reduceSub, Int.reduceLE, Int.reduceLT, Int.reduceNeg, Int.reduceDiv, Int.reduceMod, Int.reduceEq, Int.reduceBEq, Int.reduceBNe]
                refine ⟨i + 1, ge + 1, gt, by rw [hst2]; rfl, ?_, by omega, rfl⟩
                rw [hst2]
                exact (hRx.app _).setE _
              · rw [hpk, hbk, if_neg (by omega), Int.toNat_natCast] at hst2
                rw [hbk]
                obtain ⟨g0, g1, g2⟩ := hrow k hkn
                have hqk := hql k
                have hbt := (hR2.f k).2.2.2
                have hatb := hX.at' (2 * k) (by omega)
                have hatt := hX.at' (2 * k + 1) (by omega)
                rw [vv_b, ll_b] at hatb
                rw [vv_t, ll_t] at hatt
                rcases hatb with ⟨_, hbn⟩ | ⟨hv, hqP, hQ, hd, ho⟩
                · rw [hbn] at hbt
                  exact (htk (List.eq_nil_of_length_eq_zero hbt.symm)).elim
                · rcases hatt with ⟨_, h⟩ | ⟨hu, hqP2, hQ2, hd2, ho2⟩
                  · exact (htk h).elim
                  · have hq12 : q (2 * k) ≠ q (2 * k + 1) := hX.inj _ _ (by omega) (by omega) (by omega) (by rw [vv_b, hv]; exact slv_ne _ _ _ _ _) (by rw [vv_t, hu]; exact slv_ne _ _ _ _ _)
                    have hjq : ∀ j, j < 2 * ws.length → j ≠ 2 * k → j ≠ 2 * k + 1 → vv rs j ≠ .slice none 0 0 → q j ≠ q (2 * k) ∧ q j ≠ q (2 * k + 1) := fun j hj e1 e2 e3 => ⟨hX.inj _ _ hj (by omega) e1 e3 (by rw [vv_b, hv]; exact slv_ne _ _ _ _ _), hX.inj _ _ hj (by omega) e2 e3 (by rw [vv_t, hu]; exact slv_ne _ _ _ _ _)⟩
                    have hlb := List.length_pos_iff.2 htk
                    have hbne : (r.nd.fl.getD k f0).b ≠ [] := List.length_pos_iff.1 (by omega)
                    have hhb := headQ_bound (hR2.f k).2.2.1
                    have hht := headQ_boundM (by have := hR2.t; omega) (hR2.f k).2.1
                    have hxb : (csq (2 * k))[oq (2 * k)]? = some (.int .i64 (headQ (r.nd.fl.getD k f0).b)) := by
                      cases hb2 : (r.nd.fl.getD k f0).b with
                      | nil => exact (hbne hb2).elim
                      | cons y t' =>
                        rw [hb2] at hd
                        have h1 := congrArg (fun l => l[0]?) hd
                        simp only [List.getElem?_drop, Nat.add_zero] at h1
                        rw [h1]; rfl
                    have hxt : (csq (2 * k + 1))[oq (2 * k + 1)]? = some (.int .i64 (headQ (r.nd.fl.getD k f0).t)) := by
                      cases hb2 : (r.nd.fl.getD k f0).t with
                      | nil => exact (htk hb2).elim
                      | cons y t' =>
                        rw [hb2] at hd2
                        have h1 := congrArg (fun l => l[0]?) hd2
                        simp only [List.getElem?_drop, Nat.add_zero] at h1
                        rw [h1]; rfl
                    have hdt : ∀ {cs : List Value} {o : Nat} {l : List Int}, cs.drop o = ints l → cs.drop (o + 1) = ints l.tail := fun {cs o l} h => by
                      have h1 := congrArg (List.drop 1) h
                      rw [List.drop_drop] at h1
                      rw [h1]; simp [ints]
                    have hd' := hdt hd
                    have hd2' := hdt hd2
                    have hol := drop_len hd ho
                    have hol2 := drop_len hd2 ho2
                    have hlbt : (r.nd.fl.getD k f0).b.tail.length = (r.nd.fl.getD k f0).b.length - 1 := List.length_tail
                    have hltt : (r.nd.fl.getD k f0).t.tail.length = (r.nd.fl.getD k f0).t.length - 1 := List.length_tail
                    have hgr : ∀ (x : Rw) (j : Nat), j < 3 → (flat' Rw.cells (rs.set k x))[k * 3 + j]? = (Rw.cells x)[j]? := fun x j hj => by
                      have := flat'_get (enc := Rw.cells) (s := 3) (fun _ => rfl) r0 (rs.set k x) k j (by rw [List.length_set]; omega) (by omega)
                      rwa [getD_setR _ _ _ _ (by omega), if_pos rfl] at this
                    have hg0 : ∀ x : Rw, (flat' Rw.cells (rs.set k x))[k * 3]? = some x.v := fun x => by simpa [Rw.cells] using hgr x 0 (by omega)
                    have hg1 : ∀ x : Rw, (flat' Rw.cells (rs.set k x))[k * 3 + 1]? = some x.u := fun x => by simpa [Rw.cells] using hgr x 1 (by omega)
                    have hgl : ∀ x : Rw, (flat' Rw.cells (rs.set k x)).length = ws.length * 3 := fun x => by rw [flatR_len, List.length_set, hrl]
                    have hset0 : ∀ v : Value, (flat' Rw.cells rs).set (k * 3) v = flat' Rw.cells (rs.set k ⟨v, (rs.getD k r0).u, (rs.getD k r0).l⟩) := fun v => by
                      have := flat'_set (enc := Rw.cells) (s := 3) (fun _ => rfl) r0 (a' := ⟨v, (rs.getD k r0).u, (rs.getD k r0).l⟩) (v := v) rs k 0 (by omega) (by omega) rfl
                      simpa using this
                    have hs1 : ∀ (x : Rw) (v : Value), (flat' Rw.cells (rs.set k x)).set (k * 3 + 1) v = flat' Rw.cells (rs.set k ⟨x.v, v, x.l⟩) := fun x v => by
                      have := flat'_set (enc := Rw.cells) (s := 3) (fun _ => rfl) r0 (a' := ⟨x.v, v, x.l⟩) (v := v) (rs.set k x) k 1 (by rw [List.length_set]; omega) (by omega) (by rw [getD_setR _ _ _ _ (by omega), if_pos rfl]; rfl)
                      rw [List.set_set] at this
                      exact this
                    have hout : outN r.nd k = ⟨r.nd.fl.set k ⟨(r.nd.fl.getD k f0).b.tail, (r.nd.fl.getD k f0).t.tail, (r.nd.fl.getD k f0).l⟩, headQ (r.nd.fl.getD k f0).t⟩ := rfl
                    have hrl' := (hrs k hkn).1
                    rw [hout] at hst2
                    rw [hv] at g0
                    rw [hu] at g1
                    rw [hu] at hset0
                    rw [hrl'] at hset0 g2
                    have fs := flatS_snoc r.sent ⟨k, headQ (r.nd.fl.getD k f0).b⟩
                    simp only at fs
                    generalize hBt : (r.nd.fl.getD k f0).b.tail = Bt at *
                    generalize hTt : (r.nd.fl.getD k f0).t.tail = Tt at *
                    generalize hxb' : headQ (r.nd.fl.getD k f0).b = xb at *
                    generalize hxt' : headQ (r.nd.fl.getD k f0).t = xt at *
                    generalize (r.nd.fl.getD k f0).l = L at *
                    generalize (r.nd.fl.getD k f0).b = B at *
                    generalize (r.nd.fl.getD k f0).t = T at *
                    generalize hQ1 : q (2 * k) = Q1 at *
                    generalize hQ2' : q (2 * k + 1) = Q2 at *
                    generalize oq (2 * k) = O1 at *
                    generalize oq (2 * k + 1) = O2 at *
                    have hQl1 := (List.getElem?_eq_some_iff.1 hQ).1
                    have hQl2 := (List.getElem?_eq_some_iff.1 hQ2).1
                    have tF : ∀ Z y, ((J1 ++ Z).set (H.length + 2) y)[H.length]? = _ := fun Z y => (get_set_miss (by omega)).trans (get_old hF Z)
                    have tQ : ∀ Z y, ((J1 ++ Z).set (H.length + 2) y)[Q1]? = _ := fun Z y => (get_set_miss (by omega)).trans (get_old hQ Z)
                    have tQ2 : ∀ Z y, ((J1 ++ Z).set (H.length + 2) y)[Q2]? = _ := fun Z y => (get_set_miss (by omega)).trans (get_old hQ2 Z)
                    have sF : ∀ Z y z, (((J1 ++ Z).set (H.length + 2) y).set H.length z)[H.length]? = some z := fun Z y z => get_set_hit (tF Z y)
                    have sQ : ∀ Z y z, (((J1 ++ Z).set (H.length + 2) y).set H.length z)[Q1]? = _ := fun Z y z => (get_set_miss (by omega)).trans (tQ Z y)
                    have sQ2 : ∀ Z y z, (((J1 ++ Z).set (H.length + 2) y).set H.length z)[Q2]? = _ := fun Z y z => (get_set_miss (by omega)).trans (tQ2 Z y)
                    have sE : ∀ Z y z U, (((J1 ++ Z).set (H.length + 2) y).set H.length z ++ U)[H.length + 1]? = _ := fun Z y z U => get_old ((get_set_miss (by omega)).trans ((get_set_miss (by omega)).trans (get_old hE Z))) U
                    have hO1 : O1 + 1 ≤ (csq (2 * k)).length := by omega
                    have hO2 : O2 + 1 ≤ (csq (2 * k + 1)).length := by omega
                    repeat' first | simp (disch := first | with_reducible assumption | omega) only [go_sem, Bool.true_and, Bool.and_true, Bool.and_self, Bool.false_and, Bool.and_false, Bool.true_or, Bool.or_true, Bool.false_or, Bool.or_false, ↓reduceIte, Nat.reduceEqDiff, Nat.reduceAdd, Nat.reduceMul, Nat.reduceSub, Nat.reduceBEq, Nat.reduceLeDiff, Nat.reduceLT, Nat.reduceMod, Nat.reduceDiv, Int.reduceToNat, Int.reducePow, Int.reduceMul, Int.reduceAdd, Int.reduceSub, Int.reduceLE, Int.reduceLT, Int.reduceNeg, Int.reduceDiv, Int.reduceMod, Int.reduceEq, Int.reduceBEq, Int.reduceBNe, f7, f7b, f7r0, f7r1, f7r2, f7r3, f7r4, f7r5, f7r6, f7r7, f7r8, f7r9, f7r10, f7r11, f7r12, f7r13, f7r14, f7r15, f7r16, f7r17, f7r18, f7r19, f7r20, f7r21, f7r22, f7r23, f7r24, f7r25, f7r26, f7r27, f7r28, f7r29, f7r30, f7r31, f7r32, f7r34, f7r35, f7r36, f7r37, f7r38, f7r39, f7r40, f7r41, f7r42, f7r44, f7r45, f7r46, f7r47, f7r48, f7r49, f7r51, f7l0, f7, f7b, f7r0, f7r1, f7r2, f7r3, f7r4, f7r5, f7r6, f7r7, f7r8, f7r9, f7r10, f7r11, f7r12, f7r13, f7r14, f7r15, f7r16, f7r17, f7r18, f7r19, f7r20, f7r21, f7r22, f7r23, f7r24, f7r25, f7r26, f7r27, f7r28, f7r29, f7r30, f7r31, f7r32, f7r34, f7r35, f7r36, f7r37, f7r38, f7r39, f7r40, f7r41, f7r42, f7r44, f7r45, f7r46, f7r47, f7r48, f7r49, f7r51, f7l1, get_old hE, hE, ic, it, isn, hni, hF, get_old hF, g0, g1, g2, fl1, hQ, get_old hQ, hQ2, get_old hQ2, hxb, hxt, hT, get_old hT, fl, ft, fs, hni2, tF, tQ, tQ2, sF, sQ, sQ2, sE, hset0, hs1, hg0, hg1, hgl, List.set_set] | (refine BrW.of (fun hb => ?_) (fun hb => ?_) <;> (have hb' := hb; try simp only [decide_eq_true_eq, decide_eq_false_iff_not, beq_iff_eq, bne_iff_ne, beq_eq_false_iff_ne, bne_eq_false_iff_eq, Bool.not_eq_true', Bool.not_eq_false', Bool.not_eq_true, Bool.not_eq_false, Bool.and_eq_true, Bool.or_eq_true, Bool.and_eq_false_iff, Bool.or_eq_false_iff, Int.not_lt, Int.not_le, ne_eq, gt_iff_lt, ge_iff_le] at hb') <;> (try (exfalso; omega))) | (refine altW.of ?_ ?_)
                    refine RdW.keep [0, 9, 10, 11, 12, 35, 36, 37] (ops.length - (i + 1)) (by omega) ?_
                    simp (disch := first | with_reducible assumption | omega) only [go_sem, Bool.true_and, Bool.and_true, Bool.and_self, Bool.false_and, Bool.and_false, Bool.true_or, Bool.or_true, Bool.false_or, Bool.or_false, ↓reduceIte, Nat.reduceEqDiff, Nat.reduceAdd, Nat.reduceMul, Nat.reduceSub, Nat.reduceBEq, Nat.reduceLeDiff, Nat.reduceLT, Nat.reduceMod, Nat.reduceDiv, Int.reduceToNat, Int.reducePow, Int.reduceMul, Int.reduceAdd, Int.reduceSub, Int.reduceLE, Int.reduceLT, Int.reduceNeg, Int.reduceDiv, Int.reduceMod, Int.reduceEq, Int.reduceBEq, Int.reduceBNe]
                    refine ⟨i + 1, ge + 1, gt + 1, by rw [hst2, List.length_append]; rfl, ?_, by omega, rfl⟩
                    rw [hst2, ← hlbt, ← hltt]
                    rw [← hnl] at hX hrl hrs
                    exact (((((hRx.app _).setT _).go (nd' := ⟨r.nd.fl.set k ⟨Bt, Tt, L⟩, xt⟩) (WF.step2 (f' := ⟨Bt, Tt, L⟩) (by omega) hrl hrs hX (by omega) (sF _ _ _) (by omega) (by omega) (sQ _ _ _) (sQ2 _ _ _) hd' hd2' (by omega) (by omega) hq12 (fun j hj e1 e2 e3 => ⟨(hjq j (by omega) e1 e2 e3).1, (hjq j (by omega) e1 e2 e3).2, by
                      have := hX.lt hj e3
                      have := hX.ge hj e3
                      rw [List.getElem?_set_ne (by omega), List.getElem?_set_ne (by omega), List.getElem?_append_left (by omega)]⟩)) (by simp) (fun j e1 e2 => get_set_miss (by omega))).app _).setE _)
          · rw [if_neg h2] at hst2
            repeat' first | simp (disch := first | with_reducible assumption | omega) only [go_sem, Bool.true_and, Bool.and_true, Bool.and_self, Bool.false_and, Bool.and_false, Bool.true_or, Bool.or_true, Bool.false_or, Bool.or_false, ↓reduceIte, Nat.reduceEqDiff, Nat.reduceAdd, Nat.reduceMul, Nat.reduceSub, Nat.reduceBEq, Nat.reduceLeDiff, Nat.reduceLT, Nat.reduceMod, Nat.reduceDiv, Int.reduceToNat, Int.reducePow, Int.reduceMul, Int.reduceAdd, Int.reduceSub, Int.reduceLE, Int.reduceLT, Int.reduceNeg, Int.reduceDiv, Int.reduceMod, Int.reduceEq, Int.reduceBEq, Int.reduceBNe, f7, f7b, f7r0, f7r1, f7r2, f7r3, f7r4, f7r5, f7r6, f7r7, f7r8, f7r9, f7r10, f7r11, f7r12, f7r13, f7r14, f7r15, f7r16, f7r17, f7r18, f7r19, f7r20, f7r21, f7r22, f7r23, f7r24, f7r25, f7r26, f7r27, f7r28, f7r29, f7r30, f7r31, f7r32, f7r34, f7r35, f7r36, f7r37, f7r38, f7r39, f7r40, f7r41, f7r42, f7r44, f7r45, f7r46, f7r47, f7r48, f7r49, f7r51, f7l1, hkoJ, get_old hkoJ, get_old hkJ, x0, x1, x2, get_old h1', ic, it, isn, hni, hF, get_old hF] | (refine BrW.of (fun hb => ?_) (fun hb => ?_) <;> (have hb' := hb; try simp only [decide_eq_true_eq, decide_eq_false_iff_not, beq_iff_eq, bne_iff_ne, beq_eq_false_iff_ne, bne_eq_false_iff_eq, Bool.not_eq_true', Bool.not_eq_false', Bool.not_eq_true, Bool.not_eq_false, Bool.and_eq_true, Bool.or_eq_true, Bool.and_eq_false_iff, Bool.or_eq_false_iff, Int.not_lt, Int.not_le, ne_eq, gt_iff_lt, ge_iff_le] at hb') <;> (try (exfalso; omega))) | (refine altW.of ?_ ?_)
            all_goals (try (exfalso; omega))
            all_goals refine RdW.keep [0, 9, 10, 11, 12, 35, 36, 37] (ops.length - (i + 1)) (by omega) ?_
            all_goals simp (disch := first | with_reducible assumption | omega) only [go_sem, Bool.true_and, Bool.and_true, Bool.and_self, Bool.false_and, Bool.and_false, Bool.true_or, Bool.or_true, Bool.false_or, Bool.or_false, ↓reduceIte, Nat.reduceEqDiff, Nat.reduceAdd, Nat.reduceMul, Nat.reduceSub, Nat.reduceBEq, Nat.reduceLeDiff, Nat.reduceLT, Nat.reduceMod, Nat.reduceDiv, Int.reduceToNat, Int.reducePow, Int.reduceMul, Int.reduceAdd, Int.reduceSub, Int.reduceLE, Int.reduceLT, Int.reduceNeg, Int.reduceDiv, Int.reduceMod, Int.reduceEq, Int.reduceBEq, Int.reduceBNe]
            all_goals refine ⟨i + 1, ge + 1, gt, by rw [hst2]; simp, ?_, by omega, rfl⟩
            all_goals rw [hst2]
            all_goals exact (hR.app _).setE _
      · obtain rfl : i = ops.length := by omega
        have hR2 := run_okN hokw ops ops.length (Nat.le_refl _)
        have hql := run_qlen ws ops ops.length (Nat.le_refl _)
        have hln := run_lens ws ops
        rw [List.take_length] at hR hR2 hql ⊢
        generalize hr : runR ws ops = r at *
        have hRk := hR
        obtain ⟨⟨rs, hF, hrl, hrs, hOwn⟩, hE, hT, hold, hJl⟩ := hRk
        have fl1 := flatR_len rs
        clear hcs q3 hst
        repeat' first | simp (disch := first | with_reducible assumption | omega) only [go_sem, Bool.true_and, Bool.and_true, Bool.and_self, Bool.false_and, Bool.and_false, Bool.true_or, Bool.or_true, Bool.false_or, Bool.or_false, ↓reduceIte, Nat.reduceEqDiff, Nat.reduceAdd, Nat.reduceMul, Nat.reduceSub, Nat.reduceBEq, Nat.reduceLeDiff, Nat.reduceLT, Nat.reduceMod, Nat.reduceDiv, Int.reduceToNat, Int.reducePow, Int.reduceMul, Int.reduceAdd, Int.reduceSub, Int.reduceLE, Int.reduceLT, Int.reduceNeg, Int.reduceDiv, Int.reduceMod, Int.reduceEq, Int.reduceBEq, Int.reduceBNe, f7, f7b, f7r0, f7r1, f7r2, f7r3, f7r4, f7r5, f7r6, f7r7, f7r8, f7r9, f7r10, f7r11, f7r12, f7r13, f7r14, f7r15, f7r16, f7r17, f7r18, f7r19, f7r20, f7r21, f7r22, f7r23, f7r24, f7r25, f7r26, f7r27, f7r28, f7r29, f7r30, f7r31, f7r32, f7r34, f7r35, f7r36, f7r37, f7r38, f7r39, f7r40, f7r41, f7r42, f7r44, f7r45, f7r46, f7r47, f7r48, f7r49, f7r51, f7l1, f7, f7b, f7r0, f7r1, f7r2, f7r3, f7r4, f7r5, f7r6, f7r7, f7r8, f7r9, f7r10, f7r11, f7r12, f7r13, f7r14, f7r15, f7r16, f7r17, f7r18, f7r19, f7r20, f7r21, f7r22, f7r23, f7r24, f7r25, f7r26, f7r27, f7r28, f7r29, f7r30, f7r31, f7r32, f7r34, f7r35, f7r36, f7r37, f7r38, f7r39, f7r40, f7r41, f7r42, f7r44, f7r45, f7r46, f7r47, f7r48, f7r49, f7r51, hF] | (refine BrW.of (fun hb => ?_) (fun hb => ?_) <;> (have hb' := hb; try simp only [decide_eq_true_eq, decide_eq_false_iff_not, beq_iff_eq, bne_iff_ne, beq_eq_false_iff_ne, bne_eq_false_iff_eq, Bool.not_eq_true', Bool.not_eq_false', Bool.not_eq_true, Bool.not_eq_false, Bool.and_eq_true, Bool.or_eq_true, Bool.and_eq_false_iff, Bool.or_eq_false_iff, Int.not_lt, Int.not_le, ne_eq, gt_iff_lt, ge_iff_le] at hb') <;> (try (exfalso; omega))) | (refine altW.of ?_ ?_)
        refine loopW.ghost 21 1 rfl ?_
        simp (disch := first | with_reducible assumption | omega) only [go_sem, Bool.true_and, Bool.and_true, Bool.and_self, Bool.false_and, Bool.and_false, Bool.true_or, Bool.or_true, Bool.false_or, Bool.or_false, ↓reduceIte, Nat.reduceEqDiff, Nat.reduceAdd, Nat.reduceMul, Nat.reduceSub, Nat.reduceBEq, Nat.reduceLeDiff, Nat.reduceLT, Nat.reduceMod, Nat.reduceDiv, Int.reduceToNat, Int.reducePow, Int.reduceMul, Int.reduceAdd, Int.reduceSub, Int.reduceLE, Int.reduceLT, Int.reduceNeg, Int.reduceDiv, Int.reduceMod, Int.reduceEq, Int.reduceBEq, Int.reduceBNe]
        have hHJ : H.length + 3 ≤ J.length := hJl
        have hqs : ∀ i, i < r.nd.fl.length → (r.nd.fl.map fun f => (f.t.length : Int)).take (i + 1) = (r.nd.fl.map fun f => (f.t.length : Int)).take i ++ [((r.nd.fl.getD i f0).t.length : Int)] := fun i hi => by
          rw [take_snoc 0 _ i (by simpa using hi)]
          congr 2
          simp [List.getD_eq_getElem?_getD, List.getElem?_eq_getElem hi]
        have hqll : (r.nd.fl.map fun f => (f.t.length : Int)).length = r.nd.fl.length := by simp
        generalize hqe : (r.nd.fl.map fun f => (f.t.length : Int)) = qs at *
        have hnl := hln.2.2
        rw [hnl] at hqs hqll hrl hOwn
        refine loopW.of (by decide) (fun m e J' => ∃ (i g : Nat) (x : Heap), e = [(11, slv (H.length + 1) 0 ge ops.length ops.length), (12, slv (H.length + 2) 0 gt r.sent.length r.sent.length), (21, slv J.length 0 g i i), (188, slv H.length 0 0 ws.length ws.length), (189, .int .i64 ws.length), (190, .int .i64 i)] ∧
          J' = J ++ (.cells g 1 false (ints (qs.take i)) :: x) ∧ i ≤ ws.length ∧ m = ws.length - i) ws.length ⟨0, 0, [], rfl, by simp [ints_nil], by omega, rfl⟩ ?_
        rintro m e J' ⟨i, g, x, rfl, rfl, hi2, rfl⟩
        by_cases hlt2 : i < ws.length
        · have hql2 := hql i
          have g0 := flat'_get (enc := Rw.cells) (s := 3) (fun _ => rfl) r0 rs i 0 (by omega) (by omega)
          have g1 := flat'_get (enc := Rw.cells) (s := 3) (fun _ => rfl) r0 rs i 1 (by omega) (by omega)
          have g2 := flat'_get (enc := Rw.cells) (s := 3) (fun _ => rfl) r0 rs i 2 (by omega) (by omega)
          simp only [Rw.cells, List.getElem?_cons_zero, List.getElem?_cons_succ, Nat.add_zero, show i * 3 + 2 = i * 3 + 1 + 1 by omega] at g0 g1 g2
          have ic := ints_length (qs.take i)
          have it := ints_take (qs.take i) i (by rw [List.length_take]; omega)
          have isn := ints_snoc (qs.take i) ((r.nd.fl.getD i f0).t.length : Int)
          have hqi := hqs i hlt2
          rw [List.length_take, Nat.min_eq_left (by omega)] at ic
          have hni : ¬ i + 1 ≤ i := by omega
          obtain ⟨q, o, gq, csq, hX⟩ := hOwn
          have hat := hX.at' (2 * i + 1) (by omega)
          rw [vv_t, ll_t] at hat
          clear hX hql hqs
          rw [← hqi] at isn
          generalize hX2 : ints (qs.take (i + 1)) = X2 at *
          clear hqi
          generalize ints (qs.take i) = X1 at *
          generalize hy : (r.nd.fl.getD i f0).t = y at *
          rcases hat with ⟨hv, rfl⟩ | ⟨hv, hqP, hQ, hd, ho⟩
          · rw [hv] at g1
            have isn2 : X1 ++ [.int .i64 0] = X2 := isn
            repeat' first | simp (disch := first | with_reducible assumption | omega) only [go_sem, Bool.true_and, Bool.and_true, Bool.and_self, Bool.false_and, Bool.and_false, Bool.true_or, Bool.or_true, Bool.false_or, Bool.or_false, ↓reduceIte, Nat.reduceEqDiff, Nat.reduceAdd, Nat.reduceMul, Nat.reduceSub, Nat.reduceBEq, Nat.reduceLeDiff, Nat.reduceLT, Nat.reduceMod, Nat.reduceDiv, Int.reduceToNat, Int.reducePow, Int.reduceMul, Int.reduceAdd, Int.reduceSub, Int.reduceLE, Int.reduceLT, Int.reduceNeg, Int.reduceDiv, Int.reduceMod, Int.reduceEq, Int.reduceBEq, Int.reduceBNe, f7, f7b, f7r0, f7r1, f7r2, f7r3, f7r4, f7r5, f7r6, f7r7, f7r8, f7r9, f7r10, f7r11, f7r12, f7r13, f7r14, f7r15, f7r16, f7r17, f7r18, f7r19, f7r20, f7r21, f7r22, f7r23, f7r24, f7r25, f7r26, f7r27, f7r28, f7r29, f7r30, f7r31, f7r32, f7r34, f7r35, f7r36, f7r37, f7r38, f7r39, f7r40, f7r41, f7r42, f7r44, f7r45, f7r46, f7r47, f7r48, f7r49, f7r51, f7l2, get_old hF, g0, g1, g2, ic, it, isn2, hni, fl1] | (refine BrW.of (fun hb => ?_) (fun hb => ?_) <;> (have hb' := hb; try simp only [decide_eq_true_eq, decide_eq_false_iff_not, beq_iff_eq, bne_iff_ne, beq_eq_false_iff_ne, bne_eq_false_iff_eq, Bool.not_eq_true', Bool.not_eq_false', Bool.not_eq_true, Bool.not_eq_false, Bool.and_eq_true, Bool.or_eq_true, Bool.and_eq_false_iff, Bool.or_eq_false_iff, Int.not_lt, Int.not_le, ne_eq, gt_iff_lt, ge_iff_le] at hb') <;> (try (exfalso; omega))) | (refine altW.of ?_ ?_)
            refine RdW.keep [11, 12, 21, 188, 189, 190] (ws.length - (i + 1)) (by omega) ?_
            simp (disch := first | with_reducible assumption | omega) only [go_sem, Bool.true_and, Bool.and_true, Bool.and_self, Bool.false_and, Bool.and_false, Bool.true_or, Bool.or_true, Bool.false_or, Bool.or_false, ↓reduceIte, Nat.reduceEqDiff, Nat.reduceAdd, Nat.reduceMul, Nat.reduceSub, Nat.reduceBEq, Nat.reduceLeDiff, Nat.reduceLT, Nat.reduceMod, Nat.reduceDiv, Int.reduceToNat, Int.reducePow, Int.reduceMul, Int.reduceAdd, Int.reduceSub, Int.reduceLE, Int.reduceLT, Int.reduceNeg, Int.reduceDiv, Int.reduceMod, Int.reduceEq, Int.reduceBEq, Int.reduceBNe]
            exact ⟨i + 1, g + 1, _, rfl, by rw [hX2], by omega, rfl⟩
          · rw [hv] at g1
            repeat' first | simp (disch := first | with_reducible assumption | omega) only [go_sem, Bool.true_and, Bool.and_true, Bool.and_self, Bool.false_and, Bool.and_false, Bool.true_or, Bool.or_true, Bool.false_or, Bool.or_false, ↓reduceIte, Nat.reduceEqDiff, Nat.reduceAdd, Nat.reduceMul, Nat.reduceSub, Nat.reduceBEq, Nat.reduceLeDiff, Nat.reduceLT, Nat.reduceMod, Nat.reduceDiv, Int.reduceToNat, Int.reducePow, Int.reduceMul, Int.reduceAdd, Int.reduceSub, Int.reduceLE, Int.reduceLT, Int.reduceNeg, Int.reduceDiv, Int.reduceMod, Int.reduceEq, Int.reduceBEq, Int.reduceBNe, f7, f7b, f7r0, f7r1, f7r2, f7r3, f7r4, f7r5, f7r6, f7r7, f7r8, f7r9, f7r10, f7r11, f7r12, f7r13, f7r14, f7r15, f7r16, f7r17, f7r18, f7r19, f7r20, f7r21, f7r22, f7r23, f7r24, f7r25, f7r26, f7r27, f7r28, f7r29, f7r30, f7r31, f7r32, f7r34, f7r35, f7r36, f7r37, f7r38, f7r39, f7r40, f7r41, f7r42, f7r44, f7r45, f7r46, f7r47, f7r48, f7r49, f7r51, f7l2, get_old hF, g0, g1, g2, ic, it, isn, hni, get_old hQ, fl1] | (refine BrW.of (fun hb => ?_) (fun hb => ?_) <;> (have hb' := hb; try simp only [decide_eq_true_eq, decide_eq_false_iff_not, beq_iff_eq, bne_iff_ne, beq_eq_false_iff_ne, bne_eq_false_iff_eq, Bool.not_eq_true', Bool.not_eq_false', Bool.not_eq_true, Bool.not_eq_false, Bool.and_eq_true, Bool.or_eq_true, Bool.and_eq_false_iff, Bool.or_eq_false_iff, Int.not_lt, Int.not_le, ne_eq, gt_iff_lt, ge_iff_le] at hb') <;> (try (exfalso; omega))) | (refine altW.of ?_ ?_)
            refine RdW.keep [11, 12, 21, 188, 189, 190] (ws.length - (i + 1)) (by omega) ?_
            simp (disch := first | with_reducible assumption | omega) only [go_sem, Bool.true_and, Bool.and_true, Bool.and_self, Bool.false_and, Bool.and_false, Bool.true_or, Bool.or_true, Bool.false_or, Bool.or_false, ↓reduceIte, Nat.reduceEqDiff, Nat.reduceAdd, Nat.reduceMul, Nat.reduceSub, Nat.reduceBEq, Nat.reduceLeDiff, Nat.reduceLT, Nat.reduceMod, Nat.reduceDiv, Int.reduceToNat, Int.reducePow, Int.reduceMul, Int.reduceAdd, Int.reduceSub, Int.reduceLE, Int.reduceLT, Int.reduceNeg, Int.reduceDiv, Int.reduceMod, Int.reduceEq, Int.reduceBEq, Int.reduceBNe]
            exact ⟨i + 1, g + 1, _, rfl, by rw [hX2], by omega, rfl⟩
        · obtain rfl : i = ws.length := by omega
          repeat' first | simp (disch := first | with_reducible assumption | omega) only [go_sem, Bool.true_and, Bool.and_true, Bool.and_self, Bool.false_and, Bool.and_false, Bool.true_or, Bool.or_true, Bool.false_or, Bool.or_false, ↓reduceIte, Nat.reduceEqDiff, Nat.reduceAdd, Nat.reduceMul, Nat.reduceSub, Nat.reduceBEq, Nat.reduceLeDiff, Nat.reduceLT, Nat.reduceMod, Nat.reduceDiv, Int.reduceToNat, Int.reducePow, Int.reduceMul, Int.reduceAdd, Int.reduceSub, Int.reduceLE, Int.reduceLT, Int.reduceNeg, Int.reduceDiv, Int.reduceMod, Int.reduceEq, Int.reduceBEq, Int.reduceBNe, f7, f7b, f7r0, f7r1, f7r2, f7r3, f7r4, f7r5, f7r6, f7r7, f7r8, f7r9, f7r10, f7r11, f7r12, f7r13, f7r14, f7r15, f7r16, f7r17, f7r18, f7r19, f7r20, f7r21, f7r22, f7r23, f7r24, f7r25, f7r26, f7r27, f7r28, f7r29, f7r30, f7r31, f7r32, f7r34, f7r35, f7r36, f7r37, f7r38, f7r39, f7r40, f7r41, f7r42, f7r44, f7r45, f7r46, f7r47, f7r48, f7r49, f7r51, f7l2, f7, f7b, f7r0, f7r1, f7r2, f7r3, f7r4, f7r5, f7r6, f7r7, f7r8, f7r9, f7r10, f7r11, f7r12, f7r13, f7r14, f7r15, f7r16, f7r17, f7r18, f7r19, f7r20, f7r21, f7r22, f7r23, f7r24, f7r25, f7r26, f7r27, f7r28, f7r29, f7r30, f7r31, f7r32, f7r34, f7r35, f7r36, f7r37, f7r38, f7r39, f7r40, f7r41, f7r42, f7r44, f7r45, f7r46, f7r47, f7r48, f7r49, f7r51] | (refine BrW.of (fun hb => ?_) (fun hb => ?_) <;> (have hb' := hb; try simp only [decide_eq_true_eq, decide_eq_false_iff_not, beq_iff_eq, bne_iff_ne, beq_eq_false_iff_ne, bne_eq_false_iff_eq, Bool.not_eq_true', Bool.not_eq_false', Bool.not_eq_true, Bool.not_eq_false, Bool.and_eq_true, Bool.or_eq_true, Bool.and_eq_false_iff, Bool.or_eq_false_iff, Int.not_lt, Int.not_le, ne_eq, gt_iff_lt, ge_iff_le] at hb') <;> (try (exfalso; omega))) | (refine altW.of ?_ ?_)
          have hle : Le H (J ++ .cells g 1 false (ints (qs.take ws.length)) :: x) := le_of (by simp; omega) fun j hj => (List.getElem?_append_left (by omega)).trans (hold j hj)
          subst hr
          rw [List.take_of_length_le (by omega)] at hle ⊢
          refine .here ⟨_, _, _, 0, rfl, hle, ⟨fun _ => ⟨hok, h400⟩, fun _ => rfl⟩, fun h => absurd rfl h, fun _ => ⟨?_, ?_, ?_⟩⟩
          · have := IsT.of (A := fun _ => True) (c := ops.length) trivial (Tbl.new (enc := ienc) (s := 1) (d := 0) (fun _ => rfl) (J ++ .cells g 1 false (ints qs) :: x) (H.length + 1) ge false (runR ws ops).errs (by rw [flat'_ienc]; exact get_old hE _)) (by omega)
            rw [hln.1] at this
            exact this
          · exact IsT.of (A := fun _ => True) trivial (Tbl.new (enc := S.cells) (s := 2) (d := s0) (fun _ => rfl) (J ++ .cells g 1 false (ints qs) :: x) (H.length + 2) gt false _ (get_old hT _)) (Nat.le_refl _)
          · have := IsT.of (A := fun _ => True) trivial (Tbl.new (enc := ienc) (s := 1) (d := 0) (fun _ => rfl) (J ++ .cells g 1 false (ints qs) :: x) J.length g false qs (by rw [flat'_ienc, get_new0])) (Nat.le_refl _)
            rw [hqll] at this
            exact this
    · repeat' first | simp (disch := first | with_reducible assumption | omega) only [go_sem, Bool.true_and, Bool.and_true, Bool.and_self, Bool.false_and, Bool.and_false, Bool.true_or, Bool.or_true, Bool.false_or, Bool.or_false, ↓reduceIte, Nat.reduceEqDiff, Nat.reduceAdd, Nat.reduceMul, Nat.reduceSub, Nat.reduceBEq, Nat.reduceLeDiff, Nat.reduceLT, Nat.reduceMod, Nat.reduceDiv, Int.reduceToNat, Int.reducePow, Int.reduceMul, Int.reduceAdd, Int.reduceSub, Int.reduceLE, Int.reduceLT, Int.reduceNeg, Int.reduceDiv, Int.reduceMod, Int.reduceEq, Int.reduceBEq, Int.reduceBNe, f7, f7b, f7r0, f7r1, f7r2, f7r3, f7r4, f7r5, f7r6, f7r7, f7r8, f7r9, f7r10, f7r11, f7r12, f7r13, f7r14, f7r15, f7r16, f7r17, f7r18, f7r19, f7r20, f7r21, f7r22, f7r23, f7r24, f7r25, f7r26, f7r27, f7r28, f7r29, f7r30, f7r31, f7r32, f7r34, f7r35, f7r36, f7r37, f7r38, f7r39, f7r40, f7r41, f7r42, f7r44, f7r45, f7r46, f7r47, f7r48, f7r49, f7r51, hk, hko, get_old hk] | (refine BrW.of (fun hb => ?_) (fun hb => ?_) <;> (have hb' := hb; try simp only [decide_eq_true_eq, decide_eq_false_iff_not, beq_iff_eq, bne_iff_ne, beq_eq_false_iff_ne, bne_eq_false_iff_eq, Bool.not_eq_true', Bool.not_eq_false', Bool.not_eq_true, Bool.not_eq_false, Bool.and_eq_true, Bool.or_eq_true, Bool.and_eq_false_iff, Bool.or_eq_false_iff, Int.not_lt, Int.not_le, ne_eq, gt_iff_lt, ge_iff_le] at hb') <;> (try (exfalso; omega))) | (refine altW.of ?_ ?_) | (refine .of (hW.mono ?_); rintro v H ⟨e, rfl, he, he2, rfl⟩; obtain rfl := he.2 hok; clear he2)
      all_goals exact .here ⟨_, _, _, 2, rfl, .refl _, ⟨fun h => by omega, fun h => absurd h.2 h400⟩, fun _ => ⟨rfl, rfl⟩, fun h => by omega⟩
  · repeat' first | simp (disch := first | with_reducible assumption | omega) only [go_sem, Bool.true_and, Bool.and_true, Bool.and_self, Bool.false_and, Bool.and_false, Bool.true_or, Bool.or_true, Bool.false_or, Bool.or_false, ↓reduceIte, Nat.reduceEqDiff, Nat.reduceAdd, Nat.reduceMul, Nat.reduceSub, Nat.reduceBEq, Nat.reduceLeDiff, Nat.reduceLT, Nat.reduceMod, Nat.reduceDiv, Int.reduceToNat, Int.reducePow, Int.reduceMul, Int.reduceAdd, Int.reduceSub, Int.reduceLE, Int.reduceLT, Int.reduceNeg, Int.reduceDiv, Int.reduceMod, Int.reduceEq, Int.reduceBEq, Int.reduceBNe, f7, f7b, f7r0, f7r1, f7r2, f7r3, f7r4, f7r5, f7r6, f7r7, f7r8, f7r9, f7r10, f7r11, f7r12, f7r13, f7r14, f7r15, f7r16, f7r17, f7r18, f7r19, f7r20, f7r21, f7r22, f7r23, f7r24, f7r25, f7r26, f7r27, f7r28, f7r29, f7r30, f7r31, f7r32, f7r34, f7r35, f7r36, f7r37, f7r38, f7r39, f7r40, f7r41, f7r42, f7r44, f7r45, f7r46, f7r47, f7r48, f7r49, f7r51, hk, hko] | (refine BrW.of (fun hb => ?_) (fun hb => ?_) <;> (have hb' := hb; try simp only [decide_eq_true_eq, decide_eq_false_iff_not, beq_iff_eq, bne_iff_ne, beq_eq_false_iff_ne, bne_eq_false_iff_eq, Bool.not_eq_true', Bool.not_eq_false', Bool.not_eq_true, Bool.not_eq_false, Bool.and_eq_true, Bool.or_eq_true, Bool.and_eq_false_iff, Bool.or_eq_false_iff, Int.not_lt, Int.not_le, ne_eq, gt_iff_lt, ge_iff_le] at hb') <;> (try (exfalso; omega))) | (refine altW.of ?_ ?_) | (refine .of (hW.mono ?_); rintro v H ⟨e, rfl, he, he2, rfl⟩; have he3 : e = 2 := he2.resolve_left fun h => hok (he.1 h); clear he2; have hne : (e != 0) = true := by simpa using fun h => hok (he.1 h))
    all_goals first | exact .here ⟨_, _, _, _, rfl, .refl _, ⟨fun h => absurd (he.1 h) hok, fun h => absurd h.1 hok⟩, fun _ => ⟨rfl, he3⟩, fun h => absurd (he.1 h) hok⟩ | (exfalso; exact hok (he.1 (by simpa using hb')))
end Go.Proofs.Ytddoegbgnmdfhaa
