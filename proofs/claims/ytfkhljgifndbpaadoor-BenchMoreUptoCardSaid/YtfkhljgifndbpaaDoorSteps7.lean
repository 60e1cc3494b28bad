import Derived.Test.YtfkhljgifndbpaaDoorSteps6
-- STRINGS
set_option linter.unusedSimpArgs false
set_option linter.unusedVariables false
set_option maxHeartbeats 4000000
set_option maxRecDepth 20000
namespace Go.Proofs.YtfkhljgifndbpaaDoor
open Go Go.Am
attribute [local irreducible] opsW Ww loopW callW drawW outW outDW gW cW BrW bothW vW resW DropW RdW dcallW altW forkW splitW Later.run

theorem Tell_spec (t : Bs) (hl : t.length ≤ 2097152) (H : Heap) : ACallK Tryd.prog 6 [str t] H (TellR H t) := by
  refine .walkW f6_ok (by simp; decide) (by decide) ?_
  repeat' first | simp (disch := first | with_reducible assumption | omega | (simp only [List.length_append, List.length_cons, List.length_nil]; omega)) only [go_sem, Bool.true_and, Bool.and_true, Bool.and_self, Bool.false_and, Bool.and_false, Bool.true_or, Bool.or_true, Bool.false_or, Bool.or_false, ↓reduceIte, Nat.reduceEqDiff, Nat.reduceAdd, Nat.reduceMul, Nat.reduceSub, Nat.reduceBEq, Nat.reduceLeDiff, Nat.reduceLT, Nat.reduceMod, Nat.reduceDiv, Int.reduceToNat, Int.reducePow, Int.reduceMul, Int.reduceAdd, Int.reduceSub, Int.reduceLE, Int.reduceLT, Int.reduceNeg, Int.reduceDiv, Int.reduceMod, Int.reduceEq, Int.reduceBEq, Int.reduceBNe, f6, f6b, f6r0, f6r1, f6r2, f6r3, f6r4, f6r5, f6r6, f6r7, f6r8, f6r9, f6r10, f6r11, f6r12, f6r13, f6r14, f6r15, f6r16, f6r17, f6r18, f6r19, f6r20, f6r22, f6r23, f6r25, f6r26, f6r27, f6r28, f6r29, f6r30, f6r32] | (refine BrW.of (fun hb => ?_) (fun hb => ?_) <;> (have hb' := hb; try simp only [decide_eq_true_eq, decide_eq_false_iff_not, beq_iff_eq, bne_iff_ne, beq_eq_false_iff_ne, bne_eq_false_iff_eq, Bool.not_eq_true', Bool.not_eq_false', Bool.not_eq_true, Bool.not_eq_false, Bool.and_eq_true, Bool.or_eq_true, Bool.and_eq_false_iff, Bool.or_eq_false_iff, Int.not_lt, Int.not_le, ne_eq, gt_iff_lt, ge_iff_le] at hb') <;> (try (exfalso; omega))) | (refine altW.of ?_ ?_) | (refine .of ((Parse_spec t hl _).mono ?_); rintro v J ⟨hF, ⟨s, sl, hp, rfl, hO⟩ | ⟨hp, k, hk, rfl⟩⟩)
  · have hcnt := parse_len hp
    have hopl : s.ops.length ≤ 1048576 := by omega
    have hO1 : OpsAt H.length (J ++ [.cells 0 0 false [.int .i64 s.num, .int .i64 s.den, .int .i64 s.burst, sl]]) sl s.ops := by
      rcases hO with h | ⟨ko, g, h1, h2, h3⟩
      · exact .inl h
      · exact .inr ⟨ko, g, h1, h2, get_old h3 _⟩
    by_cases hw : Pc.wrongP s.num s.den s.burst = 0
    · have hPl := Play_any s H.length sl _ hO1 hopl hw
      repeat' first | simp (disch := first | with_reducible assumption | omega | (simp only [List.length_append, List.length_cons, List.length_nil]; omega)) only [go_sem, Bool.true_and, Bool.and_true, Bool.and_self, Bool.false_and, Bool.and_false, Bool.true_or, Bool.or_true, Bool.false_or, Bool.or_false, ↓reduceIte, Nat.reduceEqDiff, Nat.reduceAdd, Nat.reduceMul, Nat.reduceSub, Nat.reduceBEq, Nat.reduceLeDiff, Nat.reduceLT, Nat.reduceMod, Nat.reduceDiv, Int.reduceToNat, Int.reducePow, Int.reduceMul, Int.reduceAdd, Int.reduceSub, Int.reduceLE, Int.reduceLT, Int.reduceNeg, Int.reduceDiv, Int.reduceMod, Int.reduceEq, Int.reduceBEq, Int.reduceBNe, f6, f6b, f6r0, f6r1, f6r2, f6r3, f6r4, f6r5, f6r6, f6r7, f6r8, f6r9, f6r10, f6r11, f6r12, f6r13, f6r14, f6r15, f6r16, f6r17, f6r18, f6r19, f6r20, f6r22, f6r23, f6r25, f6r26, f6r27, f6r28, f6r29, f6r30, f6r32, Pc.P.val] | (refine BrW.of (fun hb => ?_) (fun hb => ?_) <;> (have hb' := hb; try simp only [decide_eq_true_eq, decide_eq_false_iff_not, beq_iff_eq, bne_iff_ne, beq_eq_false_iff_ne, bne_eq_false_iff_eq, Bool.not_eq_true', Bool.not_eq_false', Bool.not_eq_true, Bool.not_eq_false, Bool.and_eq_true, Bool.or_eq_true, Bool.and_eq_false_iff, Bool.or_eq_false_iff, Int.not_lt, Int.not_le, ne_eq, gt_iff_lt, ge_iff_le] at hb') <;> (try (exfalso; omega))) | (refine altW.of ?_ ?_) | (refine .of (hPl.mono ?_); rintro v J2 ⟨w', ka, g', av, rfl, hLe, hka, havl, hav, hwl⟩)
      have h0 := Pc.p0_ok (n := s.num) (d := s.den) (b := s.burst) (Pc.full_right (Pc.wrong_right hw))
      have hok := Pc.runP_ok h0 (s.ops.map opO)
      have hbd := ansP_bound h0 (s.ops.map opO)
      have hall : (Pc.ansP (playS s) (s.ops.map opO)).length = s.ops.length := by rw [Pc.ansP_length, List.length_map]
      have hs2 := hLe.get (get_new0 J (.cells 0 0 false [.int .i64 s.num, .int .i64 s.den, .int .i64 s.burst, sl]) [])
      have hO2 : OpsAt 0 J2 sl s.ops := by
        rcases hO1 with h | ⟨ko, g, h1, h2, h3⟩
        · exact .inl h
        · exact .inr ⟨ko, g, Nat.zero_le _, h2, hLe.get h3⟩
      have hFJ2 : FrB H.length H J2 := by
        have h1 := FrB.of_le hLe H.length (by have := hF.1; simp; omega)
        refine FrB.trans (hF.app (Nat.le_refl _) _) h1
      have htell : tellS s = tellA s.ops (Pc.ansP (playS s) (s.ops.map opO)) ++ [leftB (Pc.runP (playS s) (s.ops.map opO))] := rfl
      rw [List.length_map, Nat.zero_add] at hok
      have hok : Pc.Ok (Pc.runP (playS s) (s.ops.map opO)) s.ops.length := hok
      have hbd : ∀ a ∈ Pc.ansP (playS s) (s.ops.map opO), 0 ≤ a.1 ∧ a.1 ≤ 5 ∧ (∀ x ∈ a.2, 1 ≤ x ∧ x ≤ 1500) ∧ a.2.length ≤ 100 := hbd
      clear h0 hPl hO hO1
      generalize Pc.ansP (playS s) (s.ops.map opO) = al at *
      generalize Pc.runP (playS s) (s.ops.map opO) = p at *
      have hka' := get_old hka
      repeat' first | simp (disch := first | with_reducible assumption | omega | (simp only [List.length_append, List.length_cons, List.length_nil]; omega)) only [go_sem, Bool.true_and, Bool.and_true, Bool.and_self, Bool.false_and, Bool.and_false, Bool.true_or, Bool.or_true, Bool.false_or, Bool.or_false, ↓reduceIte, Nat.reduceEqDiff, Nat.reduceAdd, Nat.reduceMul, Nat.reduceSub, Nat.reduceBEq, Nat.reduceLeDiff, Nat.reduceLT, Nat.reduceMod, Nat.reduceDiv, Int.reduceToNat, Int.reducePow, Int.reduceMul, Int.reduceAdd, Int.reduceSub, Int.reduceLE, Int.reduceLT, Int.reduceNeg, Int.reduceDiv, Int.reduceMod, Int.reduceEq, Int.reduceBEq, Int.reduceBNe, f6, f6b, f6r0, f6r1, f6r2, f6r3, f6r4, f6r5, f6r6, f6r7, f6r8, f6r9, f6r10, f6r11, f6r12, f6r13, f6r14, f6r15, f6r16, f6r17, f6r18, f6r19, f6r20, f6r22, f6r23, f6r25, f6r26, f6r27, f6r28, f6r29, f6r30, f6r32, hka'] | (refine BrW.of (fun hb => ?_) (fun hb => ?_) <;> (have hb' := hb; try simp only [decide_eq_true_eq, decide_eq_false_iff_not, beq_iff_eq, bne_iff_ne, beq_eq_false_iff_ne, bne_eq_false_iff_eq, Bool.not_eq_true', Bool.not_eq_false', Bool.not_eq_true, Bool.not_eq_false, Bool.and_eq_true, Bool.or_eq_true, Bool.and_eq_false_iff, Bool.or_eq_false_iff, Int.not_lt, Int.not_le, ne_eq, gt_iff_lt, ge_iff_le] at hb') <;> (try (exfalso; omega))) | (refine altW.of ?_ ?_)
      have hp3 := get_new0 J2 (.cells 0 0 false [w', .int .i64 100, .int .i64 60000, .int .i64 p.dr, .int .i64 p.b.num, .int .i64 p.b.den, .int .i64 p.b.bu, .int .i64 p.b.lv, .int .i64 p.b.at', .int .i64 p.se]) []
      have hs3 := get_old hs2 [.cells 0 0 false [w', .int .i64 100, .int .i64 60000, .int .i64 p.dr, .int .i64 p.b.num, .int .i64 p.b.den, .int .i64 p.b.bu, .int .i64 p.b.lv, .int .i64 p.b.at', .int .i64 p.se]]
      have hka3 := hka' [.cells 0 0 false [w', .int .i64 100, .int .i64 60000, .int .i64 p.dr, .int .i64 p.b.num, .int .i64 p.b.den, .int .i64 p.b.bu, .int .i64 p.b.lv, .int .i64 p.b.at', .int .i64 p.se]]
      have hO3 : OpsAt 0 (J2 ++ [.cells 0 0 false [w', .int .i64 100, .int .i64 60000, .int .i64 p.dr, .int .i64 p.b.num, .int .i64 p.b.den, .int .i64 p.b.bu, .int .i64 p.b.lv, .int .i64 p.b.at', .int .i64 p.se]]) sl s.ops := by
        rcases hO2 with h | ⟨ko, g, h1, h2, h3⟩
        · exact .inl h
        · exact .inr ⟨ko, g, h1, h2, get_old h3 _⟩
      have hav3 : ∀ i, i < s.ops.length → (av.getD i ad).1 = (al.getD i (0, [])).1 ∧ Ns (J2 ++ [.cells 0 0 false [w', .int .i64 100, .int .i64 60000, .int .i64 p.dr, .int .i64 p.b.num, .int .i64 p.b.den, .int .i64 p.b.bu, .int .i64 p.b.lv, .int .i64 p.b.at', .int .i64 p.se]]) (av.getD i ad).2 (al.getD i (0, [])).2 := fun i hi => ⟨(hav i hi).1, (hav i hi).2.le fun j o h => get_old h _⟩
      have hwl3 : Ns (J2 ++ [.cells 0 0 false [w', .int .i64 100, .int .i64 60000, .int .i64 p.dr, .int .i64 p.b.num, .int .i64 p.b.den, .int .i64 p.b.bu, .int .i64 p.b.lv, .int .i64 p.b.at', .int .i64 p.se]]) w' p.l := hwl.le fun j o h => get_old h _
      have hFJ3 := hFJ2.app (Nat.le_refl _) [AObj.cells 0 0 false [w', .int .i64 100, .int .i64 60000, .int .i64 p.dr, .int .i64 p.b.num, .int .i64 p.b.den, .int .i64 p.b.bu, .int .i64 p.b.lv, .int .i64 p.b.at', .int .i64 p.se]]
      have hl3 : (J2 ++ [AObj.cells 0 0 false [w', .int .i64 100, .int .i64 60000, .int .i64 p.dr, .int .i64 p.b.num, .int .i64 p.b.den, .int .i64 p.b.bu, .int .i64 p.b.lv, .int .i64 p.b.at', .int .i64 p.se]]).length = J2.length + 1 := by simp
      clear hka hka' hs2 hO2 hav hwl hFJ2
      generalize J2 ++ [AObj.cells 0 0 false [w', .int .i64 100, .int .i64 60000, .int .i64 p.dr, .int .i64 p.b.num, .int .i64 p.b.den, .int .i64 p.b.bu, .int .i64 p.b.lv, .int .i64 p.b.at', .int .i64 p.se]] = J3 at *
      refine loopW.ghost 9 1 rfl ?_
      simp (disch := first | with_reducible assumption | omega | (simp only [List.length_append, List.length_cons, List.length_nil]; omega)) only [go_sem, Bool.true_and, Bool.and_true, Bool.and_self, Bool.false_and, Bool.and_false, Bool.true_or, Bool.or_true, Bool.false_or, Bool.or_false, ↓reduceIte, Nat.reduceEqDiff, Nat.reduceAdd, Nat.reduceMul, Nat.reduceSub, Nat.reduceBEq, Nat.reduceLeDiff, Nat.reduceLT, Nat.reduceMod, Nat.reduceDiv, Int.reduceToNat, Int.reducePow, Int.reduceMul, Int.reduceAdd, Int.reduceSub, Int.reduceLE, Int.reduceLT, Int.reduceNeg, Int.reduceDiv, Int.reduceMod, Int.reduceEq, Int.reduceBEq, Int.reduceBNe]
      refine out_loop (w' := w') (pv := w') hO3 hopl hs3 hka3 havl hall hav3 hbd fun J4 go hF4 hko => ?_
      have hp4 := (hF4.2 _ (by omega)).trans hp3
      have hwl4 := hwl3.le (J := J4) fun j o h => (hF4.2 j (List.getElem?_eq_some_iff.1 h).1).trans h
      have hTl : (tellA s.ops al).length = s.ops.length := by unfold tellA; rw [List.length_zipWith, hall]; omega
      have hkol := (List.getElem?_eq_some_iff.1 hko).1
      have hko' := get_old hko
      have hLSl : ((tellA s.ops al).map str).length = s.ops.length := by rw [List.length_map, hTl]
      have hLeq : (tellS s).map str = (tellA s.ops al).map str ++ [str (leftB p)] := by rw [htell, List.map_append]; rfl
      have hLlen : (tellS s).length = s.ops.length + 1 := by rw [htell, List.length_append, hTl]; rfl
      have hni : ¬ s.ops.length + 1 ≤ s.ops.length := by omega
      have htk : ((tellA s.ops al).map str).take s.ops.length = (tellA s.ops al).map str := List.take_of_length_le (by omega)
      obtain ⟨q1, q2, q3, q4, q5, q6, q7, q8, q9⟩ := hok.q
      obtain ⟨b1, b2, b3, b4, b5, b6, b7, b8, b9, b10⟩ := hok.b
      have hpos := hok.pos
      have hall2 := hok.all
      have hsum0 : 0 ≤ p.l.sum := (Pc.sum_bound p.l q8).1
      have hbuden : p.b.bu * p.b.den ≤ 1048576 * 1048576 := Int.mul_le_mul b6 b4 (by omega) (by omega)
      have q5 : 0 ≤ p.dr := q5
      have q6 : p.dr ≤ 1099511627776 := q6
      have q7 : (p.l.length : Int) ≤ 100 := q7
      have hnb : ∀ x ∈ leftN p, 0 ≤ x ∧ x ≤ 9223372036854775807 := by
        intro x hx
        unfold leftN at hx
        simp only [List.mem_cons, List.not_mem_nil, or_false] at hx
        rcases hx with rfl | rfl | rfl | rfl | rfl <;> omega
      have hlen := numsB_len hnb
      have hlB : (leftW ++ numsB (leftN p)).length ≤ 3000 := by rw [List.length_append]; show 4 + _ ≤ 3000; have : (leftN p).length = 5 := rfl; omega
      have hfin : FrB H.length H J4 := hFJ3.trans (hF4.mono (by have := hFJ3.1; omega))
      generalize hLS : (tellA s.ops al).map str = LS at *
      clear hav3 hbd q8
      rcases hwl4 with ⟨rfl, h0⟩ | ⟨kw, gw, rfl, hkw⟩
      · have hleft : leftN p = [0, p.dr, p.se, p.b.lv, p.b.at'] := by unfold leftN; rw [h0]; rfl
        repeat' first | simp (disch := first | with_reducible assumption | omega | (simp only [List.length_append, List.length_cons, List.length_nil]; omega)) only [go_sem, Bool.true_and, Bool.and_true, Bool.and_self, Bool.false_and, Bool.and_false, Bool.true_or, Bool.or_true, Bool.false_or, Bool.or_false, ↓reduceIte, Nat.reduceEqDiff, Nat.reduceAdd, Nat.reduceMul, Nat.reduceSub, Nat.reduceBEq, Nat.reduceLeDiff, Nat.reduceLT, Nat.reduceMod, Nat.reduceDiv, Int.reduceToNat, Int.reducePow, Int.reduceMul, Int.reduceAdd, Int.reduceSub, Int.reduceLE, Int.reduceLT, Int.reduceNeg, Int.reduceDiv, Int.reduceMod, Int.reduceEq, Int.reduceBEq, Int.reduceBNe, f6, f6b, f6r0, f6r1, f6r2, f6r3, f6r4, f6r5, f6r6, f6r7, f6r8, f6r9, f6r10, f6r11, f6r12, f6r13, f6r14, f6r15, f6r16, f6r17, f6r18, f6r19, f6r20, f6r22, f6r23, f6r25, f6r26, f6r27, f6r28, f6r29, f6r30, f6r32, hp4] | (refine BrW.of (fun hb => ?_) (fun hb => ?_) <;> (have hb' := hb; try simp only [decide_eq_true_eq, decide_eq_false_iff_not, beq_iff_eq, bne_iff_ne, beq_eq_false_iff_ne, bne_eq_false_iff_eq, Bool.not_eq_true', Bool.not_eq_false', Bool.not_eq_true, Bool.not_eq_false, Bool.and_eq_true, Bool.or_eq_true, Bool.and_eq_false_iff, Bool.or_eq_false_iff, Int.not_lt, Int.not_le, ne_eq, gt_iff_lt, ge_iff_le] at hb') <;> (try (exfalso; omega))) | (refine altW.of ?_ ?_)
        refine left_loop (k := J4.length) (l := leftN p) (acc := leftW) (by rw [get_new0, hleft]; rfl) hnb (by show 5 ≤ 100; decide) (by decide) ?_
        generalize hT : leftW ++ numsB (leftN p) = T at *
        have hTL : leftB p = T := hT
        repeat' first | simp (disch := first | with_reducible assumption | omega | (simp only [List.length_append, List.length_cons, List.length_nil]; omega)) only [go_sem, Bool.true_and, Bool.and_true, Bool.and_self, Bool.false_and, Bool.and_false, Bool.true_or, Bool.or_true, Bool.false_or, Bool.or_false, ↓reduceIte, Nat.reduceEqDiff, Nat.reduceAdd, Nat.reduceMul, Nat.reduceSub, Nat.reduceBEq, Nat.reduceLeDiff, Nat.reduceLT, Nat.reduceMod, Nat.reduceDiv, Int.reduceToNat, Int.reducePow, Int.reduceMul, Int.reduceAdd, Int.reduceSub, Int.reduceLE, Int.reduceLT, Int.reduceNeg, Int.reduceDiv, Int.reduceMod, Int.reduceEq, Int.reduceBEq, Int.reduceBNe, f6, f6b, f6r0, f6r1, f6r2, f6r3, f6r4, f6r5, f6r6, f6r7, f6r8, f6r9, f6r10, f6r11, f6r12, f6r13, f6r14, f6r15, f6r16, f6r17, f6r18, f6r19, f6r20, f6r22, f6r23, f6r25, f6r26, f6r27, f6r28, f6r29, f6r30, f6r32, hko', hLSl, hni, htk, List.length_set] | (refine BrW.of (fun hb => ?_) (fun hb => ?_) <;> (have hb' := hb; try simp only [decide_eq_true_eq, decide_eq_false_iff_not, beq_iff_eq, bne_iff_ne, beq_eq_false_iff_ne, bne_eq_false_iff_eq, Bool.not_eq_true', Bool.not_eq_false', Bool.not_eq_true, Bool.not_eq_false, Bool.and_eq_true, Bool.or_eq_true, Bool.and_eq_false_iff, Bool.or_eq_false_iff, Int.not_lt, Int.not_le, ne_eq, gt_iff_lt, ge_iff_le] at hb') <;> (try (exfalso; omega))) | (refine altW.of ?_ ?_)
        refine .here ⟨(hfin.app (by have := hF.1; omega) _).set (by have := hFJ3.1; omega) _, .inl ⟨s, J3.length, go + 1, hp, by rw [hLlen], ?_⟩⟩
        rw [List.getElem?_set_self (by simp; omega), hLeq, hTL]
      · repeat' first | simp (disch := first | with_reducible assumption | omega | (simp only [List.length_append, List.length_cons, List.length_nil]; omega)) only [go_sem, Bool.true_and, Bool.and_true, Bool.and_self, Bool.false_and, Bool.and_false, Bool.true_or, Bool.or_true, Bool.false_or, Bool.or_false, ↓reduceIte, Nat.reduceEqDiff, Nat.reduceAdd, Nat.reduceMul, Nat.reduceSub, Nat.reduceBEq, Nat.reduceLeDiff, Nat.reduceLT, Nat.reduceMod, Nat.reduceDiv, Int.reduceToNat, Int.reducePow, Int.reduceMul, Int.reduceAdd, Int.reduceSub, Int.reduceLE, Int.reduceLT, Int.reduceNeg, Int.reduceDiv, Int.reduceMod, Int.reduceEq, Int.reduceBEq, Int.reduceBNe, f6, f6b, f6r0, f6r1, f6r2, f6r3, f6r4, f6r5, f6r6, f6r7, f6r8, f6r9, f6r10, f6r11, f6r12, f6r13, f6r14, f6r15, f6r16, f6r17, f6r18, f6r19, f6r20, f6r22, f6r23, f6r25, f6r26, f6r27, f6r28, f6r29, f6r30, f6r32, hp4, get_old hkw, hkw] | (refine BrW.of (fun hb => ?_) (fun hb => ?_) <;> (have hb' := hb; try simp only [decide_eq_true_eq, decide_eq_false_iff_not, beq_iff_eq, bne_iff_ne, beq_eq_false_iff_ne, bne_eq_false_iff_eq, Bool.not_eq_true', Bool.not_eq_false', Bool.not_eq_true, Bool.not_eq_false, Bool.and_eq_true, Bool.or_eq_true, Bool.and_eq_false_iff, Bool.or_eq_false_iff, Int.not_lt, Int.not_le, ne_eq, gt_iff_lt, ge_iff_le] at hb') <;> (try (exfalso; omega))) | (refine altW.of ?_ ?_)
        refine left_loop (k := J4.length) (l := leftN p) (acc := leftW) (by rw [get_new0]; rfl) hnb (by show 5 ≤ 100; decide) (by decide) ?_
        generalize hT : leftW ++ numsB (leftN p) = T at *
        have hTL : leftB p = T := hT
        repeat' first | simp (disch := first | with_reducible assumption | omega | (simp only [List.length_append, List.length_cons, List.length_nil]; omega)) only [go_sem, Bool.true_and, Bool.and_true, Bool.and_self, Bool.false_and, Bool.and_false, Bool.true_or, Bool.or_true, Bool.false_or, Bool.or_false, ↓reduceIte, Nat.reduceEqDiff, Nat.reduceAdd, Nat.reduceMul, Nat.reduceSub, Nat.reduceBEq, Nat.reduceLeDiff, Nat.reduceLT, Nat.reduceMod, Nat.reduceDiv, Int.reduceToNat, Int.reducePow, Int.reduceMul, Int.reduceAdd, Int.reduceSub, Int.reduceLE, Int.reduceLT, Int.reduceNeg, Int.reduceDiv, Int.reduceMod, Int.reduceEq, Int.reduceBEq, Int.reduceBNe, f6, f6b, f6r0, f6r1, f6r2, f6r3, f6r4, f6r5, f6r6, f6r7, f6r8, f6r9, f6r10, f6r11, f6r12, f6r13, f6r14, f6r15, f6r16, f6r17, f6r18, f6r19, f6r20, f6r22, f6r23, f6r25, f6r26, f6r27, f6r28, f6r29, f6r30, f6r32, hko', hLSl, hni, htk, List.length_set] | (refine BrW.of (fun hb => ?_) (fun hb => ?_) <;> (have hb' := hb; try simp only [decide_eq_true_eq, decide_eq_false_iff_not, beq_iff_eq, bne_iff_ne, beq_eq_false_iff_ne, bne_eq_false_iff_eq, Bool.not_eq_true', Bool.not_eq_false', Bool.not_eq_true, Bool.not_eq_false, Bool.and_eq_true, Bool.or_eq_true, Bool.and_eq_false_iff, Bool.or_eq_false_iff, Int.not_lt, Int.not_le, ne_eq, gt_iff_lt, ge_iff_le] at hb') <;> (try (exfalso; omega))) | (refine altW.of ?_ ?_)
        refine .here ⟨(hfin.app (by have := hF.1; omega) _).set (by have := hFJ3.1; omega) _, .inl ⟨s, J3.length, go + 1, hp, by rw [hLlen], ?_⟩⟩
        rw [List.getElem?_set_self (by simp; omega), hLeq, hTL]
    · have hPl := Play_no s H.length sl _ hO1 hw
      repeat' first | simp (disch := first | with_reducible assumption | omega | (simp only [List.length_append, List.length_cons, List.length_nil]; omega)) only [go_sem, Bool.true_and, Bool.and_true, Bool.and_self, Bool.false_and, Bool.and_false, Bool.true_or, Bool.or_true, Bool.false_or, Bool.or_false, ↓reduceIte, Nat.reduceEqDiff, Nat.reduceAdd, Nat.reduceMul, Nat.reduceSub, Nat.reduceBEq, Nat.reduceLeDiff, Nat.reduceLT, Nat.reduceMod, Nat.reduceDiv, Int.reduceToNat, Int.reducePow, Int.reduceMul, Int.reduceAdd, Int.reduceSub, Int.reduceLE, Int.reduceLT, Int.reduceNeg, Int.reduceDiv, Int.reduceMod, Int.reduceEq, Int.reduceBEq, Int.reduceBNe, f6, f6b, f6r0, f6r1, f6r2, f6r3, f6r4, f6r5, f6r6, f6r7, f6r8, f6r9, f6r10, f6r11, f6r12, f6r13, f6r14, f6r15, f6r16, f6r17, f6r18, f6r19, f6r20, f6r22, f6r23, f6r25, f6r26, f6r27, f6r28, f6r29, f6r30, f6r32] | (refine BrW.of (fun hb => ?_) (fun hb => ?_) <;> (have hb' := hb; try simp only [decide_eq_true_eq, decide_eq_false_iff_not, beq_iff_eq, bne_iff_ne, beq_eq_false_iff_ne, bne_eq_false_iff_eq, Bool.not_eq_true', Bool.not_eq_false', Bool.not_eq_true, Bool.not_eq_false, Bool.and_eq_true, Bool.or_eq_true, Bool.and_eq_false_iff, Bool.or_eq_false_iff, Int.not_lt, Int.not_le, ne_eq, gt_iff_lt, ge_iff_le] at hb') <;> (try (exfalso; omega))) | (refine altW.of ?_ ?_) | (refine .of (hPl.mono ?_); rintro v J2 ⟨rfl, hLe⟩)
      all_goals first | (exfalso; simp at hb'; omega) | skip
      refine .here ⟨?_, .inr ⟨_, hw, rfl⟩⟩
      have h1 := FrB.of_le hLe H.length (by have := hF.1; simp; omega)
      exact (FrB.trans (hF.app (Nat.le_refl _) _) h1).app (by have := hF.1; omega) _
  · repeat' first | simp (disch := first | with_reducible assumption | omega | (simp only [List.length_append, List.length_cons, List.length_nil]; omega)) only [go_sem, Bool.true_and, Bool.and_true, Bool.and_self, Bool.false_and, Bool.and_false, Bool.true_or, Bool.or_true, Bool.false_or, Bool.or_false, ↓reduceIte, Nat.reduceEqDiff, Nat.reduceAdd, Nat.reduceMul, Nat.reduceSub, Nat.reduceBEq, Nat.reduceLeDiff, Nat.reduceLT, Nat.reduceMod, Nat.reduceDiv, Int.reduceToNat, Int.reducePow, Int.reduceMul, Int.reduceAdd, Int.reduceSub, Int.reduceLE, Int.reduceLT, Int.reduceNeg, Int.reduceDiv, Int.reduceMod, Int.reduceEq, Int.reduceBEq, Int.reduceBNe, f6, f6b, f6r0, f6r1, f6r2, f6r3, f6r4, f6r5, f6r6, f6r7, f6r8, f6r9, f6r10, f6r11, f6r12, f6r13, f6r14, f6r15, f6r16, f6r17, f6r18, f6r19, f6r20, f6r22, f6r23, f6r25, f6r26, f6r27, f6r28, f6r29, f6r30, f6r32] | (refine BrW.of (fun hb => ?_) (fun hb => ?_) <;> (have hb' := hb; try simp only [decide_eq_true_eq, decide_eq_false_iff_not, beq_iff_eq, bne_iff_ne, beq_eq_false_iff_ne, bne_eq_false_iff_eq, Bool.not_eq_true', Bool.not_eq_false', Bool.not_eq_true, Bool.not_eq_false, Bool.and_eq_true, Bool.or_eq_true, Bool.and_eq_false_iff, Bool.or_eq_false_iff, Int.not_lt, Int.not_le, ne_eq, gt_iff_lt, ge_iff_le] at hb') <;> (try (exfalso; omega))) | (refine altW.of ?_ ?_)
    exact .here ⟨hF.app (Nat.le_refl _) _, .inr ⟨1, by omega, rfl⟩⟩
end Go.Proofs.YtfkhljgifndbpaaDoor
