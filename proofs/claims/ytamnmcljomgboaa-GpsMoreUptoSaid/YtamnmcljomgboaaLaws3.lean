import Derived.Test.YtamnmcljomgboaaLaws2
set_option linter.unusedSimpArgs false
set_option linter.unusedVariables false
set_option maxHeartbeats 4000000
set_option maxRecDepth 20000
namespace Go.Proofs.Ytamnmcljomgboaa
open Go Go.Am
attribute [local irreducible] opsW Ww loopW callW drawW outW outDW gW cW BrW bothW vW resW DropW RdW dcallW Later.run

theorem GpsMore_args (H : Heap) (vals : List Value) (h : ArgsOk 1048576 H GpsMoreSh vals) : ACallK Try.prog 6 vals H fun v _ => v = .bool true := by
  obtain ⟨wb, _, rfl, a1, h⟩ := h.cons
  obtain ⟨ww, _, rfl, a2, h⟩ := h.cons
  obtain ⟨_, _, rfl, a3, h⟩ := h.cons
  obtain ⟨_, _, rfl, a4, h⟩ := h.cons
  obtain rfl := h.nil
  obtain ⟨bs, hb0, hB, hBr⟩ := IsN.ofArg a1
  obtain ⟨ws, hw0, hB2, hBr2⟩ := IsN.ofArg a2
  obtain ⟨who, rfl, _⟩ := a3.cell.int_inv
  obtain ⟨more, rfl, _⟩ := a4.cell.int_inv
  clear a1 a2 a3 a4 h
  refine .walkW f6_ok (by simp; decide) (by decide) ?_
  obtain ⟨k, o, g, c, t1, rfl, hs, hc⟩ := hb0
  obtain ⟨k2, o2, g2, c2, t2, rfl, hs2, hc2⟩ := hw0
  obtain ⟨ro, cs, hk, hcl, hcs⟩ := Ints.cell hs
  obtain ⟨ro2, cs2, hk2, hcl2, hcs2⟩ := Ints.cell hs2
  by_cases hg : 0 ≤ who ∧ who < bs.length ∧ who < ws.length ∧ 0 ≤ more ∧ more ≤ 1000
  · obtain ⟨hg1, hg2, hg3, hg4, hg5⟩ := hg
    obtain ⟨w, rfl⟩ := Int.eq_ofNat_of_zero_le hg1
    have hwb : w < bs.length := by omega
    have hww : w < ws.length := by omega
    repeat' first | simp (disch := first | with_reducible assumption | omega) only [go_sem, Bool.true_and, Bool.and_true, Bool.and_self, Bool.false_and, Bool.and_false, Bool.true_or, Bool.or_true, Bool.false_or, Bool.or_false, ↓reduceIte, Nat.reduceEqDiff, Nat.reduceAdd, Nat.reduceMul, Nat.reduceSub, Nat.reduceBEq, Nat.reduceLeDiff, Nat.reduceLT, Nat.reduceMod, Nat.reduceDiv, Int.reduceToNat, Int.reducePow, Int.reduceMul, Int.reduceAdd, Int.reduceSub, Int.reduceLE, Int.reduceLT, Int.reduceNeg, Int.reduceDiv, Int.reduceMod, Int.reduceEq, Int.reduceBEq, Int.reduceBNe, f6, f6b, f6r0, f6r1, f6r2, f6r3, f6r4, f6r5, f6r6, f6r7, f6r8, f6r9, f6r10, f6r11, f6r12, f6r13, f6r14, f6r15, f6r16, f6r17, f6r18, f6r19, f6r21, hk, hk2] | (refine BrW.of (fun hb => ?_) (fun hb => ?_) <;> (have hb' := hb; try simp only [decide_eq_true_eq, decide_eq_false_iff_not, beq_iff_eq, bne_iff_ne, beq_eq_false_iff_ne, bne_eq_false_iff_eq, Bool.not_eq_true', Bool.not_eq_false', Bool.not_eq_true, Bool.not_eq_false, Bool.and_eq_true, Bool.or_eq_true, Bool.and_eq_false_iff, Bool.or_eq_false_iff, Int.not_lt, Int.not_le, ne_eq, gt_iff_lt, ge_iff_le] at hb') <;> (try (exfalso; omega))) | (refine .of ((alive _).mono ?_); rintro v H ⟨rfl, rfl⟩)
    refine .of ((CloneI_spec bs k o g c _ hs (by omega) hc).mono ?_)
    rintro v _ ⟨g5, rfl, rfl⟩
    repeat' first | simp (disch := first | with_reducible assumption | omega) only [go_sem, Bool.true_and, Bool.and_true, Bool.and_self, Bool.false_and, Bool.and_false, Bool.true_or, Bool.or_true, Bool.false_or, Bool.or_false, ↓reduceIte, Nat.reduceEqDiff, Nat.reduceAdd, Nat.reduceMul, Nat.reduceSub, Nat.reduceBEq, Nat.reduceLeDiff, Nat.reduceLT, Nat.reduceMod, Nat.reduceDiv, Int.reduceToNat, Int.reducePow, Int.reduceMul, Int.reduceAdd, Int.reduceSub, Int.reduceLE, Int.reduceLT, Int.reduceNeg, Int.reduceDiv, Int.reduceMod, Int.reduceEq, Int.reduceBEq, Int.reduceBNe, f6, f6b, f6r0, f6r1, f6r2, f6r3, f6r4, f6r5, f6r6, f6r7, f6r8, f6r9, f6r10, f6r11, f6r12, f6r13, f6r14, f6r15, f6r16, f6r17, f6r18, f6r19, f6r21] | (refine BrW.of (fun hb => ?_) (fun hb => ?_) <;> (have hb' := hb; try simp only [decide_eq_true_eq, decide_eq_false_iff_not, beq_iff_eq, bne_iff_ne, beq_eq_false_iff_ne, bne_eq_false_iff_eq, Bool.not_eq_true', Bool.not_eq_false', Bool.not_eq_true, Bool.not_eq_false, Bool.and_eq_true, Bool.or_eq_true, Bool.and_eq_false_iff, Bool.or_eq_false_iff, Int.not_lt, Int.not_le, ne_eq, gt_iff_lt, ge_iff_le] at hb') <;> (try (exfalso; omega)))
    refine .of ((CloneI_spec ws k2 o2 g2 c2 _ (hs2.app _) (by omega) hc2).mono ?_)
    rintro v _ ⟨g6, rfl, rfl⟩
    simp only [flat'_ienc, heap_assoc, len_app, List.cons_append, List.nil_append, List.length_cons, List.length_nil, Nat.zero_add]
    have e0 := ints_get bs w hwb
    have e2 := ints_get ws w hww
    have l0 := ints_length bs
    have l2 := ints_length ws
    generalize hV : iadd .i64 (bs.getD w 0) more = V at *
    generalize hU : iadd .i64 (ws.getD w 0) more = U at *
    have e1 := ints_set bs w V
    have e3 := ints_set ws w U
    have ew := hcs2 w hww
    clear hcs hcs2 hBr hBr2
    have hV2 : okB bs ws → V = bs.getD w 0 + more := fun h => by
      rw [← hV]; have := (h.2.2 w hwb).1; exact iadd_i64 _ _ (by omega)
    have hU2 : okB bs ws → U = ws.getD w 0 + more := fun h => by
      rw [← hU]; have := (h.2.2 w hwb).2; exact iadd_i64 _ _ (by omega)
    have hbw : ∀ x : Int, True := fun _ => trivial
    repeat' first | simp (disch := first | with_reducible assumption | omega) only [go_sem, Bool.true_and, Bool.and_true, Bool.and_self, Bool.false_and, Bool.and_false, Bool.true_or, Bool.or_true, Bool.false_or, Bool.or_false, ↓reduceIte, Nat.reduceEqDiff, Nat.reduceAdd, Nat.reduceMul, Nat.reduceSub, Nat.reduceBEq, Nat.reduceLeDiff, Nat.reduceLT, Nat.reduceMod, Nat.reduceDiv, Int.reduceToNat, Int.reducePow, Int.reduceMul, Int.reduceAdd, Int.reduceSub, Int.reduceLE, Int.reduceLT, Int.reduceNeg, Int.reduceDiv, Int.reduceMod, Int.reduceEq, Int.reduceBEq, Int.reduceBNe, f6, f6b, f6r0, f6r1, f6r2, f6r3, f6r4, f6r5, f6r6, f6r7, f6r8, f6r9, f6r10, f6r11, f6r12, f6r13, f6r14, f6r15, f6r16, f6r17, f6r18, f6r19, f6r21, e0, e2, l0, l2, hV, hU, e1, e3] | (refine BrW.of (fun hb => ?_) (fun hb => ?_) <;> (have hb' := hb; try simp only [decide_eq_true_eq, decide_eq_false_iff_not, beq_iff_eq, bne_iff_ne, beq_eq_false_iff_ne, bne_eq_false_iff_eq, Bool.not_eq_true', Bool.not_eq_false', Bool.not_eq_true, Bool.not_eq_false, Bool.and_eq_true, Bool.or_eq_true, Bool.and_eq_false_iff, Bool.or_eq_false_iff, Int.not_lt, Int.not_le, ne_eq, gt_iff_lt, ge_iff_le] at hb') <;> (try (exfalso; omega)))
    have hb0 : IsN (fun _ => True) (H ++ [.cells g5 1 false (ints (bs.set w V)), .cells g6 1 false (ints (ws.set w U))]) (slv k o g bs.length c) bs := ⟨k, o, g, c, trivial, rfl, hs.app _, hc⟩
    have hw0 : IsN (fun _ => True) (H ++ [.cells g5 1 false (ints (bs.set w V)), .cells g6 1 false (ints (ws.set w U))]) (slv k2 o2 g2 ws.length c2) ws := ⟨k2, o2, g2, c2, trivial, rfl, hs2.app _, hc2⟩
    have hb5 : IsN (fun _ => True) (H ++ [.cells g5 1 false (ints (bs.set w V)), .cells g6 1 false (ints (ws.set w U))]) (slv H.length 0 g5 bs.length bs.length) (bs.set w V) :=
      ⟨H.length, 0, g5, bs.length, trivial, by rw [List.length_set], Ints.new _ _ _ false _ (get_new0 _ _ _), by rw [List.length_set]; exact Nat.le_refl _⟩
    have hw5 : IsN (fun _ => True) (H ++ [.cells g5 1 false (ints (bs.set w V)), .cells g6 1 false (ints (ws.set w U))]) (slv (H.length + 1) 0 g6 ws.length ws.length) (ws.set w U) :=
      ⟨H.length + 1, 0, g6, ws.length, trivial, by rw [List.length_set], Ints.new _ _ _ false _ (by rw [get_new]; rfl), by rw [List.length_set]; exact Nat.le_refl _⟩
    have hkx := get_old hk2 [.cells g5 1 false (ints (bs.set w V)), .cells g6 1 false (ints (ws.set w U))]
    have hkb := get_old hk [.cells g5 1 false (ints (bs.set w V)), .cells g6 1 false (ints (ws.set w U))]
    generalize H ++ [.cells g5 1 false (ints (bs.set w V)), .cells g6 1 false (ints (ws.set w U))] = G0 at *
    clear hs hs2 e0 e1 e2 e3 hV hU
    refine .of ((End_spec bs ws _ _ _ _ _ hb0 hw0 (by omega) (by omega)).mono ?_)
    rintro v G1 ⟨a, e, rfl, hLe1, he, hn, hy⟩
    have hb1 := hb5.le hLe1
    have hw1 := hw0.le hLe1
    repeat' first | simp (disch := first | with_reducible assumption | omega) only [go_sem, Bool.true_and, Bool.and_true, Bool.and_self, Bool.false_and, Bool.and_false, Bool.true_or, Bool.or_true, Bool.false_or, Bool.or_false, ↓reduceIte, Nat.reduceEqDiff, Nat.reduceAdd, Nat.reduceMul, Nat.reduceSub, Nat.reduceBEq, Nat.reduceLeDiff, Nat.reduceLT, Nat.reduceMod, Nat.reduceDiv, Int.reduceToNat, Int.reducePow, Int.reduceMul, Int.reduceAdd, Int.reduceSub, Int.reduceLE, Int.reduceLT, Int.reduceNeg, Int.reduceDiv, Int.reduceMod, Int.reduceEq, Int.reduceBEq, Int.reduceBNe, f6, f6b, f6r0, f6r1, f6r2, f6r3, f6r4, f6r5, f6r6, f6r7, f6r8, f6r9, f6r10, f6r11, f6r12, f6r13, f6r14, f6r15, f6r16, f6r17, f6r18, f6r19, f6r21] | (refine BrW.of (fun hb => ?_) (fun hb => ?_) <;> (have hb' := hb; try simp only [decide_eq_true_eq, decide_eq_false_iff_not, beq_iff_eq, bne_iff_ne, beq_eq_false_iff_ne, bne_eq_false_iff_eq, Bool.not_eq_true', Bool.not_eq_false', Bool.not_eq_true, Bool.not_eq_false, Bool.and_eq_true, Bool.or_eq_true, Bool.and_eq_false_iff, Bool.or_eq_false_iff, Int.not_lt, Int.not_le, ne_eq, gt_iff_lt, ge_iff_le] at hb') <;> (try (exfalso; omega)))
    refine .of ((End_spec _ ws _ _ _ _ _ hb1 hw1 (by rw [List.length_set]; omega) (by omega)).mono ?_)
    rintro v G2 ⟨x, f, rfl, hLe2, hf, hn2, hy2⟩
    have hb6 := (hb0.le hLe1).le hLe2
    have hw6 := (hw5.le hLe1).le hLe2
    repeat' first | simp (disch := first | with_reducible assumption | omega) only [go_sem, Bool.true_and, Bool.and_true, Bool.and_self, Bool.false_and, Bool.and_false, Bool.true_or, Bool.or_true, Bool.false_or, Bool.or_false, ↓reduceIte, Nat.reduceEqDiff, Nat.reduceAdd, Nat.reduceMul, Nat.reduceSub, Nat.reduceBEq, Nat.reduceLeDiff, Nat.reduceLT, Nat.reduceMod, Nat.reduceDiv, Int.reduceToNat, Int.reducePow, Int.reduceMul, Int.reduceAdd, Int.reduceSub, Int.reduceLE, Int.reduceLT, Int.reduceNeg, Int.reduceDiv, Int.reduceMod, Int.reduceEq, Int.reduceBEq, Int.reduceBNe, f6, f6b, f6r0, f6r1, f6r2, f6r3, f6r4, f6r5, f6r6, f6r7, f6r8, f6r9, f6r10, f6r11, f6r12, f6r13, f6r14, f6r15, f6r16, f6r17, f6r18, f6r19, f6r21] | (refine BrW.of (fun hb => ?_) (fun hb => ?_) <;> (have hb' := hb; try simp only [decide_eq_true_eq, decide_eq_false_iff_not, beq_iff_eq, bne_iff_ne, beq_eq_false_iff_ne, bne_eq_false_iff_eq, Bool.not_eq_true', Bool.not_eq_false', Bool.not_eq_true, Bool.not_eq_false, Bool.and_eq_true, Bool.or_eq_true, Bool.and_eq_false_iff, Bool.or_eq_false_iff, Int.not_lt, Int.not_le, ne_eq, gt_iff_lt, ge_iff_le] at hb') <;> (try (exfalso; omega)))
    refine .of ((End_spec bs _ _ _ _ _ _ hb6 hw6 (by omega) (by rw [List.length_set]; omega)).mono ?_)
    rintro v G3 ⟨y, p, rfl, hLe3, hp, hn3, hy3⟩
    have hw7 := hw6.le hLe3
    have hkz := hLe3.get (hLe2.get (hLe1.get hkx))
    have hkb := hLe3.get (hLe2.get (hLe1.get hkb))
    clear hb0 hw0 hb1 hw5 hb5 hw1 hb6 hw6
    by_cases z : e = 0
    · have hok := he.1 z
      have hl16 := hok.2.1
      have hll := hok.1
      have hA := ((hy z).le hLe2).le hLe3
      have hX := fun z => (hy2 z).le hLe3
      obtain rfl := hV2 hok
      obtain rfl := hU2 hok
      subst z
      have htl := tbE_len bs ws bs.length
      have htl2 := tbE_len (bs.set w (bs.getD w 0 + more)) ws bs.length
      have htl3 := tbE_len bs (ws.set w (ws.getD w 0 + more)) bs.length
      rw [List.length_set] at hX
      obtain ⟨k7, o7, g7, c7, _, rfl, hs7, hc7⟩ := hA
      obtain ⟨ro7, cs7, hk7, hcl7, hcs7⟩ := Ints.cell hs7
      rw [htl] at hcl7 hcs7 hc7
      obtain ⟨k8, o8, g8, c8, _, hwv, hs8, hc8⟩ := hw7
      rw [List.length_set] at hwv
      have hmo := fun i => endK_more hok hwb hg4 i
      have hhv := endK_heavier hok hww hg4
      have hfO : f = 0 → okB (bs.set w (bs.getD w 0 + more)) ws := hf.1
      have hpO : p = 0 → okB bs (ws.set w (ws.getD w 0 + more)) := hp.1
      clear hs7 hy hy2 hn hn2 hn3 he hf hp hV2 hU2
      rw [htl]
      have hne : ∀ n : Int, (n != n) = false := fun n => by simp
      rw [hwv]
      obtain ⟨ro8, cs8, hk8, _, hcs8⟩ := Ints.cell hs8
      have e8 := hcs8 w (by rw [List.length_set]; exact hww)
      rw [getD_setI _ _ _ _ hww, if_pos rfl] at e8
      have ea := hcs7 w hwb
      rw [tbE_get _ _ _ _ hwb] at ea
      have hEw := endK_bound hok hwb
      have hww0 := hok.2.2 w hwb
      have hYc : p = 0 → ∃ kx ox gx cx rox csx, y = slv kx ox gx bs.length cx ∧ G3[kx]? = some (.cells gx 1 rox csx) ∧ csx[ox + w]? = some (.int .i64 (endK bs (ws.set w (ws.getD w 0 + more)) w)) ∧ (0 ≤ endK bs (ws.set w (ws.getD w 0 + more)) w ∧ endK bs (ws.set w (ws.getD w 0 + more)) w ≤ 16777216000) ∧ ws.getD w 0 + more ≤ 1000 := fun h => by
        obtain ⟨k9, o9, g9, c9, _, hx, hs9, _⟩ := hy3 h
        obtain ⟨ro9, cs9, hk9, _, hcs9⟩ := Ints.cell hs9
        have ho := hpO h
        refine ⟨k9, o9, g9, c9, ro9, cs9, by rw [hx, htl3], hk9, ?_, endK_bound ho hwb, ?_⟩
        · have := hcs9 w (by omega)
          rwa [tbE_get _ _ _ _ hwb] at this
        · have := (ho.2.2 w hwb).2.2
          rwa [getD_setI _ _ _ _ hww, if_pos rfl] at this
      have hY2 : p = 0 ∨ (p != 0) = true := by
        by_cases zp : p = 0
        · exact .inl zp
        · right; simpa using zp
      generalize endK bs (ws.set w (ws.getD w 0 + more)) w = YW at *
      clear hs8 hcs8 hy3 hpO htl3
      by_cases zf : f = 0
      · obtain ⟨kx, ox, gx, cx, _, rfl, hsx, _⟩ := hX zf
        obtain ⟨rox, csx, hkx, _, hcsx⟩ := Ints.cell hsx
        subst zf
        rw [htl2] at hcsx ⊢
        clear hX hsx hfO
        repeat' first | simp (disch := first | with_reducible assumption | omega) only [go_sem, Bool.true_and, Bool.and_true, Bool.and_self, Bool.false_and, Bool.and_false, Bool.true_or, Bool.or_true, Bool.false_or, Bool.or_false, ↓reduceIte, Nat.reduceEqDiff, Nat.reduceAdd, Nat.reduceMul, Nat.reduceSub, Nat.reduceBEq, Nat.reduceLeDiff, Nat.reduceLT, Nat.reduceMod, Nat.reduceDiv, Int.reduceToNat, Int.reducePow, Int.reduceMul, Int.reduceAdd, Int.reduceSub, Int.reduceLE, Int.reduceLT, Int.reduceNeg, Int.reduceDiv, Int.reduceMod, Int.reduceEq, Int.reduceBEq, Int.reduceBNe, f6, f6b, f6r0, f6r1, f6r2, f6r3, f6r4, f6r5, f6r6, f6r7, f6r8, f6r9, f6r10, f6r11, f6r12, f6r13, f6r14, f6r15, f6r16, f6r17, f6r18, f6r19, f6r21, hk7, hkb, hne] | (refine BrW.of (fun hb => ?_) (fun hb => ?_) <;> (have hb' := hb; try simp only [decide_eq_true_eq, decide_eq_false_iff_not, beq_iff_eq, bne_iff_ne, beq_eq_false_iff_ne, bne_eq_false_iff_eq, Bool.not_eq_true', Bool.not_eq_false', Bool.not_eq_true, Bool.not_eq_false, Bool.and_eq_true, Bool.or_eq_true, Bool.and_eq_false_iff, Bool.or_eq_false_iff, Int.not_lt, Int.not_le, ne_eq, gt_iff_lt, ge_iff_le] at hb') <;> (try (exfalso; omega)))
        refine loopW.of (by decide) (fun m e J => ∃ i : Nat, e = [(1, slv k2 o2 g2 ws.length c2), (2, .int .i64 w), (10, slv k8 o8 g8 ws.length c8), (11, slv k7 o7 g7 bs.length c7), (13, slv kx ox gx bs.length cx), (15, y), (16, .int .i64 p), (92, .int .i64 bs.length), (93, .int .i64 i)] ∧ J = G3 ∧ i ≤ bs.length ∧ m = bs.length - i) bs.length ⟨0, rfl, rfl, by omega, rfl⟩ ?_
        rintro m e J ⟨i, rfl, rfl, hi, rfl⟩
        by_cases hlt : i < bs.length
        · have e7 := hcs7 i hlt
          have ex := hcsx i (by omega)
          rw [tbE_get _ _ _ i hlt] at e7 ex
          have hmi := hmo i
          clear hmo hcs7 hcsx hhv hYc ea
          generalize endK bs ws i = E at *
          generalize endK (bs.set w (bs.getD w 0 + more)) ws i = E2 at *
          repeat' first | simp (disch := first | with_reducible assumption | omega) only [go_sem, Bool.true_and, Bool.and_true, Bool.and_self, Bool.false_and, Bool.and_false, Bool.true_or, Bool.or_true, Bool.false_or, Bool.or_false, ↓reduceIte, Nat.reduceEqDiff, Nat.reduceAdd, Nat.reduceMul, Nat.reduceSub, Nat.reduceBEq, Nat.reduceLeDiff, Nat.reduceLT, Nat.reduceMod, Nat.reduceDiv, Int.reduceToNat, Int.reducePow, Int.reduceMul, Int.reduceAdd, Int.reduceSub, Int.reduceLE, Int.reduceLT, Int.reduceNeg, Int.reduceDiv, Int.reduceMod, Int.reduceEq, Int.reduceBEq, Int.reduceBNe, f6, f6b, f6r0, f6r1, f6r2, f6r3, f6r4, f6r5, f6r6, f6r7, f6r8, f6r9, f6r10, f6r11, f6r12, f6r13, f6r14, f6r15, f6r16, f6r17, f6r18, f6r19, f6r21, f6l0, hk7, hkx, e7, ex] | (refine BrW.of (fun hb => ?_) (fun hb => ?_) <;> (have hb' := hb; try simp only [decide_eq_true_eq, decide_eq_false_iff_not, beq_iff_eq, bne_iff_ne, beq_eq_false_iff_ne, bne_eq_false_iff_eq, Bool.not_eq_true', Bool.not_eq_false', Bool.not_eq_true, Bool.not_eq_false, Bool.and_eq_true, Bool.or_eq_true, Bool.and_eq_false_iff, Bool.or_eq_false_iff, Int.not_lt, Int.not_le, ne_eq, gt_iff_lt, ge_iff_le] at hb') <;> (try (exfalso; omega)))
          refine RdW.keep [1, 2, 10, 11, 13, 15, 16, 92, 93] (bs.length - (i + 1)) (by omega) ?_
          simp (disch := first | with_reducible assumption | omega) only [go_sem, Bool.true_and, Bool.and_true, Bool.and_self, Bool.false_and, Bool.and_false, Bool.true_or, Bool.or_true, Bool.false_or, Bool.or_false, ↓reduceIte, Nat.reduceEqDiff, Nat.reduceAdd, Nat.reduceMul, Nat.reduceSub, Nat.reduceBEq, Nat.reduceLeDiff, Nat.reduceLT, Nat.reduceMod, Nat.reduceDiv, Int.reduceToNat, Int.reducePow, Int.reduceMul, Int.reduceAdd, Int.reduceSub, Int.reduceLE, Int.reduceLT, Int.reduceNeg, Int.reduceDiv, Int.reduceMod, Int.reduceEq, Int.reduceBEq, Int.reduceBNe]
          exact ⟨i + 1, rfl, by omega, rfl⟩
        · obtain rfl : i = bs.length := by omega
          clear hmo hcs7 hcsx
          generalize endK bs ws w = EW at *
          rcases hY2 with rfl | hp2
          · obtain ⟨ky, oy, gy, cy, roy, csy, rfl, hky, hcy, hyb, hw1000⟩ := hYc rfl
            have q1 := mul_bound hyb.1 hyb.2 (show 0 ≤ ws.getD w 0 by omega) hww0.2.2
            have q2 := mul_bound hEw.1 hEw.2 (show 0 ≤ ws.getD w 0 + more by omega) hw1000
            clear hYc
            generalize ws.getD w 0 + more = U at *
            generalize ws.getD w 0 = u at *
            repeat' first | simp (disch := first | with_reducible assumption | omega) only [go_sem, Bool.true_and, Bool.and_true, Bool.and_self, Bool.false_and, Bool.and_false, Bool.true_or, Bool.or_true, Bool.false_or, Bool.or_false, ↓reduceIte, Nat.reduceEqDiff, Nat.reduceAdd, Nat.reduceMul, Nat.reduceSub, Nat.reduceBEq, Nat.reduceLeDiff, Nat.reduceLT, Nat.reduceMod, Nat.reduceDiv, Int.reduceToNat, Int.reducePow, Int.reduceMul, Int.reduceAdd, Int.reduceSub, Int.reduceLE, Int.reduceLT, Int.reduceNeg, Int.reduceDiv, Int.reduceMod, Int.reduceEq, Int.reduceBEq, Int.reduceBNe, f6, f6b, f6r0, f6r1, f6r2, f6r3, f6r4, f6r5, f6r6, f6r7, f6r8, f6r9, f6r10, f6r11, f6r12, f6r13, f6r14, f6r15, f6r16, f6r17, f6r18, f6r19, f6r21, f6l0, f6, f6b, f6r0, f6r1, f6r2, f6r3, f6r4, f6r5, f6r6, f6r7, f6r8, f6r9, f6r10, f6r11, f6r12, f6r13, f6r14, f6r15, f6r16, f6r17, f6r18, f6r19, f6r21, hk7, hky, hk8, hkz, hcy, ea, e8, ew] | (refine BrW.of (fun hb => ?_) (fun hb => ?_) <;> (have hb' := hb; try simp only [decide_eq_true_eq, decide_eq_false_iff_not, beq_iff_eq, bne_iff_ne, beq_eq_false_iff_ne, bne_eq_false_iff_eq, Bool.not_eq_true', Bool.not_eq_false', Bool.not_eq_true, Bool.not_eq_false, Bool.and_eq_true, Bool.or_eq_true, Bool.and_eq_false_iff, Bool.or_eq_false_iff, Int.not_lt, Int.not_le, ne_eq, gt_iff_lt, ge_iff_le] at hb') <;> (try (exfalso; omega)))
            simp only [decide_eq_true hhv]
            all_goals exact .here rfl
          · repeat' first | simp (disch := first | with_reducible assumption | omega) only [go_sem, Bool.true_and, Bool.and_true, Bool.and_self, Bool.false_and, Bool.and_false, Bool.true_or, Bool.or_true, Bool.false_or, Bool.or_false, ↓reduceIte, Nat.reduceEqDiff, Nat.reduceAdd, Nat.reduceMul, Nat.reduceSub, Nat.reduceBEq, Nat.reduceLeDiff, Nat.reduceLT, Nat.reduceMod, Nat.reduceDiv, Int.reduceToNat, Int.reducePow, Int.reduceMul, Int.reduceAdd, Int.reduceSub, Int.reduceLE, Int.reduceLT, Int.reduceNeg, Int.reduceDiv, Int.reduceMod, Int.reduceEq, Int.reduceBEq, Int.reduceBNe, f6, f6b, f6r0, f6r1, f6r2, f6r3, f6r4, f6r5, f6r6, f6r7, f6r8, f6r9, f6r10, f6r11, f6r12, f6r13, f6r14, f6r15, f6r16, f6r17, f6r18, f6r19, f6r21, f6l0, f6, f6b, f6r0, f6r1, f6r2, f6r3, f6r4, f6r5, f6r6, f6r7, f6r8, f6r9, f6r10, f6r11, f6r12, f6r13, f6r14, f6r15, f6r16, f6r17, f6r18, f6r19, f6r21, hp2] | (refine BrW.of (fun hb => ?_) (fun hb => ?_) <;> (have hb' := hb; try simp only [decide_eq_true_eq, decide_eq_false_iff_not, beq_iff_eq, bne_iff_ne, beq_eq_false_iff_ne, bne_eq_false_iff_eq, Bool.not_eq_true', Bool.not_eq_false', Bool.not_eq_true, Bool.not_eq_false, Bool.and_eq_true, Bool.or_eq_true, Bool.and_eq_false_iff, Bool.or_eq_false_iff, Int.not_lt, Int.not_le, ne_eq, gt_iff_lt, ge_iff_le] at hb') <;> (try (exfalso; omega)))
            all_goals exact .here rfl
      · have zf' : (f == 0) = false := by simpa using zf
        clear hX hmo hcs7
        generalize endK bs ws w = EW at *
        rcases hY2 with rfl | hp2
        · obtain ⟨ky, oy, gy, cy, roy, csy, rfl, hky, hcy, hyb, hw1000⟩ := hYc rfl
          have q1 := mul_bound hyb.1 hyb.2 (show 0 ≤ ws.getD w 0 by omega) hww0.2.2
          have q2 := mul_bound hEw.1 hEw.2 (show 0 ≤ ws.getD w 0 + more by omega) hw1000
          clear hYc
          generalize ws.getD w 0 + more = U at *
          generalize ws.getD w 0 = u at *
          repeat' first | simp (disch := first | with_reducible assumption | omega) only [go_sem, Bool.true_and, Bool.and_true, Bool.and_self, Bool.false_and, Bool.and_false, Bool.true_or, Bool.or_true, Bool.false_or, Bool.or_false, ↓reduceIte, Nat.reduceEqDiff, Nat.reduceAdd, Nat.reduceMul, Nat.reduceSub, Nat.reduceBEq, Nat.reduceLeDiff, Nat.reduceLT, Nat.reduceMod, Nat.reduceDiv, Int.reduceToNat, Int.reducePow, Int.reduceMul, Int.reduceAdd, Int.reduceSub, Int.reduceLE, Int.reduceLT, Int.reduceNeg, Int.reduceDiv, Int.reduceMod, Int.reduceEq, Int.reduceBEq, Int.reduceBNe, f6, f6b, f6r0, f6r1, f6r2, f6r3, f6r4, f6r5, f6r6, f6r7, f6r8, f6r9, f6r10, f6r11, f6r12, f6r13, f6r14, f6r15, f6r16, f6r17, f6r18, f6r19, f6r21, hk7, hkb, hne, zf', hky, hk8, hkz, hcy, ea, e8, ew] | (refine BrW.of (fun hb => ?_) (fun hb => ?_) <;> (have hb' := hb; try simp only [decide_eq_true_eq, decide_eq_false_iff_not, beq_iff_eq, bne_iff_ne, beq_eq_false_iff_ne, bne_eq_false_iff_eq, Bool.not_eq_true', Bool.not_eq_false', Bool.not_eq_true, Bool.not_eq_false, Bool.and_eq_true, Bool.or_eq_true, Bool.and_eq_false_iff, Bool.or_eq_false_iff, Int.not_lt, Int.not_le, ne_eq, gt_iff_lt, ge_iff_le] at hb') <;> (try (exfalso; omega)))
          simp only [decide_eq_true hhv]
          all_goals exact .here rfl
        · repeat' first | simp (disch := first | with_reducible assumption | omega) only [go_sem, Bool.true_and, Bool.and_true, Bool.and_self, Bool.false_and, Bool.and_false, Bool.true_or, Bool.or_true, Bool.false_or, Bool.or_false, ↓reduceIte, Nat.reduceEqDiff, Nat.reduceAdd, Nat.reduceMul, Nat.reduceSub, Nat.reduceBEq, Nat.reduceLeDiff, Nat.reduceLT, Nat.reduceMod, Nat.reduceDiv, Int.reduceToNat, Int.reducePow, Int.reduceMul, Int.reduceAdd, Int.reduceSub, Int.reduceLE, Int.reduceLT, Int.reduceNeg, Int.reduceDiv, Int.reduceMod, Int.reduceEq, Int.reduceBEq, Int.reduceBNe, f6, f6b, f6r0, f6r1, f6r2, f6r3, f6r4, f6r5, f6r6, f6r7, f6r8, f6r9, f6r10, f6r11, f6r12, f6r13, f6r14, f6r15, f6r16, f6r17, f6r18, f6r19, f6r21, hk7, hkb, hne, zf', hp2] | (refine BrW.of (fun hb => ?_) (fun hb => ?_) <;> (have hb' := hb; try simp only [decide_eq_true_eq, decide_eq_false_iff_not, beq_iff_eq, bne_iff_ne, beq_eq_false_iff_ne, bne_eq_false_iff_eq, Bool.not_eq_true', Bool.not_eq_false', Bool.not_eq_true, Bool.not_eq_false, Bool.and_eq_true, Bool.or_eq_true, Bool.and_eq_false_iff, Bool.or_eq_false_iff, Int.not_lt, Int.not_le, ne_eq, gt_iff_lt, ge_iff_le] at hb') <;> (try (exfalso; omega)))
          all_goals exact .here rfl
    · have z' : (e != 0) = true := by simpa using z
      obtain rfl := hn z
      repeat' first | simp (disch := first | with_reducible assumption | omega) only [go_sem, Bool.true_and, Bool.and_true, Bool.and_self, Bool.false_and, Bool.and_false, Bool.true_or, Bool.or_true, Bool.false_or, Bool.or_false, ↓reduceIte, Nat.reduceEqDiff, Nat.reduceAdd, Nat.reduceMul, Nat.reduceSub, Nat.reduceBEq, Nat.reduceLeDiff, Nat.reduceLT, Nat.reduceMod, Nat.reduceDiv, Int.reduceToNat, Int.reducePow, Int.reduceMul, Int.reduceAdd, Int.reduceSub, Int.reduceLE, Int.reduceLT, Int.reduceNeg, Int.reduceDiv, Int.reduceMod, Int.reduceEq, Int.reduceBEq, Int.reduceBNe, f6, f6b, f6r0, f6r1, f6r2, f6r3, f6r4, f6r5, f6r6, f6r7, f6r8, f6r9, f6r10, f6r11, f6r12, f6r13, f6r14, f6r15, f6r16, f6r17, f6r18, f6r19, f6r21, z'] | (refine BrW.of (fun hb => ?_) (fun hb => ?_) <;> (have hb' := hb; try simp only [decide_eq_true_eq, decide_eq_false_iff_not, beq_iff_eq, bne_iff_ne, beq_eq_false_iff_ne, bne_eq_false_iff_eq, Bool.not_eq_true', Bool.not_eq_false', Bool.not_eq_true, Bool.not_eq_false, Bool.and_eq_true, Bool.or_eq_true, Bool.and_eq_false_iff, Bool.or_eq_false_iff, Int.not_lt, Int.not_le, ne_eq, gt_iff_lt, ge_iff_le] at hb') <;> (try (exfalso; omega)))
      all_goals exact .here rfl
  · repeat' first | simp (disch := first | with_reducible assumption | omega) only [go_sem, Bool.true_and, Bool.and_true, Bool.and_self, Bool.false_and, Bool.and_false, Bool.true_or, Bool.or_true, Bool.false_or, Bool.or_false, ↓reduceIte, Nat.reduceEqDiff, Nat.reduceAdd, Nat.reduceMul, Nat.reduceSub, Nat.reduceBEq, Nat.reduceLeDiff, Nat.reduceLT, Nat.reduceMod, Nat.reduceDiv, Int.reduceToNat, Int.reducePow, Int.reduceMul, Int.reduceAdd, Int.reduceSub, Int.reduceLE, Int.reduceLT, Int.reduceNeg, Int.reduceDiv, Int.reduceMod, Int.reduceEq, Int.reduceBEq, Int.reduceBNe, f6, f6b, f6r0, f6r1, f6r2, f6r3, f6r4, f6r5, f6r6, f6r7, f6r8, f6r9, f6r10, f6r11, f6r12, f6r13, f6r14, f6r15, f6r16, f6r17, f6r18, f6r19, f6r21, hk, hk2] | (refine BrW.of (fun hb => ?_) (fun hb => ?_) <;> (have hb' := hb; try simp only [decide_eq_true_eq, decide_eq_false_iff_not, beq_iff_eq, bne_iff_ne, beq_eq_false_iff_ne, bne_eq_false_iff_eq, Bool.not_eq_true', Bool.not_eq_false', Bool.not_eq_true, Bool.not_eq_false, Bool.and_eq_true, Bool.or_eq_true, Bool.and_eq_false_iff, Bool.or_eq_false_iff, Int.not_lt, Int.not_le, ne_eq, gt_iff_lt, ge_iff_le] at hb') <;> (try (exfalso; omega))) | (refine .of ((alive _).mono ?_); rintro v H ⟨rfl, rfl⟩)
    all_goals first | exact .here rfl | (exfalso; omega)
end Go.Proofs.Ytamnmcljomgboaa
