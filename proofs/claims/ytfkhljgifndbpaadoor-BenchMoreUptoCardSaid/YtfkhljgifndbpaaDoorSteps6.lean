import Derived.Test.YtfkhljgifndbpaaDoorSteps5
-- STRINGS
set_option linter.unusedSimpArgs false
set_option linter.unusedVariables false
set_option maxHeartbeats 4000000
set_option maxRecDepth 20000
namespace Go.Proofs.YtfkhljgifndbpaaDoor
open Go Go.Am
attribute [local irreducible] opsW Ww loopW callW drawW outW outDW gW cW BrW bothW vW resW DropW RdW dcallW altW forkW splitW Later.run

def TellR (H : Heap) (t : Bs) (v : Value) (H' : Heap) : Prop :=
  FrB H.length H H' ∧ ((∃ s ko g, parseP t = some s ∧ v = .tuple #[slv ko 0 g (tellS s).length (tellS s).length, .int .i64 0] ∧ H'[ko]? = some (.cells g 1 false ((tellS s).map str))) ∨ (∃ e, e ≠ 0 ∧ v = .tuple #[.slice none 0 0, .int .i64 e]))
theorem FrB.of_le {H J : Heap} (h : Le H J) (b : Nat) (hb : b ≤ H.length) : FrB b H J := by
  obtain ⟨X, rfl⟩ := h
  exact (FrB.refl b H).app hb X
theorem parse_count {t : Bs} {s : Scr} (h : parseP t = some s) : (s.ops.length : Int) = (t.count 10 : Int) - 1 := by
  have h' : parseP (t ++ []) = some s := by rw [List.append_nil]; exact h
  exact (parse_more h h').2.2.2.2
theorem lines_len : ∀ os : List (Int × Int), 5 * os.length ≤ (os.flatMap fun o => lineB o ++ [10]).length
  | [] => by simp
  | o :: os => by
    have ih := lines_len os
    have h1 : 2 ≤ (kindB o.1).length := by unfold kindB; split; (· decide); (· split <;> decide)
    have h2 : 1 ≤ (Lib.itoa o.2).length := by
      unfold Lib.itoa
      split
      · simp
      · exact List.length_pos_iff.2 (decDigits_ne _)
    have h3 : (lineB o).length = (kindB o.1).length + ((Lib.itoa o.2).length + 1) := by unfold lineB; simp
    simp only [List.flatMap_cons, List.length_append, List.length_cons, List.length_nil]
    omega
theorem parse_len {t : Bs} {s : Scr} (h : parseP t = some s) : 5 * s.ops.length ≤ t.length := by
  have h1 := lines_len s.ops
  rw [← (back2 h).2]
  unfold printP
  rw [List.length_append, List.length_cons]
  omega
theorem getD_zip (os : List (Int × Int)) (al : List (Int × List Int)) (i : Nat) (h1 : i < os.length) (h2 : i < al.length) : (tellA os al).getD i [] = ansB (os.getD i (0, 0)).1 (al.getD i (0, [])) := by
  unfold tellA
  simp only [List.getD_eq_getElem?_getD, List.getElem?_zipWith, List.getElem?_eq_getElem h1, List.getElem?_eq_getElem h2]
  rfl
/-- All answers told. -/
theorem out_loop {s : Scr} {H0 J2 : Heap} {ns ka g' : Nat} {sl w' pv : Value} {av : List (Int × Value)} (hsl : OpsAt 0 J2 sl s.ops) (hopl : s.ops.length ≤ 1048576) (hs : J2[ns]? = some (.cells 0 0 false [.int .i64 s.num, .int .i64 s.den, .int .i64 s.burst, sl]))
    (hka : J2[ka]? = some (.cells g' 2 false (flat' Pc.aenc av))) (havl : av.length = s.ops.length) {al : List (Int × List Int)} (hall : al.length = s.ops.length)
    (hav : ∀ i, i < s.ops.length → (av.getD i ad).1 = (al.getD i (0, [])).1 ∧ Ns J2 (av.getD i ad).2 (al.getD i (0, [])).2) (hbd : ∀ a ∈ al, 0 ≤ a.1 ∧ a.1 ≤ 5 ∧ (∀ x ∈ a.2, 1 ≤ x ∧ x ≤ 1500) ∧ a.2.length ≤ 100) {v8 : Value} {Q : LQ}
    (hq : ∀ (J : Heap) (go : Nat), FrB J2.length J2 J → J[J2.length]? = some (.cells go 1 false ((tellA s.ops al).map str)) → Q.run (.exit 0) [(4, .pointer (some ⟨ns, 0, some 1⟩)), (8, v8), (9, slv J2.length 0 go s.ops.length s.ops.length), (43, slv ka 0 g' s.ops.length s.ops.length), (44, .int .i64 s.ops.length), (45, .int .i64 s.ops.length), (46, .bool (decide ((s.ops.length : Int) < s.ops.length)))] J) :
    @loopW (loopK Tryd.prog f6.n H0) f6l1 Q [(4, .pointer (some ⟨ns, 0, some 1⟩)), (8, v8), (9, slv J2.length 0 0 0 0), (43, slv ka 0 g' s.ops.length s.ops.length), (44, .int .i64 s.ops.length), (45, .int .i64 0)] (J2 ++ [.cells 0 1 false []]) := by
  have hTl : (tellA s.ops al).length = s.ops.length := by unfold tellA; rw [List.length_zipWith, hall]; omega
  refine loopW.of (by decide) (fun m e J => ∃ (i go : Nat), e = [(4, .pointer (some ⟨ns, 0, some 1⟩)), (8, v8), (9, slv J2.length 0 go i i), (43, slv ka 0 g' s.ops.length s.ops.length), (44, .int .i64 s.ops.length), (45, .int .i64 i)] ∧
      FrB J2.length J2 J ∧ J2.length < J.length ∧ J[J2.length]? = some (.cells go 1 false (((tellA s.ops al).take i).map str)) ∧ i ≤ s.ops.length ∧ m = s.ops.length - i) s.ops.length
    ⟨0, 0, rfl, (FrB.refl _ _).app (Nat.le_refl _) _, by simp, get_new0 _ _ _, by omega, rfl⟩ ?_
  rintro m e J ⟨i, go, rfl, hFr, hJl, hko, hi, rfl⟩
  have old : ∀ (j : Nat) (o : AObj), J2[j]? = some o → J[j]? = some o := fun j o h => (hFr.2 j (List.getElem?_eq_some_iff.1 h).1).trans h
  by_cases hlt : i < s.ops.length
  · obtain ⟨hav1, hNs⟩ := hav i hlt
    have hld := flat'_ld (enc := Pc.aenc) (s := 2) (fun _ => rfl) ad av i (by omega)
    have hkJ := old _ _ hka
    have hsJ := old _ _ hs
    have hNsJ := hNs.le old
    have hab := hbd _ (getD_mem (d := (0, [])) (by omega : i < al.length))
    have hzip := getD_zip s.ops al i hlt (by omega)
    have hnx : (tellA s.ops al).take (i + 1) = (tellA s.ops al).take i ++ [ansB (s.ops.getD i (0, 0)).1 (al.getD i (0, []))] := by rw [take_snoc [] _ i (by omega), hzip]
    have hLl : (((tellA s.ops al).take i).map str).length = i := by simp; omega
    have hni : ¬ i + 1 ≤ i := by omega
    obtain ⟨ko, gk, hslv, hops⟩ : ∃ ko g, sl = slv ko 0 g s.ops.length s.ops.length ∧ J[ko]? = some (.cells g 2 false (flat' oe s.ops)) := by
      rcases hsl with ⟨h0, _⟩ | ⟨ko, g, _, h1, h2⟩
      · rw [h0] at hlt; simp at hlt
      · exact ⟨ko, g, h1, old _ _ h2⟩
    subst hslv
    have hkd : (flat' oe s.ops)[i * 2]? = some (.int .i64 (s.ops.getD i (0, 0)).1) := flat'_get (enc := oe) (s := 2) (fun _ => rfl) (0, 0) s.ops i 0 hlt (by omega)
    generalize (av.getD i ad) = aw at *
    obtain ⟨e, w⟩ := aw
    simp only [Pc.aenc] at hld hav1 hNsJ
    subst hav1
    generalize al.getD i (0, []) = a at *
    generalize (s.ops.getD i (0, 0)).1 = kd at *
    generalize hLS : ((tellA s.ops al).take i).map str = LS at *
    have htk : LS.take i = LS := List.take_of_length_le (by omega)
    obtain ⟨e, sn⟩ := a
    simp only at *
    have fin : ∀ (l : Bs) (X : Heap), ansB kd (e, sn) = l → ∃ (i' go' : Nat), [(4, Value.pointer (some ⟨ns, 0, some 1⟩)), (8, v8), (9, slv J2.length 0 (go + 1) (i + 1) (i + 1)), (43, slv ka 0 g' s.ops.length s.ops.length), (44, .int .i64 s.ops.length), (45, .int .i64 ((i : Int) + 1))] = [(4, .pointer (some ⟨ns, 0, some 1⟩)), (8, v8), (9, slv J2.length 0 go' i' i'), (43, slv ka 0 g' s.ops.length s.ops.length), (44, .int .i64 s.ops.length), (45, .int .i64 i')] ∧
        FrB J2.length J2 ((J ++ X).set J2.length (.cells (go + 1) 1 false (LS ++ [str l]))) ∧ J2.length < ((J ++ X).set J2.length (.cells (go + 1) 1 false (LS ++ [str l]))).length ∧ ((J ++ X).set J2.length (.cells (go + 1) 1 false (LS ++ [str l])))[J2.length]? = some (.cells go' 1 false (((tellA s.ops al).take i').map str)) ∧ i' ≤ s.ops.length ∧ s.ops.length - (i + 1) = s.ops.length - i' := fun l X hl => by
      refine ⟨i + 1, go + 1, rfl, ?_, by simp; omega, ?_, by omega, rfl⟩
      · refine FrB.set ⟨by simp; have := hFr.1; omega, fun j hj => ?_⟩ (Nat.le_refl _) _
        rw [List.getElem?_append_left (by omega)]; exact hFr.2 j hj
      · rw [List.getElem?_set_self (by simp; omega), hnx, List.map_append, hLS, hl]; rfl
    clear hnx hzip hLS hsl hs hka hav hbd hq old hNs
    have hkJ' := get_old hkJ
    have hsJ' := get_old hsJ
    have hops' := get_old hops
    have hko' := get_old hko
    by_cases he : e = 0
    · subst he
      by_cases hk3 : kd = 3
      · subst hk3
        have hfl : ansB 3 (0, sn) = sentB ++ numsB sn := by unfold ansB; rw [if_neg (by simp), if_pos rfl]
        rcases hNsJ with ⟨rfl, rfl⟩ | ⟨kw, gw, rfl, hkw⟩
        · repeat' first | simp (disch := first | with_reducible assumption | omega | (simp only [List.length_append, List.length_cons, List.length_nil]; omega)) only [go_sem, Bool.true_and, Bool.and_true, Bool.and_self, Bool.false_and, Bool.and_false, Bool.true_or, Bool.or_true, Bool.false_or, Bool.or_false, ↓reduceIte, Nat.reduceEqDiff, Nat.reduceAdd, Nat.reduceMul, Nat.reduceSub, Nat.reduceBEq, Nat.reduceLeDiff, Nat.reduceLT, Nat.reduceMod, Nat.reduceDiv, Int.reduceToNat, Int.reducePow, Int.reduceMul, Int.reduceAdd, Int.reduceSub, Int.reduceLE, Int.reduceLT, Int.reduceNeg, Int.reduceDiv, Int.reduceMod, Int.reduceEq, Int.reduceBEq, Int.reduceBNe, f6, f6b, f6r0, f6r1, f6r2, f6r3, f6r4, f6r5, f6r6, f6r7, f6r8, f6r9, f6r10, f6r11, f6r12, f6r13, f6r14, f6r15, f6r16, f6r17, f6r18, f6r19, f6r20, f6r22, f6r23, f6r25, f6r26, f6r27, f6r28, f6r29, f6r30, f6r32, f6l1, hkJ, hkJ', hsJ', hops', hko', ↓hld, hkd] | (refine BrW.of (fun hb => ?_) (fun hb => ?_) <;> (have hb' := hb; try simp only [decide_eq_true_eq, decide_eq_false_iff_not, beq_iff_eq, bne_iff_ne, beq_eq_false_iff_ne, bne_eq_false_iff_eq, Bool.not_eq_true', Bool.not_eq_false', Bool.not_eq_true, Bool.not_eq_false, Bool.and_eq_true, Bool.or_eq_true, Bool.and_eq_false_iff, Bool.or_eq_false_iff, Int.not_lt, Int.not_le, ne_eq, gt_iff_lt, ge_iff_le] at hb') <;> (try (exfalso; omega))) | (refine altW.of ?_ ?_)
          refine sent_loop (l := []) (acc := sentB) (w := .slice none 0 0) (.inl ⟨rfl, rfl⟩) (fun x hx => by cases hx) (by simp) (by decide) ?_
          generalize hT : sentB ++ numsB [] = T at *
          repeat' first | simp (disch := first | with_reducible assumption | omega | (simp only [List.length_append, List.length_cons, List.length_nil]; omega)) only [go_sem, Bool.true_and, Bool.and_true, Bool.and_self, Bool.false_and, Bool.and_false, Bool.true_or, Bool.or_true, Bool.false_or, Bool.or_false, ↓reduceIte, Nat.reduceEqDiff, Nat.reduceAdd, Nat.reduceMul, Nat.reduceSub, Nat.reduceBEq, Nat.reduceLeDiff, Nat.reduceLT, Nat.reduceMod, Nat.reduceDiv, Int.reduceToNat, Int.reducePow, Int.reduceMul, Int.reduceAdd, Int.reduceSub, Int.reduceLE, Int.reduceLT, Int.reduceNeg, Int.reduceDiv, Int.reduceMod, Int.reduceEq, Int.reduceBEq, Int.reduceBNe, f6, f6b, f6r0, f6r1, f6r2, f6r3, f6r4, f6r5, f6r6, f6r7, f6r8, f6r9, f6r10, f6r11, f6r12, f6r13, f6r14, f6r15, f6r16, f6r17, f6r18, f6r19, f6r20, f6r22, f6r23, f6r25, f6r26, f6r27, f6r28, f6r29, f6r30, f6r32, f6l1, hkJ, hkJ', hsJ', hops', hko', hLl, hni, htk, List.length_set] | (refine BrW.of (fun hb => ?_) (fun hb => ?_) <;> (have hb' := hb; try simp only [decide_eq_true_eq, decide_eq_false_iff_not, beq_iff_eq, bne_iff_ne, beq_eq_false_iff_ne, bne_eq_false_iff_eq, Bool.not_eq_true', Bool.not_eq_false', Bool.not_eq_true, Bool.not_eq_false, Bool.and_eq_true, Bool.or_eq_true, Bool.and_eq_false_iff, Bool.or_eq_false_iff, Int.not_lt, Int.not_le, ne_eq, gt_iff_lt, ge_iff_le] at hb') <;> (try (exfalso; omega))) | (refine altW.of ?_ ?_)
          refine RdW.keep [4, 8, 9, 43, 44, 45] (s.ops.length - (i + 1)) (by omega) ?_
          simp (disch := first | with_reducible assumption | omega | (simp only [List.length_append, List.length_cons, List.length_nil]; omega)) only [go_sem, Bool.true_and, Bool.and_true, Bool.and_self, Bool.false_and, Bool.and_false, Bool.true_or, Bool.or_true, Bool.false_or, Bool.or_false, ↓reduceIte, Nat.reduceEqDiff, Nat.reduceAdd, Nat.reduceMul, Nat.reduceSub, Nat.reduceBEq, Nat.reduceLeDiff, Nat.reduceLT, Nat.reduceMod, Nat.reduceDiv, Int.reduceToNat, Int.reducePow, Int.reduceMul, Int.reduceAdd, Int.reduceSub, Int.reduceLE, Int.reduceLT, Int.reduceNeg, Int.reduceDiv, Int.reduceMod, Int.reduceEq, Int.reduceBEq, Int.reduceBNe]
          exact fin T _ hfl
        · repeat' first | simp (disch := first | with_reducible assumption | omega | (simp only [List.length_append, List.length_cons, List.length_nil]; omega)) only [go_sem, Bool.true_and, Bool.and_true, Bool.and_self, Bool.false_and, Bool.and_false, Bool.true_or, Bool.or_true, Bool.false_or, Bool.or_false, ↓reduceIte, Nat.reduceEqDiff, Nat.reduceAdd, Nat.reduceMul, Nat.reduceSub, Nat.reduceBEq, Nat.reduceLeDiff, Nat.reduceLT, Nat.reduceMod, Nat.reduceDiv, Int.reduceToNat, Int.reducePow, Int.reduceMul, Int.reduceAdd, Int.reduceSub, Int.reduceLE, Int.reduceLT, Int.reduceNeg, Int.reduceDiv, Int.reduceMod, Int.reduceEq, Int.reduceBEq, Int.reduceBNe, f6, f6b, f6r0, f6r1, f6r2, f6r3, f6r4, f6r5, f6r6, f6r7, f6r8, f6r9, f6r10, f6r11, f6r12, f6r13, f6r14, f6r15, f6r16, f6r17, f6r18, f6r19, f6r20, f6r22, f6r23, f6r25, f6r26, f6r27, f6r28, f6r29, f6r30, f6r32, f6l1, hkJ, hkJ', hsJ', hops', hko', ↓hld, hkd, get_old hkw] | (refine BrW.of (fun hb => ?_) (fun hb => ?_) <;> (have hb' := hb; try simp only [decide_eq_true_eq, decide_eq_false_iff_not, beq_iff_eq, bne_iff_ne, beq_eq_false_iff_ne, bne_eq_false_iff_eq, Bool.not_eq_true', Bool.not_eq_false', Bool.not_eq_true, Bool.not_eq_false, Bool.and_eq_true, Bool.or_eq_true, Bool.and_eq_false_iff, Bool.or_eq_false_iff, Int.not_lt, Int.not_le, ne_eq, gt_iff_lt, ge_iff_le] at hb') <;> (try (exfalso; omega))) | (refine altW.of ?_ ?_)
          refine sent_loop (l := sn) (acc := sentB) (w := slv kw 0 gw sn.length sn.length) (.inr ⟨kw, gw, rfl, get_old hkw _⟩) hab.2.2.1 hab.2.2.2 (by decide) ?_
          have hTl2 : (sentB ++ numsB sn).length ≤ 3000 := by
            have := numsB_len (l := sn) fun x hx => by have := hab.2.2.1 x hx; omega
            rw [List.length_append]; show 4 + _ ≤ 3000; omega
          generalize hT : sentB ++ numsB sn = T at *
          repeat' first | simp (disch := first | with_reducible assumption | omega | (simp only [List.length_append, List.length_cons, List.length_nil]; omega)) only [go_sem, Bool.true_and, Bool.and_true, Bool.and_self, Bool.false_and, Bool.and_false, Bool.true_or, Bool.or_true, Bool.false_or, Bool.or_false, ↓reduceIte, Nat.reduceEqDiff, Nat.reduceAdd, Nat.reduceMul, Nat.reduceSub, Nat.reduceBEq, Nat.reduceLeDiff, Nat.reduceLT, Nat.reduceMod, Nat.reduceDiv, Int.reduceToNat, Int.reducePow, Int.reduceMul, Int.reduceAdd, Int.reduceSub, Int.reduceLE, Int.reduceLT, Int.reduceNeg, Int.reduceDiv, Int.reduceMod, Int.reduceEq, Int.reduceBEq, Int.reduceBNe, f6, f6b, f6r0, f6r1, f6r2, f6r3, f6r4, f6r5, f6r6, f6r7, f6r8, f6r9, f6r10, f6r11, f6r12, f6r13, f6r14, f6r15, f6r16, f6r17, f6r18, f6r19, f6r20, f6r22, f6r23, f6r25, f6r26, f6r27, f6r28, f6r29, f6r30, f6r32, f6l1, hkJ, hkJ', hsJ', hops', hko', hLl, hni, htk, List.length_set] | (refine BrW.of (fun hb => ?_) (fun hb => ?_) <;> (have hb' := hb; try simp only [decide_eq_true_eq, decide_eq_false_iff_not, beq_iff_eq, bne_iff_ne, beq_eq_false_iff_ne, bne_eq_false_iff_eq, Bool.not_eq_true', Bool.not_eq_false', Bool.not_eq_true, Bool.not_eq_false, Bool.and_eq_true, Bool.or_eq_true, Bool.and_eq_false_iff, Bool.or_eq_false_iff, Int.not_lt, Int.not_le, ne_eq, gt_iff_lt, ge_iff_le] at hb') <;> (try (exfalso; omega))) | (refine altW.of ?_ ?_)
          refine RdW.keep [4, 8, 9, 43, 44, 45] (s.ops.length - (i + 1)) (by omega) ?_
          simp (disch := first | with_reducible assumption | omega | (simp only [List.length_append, List.length_cons, List.length_nil]; omega)) only [go_sem, Bool.true_and, Bool.and_true, Bool.and_self, Bool.false_and, Bool.and_false, Bool.true_or, Bool.or_true, Bool.false_or, Bool.or_false, ↓reduceIte, Nat.reduceEqDiff, Nat.reduceAdd, Nat.reduceMul, Nat.reduceSub, Nat.reduceBEq, Nat.reduceLeDiff, Nat.reduceLT, Nat.reduceMod, Nat.reduceDiv, Int.reduceToNat, Int.reducePow, Int.reduceMul, Int.reduceAdd, Int.reduceSub, Int.reduceLE, Int.reduceLT, Int.reduceNeg, Int.reduceDiv, Int.reduceMod, Int.reduceEq, Int.reduceBEq, Int.reduceBNe]
          exact fin T _ hfl
      · have hfl : ansB kd (0, sn) = okB := by unfold ansB; rw [if_neg (by simp), if_neg hk3]
        repeat' first | simp (disch := first | with_reducible assumption | omega | (simp only [List.length_append, List.length_cons, List.length_nil]; omega)) only [go_sem, Bool.true_and, Bool.and_true, Bool.and_self, Bool.false_and, Bool.and_false, Bool.true_or, Bool.or_true, Bool.false_or, Bool.or_false, ↓reduceIte, Nat.reduceEqDiff, Nat.reduceAdd, Nat.reduceMul, Nat.reduceSub, Nat.reduceBEq, Nat.reduceLeDiff, Nat.reduceLT, Nat.reduceMod, Nat.reduceDiv, Int.reduceToNat, Int.reducePow, Int.reduceMul, Int.reduceAdd, Int.reduceSub, Int.reduceLE, Int.reduceLT, Int.reduceNeg, Int.reduceDiv, Int.reduceMod, Int.reduceEq, Int.reduceBEq, Int.reduceBNe, f6, f6b, f6r0, f6r1, f6r2, f6r3, f6r4, f6r5, f6r6, f6r7, f6r8, f6r9, f6r10, f6r11, f6r12, f6r13, f6r14, f6r15, f6r16, f6r17, f6r18, f6r19, f6r20, f6r22, f6r23, f6r25, f6r26, f6r27, f6r28, f6r29, f6r30, f6r32, f6l1, hkJ, hkJ', hsJ', hops', hko', ↓hld, hkd, hk3, hLl, hni, htk, List.length_set] | (refine BrW.of (fun hb => ?_) (fun hb => ?_) <;> (have hb' := hb; try simp only [decide_eq_true_eq, decide_eq_false_iff_not, beq_iff_eq, bne_iff_ne, beq_eq_false_iff_ne, bne_eq_false_iff_eq, Bool.not_eq_true', Bool.not_eq_false', Bool.not_eq_true, Bool.not_eq_false, Bool.and_eq_true, Bool.or_eq_true, Bool.and_eq_false_iff, Bool.or_eq_false_iff, Int.not_lt, Int.not_le, ne_eq, gt_iff_lt, ge_iff_le] at hb') <;> (try (exfalso; omega))) | (refine altW.of ?_ ?_)
        refine RdW.keep [4, 8, 9, 43, 44, 45] (s.ops.length - (i + 1)) (by omega) ?_
        simp (disch := first | with_reducible assumption | omega | (simp only [List.length_append, List.length_cons, List.length_nil]; omega)) only [go_sem, Bool.true_and, Bool.and_true, Bool.and_self, Bool.false_and, Bool.and_false, Bool.true_or, Bool.or_true, Bool.false_or, Bool.or_false, ↓reduceIte, Nat.reduceEqDiff, Nat.reduceAdd, Nat.reduceMul, Nat.reduceSub, Nat.reduceBEq, Nat.reduceLeDiff, Nat.reduceLT, Nat.reduceMod, Nat.reduceDiv, Int.reduceToNat, Int.reducePow, Int.reduceMul, Int.reduceAdd, Int.reduceSub, Int.reduceLE, Int.reduceLT, Int.reduceNeg, Int.reduceDiv, Int.reduceMod, Int.reduceEq, Int.reduceBEq, Int.reduceBNe]
        exact fin okB _ hfl
    · have hfl : ansB kd (e, sn) = errB ++ Lib.itoa e := by unfold ansB; rw [if_pos he]
      have hit := Lib.itoa_length_le e (by omega) (by omega)
      have hI := fun H => Itoa_spec e (by omega) (by omega) H
      repeat' first | simp (disch := first | with_reducible assumption | omega | (simp only [List.length_append, List.length_cons, List.length_nil]; omega)) only [go_sem, Bool.true_and, Bool.and_true, Bool.and_self, Bool.false_and, Bool.and_false, Bool.true_or, Bool.or_true, Bool.false_or, Bool.or_false, ↓reduceIte, Nat.reduceEqDiff, Nat.reduceAdd, Nat.reduceMul, Nat.reduceSub, Nat.reduceBEq, Nat.reduceLeDiff, Nat.reduceLT, Nat.reduceMod, Nat.reduceDiv, Int.reduceToNat, Int.reducePow, Int.reduceMul, Int.reduceAdd, Int.reduceSub, Int.reduceLE, Int.reduceLT, Int.reduceNeg, Int.reduceDiv, Int.reduceMod, Int.reduceEq, Int.reduceBEq, Int.reduceBNe, f6, f6b, f6r0, f6r1, f6r2, f6r3, f6r4, f6r5, f6r6, f6r7, f6r8, f6r9, f6r10, f6r11, f6r12, f6r13, f6r14, f6r15, f6r16, f6r17, f6r18, f6r19, f6r20, f6r22, f6r23, f6r25, f6r26, f6r27, f6r28, f6r29, f6r30, f6r32, f6l1, hkJ, hkJ', hsJ', hops', hko', ↓hld, hkd, he, hLl, hni, htk, List.length_set] | (refine BrW.of (fun hb => ?_) (fun hb => ?_) <;> (have hb' := hb; try simp only [decide_eq_true_eq, decide_eq_false_iff_not, beq_iff_eq, bne_iff_ne, beq_eq_false_iff_ne, bne_eq_false_iff_eq, Bool.not_eq_true', Bool.not_eq_false', Bool.not_eq_true, Bool.not_eq_false, Bool.and_eq_true, Bool.or_eq_true, Bool.and_eq_false_iff, Bool.or_eq_false_iff, Int.not_lt, Int.not_le, ne_eq, gt_iff_lt, ge_iff_le] at hb') <;> (try (exfalso; omega))) | (refine altW.of ?_ ?_) | (refine .of ((hI _).mono ?_); rintro v J3 ⟨rfl, hq⟩; obtain rfl := hq.symm)
      refine RdW.keep [4, 8, 9, 43, 44, 45] (s.ops.length - (i + 1)) (by omega) ?_
      simp (disch := first | with_reducible assumption | omega | (simp only [List.length_append, List.length_cons, List.length_nil]; omega)) only [go_sem, Bool.true_and, Bool.and_true, Bool.and_self, Bool.false_and, Bool.and_false, Bool.true_or, Bool.or_true, Bool.false_or, Bool.or_false, ↓reduceIte, Nat.reduceEqDiff, Nat.reduceAdd, Nat.reduceMul, Nat.reduceSub, Nat.reduceBEq, Nat.reduceLeDiff, Nat.reduceLT, Nat.reduceMod, Nat.reduceDiv, Int.reduceToNat, Int.reducePow, Int.reduceMul, Int.reduceAdd, Int.reduceSub, Int.reduceLE, Int.reduceLT, Int.reduceNeg, Int.reduceDiv, Int.reduceMod, Int.reduceEq, Int.reduceBEq, Int.reduceBNe]
      exact fin (101 :: 114 :: 114 :: 111 :: 114 :: 32 :: Lib.itoa e) _ hfl
  · obtain rfl : i = s.ops.length := by omega
    rw [List.take_of_length_le (by omega)] at hko
    repeat' first | simp (disch := first | with_reducible assumption | omega | (simp only [List.length_append, List.length_cons, List.length_nil]; omega)) only [go_sem, Bool.true_and, Bool.and_true, Bool.and_self, Bool.false_and, Bool.and_false, Bool.true_or, Bool.or_true, Bool.false_or, Bool.or_false, ↓reduceIte, Nat.reduceEqDiff, Nat.reduceAdd, Nat.reduceMul, Nat.reduceSub, Nat.reduceBEq, Nat.reduceLeDiff, Nat.reduceLT, Nat.reduceMod, Nat.reduceDiv, Int.reduceToNat, Int.reducePow, Int.reduceMul, Int.reduceAdd, Int.reduceSub, Int.reduceLE, Int.reduceLT, Int.reduceNeg, Int.reduceDiv, Int.reduceMod, Int.reduceEq, Int.reduceBEq, Int.reduceBNe, f6, f6b, f6r0, f6r1, f6r2, f6r3, f6r4, f6r5, f6r6, f6r7, f6r8, f6r9, f6r10, f6r11, f6r12, f6r13, f6r14, f6r15, f6r16, f6r17, f6r18, f6r19, f6r20, f6r22, f6r23, f6r25, f6r26, f6r27, f6r28, f6r29, f6r30, f6r32, f6l1] | (refine BrW.of (fun hb => ?_) (fun hb => ?_) <;> (have hb' := hb; try simp only [decide_eq_true_eq, decide_eq_false_iff_not, beq_iff_eq, bne_iff_ne, beq_eq_false_iff_ne, bne_eq_false_iff_eq, Bool.not_eq_true', Bool.not_eq_false', Bool.not_eq_true, Bool.not_eq_false, Bool.and_eq_true, Bool.or_eq_true, Bool.and_eq_false_iff, Bool.or_eq_false_iff, Int.not_lt, Int.not_le, ne_eq, gt_iff_lt, ge_iff_le] at hb') <;> (try (exfalso; omega))) | (refine altW.of ?_ ?_)
    exact hq J go hFr hko
end Go.Proofs.YtfkhljgifndbpaaDoor
