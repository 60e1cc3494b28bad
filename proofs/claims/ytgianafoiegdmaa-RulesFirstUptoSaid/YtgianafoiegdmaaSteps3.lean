import Derived.Test.YtgianafoiegdmaaSteps2
set_option linter.unusedSimpArgs false
set_option linter.unusedVariables false
set_option maxHeartbeats 1000000
set_option maxRecDepth 20000
namespace Go.Proofs.Ytgianafoiegdmaa
open Go Go.Am
attribute [local irreducible] opsW Ww loopW callW drawW outW outDW gW cW BrW bothW vW resW DropW RdW dcallW Later.run

theorem coversClo_spec (a r : R) (K : Nat) (H : Heap) (ha : a.ok) (hr : r.ok) (hk : H[K]? = some (.cells 0 0 false (R.cells r))) :
    ACallK Try.prog 21 (a.val :: [.pointer (some ⟨K, 0, some 1⟩)]) H (fun v H' => v = .bool (covers a r) ∧ H' = H) := by
  have s1 := fun H' => covers_spec a r H' ha hr
  refine .walkW f21_ok (by simp; decide) (by decide) ?_
  repeat' first | simp (disch := first | with_reducible assumption | omega) only [go_sem, Bool.true_and, Bool.and_true, Bool.and_self, Bool.false_and, Bool.and_false, Bool.true_or, Bool.or_true, Bool.false_or, Bool.or_false, ↓reduceIte, Nat.reduceEqDiff, Nat.reduceAdd, Nat.reduceMul, Nat.reduceSub, Nat.reduceBEq, Nat.reduceLeDiff, Nat.reduceLT, Nat.reduceMod, Nat.reduceDiv, Int.reduceToNat, Int.reducePow, Int.reduceMul, Int.reduceAdd, Int.reduceSub, Int.reduceLE, Int.reduceLT, Int.reduceNeg, Int.reduceDiv, Int.reduceMod, Int.reduceEq, Int.reduceBEq, Int.reduceBNe, f21, f21b, f21r0, f21r1, hk, get_old hk, R.val, R.cells] | (refine BrW.of (fun hb => ?_) (fun hb => ?_) <;> (have hb' := hb; try simp only [decide_eq_true_eq, decide_eq_false_iff_not, beq_iff_eq, bne_iff_ne, beq_eq_false_iff_ne, bne_eq_false_iff_eq, Bool.not_eq_true', Bool.not_eq_false', Bool.not_eq_true, Bool.not_eq_false, Bool.and_eq_true, Bool.or_eq_true, Bool.and_eq_false_iff, Bool.or_eq_false_iff, Int.not_lt, Int.not_le, ne_eq, gt_iff_lt, ge_iff_le] at hb') <;> (try (exfalso; omega))) | (refine .of ((s1 _).mono ?_); rintro v _ ⟨rfl, rfl⟩)
  exact .back rfl ⟨rfl, rfl⟩

theorem Prune_bad (l : List R) (k o g c : Nat) (H : Heap) (hs : Rs H k o g l) (hl : l.length ≤ 9223372036854775807) (hw : wrong l = true) :
    ACallK Try.prog 12 [slv k o g l.length c] H (fun v H' => v = .tuple #[.slice none 0 0, .int .i64 2] ∧ H' = H) := by
  have sw := fun H' (hs : Rs H' k o g l) => Wrong_spec l k o g c H' hs hl
  rw [if_pos hw] at sw
  refine .walkW f12_ok (by simp; decide) (by decide) ?_
  repeat' first | simp (disch := first | with_reducible assumption | omega) only [go_sem, Bool.true_and, Bool.and_true, Bool.and_self, Bool.false_and, Bool.and_false, Bool.true_or, Bool.or_true, Bool.false_or, Bool.or_false, ↓reduceIte, Nat.reduceEqDiff, Nat.reduceAdd, Nat.reduceMul, Nat.reduceSub, Nat.reduceBEq, Nat.reduceLeDiff, Nat.reduceLT, Nat.reduceMod, Nat.reduceDiv, Int.reduceToNat, Int.reducePow, Int.reduceMul, Int.reduceAdd, Int.reduceSub, Int.reduceLE, Int.reduceLT, Int.reduceNeg, Int.reduceDiv, Int.reduceMod, Int.reduceEq, Int.reduceBEq, Int.reduceBNe, f12, f12b, f12r0, f12r1, f12r2, f12r3, f12r4, f12r5, f12r6, f12r7, f12r8, f12r9, f12r10, f12r12] | (refine BrW.of (fun hb => ?_) (fun hb => ?_) <;> (have hb' := hb; try simp only [decide_eq_true_eq, decide_eq_false_iff_not, beq_iff_eq, bne_iff_ne, beq_eq_false_iff_ne, bne_eq_false_iff_eq, Bool.not_eq_true', Bool.not_eq_false', Bool.not_eq_true, Bool.not_eq_false, Bool.and_eq_true, Bool.or_eq_true, Bool.and_eq_false_iff, Bool.or_eq_false_iff, Int.not_lt, Int.not_le, ne_eq, gt_iff_lt, ge_iff_le] at hb') <;> (try (exfalso; omega))) | (refine .of ((sw _ hs).mono ?_); rintro v _ ⟨rfl, rfl⟩)
  all_goals exact .here ⟨rfl, rfl⟩

theorem prune_take_len (l : List R) (i : Nat) : (prune (l.take i)).length ≤ i := by
  have := (prune_sub (l.take i)).2
  simp at this; omega

theorem Prune_spec (l : List R) (k o g c : Nat) (H : Heap) (hs : Rs H k o g l) (hw : wrong l = false) (hok : ∀ i, i < l.length → (l.getD i r0).ok) :
    ACallK Try.prog 12 [slv k o g l.length c] H (fun v H' => ∃ g', v = .tuple #[slv H.length 0 g' (prune l).length (prune l).length, .int .i64 0] ∧ H' = H ++ [.cells g' 14 false (flat' R.cells (prune l))]) := by
  have hl : l.length ≤ 400 := by simp only [wrong, Bool.or_eq_false_iff, decide_eq_false_iff_not] at hw; omega
  have sw := fun H' (hs : Rs H' k o g l) => Wrong_spec l k o g c H' hs (by omega)
  rw [if_neg (by simp [hw])] at sw
  obtain ⟨ro, cs, hk, hcl, hcs⟩ := hs.at'
  have hkl := hs.lt
  refine .walkW f12_ok (by simp; decide) (by decide) ?_
  repeat' first | simp (disch := first | with_reducible assumption | omega) only [go_sem, Bool.true_and, Bool.and_true, Bool.and_self, Bool.false_and, Bool.and_false, Bool.true_or, Bool.or_true, Bool.false_or, Bool.or_false, ↓reduceIte, Nat.reduceEqDiff, Nat.reduceAdd, Nat.reduceMul, Nat.reduceSub, Nat.reduceBEq, Nat.reduceLeDiff, Nat.reduceLT, Nat.reduceMod, Nat.reduceDiv, Int.reduceToNat, Int.reducePow, Int.reduceMul, Int.reduceAdd, Int.reduceSub, Int.reduceLE, Int.reduceLT, Int.reduceNeg, Int.reduceDiv, Int.reduceMod, Int.reduceEq, Int.reduceBEq, Int.reduceBNe, f12, f12b, f12r0, f12r1, f12r2, f12r3, f12r4, f12r5, f12r6, f12r7, f12r8, f12r9, f12r10, f12r12, hk, get_old hk] | (refine BrW.of (fun hb => ?_) (fun hb => ?_) <;> (have hb' := hb; try simp only [decide_eq_true_eq, decide_eq_false_iff_not, beq_iff_eq, bne_iff_ne, beq_eq_false_iff_ne, bne_eq_false_iff_eq, Bool.not_eq_true', Bool.not_eq_false', Bool.not_eq_true, Bool.not_eq_false, Bool.and_eq_true, Bool.or_eq_true, Bool.and_eq_false_iff, Bool.or_eq_false_iff, Int.not_lt, Int.not_le, ne_eq, gt_iff_lt, ge_iff_le] at hb') <;> (try (exfalso; omega))) | (refine .of ((sw _ hs).mono ?_); rintro v H ⟨rfl, rfl⟩)
  refine loopW.ghost 5 14 rfl ?_
  simp (disch := first | with_reducible assumption | omega) only [go_sem, Bool.true_and, Bool.and_true, Bool.and_self, Bool.false_and, Bool.and_false, Bool.true_or, Bool.or_true, Bool.false_or, Bool.or_false, ↓reduceIte, Nat.reduceEqDiff, Nat.reduceAdd, Nat.reduceMul, Nat.reduceSub, Nat.reduceBEq, Nat.reduceLeDiff, Nat.reduceLT, Nat.reduceMod, Nat.reduceDiv, Int.reduceToNat, Int.reducePow, Int.reduceMul, Int.reduceAdd, Int.reduceSub, Int.reduceLE, Int.reduceLT, Int.reduceNeg, Int.reduceDiv, Int.reduceMod, Int.reduceEq, Int.reduceBEq, Int.reduceBNe]
  refine loopW.of (by decide) (fun m e H'' => ∃ (i g' : Nat), e = [(5, slv H.length 0 g' (prune (l.take i)).length (prune (l.take i)).length), (13, slv k o g l.length c), (14, .int .i64 l.length), (15, .int .i64 i)] ∧
    H'' = H ++ [.cells g' 14 false (flat' R.cells (prune (l.take i)))] ∧ i ≤ l.length ∧ m = l.length - i) l.length ⟨0, 0, rfl, rfl, by omega, rfl⟩ ?_
  rintro m e H'' ⟨i, g', rfl, rfl, hi, rfl⟩
  by_cases hlt : i < l.length
  · have hld := Tbl.ld (enc := R.cells) (fun _ => rfl) hcs i hlt
    have hnx : prune (l.take (i + 1)) = pruneStep (prune (l.take i)) (l.getD i r0) := by rw [take_snoc r0 l i hlt, prune_snoc]
    have hxo := hok i hlt
    have hpl := prune_take_len l i
    have hsub : ∀ j, j < (prune (l.take i)).length → ((prune (l.take i)).getD j r0).ok := fun j hj => by
      have hm : (prune (l.take i)).getD j r0 ∈ prune (l.take i) := by rw [List.getD_eq_getElem?_getD, List.getElem?_eq_getElem hj]; exact List.getElem_mem hj
      have hm2 := List.mem_of_mem_take ((prune_sub _).1 _ hm)
      obtain ⟨q, hq, e⟩ := List.getElem_of_mem hm2
      have := hok q hq
      rw [List.getD_eq_getElem?_getD, List.getElem?_eq_getElem hq] at this
      rw [← e]; exact this
    generalize l.getD i r0 = x at *
    generalize hP : prune (l.take i) = P at *
    have hkx : (H ++ [.cells g' 14 false (flat' R.cells P), .cells 0 0 false (R.cells x)])[H.length + 1]? = some (.cells 0 0 false (R.cells x)) := by rw [get_new]; rfl
    have htp : Rs (H ++ [.cells g' 14 false (flat' R.cells P), .cells 0 0 false (R.cells x)]) H.length 0 g' P := Tbl.new (enc := R.cells) (s := 14) (d := r0) (fun _ => rfl) _ _ _ false _ (get_new0 _ _ _)
    have hC := ContainsF_spec (fun a => covers a x) 21 [.pointer (some ⟨H.length + 1, 0, some 1⟩)] P H.length 0 g' P.length _ htp (by omega) (fun j hj => coversClo_spec _ x _ _ (hsub j hj) hxo hkx)
    have hfl := flat'_length (enc := R.cells) (s := 14) (fun _ => rfl) P
    have hni : ¬ P.length + 1 ≤ P.length := by omega
    have htk : (flat' R.cells P).take (P.length * 14) = flat' R.cells P := List.take_of_length_le (by omega)
    have hlen : 14 = (R.cells x).length := rfl
    cases hc : P.any (fun a => covers a x) with
    | true =>
      rw [hc] at hC
      have hnx' : prune (l.take (i + 1)) = P := by rw [hnx]; unfold pruneStep; rw [if_pos hc]
      repeat' first | simp (disch := first | with_reducible assumption | omega) only [go_sem, Bool.true_and, Bool.and_true, Bool.and_self, Bool.false_and, Bool.and_false, Bool.true_or, Bool.or_true, Bool.false_or, Bool.or_false, ↓reduceIte, Nat.reduceEqDiff, Nat.reduceAdd, Nat.reduceMul, Nat.reduceSub, Nat.reduceBEq, Nat.reduceLeDiff, Nat.reduceLT, Nat.reduceMod, Nat.reduceDiv, Int.reduceToNat, Int.reducePow, Int.reduceMul, Int.reduceAdd, Int.reduceSub, Int.reduceLE, Int.reduceLT, Int.reduceNeg, Int.reduceDiv, Int.reduceMod, Int.reduceEq, Int.reduceBEq, Int.reduceBNe, f12, f12b, f12r0, f12r1, f12r2, f12r3, f12r4, f12r5, f12r6, f12r7, f12r8, f12r9, f12r10, f12r12, f12l0, hk, get_old hk, ↓hld, R.cells] | (refine BrW.of (fun hb => ?_) (fun hb => ?_) <;> (have hb' := hb; try simp only [decide_eq_true_eq, decide_eq_false_iff_not, beq_iff_eq, bne_iff_ne, beq_eq_false_iff_ne, bne_eq_false_iff_eq, Bool.not_eq_true', Bool.not_eq_false', Bool.not_eq_true, Bool.not_eq_false, Bool.and_eq_true, Bool.or_eq_true, Bool.and_eq_false_iff, Bool.or_eq_false_iff, Int.not_lt, Int.not_le, ne_eq, gt_iff_lt, ge_iff_le] at hb') <;> (try (exfalso; omega))) | (refine .of (hC.mono ?_); rintro v _ ⟨rfl, rfl⟩)
      refine RdW.cut1 [5, 13, 14, 15] (l.length - (i + 1)) (by omega) (abnd_flat (flat_rows (fun _ => by simp [R.cells, flat]) _)) ?_ ?_
      · simp (disch := first | with_reducible assumption | omega) only [go_sem, Bool.true_and, Bool.and_true, Bool.and_self, Bool.false_and, Bool.and_false, Bool.true_or, Bool.or_true, Bool.false_or, Bool.or_false, ↓reduceIte, Nat.reduceEqDiff, Nat.reduceAdd, Nat.reduceMul, Nat.reduceSub, Nat.reduceBEq, Nat.reduceLeDiff, Nat.reduceLT, Nat.reduceMod, Nat.reduceDiv, Int.reduceToNat, Int.reducePow, Int.reduceMul, Int.reduceAdd, Int.reduceSub, Int.reduceLE, Int.reduceLT, Int.reduceNeg, Int.reduceDiv, Int.reduceMod, Int.reduceEq, Int.reduceBEq, Int.reduceBNe]
        simp; omega
      · simp (disch := first | with_reducible assumption | omega) only [go_sem, Bool.true_and, Bool.and_true, Bool.and_self, Bool.false_and, Bool.and_false, Bool.true_or, Bool.or_true, Bool.false_or, Bool.or_false, ↓reduceIte, Nat.reduceEqDiff, Nat.reduceAdd, Nat.reduceMul, Nat.reduceSub, Nat.reduceBEq, Nat.reduceLeDiff, Nat.reduceLT, Nat.reduceMod, Nat.reduceDiv, Int.reduceToNat, Int.reducePow, Int.reduceMul, Int.reduceAdd, Int.reduceSub, Int.reduceLE, Int.reduceLT, Int.reduceNeg, Int.reduceDiv, Int.reduceMod, Int.reduceEq, Int.reduceBEq, Int.reduceBNe]
        exact ⟨i + 1, g', by rw [hnx']; rfl, by rw [hnx'], by omega, rfl⟩
    | false =>
      rw [hc] at hC
      have hnx' : prune (l.take (i + 1)) = P ++ [x] := by rw [hnx]; unfold pruneStep; rw [if_neg (by simp [hc])]
      repeat' first | simp (disch := first | with_reducible assumption | omega) only [go_sem, Bool.true_and, Bool.and_true, Bool.and_self, Bool.false_and, Bool.and_false, Bool.true_or, Bool.or_true, Bool.false_or, Bool.or_false, ↓reduceIte, Nat.reduceEqDiff, Nat.reduceAdd, Nat.reduceMul, Nat.reduceSub, Nat.reduceBEq, Nat.reduceLeDiff, Nat.reduceLT, Nat.reduceMod, Nat.reduceDiv, Int.reduceToNat, Int.reducePow, Int.reduceMul, Int.reduceAdd, Int.reduceSub, Int.reduceLE, Int.reduceLT, Int.reduceNeg, Int.reduceDiv, Int.reduceMod, Int.reduceEq, Int.reduceBEq, Int.reduceBNe, f12, f12b, f12r0, f12r1, f12r2, f12r3, f12r4, f12r5, f12r6, f12r7, f12r8, f12r9, f12r10, f12r12, f12l0, hk, get_old hk, ↓hld, R.cells, hni, htk, hfl] | (refine BrW.of (fun hb => ?_) (fun hb => ?_) <;> (have hb' := hb; try simp only [decide_eq_true_eq, decide_eq_false_iff_not, beq_iff_eq, bne_iff_ne, beq_eq_false_iff_ne, bne_eq_false_iff_eq, Bool.not_eq_true', Bool.not_eq_false', Bool.not_eq_true, Bool.not_eq_false, Bool.and_eq_true, Bool.or_eq_true, Bool.and_eq_false_iff, Bool.or_eq_false_iff, Int.not_lt, Int.not_le, ne_eq, gt_iff_lt, ge_iff_le] at hb') <;> (try (exfalso; omega))) | (refine .of (hC.mono ?_); rintro v _ ⟨rfl, rfl⟩)
      refine RdW.cut1 [5, 13, 14, 15] (l.length - (i + 1)) (by omega) ?_ ?_ ?_
      · refine abnd_flat fun v hv => ?_
        rcases List.mem_append.1 hv with hv | hv
        · exact flat_rows (fun _ => by simp [R.cells, flat]) _ v hv
        · exact (show ∀ v ∈ R.cells x, flat v = true by simp [R.cells, flat]) v hv
      · simp (disch := first | with_reducible assumption | omega) only [go_sem, Bool.true_and, Bool.and_true, Bool.and_self, Bool.false_and, Bool.and_false, Bool.true_or, Bool.or_true, Bool.false_or, Bool.or_false, ↓reduceIte, Nat.reduceEqDiff, Nat.reduceAdd, Nat.reduceMul, Nat.reduceSub, Nat.reduceBEq, Nat.reduceLeDiff, Nat.reduceLT, Nat.reduceMod, Nat.reduceDiv, Int.reduceToNat, Int.reducePow, Int.reduceMul, Int.reduceAdd, Int.reduceSub, Int.reduceLE, Int.reduceLT, Int.reduceNeg, Int.reduceDiv, Int.reduceMod, Int.reduceEq, Int.reduceBEq, Int.reduceBNe]
        simp; omega
      · simp (disch := first | with_reducible assumption | omega) only [go_sem, Bool.true_and, Bool.and_true, Bool.and_self, Bool.false_and, Bool.and_false, Bool.true_or, Bool.or_true, Bool.false_or, Bool.or_false, ↓reduceIte, Nat.reduceEqDiff, Nat.reduceAdd, Nat.reduceMul, Nat.reduceSub, Nat.reduceBEq, Nat.reduceLeDiff, Nat.reduceLT, Nat.reduceMod, Nat.reduceDiv, Int.reduceToNat, Int.reducePow, Int.reduceMul, Int.reduceAdd, Int.reduceSub, Int.reduceLE, Int.reduceLT, Int.reduceNeg, Int.reduceDiv, Int.reduceMod, Int.reduceEq, Int.reduceBEq, Int.reduceBNe]
        exact ⟨i + 1, g' + 1, by rw [hnx']; simp, by rw [hnx', ← flat'_app]; rfl, by omega, rfl⟩
  · obtain rfl : i = l.length := by omega
    rw [List.take_length]
    repeat' first | simp (disch := first | with_reducible assumption | omega) only [go_sem, Bool.true_and, Bool.and_true, Bool.and_self, Bool.false_and, Bool.and_false, Bool.true_or, Bool.or_true, Bool.false_or, Bool.or_false, ↓reduceIte, Nat.reduceEqDiff, Nat.reduceAdd, Nat.reduceMul, Nat.reduceSub, Nat.reduceBEq, Nat.reduceLeDiff, Nat.reduceLT, Nat.reduceMod, Nat.reduceDiv, Int.reduceToNat, Int.reducePow, Int.reduceMul, Int.reduceAdd, Int.reduceSub, Int.reduceLE, Int.reduceLT, Int.reduceNeg, Int.reduceDiv, Int.reduceMod, Int.reduceEq, Int.reduceBEq, Int.reduceBNe, f12, f12b, f12r0, f12r1, f12r2, f12r3, f12r4, f12r5, f12r6, f12r7, f12r8, f12r9, f12r10, f12r12, f12l0, f12, f12b, f12r0, f12r1, f12r2, f12r3, f12r4, f12r5, f12r6, f12r7, f12r8, f12r9, f12r10, f12r12] | (refine BrW.of (fun hb => ?_) (fun hb => ?_) <;> (have hb' := hb; try simp only [decide_eq_true_eq, decide_eq_false_iff_not, beq_iff_eq, bne_iff_ne, beq_eq_false_iff_ne, bne_eq_false_iff_eq, Bool.not_eq_true', Bool.not_eq_false', Bool.not_eq_true, Bool.not_eq_false, Bool.and_eq_true, Bool.or_eq_true, Bool.and_eq_false_iff, Bool.or_eq_false_iff, Int.not_lt, Int.not_le, ne_eq, gt_iff_lt, ge_iff_le] at hb') <;> (try (exfalso; omega)))
    exact .here ⟨g', rfl, rfl⟩
end Go.Proofs.Ytgianafoiegdmaa
