import Derived.Test.YtjdmpkaiijcchaaSteps10
set_option linter.unusedSimpArgs false
set_option linter.unusedVariables false
set_option maxHeartbeats 2000000
set_option maxRecDepth 20000
namespace Go.Proofs.Ytjdmpkaiijcchaa
open Go Go.Am
attribute [local irreducible] opsW Ww loopW callW drawW outW outDW gW cW BrW bothW vW resW DropW RdW dcallW altW forkW splitW Later.run

theorem rem_run (ops : List Op) (i : Int) :
    (runR (ops ++ [⟨3, i, 0, 0⟩])).errs = (runR ops).errs ++ [if ((runR ops).s.map (·.i)).any (fun x => i == x) = true then 0 else 3] ∧ (runR (ops ++ [⟨3, i, 0, 0⟩])).pop = (runR ops).pop ∧ (runR (ops ++ [⟨3, i, 0, 0⟩])).s.map (·.i) = ((runR ops).s.map (·.i)).filter (notI i) := by
  rw [runR_snoc]
  generalize runR ops = r
  have hany : (r.s.map (·.i)).any (fun x => i == x) = hasI r.s i := by
    rw [Bool.eq_iff_iff, hasI_iff, List.any_eq_true]
    constructor
    · rintro ⟨x, h1, h2⟩
      obtain ⟨y, h3, h4⟩ := List.mem_map.1 h1
      exact ⟨y, h3, by rw [h4]; exact (by simpa using h2 : i = x).symm⟩
    · rintro ⟨y, h1, h2⟩
      exact ⟨y.i, List.mem_map.2 ⟨y, h1, rfl⟩, by rw [h2]; simp⟩
  rw [hany]
  unfold stepR
  cases hh : hasI r.s i with
  | true =>
    have d2 : doP r.s ⟨3, i, 0, 0⟩ = (0, 0, outI r.s i) := by
      unfold doP
      rw [if_neg (by show ¬ (3 : Int) = 1; decide), if_neg (by show ¬ (3 : Int) = 2; decide), if_pos rfl, if_pos hh]
    rw [d2]
    refine ⟨by simp, by simp, ?_⟩
    show (outI r.s i).map (·.i) = _
    unfold outI
    rw [List.filter_map]
    rfl
  | false =>
    have d2 : doP r.s ⟨3, i, 0, 0⟩ = (3, 0, r.s) := by
      unfold doP
      rw [if_neg (by show ¬ (3 : Int) = 1; decide), if_neg (by show ¬ (3 : Int) = 2; decide), if_pos rfl, if_neg (by rw [hh]; decide)]
    rw [d2]
    refine ⟨by simp, by simp, ?_⟩
    show r.s.map (·.i) = _
    refine (List.filter_eq_self.2 fun x hx => ?_).symm
    obtain ⟨y, h1, h2⟩ := List.mem_map.1 hx
    unfold notI
    have : ¬ x = i := fun e => by
      rw [(hasI_iff r.s i).2 ⟨y, h1, h2.trans e⟩] at hh; cases hh
    simp [this]
theorem HeapsRemove_args (H : Heap) (vals : List Value) (h : ArgsOk 1048576 H HeapsRemoveSh vals) : ACallK Try.prog 4 vals H fun v _ => v = .bool true := by
  obtain ⟨_, _, rfl, a1, h⟩ := h.cons
  obtain ⟨_, _, rfl, a2, h⟩ := h.cons
  obtain rfl := h.nil
  obtain ⟨k, c, ops, rfl, hB, hlc, hs, hok⟩ := ops_of a1
  obtain ⟨id, rfl, hid⟩ := int_of a2
  clear a1 a2 h
  obtain ⟨r1, r2, r3⟩ := rem_run ops id
  have hok2 := ok_app (m := [⟨3, id, 0, 0⟩]) hok fun o ho => by
    rw [List.mem_singleton] at ho; subst ho; exact ⟨hid, (⟨by decide, by decide⟩ : (0 : Int) ≤ 0 ∧ (0 : Int) ≤ 18446744073709551615), (⟨by decide, by decide⟩ : (0 : Int) ≤ 0 ∧ (0 : Int) ≤ 18446744073709551615)⟩
  have hl0 := runR_len ops
  obtain ⟨hbp, hbs⟩ := runR_bd ops
  refine .walkW f4_ok (by simp; decide) (by decide) ?_
  have hfl := flO ops
  have htk := flO_tk ops
  have hsn1 := flO_sn ops ⟨3, id, 0, 0⟩
  simp only at hsn1
  have hni : ¬ ops.length + 1 ≤ ops.length := by omega
  have hC := fun (J : Heap) (hJ : Tbl Op Op.cells 4 o0 J k 0 0 ops) => CloneO_spec ops k 0 0 c J hJ (by omega) hlc
  have hbx : (H ++ [AObj.cells 0 0 false [Value.int IntKind.i64 id]])[H.length]? = some (AObj.cells 0 0 false [Value.int IntKind.i64 id]) := by simp
  have hs1 := hs.app [AObj.cells 0 0 false [Value.int IntKind.i64 id]]
  have hO1 : IsH (fun _ => True) (H ++ [AObj.cells 0 0 false [Value.int IntKind.i64 id]]) (slv k 0 0 ops.length c) ops := IsT.of trivial hs1 hlc
  repeat' first | simp (disch := first | with_reducible assumption | omega) only [go_sem, Bool.true_and, Bool.and_true, Bool.and_self, Bool.false_and, Bool.and_false, Bool.true_or, Bool.or_true, Bool.false_or, Bool.or_false, ↓reduceIte, Nat.reduceEqDiff, Nat.reduceAdd, Nat.reduceMul, Nat.reduceSub, Nat.reduceBEq, Nat.reduceLeDiff, Nat.reduceLT, Nat.reduceMod, Nat.reduceDiv, Int.reduceToNat, Int.reducePow, Int.reduceMul, Int.reduceAdd, Int.reduceSub, Int.reduceLE, Int.reduceLT, Int.reduceNeg, Int.reduceDiv, Int.reduceMod, Int.reduceEq, Int.reduceBEq, Int.reduceBNe, f4, f4b, f4r0, f4r1, f4r2, f4r3, f4r4, f4r5, f4r6] | (refine BrW.of (fun hb => ?_) (fun hb => ?_) <;> (have hb' := hb; try simp only [decide_eq_true_eq, decide_eq_false_iff_not, beq_iff_eq, bne_iff_ne, beq_eq_false_iff_ne, bne_eq_false_iff_eq, Bool.not_eq_true', Bool.not_eq_false', Bool.not_eq_true, Bool.not_eq_false, Bool.and_eq_true, Bool.or_eq_true, Bool.and_eq_false_iff, Bool.or_eq_false_iff, Int.not_lt, Int.not_le, ne_eq, gt_iff_lt, ge_iff_le] at hb') <;> (try (exfalso; omega))) | (refine altW.of ?_ ?_) | (refine .of ((alive _).mono ?_); rintro v H ⟨rfl, rfl⟩)
  refine .of ((Play_spec ops _ (fun _ => True) _ hO1 hok (by omega)).mono ?_)
  rintro v G ⟨a, b, d, rfl, hLe, p1, p2, p3⟩
  have hbG := hLe.get hbx
  have hsG := hs1.le hLe
  have hkl := hs.lt
  obtain ⟨ro, cs, hk, _, _⟩ := hsG.at'
  clear hLe hs1 hO1 hbx
  generalize hhl : H.length = hl at *
  repeat' first | simp (disch := first | with_reducible assumption | omega) only [go_sem, Bool.true_and, Bool.and_true, Bool.and_self, Bool.false_and, Bool.and_false, Bool.true_or, Bool.or_true, Bool.false_or, Bool.or_false, ↓reduceIte, Nat.reduceEqDiff, Nat.reduceAdd, Nat.reduceMul, Nat.reduceSub, Nat.reduceBEq, Nat.reduceLeDiff, Nat.reduceLT, Nat.reduceMod, Nat.reduceDiv, Int.reduceToNat, Int.reducePow, Int.reduceMul, Int.reduceAdd, Int.reduceSub, Int.reduceLE, Int.reduceLT, Int.reduceNeg, Int.reduceDiv, Int.reduceMod, Int.reduceEq, Int.reduceBEq, Int.reduceBNe, f4, f4b, f4r0, f4r1, f4r2, f4r3, f4r4, f4r5, f4r6, hfl, htk, hsn1, hni, hbG, get_old hbG] | (refine BrW.of (fun hb => ?_) (fun hb => ?_) <;> (have hb' := hb; try simp only [decide_eq_true_eq, decide_eq_false_iff_not, beq_iff_eq, bne_iff_ne, beq_eq_false_iff_ne, bne_eq_false_iff_eq, Bool.not_eq_true', Bool.not_eq_false', Bool.not_eq_true, Bool.not_eq_false, Bool.and_eq_true, Bool.or_eq_true, Bool.and_eq_false_iff, Bool.or_eq_false_iff, Int.not_lt, Int.not_le, ne_eq, gt_iff_lt, ge_iff_le] at hb') <;> (try (exfalso; omega))) | (refine altW.of ?_ ?_) | (refine .of ((hC _ hsG).mono ?_); rintro v _ ⟨g2, rfl, rfl⟩) | (refine .of ((hC _ (hsG.app _)).mono ?_); rintro v _ ⟨g2, rfl, rfl⟩)
  all_goals
    refine .of ((Play_spec (ops ++ [⟨3, id, 0, 0⟩]) _ (fun _ => True) _ (IsH.at _ _ (g2 + 1) _ _ (by simp) (by first | (rw [get_new0]) | (rw [get_new]; rfl))) hok2 (by simp; omega)).mono ?_)
    rintro v G2 ⟨a2, b2, d2, rfl, hLe2, q1, q2, q3⟩
    have hLG : Le G G2 := (Le.app _ _).trans hLe2
    have hkG2 := hLG.get hk
    have hbG2 := hLG.get hbG
    have p2 := p2.le hLG
    have p3 := p3.le hLG
    clear hLe2
    rw [r1] at q1
    rw [r2] at q2
    rw [r3] at q3
    obtain ⟨k2, o2, gb, c2, _, rfl, t2, _⟩ := q1
    obtain ⟨rb, cb, hb9, _, hb3⟩ := Ints.cell t2
    have y1 := hb3 ops.length (by simp [hl0])
    rw [getD_at _ _ _ _ hl0] at y1
    have hQ := fun J hJ => EqualI_of (runR ops).pop b b2 G2 J p2 q2 (by omega) hJ
    clear r1 r2 r3 hC
    generalize hL : (runR ops).s.map (·.i) = L at *
    have z2 : ((runR ops).errs ++ [if L.any (fun x => id == x) = true then (0 : Int) else 3]).length = ops.length + 1 := by simp [hl0]
    rw [z2]
    obtain ⟨k3, o3, g3, c3, _, rfl, t3, hc3⟩ := p3
    have hCon := ContainsI_spec id L k3 o3 g3 c3 G2 t3 (by omega)
    have hCl := fun J hJ => CloneI_spec L k3 o3 g3 c3 J (t3.le hJ) (by omega) hc3
    have hG2l := (List.getElem?_eq_some_iff.1 hbG2).1
    have hcl1 : ((if L.any (fun x => id == x) = true then (0 : Int) else 3) == 0) = L.any (fun x => id == x) := by cases L.any (fun x => id == x) <;> rfl
    have hcl2 : ∀ b : Bool, (b == b) = true := fun b => by cases b <;> rfl
    generalize (if L.any (fun x => id == x) = true then (0 : Int) else 3) = ee at *
    generalize L.any (fun x => id == x) = an at *
    repeat' first | simp (disch := first | with_reducible assumption | omega) only [go_sem, Bool.true_and, Bool.and_true, Bool.and_self, Bool.false_and, Bool.and_false, Bool.true_or, Bool.or_true, Bool.false_or, Bool.or_false, ↓reduceIte, Nat.reduceEqDiff, Nat.reduceAdd, Nat.reduceMul, Nat.reduceSub, Nat.reduceBEq, Nat.reduceLeDiff, Nat.reduceLT, Nat.reduceMod, Nat.reduceDiv, Int.reduceToNat, Int.reducePow, Int.reduceMul, Int.reduceAdd, Int.reduceSub, Int.reduceLE, Int.reduceLT, Int.reduceNeg, Int.reduceDiv, Int.reduceMod, Int.reduceEq, Int.reduceBEq, Int.reduceBNe, f4, f4b, f4r0, f4r1, f4r2, f4r3, f4r4, f4r5, f4r6, hkG2, hb9, hbG2, y1, hcl1, hcl2] | (refine BrW.of (fun hb => ?_) (fun hb => ?_) <;> (have hb' := hb; try simp only [decide_eq_true_eq, decide_eq_false_iff_not, beq_iff_eq, bne_iff_ne, beq_eq_false_iff_ne, bne_eq_false_iff_eq, Bool.not_eq_true', Bool.not_eq_false', Bool.not_eq_true, Bool.not_eq_false, Bool.and_eq_true, Bool.or_eq_true, Bool.and_eq_false_iff, Bool.or_eq_false_iff, Int.not_lt, Int.not_le, ne_eq, gt_iff_lt, ge_iff_le] at hb') <;> (try (exfalso; omega))) | (refine altW.of ?_ ?_) | (refine .of (hCon.mono ?_); rintro v J ⟨rfl, hJ⟩; obtain rfl := hJ.symm) | (refine .of ((hQ _ (Le.refl _)).mono ?_); rintro v J ⟨rfl, hJ⟩; obtain rfl := hJ.symm) | (refine .of ((hCl _ (Le.refl _)).mono ?_); rintro v _ ⟨g4, rfl, rfl⟩)
    all_goals first | (exfalso; omega) | skip
    all_goals
      refine .of ((Del_spec id L G2.length g4 hl _ (by rw [get_new0, flat'_ienc]) (get_old hbG2 _) (by omega) (by omega)).mono ?_)
      rintro v J ⟨C, rfl, rfl, hC1, hC2⟩
      have hset : ∀ X Y : AObj, (G2 ++ [X]).set G2.length Y = G2 ++ [Y] := fun X Y => by simp
      rw [hset]
      have hT := (Ints.new (G2 ++ [AObj.cells g4 1 false (ints C)]) G2.length g4 false C (get_new0 _ _ _)).take (L.filter (notI id)).length
      rw [hC2] at hT
      have hN : IsN (fun _ => True) (G2 ++ [AObj.cells g4 1 false (ints C)]) (slv G2.length 0 g4 (L.filter (notI id)).length L.length) (L.filter (notI id)) := IsT.of trivial hT (List.length_filter_le _ _)
      have hE := EqualI_of (L.filter (notI id)) d2 (slv G2.length 0 g4 (L.filter (notI id)).length L.length) (G2 ++ [AObj.cells g4 1 false (ints C)]) _ (q3.le (Le.app _ _)) hN (by have := List.length_filter_le (notI id) L; omega) (Le.refl _)
      repeat' first | simp (disch := first | with_reducible assumption | omega) only [go_sem, Bool.true_and, Bool.and_true, Bool.and_self, Bool.false_and, Bool.and_false, Bool.true_or, Bool.or_true, Bool.false_or, Bool.or_false, ↓reduceIte, Nat.reduceEqDiff, Nat.reduceAdd, Nat.reduceMul, Nat.reduceSub, Nat.reduceBEq, Nat.reduceLeDiff, Nat.reduceLT, Nat.reduceMod, Nat.reduceDiv, Int.reduceToNat, Int.reducePow, Int.reduceMul, Int.reduceAdd, Int.reduceSub, Int.reduceLE, Int.reduceLT, Int.reduceNeg, Int.reduceDiv, Int.reduceMod, Int.reduceEq, Int.reduceBEq, Int.reduceBNe, f4, f4b, f4r0, f4r1, f4r2, f4r3, f4r4, f4r5, f4r6] | (refine BrW.of (fun hb => ?_) (fun hb => ?_) <;> (have hb' := hb; try simp only [decide_eq_true_eq, decide_eq_false_iff_not, beq_iff_eq, bne_iff_ne, beq_eq_false_iff_ne, bne_eq_false_iff_eq, Bool.not_eq_true', Bool.not_eq_false', Bool.not_eq_true, Bool.not_eq_false, Bool.and_eq_true, Bool.or_eq_true, Bool.and_eq_false_iff, Bool.or_eq_false_iff, Int.not_lt, Int.not_le, ne_eq, gt_iff_lt, ge_iff_le] at hb') <;> (try (exfalso; omega))) | (refine altW.of ?_ ?_) | (refine .of (hE.mono ?_); rintro v J ⟨rfl, hJ⟩)
      exact .here rfl
end Go.Proofs.Ytjdmpkaiijcchaa
