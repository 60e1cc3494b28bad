import Derived.Test.YtjdmpkaiijcchaaAlive
set_option linter.unusedSimpArgs false
set_option linter.unusedVariables false
set_option maxHeartbeats 2000000
set_option maxRecDepth 20000
namespace Go.Proofs.Ytjdmpkaiijcchaa
open Go Go.Am
attribute [local irreducible] opsW Ww loopW callW drawW outW outDW gW cW BrW bothW vW resW DropW RdW dcallW altW forkW splitW Later.run

theorem CloneO_spec (l : List Op) (k o g c : Nat) (H : Heap) (hs : Tbl Op Op.cells 4 o0 H k o g l) (hl : l.length ≤ 1099511627776) (hc : l.length ≤ c) :
    ACallK Try.prog 9 [slv k o g l.length c] H (fun v H' => ∃ g', v = slv H.length 0 g' l.length l.length ∧ H' = H ++ [.cells g' 4 false (flat' Op.cells l)]) := by
  obtain ⟨ro, cs, hk, hle, hcs⟩ := hs.at'
  have ht := Tbl.cells (enc := Op.cells) (fun _ => rfl) hle hcs
  try simp only [Nat.mul_one] at ht
  refine .walkW f9_ok (by simp; decide) (by decide) ?_
  have hkn := get_old hk
  simp (disch := first | with_reducible assumption | omega) only [go_sem, Bool.true_and, Bool.and_true, Bool.and_self, Bool.false_and, Bool.and_false, Bool.true_or, Bool.or_true, Bool.false_or, Bool.or_false, ↓reduceIte, Nat.reduceEqDiff, Nat.reduceAdd, Nat.reduceMul, Nat.reduceSub, Nat.reduceBEq, Nat.reduceLeDiff, Nat.reduceLT, Nat.reduceMod, Nat.reduceDiv, Int.reduceToNat, Int.reducePow, Int.reduceMul, Int.reduceAdd, Int.reduceSub, Int.reduceLE, Int.reduceLT, Int.reduceNeg, Int.reduceDiv, Int.reduceMod, Int.reduceEq, Int.reduceBEq, Int.reduceBNe, f9, f9b, f9r0, f9r1, f9r2, f9r3, hk]
  refine .of ?_ (fun hn => ?_)
  · by_cases hz : l.length = 0
    · have hb : flat' Op.cells l = [] := by rw [List.length_eq_zero_iff.1 hz]; rfl
      simp (disch := first | with_reducible assumption | omega) only [go_sem, Bool.true_and, Bool.and_true, Bool.and_self, Bool.false_and, Bool.and_false, Bool.true_or, Bool.or_true, Bool.false_or, Bool.or_false, ↓reduceIte, Nat.reduceEqDiff, Nat.reduceAdd, Nat.reduceMul, Nat.reduceSub, Nat.reduceBEq, Nat.reduceLeDiff, Nat.reduceLT, Nat.reduceMod, Nat.reduceDiv, Int.reduceToNat, Int.reducePow, Int.reduceMul, Int.reduceAdd, Int.reduceSub, Int.reduceLE, Int.reduceLT, Int.reduceNeg, Int.reduceDiv, Int.reduceMod, Int.reduceEq, Int.reduceBEq, Int.reduceBNe, f9, f9b, f9r0, f9r1, f9r2, f9r3, hk, hkn, hz]
      exact .here ⟨0, by rw [hz], by rw [hb]⟩
    · have hz' : ¬ l.length ≤ 0 := by omega
      simp (disch := first | with_reducible assumption | omega) only [go_sem, Bool.true_and, Bool.and_true, Bool.and_self, Bool.false_and, Bool.and_false, Bool.true_or, Bool.or_true, Bool.false_or, Bool.or_false, ↓reduceIte, Nat.reduceEqDiff, Nat.reduceAdd, Nat.reduceMul, Nat.reduceSub, Nat.reduceBEq, Nat.reduceLeDiff, Nat.reduceLT, Nat.reduceMod, Nat.reduceDiv, Int.reduceToNat, Int.reducePow, Int.reduceMul, Int.reduceAdd, Int.reduceSub, Int.reduceLE, Int.reduceLT, Int.reduceNeg, Int.reduceDiv, Int.reduceMod, Int.reduceEq, Int.reduceBEq, Int.reduceBNe, f9, f9b, f9r0, f9r1, f9r2, f9r3, hk, hkn, hz, hz', ht, List.take_zero, List.drop_nil]
      exact .here ⟨1, rfl, rfl⟩
  · have hz : l.length = 0 := by have : c = 0 := by simpa using hn
                                 omega
    have hb : flat' Op.cells l = [] := by rw [List.length_eq_zero_iff.1 hz]; rfl
    simp (disch := first | with_reducible assumption | omega) only [go_sem, Bool.true_and, Bool.and_true, Bool.and_self, Bool.false_and, Bool.and_false, Bool.true_or, Bool.or_true, Bool.false_or, Bool.or_false, ↓reduceIte, Nat.reduceEqDiff, Nat.reduceAdd, Nat.reduceMul, Nat.reduceSub, Nat.reduceBEq, Nat.reduceLeDiff, Nat.reduceLT, Nat.reduceMod, Nat.reduceDiv, Int.reduceToNat, Int.reducePow, Int.reduceMul, Int.reduceAdd, Int.reduceSub, Int.reduceLE, Int.reduceLT, Int.reduceNeg, Int.reduceDiv, Int.reduceMod, Int.reduceEq, Int.reduceBEq, Int.reduceBNe, f9, f9b, f9r0, f9r1, f9r2, f9r3, hk]
    refine .ghost 4 false ⟨0, by rw [hz], by rw [hb]⟩

theorem Op.of {B : Nat} {H : Heap} (cs : List Value) (h : RowOk B H [.int .i64, .int .i64, .int .u64, .int .u64] cs) : ∃ s : Op, cs = s.cells ∧ s.ok := by
  obtain ⟨_, _, rfl, c0, h⟩ := h.cons_inv
  obtain ⟨_, _, rfl, c1, h⟩ := h.cons_inv
  obtain ⟨_, _, rfl, c2, h⟩ := h.cons_inv
  obtain ⟨_, _, rfl, c3, h⟩ := h.cons_inv
  obtain rfl := h.nil_inv
  obtain ⟨x0, rfl, h0⟩ := c0.int_inv
  obtain ⟨x1, rfl, h1⟩ := c1.int_inv
  obtain ⟨x2, rfl, h2⟩ := c2.int_inv
  obtain ⟨x3, rfl, h3⟩ := c3.int_inv
  exact ⟨⟨x0, x1, x2, x3⟩, rfl, h1, h2, h3⟩
theorem ops_of {B : Nat} {H : Heap} {v : Value} (h : ArgOk B H (false, [.slice [.int .i64, .int .i64, .int .u64, .int .u64]]) v) : ∃ k c, ∃ l : List Op, v = slv k 0 0 l.length c ∧ l.length ≤ B ∧ l.length ≤ c ∧ Tbl Op Op.cells 4 o0 H k 0 0 l ∧ ∀ i, i < l.length → (l.getD i o0).ok := by
  obtain ⟨k, c, l, h1, h2, h3, h4, h5⟩ := rows_of (α := Op) (enc := Op.cells) (ok := Op.ok) 4 (fun _ => rfl) o0 rfl (fun cs h => Op.of cs h) h
  exact ⟨k, c, l, h1, h2, h3, h4, h5⟩
theorem int_of {B : Nat} {H : Heap} {v : Value} (h : ArgOk B H (false, [.int .i64]) v) : ∃ n : Int, v = .int .i64 n ∧ -9223372036854775808 ≤ n ∧ n ≤ 9223372036854775807 := by
  obtain ⟨n, rfl, h1⟩ := h.cell.int_inv
  exact ⟨n, rfl, h1.1, h1.2⟩
theorem wide_of {B : Nat} {H : Heap} {v : Value} (h : ArgOk B H (true, [.int .u64, .int .u64]) v) : ∃ a b : Int, v = .agg #[.int .u64 a, .int .u64 b] ∧ (0 ≤ a ∧ a ≤ 18446744073709551615) ∧ 0 ≤ b ∧ b ≤ 18446744073709551615 := by
  obtain ⟨_, rfl, hr⟩ := h.agg
  obtain ⟨_, _, rfl, c0, hr⟩ := hr.cons_inv
  obtain ⟨_, _, rfl, c1, hr⟩ := hr.cons_inv
  obtain rfl := hr.nil_inv
  obtain ⟨x, rfl, hx⟩ := c0.int_inv
  obtain ⟨y, rfl, hy⟩ := c1.int_inv
  exact ⟨x, y, rfl, hx, hy⟩
theorem flO (l : List Op) : (flat' Op.cells l).length = l.length * 4 := flat'_length (enc := Op.cells) (s := 4) (fun _ => rfl) l
theorem flO_tk (l : List Op) : (flat' Op.cells l).take (l.length * 4) = flat' Op.cells l := List.take_of_length_le (by rw [flO]; omega)
theorem flO_sn (l : List Op) (o : Op) : flat' Op.cells l ++ [.int .i64 o.k, .int .i64 o.i, .int .u64 o.h, .int .u64 o.l] = flat' Op.cells (l ++ [o]) := by
  rw [← flat'_app]; rfl
theorem flO_sn2 (l : List Op) (o p : Op) : flat' Op.cells l ++ [.int .i64 o.k, .int .i64 o.i, .int .u64 o.h, .int .u64 o.l, .int .i64 p.k, .int .i64 p.i, .int .u64 p.h, .int .u64 p.l] = flat' Op.cells (l ++ [o, p]) := by
  rw [← flat'_app]; rfl
theorem ok_app {l m : List Op} (h : ∀ i, i < l.length → (l.getD i o0).ok) (hm : ∀ o ∈ m, o.ok) : ∀ i, i < (l ++ m).length → ((l ++ m).getD i o0).ok := by
  intro i hi
  have : (l ++ m).getD i o0 ∈ l ++ m := by rw [List.getD_eq_getElem?_getD, List.getElem?_eq_getElem hi]; exact List.getElem_mem hi
  rcases List.mem_append.1 this with h1 | h1
  · obtain ⟨j, hj, he⟩ := List.getElem_of_mem h1
    have := h j hj
    rw [List.getD_eq_getElem?_getD, List.getElem?_eq_getElem hj] at this
    rw [← he]; exact this
  · exact hm _ h1
theorem runR_len (ops : List Op) : (runR ops).errs.length = ops.length := by
  have := (runR_lens ops ops.length (Nat.le_refl _)).1
  rwa [List.take_length] at this
theorem getD_at (l : List Int) (x : Int) (m : List Int) (n : Nat) (h : l.length = n) : (l ++ x :: m).getD n 0 = x := by
  rw [List.getD_eq_getElem?_getD, List.getElem?_append_right (by omega), h, Nat.sub_self]; rfl
theorem hasI_out (s : List It) (i : Int) : hasI (outI s i) i = false := by
  rw [Bool.eq_false_iff]
  intro h
  obtain ⟨x, h1, h2⟩ := (hasI_iff _ _).1 h
  exact ((outI_mem s i x).1 h1).2 h2
/-- Updated is removed and pushed. -/
theorem upd_run (ops : List Op) (i h l : Int) :
    (hasI (runR ops).s i = true ∧ (runR (ops ++ [⟨4, i, h, l⟩])).errs = (runR ops).errs ++ [0] ∧ (runR (ops ++ [⟨3, i, 0, 0⟩, ⟨1, i, h, l⟩])).errs = (runR ops).errs ++ [0, 0] ∧ (runR (ops ++ [⟨4, i, h, l⟩])).pop = (runR (ops ++ [⟨3, i, 0, 0⟩, ⟨1, i, h, l⟩])).pop ∧ (runR (ops ++ [⟨4, i, h, l⟩])).s = (runR (ops ++ [⟨3, i, 0, 0⟩, ⟨1, i, h, l⟩])).s) ∨
    ((runR (ops ++ [⟨4, i, h, l⟩])).errs = (runR ops).errs ++ [3] ∧ ∃ e, (runR (ops ++ [⟨3, i, 0, 0⟩, ⟨1, i, h, l⟩])).errs = (runR ops).errs ++ [3, e]) := by
  have e1 : ops ++ [(⟨3, i, 0, 0⟩ : Op), ⟨1, i, h, l⟩] = (ops ++ [⟨3, i, 0, 0⟩]) ++ [⟨1, i, h, l⟩] := by simp
  rw [e1, runR_snoc, runR_snoc, runR_snoc]
  generalize runR ops = r
  cases hh : hasI r.s i with
  | true =>
    have d1 : doP r.s ⟨4, i, h, l⟩ = (0, 0, insS ⟨i, h, l⟩ (outI r.s i)) := by
      unfold doP
      rw [if_neg (by show ¬ (4 : Int) = 1; decide), if_neg (by show ¬ (4 : Int) = 2; decide), if_neg (by show ¬ (4 : Int) = 3; decide), if_pos rfl, if_pos hh]
    have d2 : doP r.s ⟨3, i, 0, 0⟩ = (0, 0, outI r.s i) := by
      unfold doP
      rw [if_neg (by show ¬ (3 : Int) = 1; decide), if_neg (by show ¬ (3 : Int) = 2; decide), if_pos rfl, if_pos hh]
    have d3 : doP (outI r.s i) ⟨1, i, h, l⟩ = (0, 0, insS ⟨i, h, l⟩ (outI r.s i)) := by
      unfold doP
      rw [if_pos rfl, if_neg (by rw [hasI_out]; decide)]
    refine .inl ⟨rfl, ?_⟩
    unfold stepR
    rw [d1, d2]
    simp only
    rw [d3]
    refine ⟨?_, ?_, ?_, ?_⟩ <;> simp
  | false =>
    have d1 : doP r.s ⟨4, i, h, l⟩ = (3, 0, r.s) := by
      unfold doP
      rw [if_neg (by show ¬ (4 : Int) = 1; decide), if_neg (by show ¬ (4 : Int) = 2; decide), if_neg (by show ¬ (4 : Int) = 3; decide), if_pos rfl, if_neg (by rw [hh]; decide)]
    have d2 : doP r.s ⟨3, i, 0, 0⟩ = (3, 0, r.s) := by
      unfold doP
      rw [if_neg (by show ¬ (3 : Int) = 1; decide), if_neg (by show ¬ (3 : Int) = 2; decide), if_pos rfl, if_neg (by rw [hh]; decide)]
    refine .inr ?_
    unfold stepR
    rw [d1, d2]
    exact ⟨rfl, (doP r.s ⟨1, i, h, l⟩).1, by simp only [List.append_assoc, List.cons_append, List.nil_append]⟩
theorem IsH.at (J : Heap) (k g : Nat) (l : List Op) (n : Nat) (hn : l.length = n) (h : J[k]? = some (.cells g 4 false (flat' Op.cells l))) : IsH (fun _ => True) J (slv k 0 g n n) l := by
  have := IsT.of (A := fun _ => True) (c := l.length) trivial (Tbl.new (enc := Op.cells) (s := 4) (d := o0) (fun _ => rfl) J k g false l h) (Nat.le_refl _)
  rwa [hn] at this
theorem EqualI_of (l : List Int) (u v : Value) (G J : Heap) (hu : IsN (fun _ => True) G u l) (hv : IsN (fun _ => True) G v l) (hl : l.length ≤ 9223372036854775807) (hJ : Le G J) : ACallK Try.prog 10 [u, v] J (fun v H' => v = .bool true ∧ H' = J) := by
  obtain ⟨k1, o1, g1, c1, _, rfl, t1, _⟩ := hu.le hJ
  obtain ⟨k2, o2, g2, c2, _, rfl, t2, _⟩ := hv.le hJ
  have := EqualI_spec l l k1 o1 g1 c1 k2 o2 g2 c2 J t1 t2 hl hl
  rwa [decide_eq_true rfl] at this
theorem runR_sl (ops : List Op) : ∀ i, i ≤ ops.length → (runR (ops.take i)).s.length ≤ i
  | 0, _ => Nat.le_refl _
  | i + 1, hi => by
    have ih := runR_sl ops i (by omega)
    rw [take_snocO ops i (by omega), runR_snoc]
    show (doP (runR (ops.take i)).s (ops.getD i o0)).2.2.length ≤ i + 1
    generalize (runR (ops.take i)).s = s at *
    have ho : ∀ j, (outI s j).length ≤ s.length := fun j => List.length_filter_le _ _
    unfold doP
    split
    · split
      · show s.length ≤ _; omega
      · show (insS _ s).length ≤ _; rw [len_insS]; omega
    · split
      · cases s with
        | nil => exact Nat.zero_le _
        | cons x t => simp at ih ⊢; omega
      · split
        · split
          · have := ho (ops.getD i o0).i; show (outI s _).length ≤ _; omega
          · show s.length ≤ _; omega
        · split
          · split
            · have := ho (ops.getD i o0).i; show (insS _ (outI s _)).length ≤ _; rw [len_insS]; omega
            · show s.length ≤ _; omega
          · show s.length ≤ _; omega
theorem runR_bd (ops : List Op) : (runR ops).pop.length ≤ ops.length ∧ ((runR ops).s.map (·.i)).length ≤ ops.length := by
  have h1 := (runR_lens ops ops.length (Nat.le_refl _)).2
  have h2 := runR_sl ops ops.length (Nat.le_refl _)
  rw [List.take_length] at h1 h2
  exact ⟨h1, by simpa using h2⟩
theorem HeapsUpdate_args (H : Heap) (vals : List Value) (h : ArgsOk 1048576 H HeapsUpdateSh vals) : ACallK Try.prog 3 vals H fun v _ => v = .bool true := by
  obtain ⟨_, _, rfl, a1, h⟩ := h.cons
  obtain ⟨_, _, rfl, a2, h⟩ := h.cons
  obtain ⟨_, _, rfl, a3, h⟩ := h.cons
  obtain rfl := h.nil
  obtain ⟨k, c, ops, rfl, hB, hlc, hs, hok⟩ := ops_of a1
  obtain ⟨id, rfl, hid⟩ := int_of a2
  obtain ⟨kh, kl, rfl, hkh, hkl⟩ := wide_of a3
  clear a1 a2 a3 h
  have hrun := upd_run ops id kh kl
  have hok1 := ok_app (m := [⟨4, id, kh, kl⟩]) hok fun o ho => by rw [List.mem_singleton] at ho; subst ho; exact ⟨hid, hkh, hkl⟩
  have hok2 := ok_app (m := [⟨3, id, 0, 0⟩, ⟨1, id, kh, kl⟩]) hok fun o ho => by
    rcases List.mem_cons.1 ho with e | ho
    · subst e; exact ⟨hid, (⟨by decide, by decide⟩ : (0 : Int) ≤ 0 ∧ (0 : Int) ≤ 18446744073709551615), (⟨by decide, by decide⟩ : (0 : Int) ≤ 0 ∧ (0 : Int) ≤ 18446744073709551615)⟩
    · rw [List.mem_singleton] at ho; subst ho; exact ⟨hid, hkh, hkl⟩
  have hl0 := runR_len ops
  refine .walkW f3_ok (by simp; decide) (by decide) ?_
  have hfl := flO ops
  have htk := flO_tk ops
  have hsn1 := flO_sn ops ⟨4, id, kh, kl⟩
  have hsn2 := flO_sn2 ops ⟨3, id, 0, 0⟩ ⟨1, id, kh, kl⟩
  simp only at hsn1 hsn2
  have hni : ¬ ops.length + 1 ≤ ops.length := by omega
  have hni2 : ¬ ops.length + 2 ≤ ops.length := by omega
  have hC := fun (J : Heap) (hJ : Tbl Op Op.cells 4 o0 J k 0 0 ops) => CloneO_spec ops k 0 0 c J hJ (by omega) hlc
  repeat' first | simp (disch := first | with_reducible assumption | omega) only [go_sem, Bool.true_and, Bool.and_true, Bool.and_self, Bool.false_and, Bool.and_false, Bool.true_or, Bool.or_true, Bool.false_or, Bool.or_false, ↓reduceIte, Nat.reduceEqDiff, Nat.reduceAdd, Nat.reduceMul, Nat.reduceSub, Nat.reduceBEq, Nat.reduceLeDiff, Nat.reduceLT, Nat.reduceMod, Nat.reduceDiv, Int.reduceToNat, Int.reducePow, Int.reduceMul, Int.reduceAdd, Int.reduceSub, Int.reduceLE, Int.reduceLT, Int.reduceNeg, Int.reduceDiv, Int.reduceMod, Int.reduceEq, Int.reduceBEq, Int.reduceBNe, f3, f3b, f3r0, f3r1, f3r2, f3r3, f3r4, f3r5, f3r6, f3r7, f3r8, f3r9, f3r10, f3r11, f3r12, hfl, htk, hsn1, hni] | (refine BrW.of (fun hb => ?_) (fun hb => ?_) <;> (have hb' := hb; try simp only [decide_eq_true_eq, decide_eq_false_iff_not, beq_iff_eq, bne_iff_ne, beq_eq_false_iff_ne, bne_eq_false_iff_eq, Bool.not_eq_true', Bool.not_eq_false', Bool.not_eq_true, Bool.not_eq_false, Bool.and_eq_true, Bool.or_eq_true, Bool.and_eq_false_iff, Bool.or_eq_false_iff, Int.not_lt, Int.not_le, ne_eq, gt_iff_lt, ge_iff_le] at hb') <;> (try (exfalso; omega))) | (refine altW.of ?_ ?_) | (refine .of ((alive _).mono ?_); rintro v H ⟨rfl, rfl⟩) | (refine .of ((hC _ (hs.app _)).mono ?_); rintro v _ ⟨g1, rfl, rfl⟩)
  all_goals
    refine .of ((Play_spec (ops ++ [⟨4, id, kh, kl⟩]) _ (fun _ => True) _ (IsH.at _ _ (g1 + 1) _ _ (by simp) (by rw [get_new]; rfl)) hok1 (by simp; omega)).mono ?_)
    rintro v G ⟨a, b, d, rfl, hLe, p1, p2, p3⟩
    have hLH : Le H G := (Le.app _ _).trans hLe
    have hbx : G[H.length]? = some (AObj.cells 0 0 false [Value.int IntKind.u64 kh, Value.int IntKind.u64 kl]) := hLe.get (get_new0 _ _ _)
    have hsG := hs.le hLH
    obtain ⟨ro, cs, hk, _, _⟩ := hs.at'
    have hkG := hLH.get hk
    clear hLe
    generalize hhl : H.length = hl at *
    repeat' first | simp (disch := first | with_reducible assumption | omega) only [go_sem, Bool.true_and, Bool.and_true, Bool.and_self, Bool.false_and, Bool.and_false, Bool.true_or, Bool.or_true, Bool.false_or, Bool.or_false, ↓reduceIte, Nat.reduceEqDiff, Nat.reduceAdd, Nat.reduceMul, Nat.reduceSub, Nat.reduceBEq, Nat.reduceLeDiff, Nat.reduceLT, Nat.reduceMod, Nat.reduceDiv, Int.reduceToNat, Int.reducePow, Int.reduceMul, Int.reduceAdd, Int.reduceSub, Int.reduceLE, Int.reduceLT, Int.reduceNeg, Int.reduceDiv, Int.reduceMod, Int.reduceEq, Int.reduceBEq, Int.reduceBNe, f3, f3b, f3r0, f3r1, f3r2, f3r3, f3r4, f3r5, f3r6, f3r7, f3r8, f3r9, f3r10, f3r11, f3r12, hfl, htk, hsn2, hni2, hbx, get_old hbx] | (refine BrW.of (fun hb => ?_) (fun hb => ?_) <;> (have hb' := hb; try simp only [decide_eq_true_eq, decide_eq_false_iff_not, beq_iff_eq, bne_iff_ne, beq_eq_false_iff_ne, bne_eq_false_iff_eq, Bool.not_eq_true', Bool.not_eq_false', Bool.not_eq_true, Bool.not_eq_false, Bool.and_eq_true, Bool.or_eq_true, Bool.and_eq_false_iff, Bool.or_eq_false_iff, Int.not_lt, Int.not_le, ne_eq, gt_iff_lt, ge_iff_le] at hb') <;> (try (exfalso; omega))) | (refine altW.of ?_ ?_) | (refine .of ((hC _ hsG).mono ?_); rintro v _ ⟨g2, rfl, rfl⟩) | (refine .of ((hC _ (hsG.app _)).mono ?_); rintro v _ ⟨g2, rfl, rfl⟩)
    all_goals
      refine .of ((Play_spec (ops ++ [⟨3, id, 0, 0⟩, ⟨1, id, kh, kl⟩]) _ (fun _ => True) _ (IsH.at _ _ (g2 + 1) _ _ (by simp) (by first | (rw [get_new0]) | (rw [get_new]; rfl))) hok2 (by simp; omega)).mono ?_)
      rintro v G2 ⟨a2, b2, d2, rfl, hLe2, q1, q2, q3⟩
      have hLG : Le G G2 := (Le.app _ _).trans hLe2
      have hkG2 := hLG.get hkG
      have p1 := p1.le hLG
      have p2 := p2.le hLG
      have p3 := p3.le hLG
      clear hLe2 hbx
      rcases hrun with ⟨hhas, r1, r2, r3, r4⟩ | ⟨r1, ex, r2⟩
      · rw [r1] at p1
        rw [r2] at q1
        rw [r3] at p2
        rw [r4] at p3
        obtain ⟨k1, o1, ga, c1, _, rfl, t1, _⟩ := p1
        obtain ⟨k2, o2, gb, c2, _, rfl, t2, _⟩ := q1
        obtain ⟨ra, ca, ha, _, ha3⟩ := Ints.cell t1
        obtain ⟨rb, cb, hb9, _, hb3⟩ := Ints.cell t2
        have x1 := ha3 ops.length (by simp [hl0])
        have y1 := hb3 ops.length (by simp [hl0])
        have y2 := hb3 (ops.length + 1) (by simp [hl0])
        rw [getD_at _ _ _ _ hl0] at x1 y1
        rw [show (runR ops).errs ++ [0, 0] = ((runR ops).errs ++ [0]) ++ [0] by simp, getD_at _ _ _ _ (by simp [hl0])] at y2
        have z1 : ((runR ops).errs ++ [0]).length = ops.length + 1 := by simp [hl0]
        have z2 : ((runR ops).errs ++ [0, 0]).length = ops.length + 2 := by simp [hl0]
        rw [z1, z2]
        have hQ := fun J hJ => EqualI_of (runR (ops ++ [⟨3, id, 0, 0⟩, ⟨1, id, kh, kl⟩])).pop b b2 G2 J p2 q2 (by have := (runR_bd (ops ++ [⟨3, id, 0, 0⟩, ⟨1, id, kh, kl⟩])).1; simp at this; omega) hJ
        have hS := fun J hJ => EqualI_of ((runR (ops ++ [⟨3, id, 0, 0⟩, ⟨1, id, kh, kl⟩])).s.map (·.i)) d d2 G2 J p3 q3 (by have := (runR_bd (ops ++ [⟨3, id, 0, 0⟩, ⟨1, id, kh, kl⟩])).2; simp at this; simp; omega) hJ
        clear r1 r2 r3 r4
        have hnn : ((ops.length : Int) + 1).toNat = ops.length + 1 := by omega
        repeat' first | simp (disch := first | with_reducible assumption | omega) only [go_sem, Bool.true_and, Bool.and_true, Bool.and_self, Bool.false_and, Bool.and_false, Bool.true_or, Bool.or_true, Bool.false_or, Bool.or_false, ↓reduceIte, Nat.reduceEqDiff, Nat.reduceAdd, Nat.reduceMul, Nat.reduceSub, Nat.reduceBEq, Nat.reduceLeDiff, Nat.reduceLT, Nat.reduceMod, Nat.reduceDiv, Int.reduceToNat, Int.reducePow, Int.reduceMul, Int.reduceAdd, Int.reduceSub, Int.reduceLE, Int.reduceLT, Int.reduceNeg, Int.reduceDiv, Int.reduceMod, Int.reduceEq, Int.reduceBEq, Int.reduceBNe, f3, f3b, f3r0, f3r1, f3r2, f3r3, f3r4, f3r5, f3r6, f3r7, f3r8, f3r9, f3r10, f3r11, f3r12, hkG2, ha, hb9, x1, y1, y2, hnn] | (refine BrW.of (fun hb => ?_) (fun hb => ?_) <;> (have hb' := hb; try simp only [decide_eq_true_eq, decide_eq_false_iff_not, beq_iff_eq, bne_iff_ne, beq_eq_false_iff_ne, bne_eq_false_iff_eq, Bool.not_eq_true', Bool.not_eq_false', Bool.not_eq_true, Bool.not_eq_false, Bool.and_eq_true, Bool.or_eq_true, Bool.and_eq_false_iff, Bool.or_eq_false_iff, Int.not_lt, Int.not_le, ne_eq, gt_iff_lt, ge_iff_le] at hb') <;> (try (exfalso; omega))) | (refine altW.of ?_ ?_) | (refine .of ((hQ _ (Le.refl _)).mono ?_); rintro v _ ⟨rfl, rfl⟩) | (refine .of ((hS _ (Le.refl _)).mono ?_); rintro v _ ⟨rfl, rfl⟩)
        all_goals first | exact .here rfl | (exfalso; omega)
      · rw [r1] at p1
        rw [r2] at q1
        obtain ⟨k1, o1, ga, c1, _, rfl, t1, _⟩ := p1
        obtain ⟨k2, o2, gb, c2, _, rfl, t2, _⟩ := q1
        obtain ⟨ra, ca, ha, _, ha3⟩ := Ints.cell t1
        obtain ⟨rb, cb, hb9, _, hb3⟩ := Ints.cell t2
        have x1 := ha3 ops.length (by simp [hl0])
        have y1 := hb3 ops.length (by simp [hl0])
        rw [getD_at _ _ _ _ hl0] at x1 y1
        have z1 : ((runR ops).errs ++ [3]).length = ops.length + 1 := by simp [hl0]
        have z2 : ((runR ops).errs ++ [3, ex]).length = ops.length + 2 := by simp [hl0]
        rw [z1, z2]
        clear r1 r2
        repeat' first | simp (disch := first | with_reducible assumption | omega) only [go_sem, Bool.true_and, Bool.and_true, Bool.and_self, Bool.false_and, Bool.and_false, Bool.true_or, Bool.or_true, Bool.false_or, Bool.or_false, ↓reduceIte, Nat.reduceEqDiff, Nat.reduceAdd, Nat.reduceMul, Nat.reduceSub, Nat.reduceBEq, Nat.reduceLeDiff, Nat.reduceLT, Nat.reduceMod, Nat.reduceDiv, Int.reduceToNat, Int.reducePow, Int.reduceMul, Int.reduceAdd, Int.reduceSub, Int.reduceLE, Int.reduceLT, Int.reduceNeg, Int.reduceDiv, Int.reduceMod, Int.reduceEq, Int.reduceBEq, Int.reduceBNe, f3, f3b, f3r0, f3r1, f3r2, f3r3, f3r4, f3r5, f3r6, f3r7, f3r8, f3r9, f3r10, f3r11, f3r12, hkG2, ha, hb9, x1, y1] | (refine BrW.of (fun hb => ?_) (fun hb => ?_) <;> (have hb' := hb; try simp only [decide_eq_true_eq, decide_eq_false_iff_not, beq_iff_eq, bne_iff_ne, beq_eq_false_iff_ne, bne_eq_false_iff_eq, Bool.not_eq_true', Bool.not_eq_false', Bool.not_eq_true, Bool.not_eq_false, Bool.and_eq_true, Bool.or_eq_true, Bool.and_eq_false_iff, Bool.or_eq_false_iff, Int.not_lt, Int.not_le, ne_eq, gt_iff_lt, ge_iff_le] at hb') <;> (try (exfalso; omega))) | (refine altW.of ?_ ?_)
        all_goals first | exact .here rfl | (exfalso; omega)
end Go.Proofs.Ytjdmpkaiijcchaa
