import Derived.Test.YtiflaenenlcidaaLaws3
set_option linter.unusedSimpArgs false
set_option linter.unusedVariables false
set_option maxHeartbeats 1000000
set_option maxRecDepth 20000
namespace Go.Proofs.Ytiflaenenlcidaa
open Go Go.Am
attribute [local irreducible] opsW Ww loopW callW drawW outW outDW gW cW BrW bothW vW resW DropW RdW dcallW Later.run

/-- A list of which the first t and the last t have changed places. -/
def revT (l : List Px) (t : Nat) : List Px := (List.range l.length).map fun p => if p < t ∨ l.length - 1 - p < t then l.getD (l.length - 1 - p) p0 else l.getD p p0
theorem revT_length (l : List Px) (t : Nat) : (revT l t).length = l.length := by simp [revT]
theorem revT_get (l : List Px) (t p : Nat) (h : p < l.length) : (revT l t).getD p p0 = if p < t ∨ l.length - 1 - p < t then l.getD (l.length - 1 - p) p0 else l.getD p p0 := by
  simp [revT, List.getD_eq_getElem?_getD, h]
theorem ext_getD {l m : List Px} (h : l.length = m.length) (h2 : ∀ p, p < l.length → l.getD p p0 = m.getD p p0) : l = m := by
  refine List.ext_getElem h fun p h1 h3 => ?_
  have := h2 p h1
  simpa [List.getD_eq_getElem?_getD, h1, h3] using this
theorem revT_zero (l : List Px) : revT l 0 = l := ext_getD (revT_length l 0) fun p hp => by
  rw [revT_length] at hp
  rw [revT_get l 0 p hp, if_neg (by omega)]
theorem revT_done (l : List Px) (t : Nat) (h : l.length ≤ 2 * t + 1) : revT l t = l.reverse := ext_getD (by rw [revT_length, List.length_reverse]) fun p hp => by
  rw [revT_length] at hp
  rw [revT_get l t p hp]
  have e : l.reverse.getD p p0 = l.getD (l.length - 1 - p) p0 := by
    simp only [List.getD_eq_getElem?_getD]
    rw [List.getElem?_reverse hp]
  rw [e]
  split
  · rfl
  · congr 1; omega
theorem revT_succ (l : List Px) (t : Nat) (h : 2 * t + 1 < l.length) : ((revT l t).set t (l.getD (l.length - 1 - t) p0)).set (l.length - 1 - t) (l.getD t p0) = revT l (t + 1) := by
  refine ext_getD (by simp [revT_length]) fun p hp => ?_
  simp only [List.length_set, revT_length] at hp
  rw [revT_get l (t + 1) p hp]
  have hs : ∀ (m : List Px) (i : Nat) (x : Px), p < m.length → (m.set i x).getD p p0 = if i = p then x else m.getD p p0 := fun m i x hm => by
    simp only [List.getD_eq_getElem?_getD, List.getElem?_set]
    by_cases e : i = p
    · subst e; simp [hm]
    · simp [e]
  rw [hs _ _ _ (by simp [revT_length]; exact hp), hs _ _ _ (by rw [revT_length]; exact hp), revT_get l t p hp]
  by_cases e1 : l.length - 1 - t = p
  · rw [if_pos e1, if_pos (by omega), show l.length - 1 - p = t by omega]
  · rw [if_neg e1]
    by_cases e2 : t = p
    · rw [if_pos e2, if_pos (by omega), e2]
    · rw [if_neg e2]
      by_cases e3 : p < t ∨ l.length - 1 - p < t
      · rw [if_pos e3, if_pos (by omega)]
      · rw [if_neg e3, if_neg (by omega)]

theorem Reverse_spec (l : List Px) (k g c : Nat) (H : Heap) (hk : H[k]? = some (.cells g 6 false (flat' Px.cells l))) (hl : l.length ≤ 1048576) :
    ACallK Try.prog 13 [slv k 0 g l.length c] H (fun v H' => H' = H.set k (.cells g 6 false (flat' Px.cells l.reverse))) := by
  have hkl := (List.getElem?_eq_some_iff.1 hk).1
  have hH : H.set k (.cells g 6 false (flat' Px.cells l)) = H := by
    have e := (List.getElem?_eq_some_iff.1 hk).2
    rw [← e, List.set_getElem_self]
  refine .walkW f13_ok (by simp; decide) (by decide) ?_
  repeat' first | simp (disch := first | with_reducible assumption | omega) only [go_sem, Bool.true_and, Bool.and_true, Bool.and_self, Bool.false_and, Bool.and_false, Bool.true_or, Bool.or_true, Bool.false_or, Bool.or_false, ↓reduceIte, Nat.reduceEqDiff, Nat.reduceAdd, Nat.reduceMul, Nat.reduceSub, Nat.reduceBEq, Nat.reduceLeDiff, Nat.reduceLT, Nat.reduceMod, Nat.reduceDiv, Int.reduceToNat, Int.reducePow, Int.reduceMul, Int.reduceAdd, Int.reduceSub, Int.reduceLE, Int.reduceLT, Int.reduceNeg, Int.reduceDiv, Int.reduceMod, Int.reduceEq, Int.reduceBEq, Int.reduceBNe, f13, f13b, f13r0, f13r1, f13r2, f13r3, hk] | (refine BrW.of (fun hb => ?_) (fun hb => ?_) <;> (have hb' := hb; try simp only [decide_eq_true_eq, decide_eq_false_iff_not, beq_iff_eq, bne_iff_ne, beq_eq_false_iff_ne, bne_eq_false_iff_eq, Bool.not_eq_true', Bool.not_eq_false', Bool.not_eq_true, Bool.not_eq_false, Bool.and_eq_true, Bool.or_eq_true, Bool.and_eq_false_iff, Bool.or_eq_false_iff, Int.not_lt, Int.not_le, ne_eq, gt_iff_lt, ge_iff_le] at hb') <;> (try (exfalso; omega)))
  refine loopW.of (by decide) (fun m e J => ∃ t : Nat, e = [(0, slv k 0 g l.length c), (2, .int .i64 t), (3, .int .i64 ((l.length : Int) - 1 - t))] ∧ J = H.set k (.cells g 6 false (flat' Px.cells (revT l t))) ∧ m = l.length - t ∧ 2 * t ≤ l.length + 1) l.length ⟨0, by simp, by rw [revT_zero, hH], rfl, by omega⟩ ?_
  rintro m e J ⟨t, rfl, rfl, rfl, ht⟩
  have hget : (H.set k (.cells g 6 false (flat' Px.cells (revT l t))))[k]? = some (.cells g 6 false (flat' Px.cells (revT l t))) := List.getElem?_set_self hkl
  by_cases hlt : 2 * t + 1 < l.length
  · have hz : ((l.length : Int) - 1 - t).toNat = l.length - 1 - t := by omega
    have f1 := flat'_ld (enc := Px.cells) (s := 6) (fun _ => rfl) p0 (revT l t) t (by rw [revT_length]; omega)
    have f2 := flat'_ld (enc := Px.cells) (s := 6) (fun _ => rfl) p0 (revT l t) (l.length - 1 - t) (by rw [revT_length]; omega)
    rw [revT_get l t t (by omega), if_neg (by omega)] at f1
    rw [revT_get l t (l.length - 1 - t) (by omega), if_neg (by omega)] at f2
    have w1 := flat'_wr (enc := Px.cells) (s := 6) (fun _ => rfl) (l.getD (l.length - 1 - t) p0) (revT l t) t (by rw [revT_length]; omega)
    have w2 := flat'_wr (enc := Px.cells) (s := 6) (fun _ => rfl) (l.getD t p0) ((revT l t).set t (l.getD (l.length - 1 - t) p0)) (l.length - 1 - t) (by rw [List.length_set, revT_length]; omega)
    rw [revT_succ l t hlt] at w2
    have l1 := flat'_length (enc := Px.cells) (s := 6) (fun _ => rfl) (revT l t)
    have l2 := flat'_length (enc := Px.cells) (s := 6) (fun _ => rfl) ((revT l t).set t (l.getD (l.length - 1 - t) p0))
    rw [revT_length] at l1
    rw [List.length_set, revT_length] at l2
    have hset := fun X => get_set_hit (x := X) hget
    have hhit : ∀ X Y : AObj, ((H.set k X).set k Y) = H.set k Y := fun X Y => by simp
    have hgk : ∀ X : AObj, (H.set k X)[k]? = some X := fun X => List.getElem?_set_self hkl
    repeat' first | simp (disch := first | with_reducible assumption | omega) only [go_sem, Bool.true_and, Bool.and_true, Bool.and_self, Bool.false_and, Bool.and_false, Bool.true_or, Bool.or_true, Bool.false_or, Bool.or_false, ↓reduceIte, Nat.reduceEqDiff, Nat.reduceAdd, Nat.reduceMul, Nat.reduceSub, Nat.reduceBEq, Nat.reduceLeDiff, Nat.reduceLT, Nat.reduceMod, Nat.reduceDiv, Int.reduceToNat, Int.reducePow, Int.reduceMul, Int.reduceAdd, Int.reduceSub, Int.reduceLE, Int.reduceLT, Int.reduceNeg, Int.reduceDiv, Int.reduceMod, Int.reduceEq, Int.reduceBEq, Int.reduceBNe, f13, f13b, f13r0, f13r1, f13r2, f13r3, f13l0, hgk, hhit, ↓f1, ↓f2, ↓w1, ↓w2, l1, l2, hz, Px.cells_length] | (refine BrW.of (fun hb => ?_) (fun hb => ?_) <;> (have hb' := hb; try simp only [decide_eq_true_eq, decide_eq_false_iff_not, beq_iff_eq, bne_iff_ne, beq_eq_false_iff_ne, bne_eq_false_iff_eq, Bool.not_eq_true', Bool.not_eq_false', Bool.not_eq_true, Bool.not_eq_false, Bool.and_eq_true, Bool.or_eq_true, Bool.and_eq_false_iff, Bool.or_eq_false_iff, Int.not_lt, Int.not_le, ne_eq, gt_iff_lt, ge_iff_le] at hb') <;> (try (exfalso; omega)))
    refine RdW.keep [0, 2, 3] (l.length - (t + 1)) (by omega) ?_
    simp (disch := first | with_reducible assumption | omega) only [go_sem, Bool.true_and, Bool.and_true, Bool.and_self, Bool.false_and, Bool.and_false, Bool.true_or, Bool.or_true, Bool.false_or, Bool.or_false, ↓reduceIte, Nat.reduceEqDiff, Nat.reduceAdd, Nat.reduceMul, Nat.reduceSub, Nat.reduceBEq, Nat.reduceLeDiff, Nat.reduceLT, Nat.reduceMod, Nat.reduceDiv, Int.reduceToNat, Int.reducePow, Int.reduceMul, Int.reduceAdd, Int.reduceSub, Int.reduceLE, Int.reduceLT, Int.reduceNeg, Int.reduceDiv, Int.reduceMod, Int.reduceEq, Int.reduceBEq, Int.reduceBNe]
    exact ⟨t + 1, by rw [show (l.length : Int) - 1 - t - 1 = (l.length : Int) - 1 - ((t + 1 : Nat) : Int) by omega]; rfl, rfl, by omega⟩
  · repeat' first | simp (disch := first | with_reducible assumption | omega) only [go_sem, Bool.true_and, Bool.and_true, Bool.and_self, Bool.false_and, Bool.and_false, Bool.true_or, Bool.or_true, Bool.false_or, Bool.or_false, ↓reduceIte, Nat.reduceEqDiff, Nat.reduceAdd, Nat.reduceMul, Nat.reduceSub, Nat.reduceBEq, Nat.reduceLeDiff, Nat.reduceLT, Nat.reduceMod, Nat.reduceDiv, Int.reduceToNat, Int.reducePow, Int.reduceMul, Int.reduceAdd, Int.reduceSub, Int.reduceLE, Int.reduceLT, Int.reduceNeg, Int.reduceDiv, Int.reduceMod, Int.reduceEq, Int.reduceBEq, Int.reduceBNe, f13, f13b, f13r0, f13r1, f13r2, f13r3, f13l0, f13, f13b, f13r0, f13r1, f13r2, f13r3] | (refine BrW.of (fun hb => ?_) (fun hb => ?_) <;> (have hb' := hb; try simp only [decide_eq_true_eq, decide_eq_false_iff_not, beq_iff_eq, bne_iff_ne, beq_eq_false_iff_ne, bne_eq_false_iff_eq, Bool.not_eq_true', Bool.not_eq_false', Bool.not_eq_true, Bool.not_eq_false, Bool.and_eq_true, Bool.or_eq_true, Bool.and_eq_false_iff, Bool.or_eq_false_iff, Int.not_lt, Int.not_le, ne_eq, gt_iff_lt, ge_iff_le] at hb') <;> (try (exfalso; omega)))
    exact .here (by rw [revT_done l t (by omega)])

theorem Fine.rev {l : List Px} (h : Fine l) : Fine l.reverse := ⟨by rw [List.length_reverse]; exact h.len, fun p hp => h.long p (List.mem_reverse.1 hp), fun p hp => h.raw p (List.mem_reverse.1 hp), by
  rw [List.pairwise_reverse]; exact h.held.imp fun hn he => hn ⟨he.1.symm, he.2.symm⟩⟩
theorem Fine.rev_iff {l : List Px} : Fine l.reverse ↔ Fine l := ⟨fun h => by have := h.rev; rwa [List.reverse_reverse] at this, Fine.rev⟩
theorem set_last {H : Heap} {A B : AObj} : (H ++ [A]).set H.length B = H ++ [B] := by
  rw [List.set_append_right _ _ (Nat.le_refl _)]; simp

theorem TrieOrder_args (H : Heap) (vals : List Value) (h : ArgsOk 1048576 H TrieOrderSh vals) : ACallK Try.prog 5 vals H fun v _ => v = .bool true := by
  obtain ⟨_, _, rfl, a1, h⟩ := h.cons
  obtain ⟨_, _, rfl, a2, h⟩ := h.cons
  obtain rfl := h.nil
  obtain ⟨k, c, l, rfl, hB, hlc, hs, hok⟩ := rows_of (enc := Px.cells) (ok := fun x => x.ad.ok) 6 (fun _ => rfl) p0 rfl (fun cs h => Px.of h) a1
  obtain ⟨ka, ca, ls, rfl, hA, hlca, ha, hao⟩ := rows_of (enc := A.cells) (ok := A.ok) 4 (fun _ => rfl) a0 rfl (fun cs h => A.of h) a2
  clear a1 a2 h
  have hok' : ∀ x ∈ l, x.ad.ok := fun x hx => by obtain ⟨j, hj, rfl⟩ := mem_getD (d := p0) hx; exact hok j hj
  have hao' : ∀ x ∈ ls, x.ok := fun x hx => by obtain ⟨j, hj, rfl⟩ := mem_getD (d := a0) hx; exact hao j hj
  have hmok : ∀ x ∈ l.reverse, x.ad.ok := fun x hx => hok' x (List.mem_reverse.1 hx)
  refine .walkW f5_ok (by simp; decide) (by decide) ?_
  repeat' first | simp (disch := first | with_reducible assumption | omega) only [go_sem, Bool.true_and, Bool.and_true, Bool.and_self, Bool.false_and, Bool.and_false, Bool.true_or, Bool.or_true, Bool.false_or, Bool.or_false, ↓reduceIte, Nat.reduceEqDiff, Nat.reduceAdd, Nat.reduceMul, Nat.reduceSub, Nat.reduceBEq, Nat.reduceLeDiff, Nat.reduceLT, Nat.reduceMod, Nat.reduceDiv, Int.reduceToNat, Int.reducePow, Int.reduceMul, Int.reduceAdd, Int.reduceSub, Int.reduceLE, Int.reduceLT, Int.reduceNeg, Int.reduceDiv, Int.reduceMod, Int.reduceEq, Int.reduceBEq, Int.reduceBNe, f5, f5b, f5r0, f5r1, f5r2, f5r3, f5r4, f5r5, f5r6, f5r7] | (refine BrW.of (fun hb => ?_) (fun hb => ?_) <;> (have hb' := hb; try simp only [decide_eq_true_eq, decide_eq_false_iff_not, beq_iff_eq, bne_iff_ne, beq_eq_false_iff_ne, bne_eq_false_iff_eq, Bool.not_eq_true', Bool.not_eq_false', Bool.not_eq_true, Bool.not_eq_false, Bool.and_eq_true, Bool.or_eq_true, Bool.and_eq_false_iff, Bool.or_eq_false_iff, Int.not_lt, Int.not_le, ne_eq, gt_iff_lt, ge_iff_le] at hb') <;> (try (exfalso; omega))) | (refine .of ((alive _).mono ?_); rintro v H ⟨rfl, rfl⟩)
  refine .of ((CloneP_spec l k 0 0 c _ hs (by omega) hlc).mono ?_)
  rintro v _ ⟨g1, rfl, rfl⟩
  repeat' first | simp (disch := first | with_reducible assumption | omega) only [go_sem, Bool.true_and, Bool.and_true, Bool.and_self, Bool.false_and, Bool.and_false, Bool.true_or, Bool.or_true, Bool.false_or, Bool.or_false, ↓reduceIte, Nat.reduceEqDiff, Nat.reduceAdd, Nat.reduceMul, Nat.reduceSub, Nat.reduceBEq, Nat.reduceLeDiff, Nat.reduceLT, Nat.reduceMod, Nat.reduceDiv, Int.reduceToNat, Int.reducePow, Int.reduceMul, Int.reduceAdd, Int.reduceSub, Int.reduceLE, Int.reduceLT, Int.reduceNeg, Int.reduceDiv, Int.reduceMod, Int.reduceEq, Int.reduceBEq, Int.reduceBNe, f5, f5b, f5r0, f5r1, f5r2, f5r3, f5r4, f5r5, f5r6, f5r7] | (refine BrW.of (fun hb => ?_) (fun hb => ?_) <;> (have hb' := hb; try simp only [decide_eq_true_eq, decide_eq_false_iff_not, beq_iff_eq, bne_iff_ne, beq_eq_false_iff_ne, bne_eq_false_iff_eq, Bool.not_eq_true', Bool.not_eq_false', Bool.not_eq_true, Bool.not_eq_false, Bool.and_eq_true, Bool.or_eq_true, Bool.and_eq_false_iff, Bool.or_eq_false_iff, Int.not_lt, Int.not_le, ne_eq, gt_iff_lt, ge_iff_le] at hb') <;> (try (exfalso; omega)))
  refine .of ((Reverse_spec l H.length g1 l.length _ (get_new0 _ _ _) hB).mono ?_)
  rintro v _ rfl
  rw [set_last]
  have hm : Ps (H ++ [.cells g1 6 false (flat' Px.cells l.reverse)]) H.length 0 g1 l.reverse := Tbl.new (enc := Px.cells) (s := 6) (d := p0) (fun _ => rfl) _ _ _ false _ (get_new0 _ _ _)
  have sF2 := fun H' hs' ha' => Find_u l.reverse ls H.length 0 g1 l.length ka 0 0 ca H' hs' (by simp) (by simp; omega) hmok ha' hA hao'
  rw [List.length_reverse] at sF2
  repeat' first | simp (disch := first | with_reducible assumption | omega) only [go_sem, Bool.true_and, Bool.and_true, Bool.and_self, Bool.false_and, Bool.and_false, Bool.true_or, Bool.or_true, Bool.false_or, Bool.or_false, ↓reduceIte, Nat.reduceEqDiff, Nat.reduceAdd, Nat.reduceMul, Nat.reduceSub, Nat.reduceBEq, Nat.reduceLeDiff, Nat.reduceLT, Nat.reduceMod, Nat.reduceDiv, Int.reduceToNat, Int.reducePow, Int.reduceMul, Int.reduceAdd, Int.reduceSub, Int.reduceLE, Int.reduceLT, Int.reduceNeg, Int.reduceDiv, Int.reduceMod, Int.reduceEq, Int.reduceBEq, Int.reduceBNe, f5, f5b, f5r0, f5r1, f5r2, f5r3, f5r4, f5r5, f5r6, f5r7] | (refine BrW.of (fun hb => ?_) (fun hb => ?_) <;> (have hb' := hb; try simp only [decide_eq_true_eq, decide_eq_false_iff_not, beq_iff_eq, bne_iff_ne, beq_eq_false_iff_ne, bne_eq_false_iff_eq, Bool.not_eq_true', Bool.not_eq_false', Bool.not_eq_true, Bool.not_eq_false, Bool.and_eq_true, Bool.or_eq_true, Bool.and_eq_false_iff, Bool.or_eq_false_iff, Int.not_lt, Int.not_le, ne_eq, gt_iff_lt, ge_iff_le] at hb') <;> (try (exfalso; omega)))
  refine .of ((Find_u l ls k 0 0 c ka 0 0 ca _ (hs.app _) hlc (by omega) hok' (ha.app _) hA hao').mono ?_)
  rintro v H1 ⟨x1, x2, e, rfl, hle, he1, he2, he3⟩
  repeat' first | simp (disch := first | with_reducible assumption | omega) only [go_sem, Bool.true_and, Bool.and_true, Bool.and_self, Bool.false_and, Bool.and_false, Bool.true_or, Bool.or_true, Bool.false_or, Bool.or_false, ↓reduceIte, Nat.reduceEqDiff, Nat.reduceAdd, Nat.reduceMul, Nat.reduceSub, Nat.reduceBEq, Nat.reduceLeDiff, Nat.reduceLT, Nat.reduceMod, Nat.reduceDiv, Int.reduceToNat, Int.reducePow, Int.reduceMul, Int.reduceAdd, Int.reduceSub, Int.reduceLE, Int.reduceLT, Int.reduceNeg, Int.reduceDiv, Int.reduceMod, Int.reduceEq, Int.reduceBEq, Int.reduceBNe, f5, f5b, f5r0, f5r1, f5r2, f5r3, f5r4, f5r5, f5r6, f5r7] | (refine BrW.of (fun hb => ?_) (fun hb => ?_) <;> (have hb' := hb; try simp only [decide_eq_true_eq, decide_eq_false_iff_not, beq_iff_eq, bne_iff_ne, beq_eq_false_iff_ne, bne_eq_false_iff_eq, Bool.not_eq_true', Bool.not_eq_false', Bool.not_eq_true, Bool.not_eq_false, Bool.and_eq_true, Bool.or_eq_true, Bool.and_eq_false_iff, Bool.or_eq_false_iff, Int.not_lt, Int.not_le, ne_eq, gt_iff_lt, ge_iff_le] at hb') <;> (try (exfalso; omega)))
  refine .of ((sF2 _ (Tbl.le hm hle) (Tbl.le (ha.app _) hle)).mono ?_)
  rintro v H2 ⟨y1, y2, f, rfl, hle2, hf1, hf2, hf3⟩
  clear sF2
  have hef : e = 0 ↔ f = 0 := by rw [he1, hf1, Fine.rev_iff]
  by_cases z1 : e = 0
  · have z2 := hef.1 z1
    have hfl := he1.1 z1
    obtain ⟨q1, p1, q2, p2, rfl, rfl, hI, hO⟩ := he3 z1
    obtain ⟨q3, p3, q4, p4, rfl, rfl, hI2, hO2⟩ := hf3 z2
    have hlaw := fun a => found_congr hfl.rev hfl hmok (fun x => List.mem_reverse) a
    have hv : vals' l.reverse ls = vals' l ls := by simp [vals', hlaw]
    have ho : oks' l.reverse ls = oks' l ls := by simp [oks', hlaw]
    have lv : (vals' l ls).length = ls.length := by simp [vals']
    have lo : (oks' l ls).length = ls.length := by simp [oks']
    have s1 := EqualI_spec (vals' l ls) (vals' l.reverse ls) q1 0 p1 ls.length q3 0 p3 ls.length H2 (hI.le hle2) hI2 (by omega) (by rw [hv]; omega)
    have s2 := EqualB_spec (oks' l ls) (oks' l.reverse ls) q2 0 p2 ls.length q4 0 p4 ls.length H2 (hO.le hle2) hO2 (by omega) (by rw [ho]; omega)
    rw [hv, lv] at s1
    rw [ho, lo] at s2
    subst z1 z2
    repeat' first | simp (disch := first | with_reducible assumption | omega) only [go_sem, Bool.true_and, Bool.and_true, Bool.and_self, Bool.false_and, Bool.and_false, Bool.true_or, Bool.or_true, Bool.false_or, Bool.or_false, ↓reduceIte, Nat.reduceEqDiff, Nat.reduceAdd, Nat.reduceMul, Nat.reduceSub, Nat.reduceBEq, Nat.reduceLeDiff, Nat.reduceLT, Nat.reduceMod, Nat.reduceDiv, Int.reduceToNat, Int.reducePow, Int.reduceMul, Int.reduceAdd, Int.reduceSub, Int.reduceLE, Int.reduceLT, Int.reduceNeg, Int.reduceDiv, Int.reduceMod, Int.reduceEq, Int.reduceBEq, Int.reduceBNe, f5, f5b, f5r0, f5r1, f5r2, f5r3, f5r4, f5r5, f5r6, f5r7] | (refine BrW.of (fun hb => ?_) (fun hb => ?_) <;> (have hb' := hb; try simp only [decide_eq_true_eq, decide_eq_false_iff_not, beq_iff_eq, bne_iff_ne, beq_eq_false_iff_ne, bne_eq_false_iff_eq, Bool.not_eq_true', Bool.not_eq_false', Bool.not_eq_true, Bool.not_eq_false, Bool.and_eq_true, Bool.or_eq_true, Bool.and_eq_false_iff, Bool.or_eq_false_iff, Int.not_lt, Int.not_le, ne_eq, gt_iff_lt, ge_iff_le] at hb') <;> (try (exfalso; omega)))
    refine .of (s1.mono ?_)
    rintro v _ ⟨rfl, rfl⟩
    repeat' first | simp (disch := first | with_reducible assumption | omega) only [go_sem, Bool.true_and, Bool.and_true, Bool.and_self, Bool.false_and, Bool.and_false, Bool.true_or, Bool.or_true, Bool.false_or, Bool.or_false, ↓reduceIte, Nat.reduceEqDiff, Nat.reduceAdd, Nat.reduceMul, Nat.reduceSub, Nat.reduceBEq, Nat.reduceLeDiff, Nat.reduceLT, Nat.reduceMod, Nat.reduceDiv, Int.reduceToNat, Int.reducePow, Int.reduceMul, Int.reduceAdd, Int.reduceSub, Int.reduceLE, Int.reduceLT, Int.reduceNeg, Int.reduceDiv, Int.reduceMod, Int.reduceEq, Int.reduceBEq, Int.reduceBNe, f5, f5b, f5r0, f5r1, f5r2, f5r3, f5r4, f5r5, f5r6, f5r7] | (refine BrW.of (fun hb => ?_) (fun hb => ?_) <;> (have hb' := hb; try simp only [decide_eq_true_eq, decide_eq_false_iff_not, beq_iff_eq, bne_iff_ne, beq_eq_false_iff_ne, bne_eq_false_iff_eq, Bool.not_eq_true', Bool.not_eq_false', Bool.not_eq_true, Bool.not_eq_false, Bool.and_eq_true, Bool.or_eq_true, Bool.and_eq_false_iff, Bool.or_eq_false_iff, Int.not_lt, Int.not_le, ne_eq, gt_iff_lt, ge_iff_le] at hb') <;> (try (exfalso; omega)))
    refine .of (s2.mono ?_)
    rintro v _ ⟨rfl, rfl⟩
    repeat' first | simp (disch := first | with_reducible assumption | omega) only [go_sem, Bool.true_and, Bool.and_true, Bool.and_self, Bool.false_and, Bool.and_false, Bool.true_or, Bool.or_true, Bool.false_or, Bool.or_false, ↓reduceIte, Nat.reduceEqDiff, Nat.reduceAdd, Nat.reduceMul, Nat.reduceSub, Nat.reduceBEq, Nat.reduceLeDiff, Nat.reduceLT, Nat.reduceMod, Nat.reduceDiv, Int.reduceToNat, Int.reducePow, Int.reduceMul, Int.reduceAdd, Int.reduceSub, Int.reduceLE, Int.reduceLT, Int.reduceNeg, Int.reduceDiv, Int.reduceMod, Int.reduceEq, Int.reduceBEq, Int.reduceBNe, f5, f5b, f5r0, f5r1, f5r2, f5r3, f5r4, f5r5, f5r6, f5r7] | (refine BrW.of (fun hb => ?_) (fun hb => ?_) <;> (have hb' := hb; try simp only [decide_eq_true_eq, decide_eq_false_iff_not, beq_iff_eq, bne_iff_ne, beq_eq_false_iff_ne, bne_eq_false_iff_eq, Bool.not_eq_true', Bool.not_eq_false', Bool.not_eq_true, Bool.not_eq_false, Bool.and_eq_true, Bool.or_eq_true, Bool.and_eq_false_iff, Bool.or_eq_false_iff, Int.not_lt, Int.not_le, ne_eq, gt_iff_lt, ge_iff_le] at hb') <;> (try (exfalso; omega)))
    all_goals exact .here (by simp)
  · have z2 : f ≠ 0 := fun h => z1 (hef.2 h)
    have z1' : (e != 0) = true := by simpa using z1
    have z2' : (f != 0) = true := by simpa using z2
    repeat' first | simp (disch := first | with_reducible assumption | omega) only [go_sem, Bool.true_and, Bool.and_true, Bool.and_self, Bool.false_and, Bool.and_false, Bool.true_or, Bool.or_true, Bool.false_or, Bool.or_false, ↓reduceIte, Nat.reduceEqDiff, Nat.reduceAdd, Nat.reduceMul, Nat.reduceSub, Nat.reduceBEq, Nat.reduceLeDiff, Nat.reduceLT, Nat.reduceMod, Nat.reduceDiv, Int.reduceToNat, Int.reducePow, Int.reduceMul, Int.reduceAdd, Int.reduceSub, Int.reduceLE, Int.reduceLT, Int.reduceNeg, Int.reduceDiv, Int.reduceMod, Int.reduceEq, Int.reduceBEq, Int.reduceBNe, f5, f5b, f5r0, f5r1, f5r2, f5r3, f5r4, f5r5, f5r6, f5r7, z1', z2'] | (refine BrW.of (fun hb => ?_) (fun hb => ?_) <;> (have hb' := hb; try simp only [decide_eq_true_eq, decide_eq_false_iff_not, beq_iff_eq, bne_iff_ne, beq_eq_false_iff_ne, bne_eq_false_iff_eq, Bool.not_eq_true', Bool.not_eq_false', Bool.not_eq_true, Bool.not_eq_false, Bool.and_eq_true, Bool.or_eq_true, Bool.and_eq_false_iff, Bool.or_eq_false_iff, Int.not_lt, Int.not_le, ne_eq, gt_iff_lt, ge_iff_le] at hb') <;> (try (exfalso; omega)))
    all_goals exact .here rfl
end Go.Proofs.Ytiflaenenlcidaa
