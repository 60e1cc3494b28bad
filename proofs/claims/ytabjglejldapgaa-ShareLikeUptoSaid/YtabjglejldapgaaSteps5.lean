import Derived.Test.YtabjglejldapgaaLaws3
set_option linter.unusedSimpArgs false
set_option linter.unusedVariables false
set_option maxHeartbeats 1000000
set_option maxRecDepth 20000
namespace Go.Proofs.Ytabjglejldapgaa
open Go Go.Am
attribute [local irreducible] opsW Ww loopW callW drawW outW outDW gW cW BrW bothW vW resW DropW RdW dcallW altW Later.run

theorem F.cells_length (a : F) : (F.cells a).length = 2 := rfl
/-- A list of which the first t and the last t have changed places. -/
def RevFT (l : List F) (t : Nat) : List F := (List.range l.length).map fun p => if p < t ∨ l.length - 1 - p < t then l.getD (l.length - 1 - p) f0 else l.getD p f0
theorem RevFT_length (l : List F) (t : Nat) : (RevFT l t).length = l.length := by simp [RevFT]
theorem RevFT_get (l : List F) (t p : Nat) (h : p < l.length) : (RevFT l t).getD p f0 = if p < t ∨ l.length - 1 - p < t then l.getD (l.length - 1 - p) f0 else l.getD p f0 := by
  simp [RevFT, List.getD_eq_getElem?_getD, h]
theorem RevF_ext {l m : List F} (h : l.length = m.length) (h2 : ∀ p, p < l.length → l.getD p f0 = m.getD p f0) : l = m := by
  refine List.ext_getElem h fun p h1 h3 => ?_
  have := h2 p h1
  simpa [List.getD_eq_getElem?_getD, h1, h3] using this
theorem RevFT_zero (l : List F) : RevFT l 0 = l := RevF_ext (RevFT_length l 0) fun p hp => by
  rw [RevFT_length] at hp
  rw [RevFT_get l 0 p hp, if_neg (by omega)]
theorem RevFT_done (l : List F) (t : Nat) (h : l.length ≤ 2 * t + 1) : RevFT l t = l.reverse := RevF_ext (by rw [RevFT_length, List.length_reverse]) fun p hp => by
  rw [RevFT_length] at hp
  rw [RevFT_get l t p hp]
  have e : l.reverse.getD p f0 = l.getD (l.length - 1 - p) f0 := by
    simp only [List.getD_eq_getElem?_getD]
    rw [List.getElem?_reverse hp]
  rw [e]
  split
  · rfl
  · congr 1; omega
theorem RevFT_succ (l : List F) (t : Nat) (h : 2 * t + 1 < l.length) : ((RevFT l t).set t (l.getD (l.length - 1 - t) f0)).set (l.length - 1 - t) (l.getD t f0) = RevFT l (t + 1) := by
  refine RevF_ext (by simp [RevFT_length]) fun p hp => ?_
  simp only [List.length_set, RevFT_length] at hp
  rw [RevFT_get l (t + 1) p hp]
  have hs : ∀ (m : List F) (i : Nat) (x : F), p < m.length → (m.set i x).getD p f0 = if i = p then x else m.getD p f0 := fun m i x hm => by
    simp only [List.getD_eq_getElem?_getD, List.getElem?_set]
    by_cases e : i = p
    · subst e; simp [hm]
    · simp [e]
  rw [hs _ _ _ (by simp [RevFT_length]; exact hp), hs _ _ _ (by rw [RevFT_length]; exact hp), RevFT_get l t p hp]
  by_cases e1 : l.length - 1 - t = p
  · rw [if_pos e1, if_pos (by omega), show l.length - 1 - p = t by omega]
  · rw [if_neg e1]
    by_cases e2 : t = p
    · rw [if_pos e2, if_pos (by omega), e2]
    · rw [if_neg e2]
      by_cases e3 : p < t ∨ l.length - 1 - p < t
      · rw [if_pos e3, if_pos (by omega)]
      · rw [if_neg e3, if_neg (by omega)]

theorem RevF_spec (l : List F) (k g c : Nat) (H : Heap) (hk : H[k]? = some (.cells g 2 false (flat' F.cells l))) (hl : l.length ≤ 1048576) :
    ACallK Try.prog 13 [slv k 0 g l.length c] H (fun v H' => H' = H.set k (.cells g 2 false (flat' F.cells l.reverse))) := by
  have hkl := (List.getElem?_eq_some_iff.1 hk).1
  have hH : H.set k (.cells g 2 false (flat' F.cells l)) = H := by
    have e := (List.getElem?_eq_some_iff.1 hk).2
    rw [← e, List.set_getElem_self]
  refine .walkW f13_ok (by simp; decide) (by decide) ?_
  repeat' first | simp (disch := first | with_reducible assumption | omega) only [go_sem, Bool.true_and, Bool.and_true, Bool.and_self, Bool.false_and, Bool.and_false, Bool.true_or, Bool.or_true, Bool.false_or, Bool.or_false, ↓reduceIte, Nat.reduceEqDiff, Nat.reduceAdd, Nat.reduceMul, Nat.reduceSub, Nat.reduceBEq, Nat.reduceLeDiff, Nat.reduceLT, Nat.reduceMod, Nat.reduceDiv, Int.reduceToNat, Int.reducePow, Int.reduceMul, Int.reduceAdd, Int.reduceSub, Int.reduceLE, Int.reduceLT, Int.reduceNeg, Int.reduceDiv, Int.reduceMod, Int.reduceEq, Int.reduceBEq, Int.reduceBNe, f13, f13b, f13r0, f13r1, f13r2, f13r3, hk] | (refine BrW.of (fun hb => ?_) (fun hb => ?_) <;> (have hb' := hb; try simp only [decide_eq_true_eq, decide_eq_false_iff_not, beq_iff_eq, bne_iff_ne, beq_eq_false_iff_ne, bne_eq_false_iff_eq, Bool.not_eq_true', Bool.not_eq_false', Bool.not_eq_true, Bool.not_eq_false, Bool.and_eq_true, Bool.or_eq_true, Bool.and_eq_false_iff, Bool.or_eq_false_iff, Int.not_lt, Int.not_le, ne_eq, gt_iff_lt, ge_iff_le] at hb') <;> (try (exfalso; omega))) | (refine altW.of ?_ ?_)
  refine loopW.of (by decide) (fun m e J => ∃ t : Nat, e = [(0, slv k 0 g l.length c), (2, .int .i64 t), (3, .int .i64 ((l.length : Int) - 1 - t))] ∧ J = H.set k (.cells g 2 false (flat' F.cells (RevFT l t))) ∧ m = l.length - t ∧ 2 * t ≤ l.length + 1) l.length ⟨0, by simp, by rw [RevFT_zero, hH], rfl, by omega⟩ ?_
  rintro m e J ⟨t, rfl, rfl, rfl, ht⟩
  have hget : (H.set k (.cells g 2 false (flat' F.cells (RevFT l t))))[k]? = some (.cells g 2 false (flat' F.cells (RevFT l t))) := List.getElem?_set_self hkl
  by_cases hlt : 2 * t + 1 < l.length
  · have hz : ((l.length : Int) - 1 - t).toNat = l.length - 1 - t := by omega
    have f1 := flat'_ld (enc := F.cells) (s := 2) (fun _ => rfl) f0 (RevFT l t) t (by rw [RevFT_length]; omega)
    have f2 := flat'_ld (enc := F.cells) (s := 2) (fun _ => rfl) f0 (RevFT l t) (l.length - 1 - t) (by rw [RevFT_length]; omega)
    rw [RevFT_get l t t (by omega), if_neg (by omega)] at f1
    rw [RevFT_get l t (l.length - 1 - t) (by omega), if_neg (by omega)] at f2
    have w1 := flat'_wr (enc := F.cells) (s := 2) (fun _ => rfl) (l.getD (l.length - 1 - t) f0) (RevFT l t) t (by rw [RevFT_length]; omega)
    have w2 := flat'_wr (enc := F.cells) (s := 2) (fun _ => rfl) (l.getD t f0) ((RevFT l t).set t (l.getD (l.length - 1 - t) f0)) (l.length - 1 - t) (by rw [List.length_set, RevFT_length]; omega)
    rw [RevFT_succ l t hlt] at w2
    have l1 := flat'_length (enc := F.cells) (s := 2) (fun _ => rfl) (RevFT l t)
    have l2 := flat'_length (enc := F.cells) (s := 2) (fun _ => rfl) ((RevFT l t).set t (l.getD (l.length - 1 - t) f0))
    rw [RevFT_length] at l1
    rw [List.length_set, RevFT_length] at l2
    have hset := fun X => get_set_hit (x := X) hget
    have hhit : ∀ X Y : AObj, ((H.set k X).set k Y) = H.set k Y := fun X Y => by simp
    have hgk : ∀ X : AObj, (H.set k X)[k]? = some X := fun X => List.getElem?_set_self hkl
    repeat' first | simp (disch := first | with_reducible assumption | omega) only [go_sem, Bool.true_and, Bool.and_true, Bool.and_self, Bool.false_and, Bool.and_false, Bool.true_or, Bool.or_true, Bool.false_or, Bool.or_false, ↓reduceIte, Nat.reduceEqDiff, Nat.reduceAdd, Nat.reduceMul, Nat.reduceSub, Nat.reduceBEq, Nat.reduceLeDiff, Nat.reduceLT, Nat.reduceMod, Nat.reduceDiv, Int.reduceToNat, Int.reducePow, Int.reduceMul, Int.reduceAdd, Int.reduceSub, Int.reduceLE, Int.reduceLT, Int.reduceNeg, Int.reduceDiv, Int.reduceMod, Int.reduceEq, Int.reduceBEq, Int.reduceBNe, f13, f13b, f13r0, f13r1, f13r2, f13r3, f13l0, hgk, hhit, ↓f1, ↓f2, ↓w1, ↓w2, l1, l2, hz, F.cells_length] | (refine BrW.of (fun hb => ?_) (fun hb => ?_) <;> (have hb' := hb; try simp only [decide_eq_true_eq, decide_eq_false_iff_not, beq_iff_eq, bne_iff_ne, beq_eq_false_iff_ne, bne_eq_false_iff_eq, Bool.not_eq_true', Bool.not_eq_false', Bool.not_eq_true, Bool.not_eq_false, Bool.and_eq_true, Bool.or_eq_true, Bool.and_eq_false_iff, Bool.or_eq_false_iff, Int.not_lt, Int.not_le, ne_eq, gt_iff_lt, ge_iff_le] at hb') <;> (try (exfalso; omega))) | (refine altW.of ?_ ?_)
    refine RdW.keep [0, 2, 3] (l.length - (t + 1)) (by omega) ?_
    simp (disch := first | with_reducible assumption | omega) only [go_sem, Bool.true_and, Bool.and_true, Bool.and_self, Bool.false_and, Bool.and_false, Bool.true_or, Bool.or_true, Bool.false_or, Bool.or_false, ↓reduceIte, Nat.reduceEqDiff, Nat.reduceAdd, Nat.reduceMul, Nat.reduceSub, Nat.reduceBEq, Nat.reduceLeDiff, Nat.reduceLT, Nat.reduceMod, Nat.reduceDiv, Int.reduceToNat, Int.reducePow, Int.reduceMul, Int.reduceAdd, Int.reduceSub, Int.reduceLE, Int.reduceLT, Int.reduceNeg, Int.reduceDiv, Int.reduceMod, Int.reduceEq, Int.reduceBEq, Int.reduceBNe]
    exact ⟨t + 1, by rw [show (l.length : Int) - 1 - t - 1 = (l.length : Int) - 1 - ((t + 1 : Nat) : Int) by omega]; rfl, rfl, by omega⟩
  · repeat' first | simp (disch := first | with_reducible assumption | omega) only [go_sem, Bool.true_and, Bool.and_true, Bool.and_self, Bool.false_and, Bool.and_false, Bool.true_or, Bool.or_true, Bool.false_or, Bool.or_false, ↓reduceIte, Nat.reduceEqDiff, Nat.reduceAdd, Nat.reduceMul, Nat.reduceSub, Nat.reduceBEq, Nat.reduceLeDiff, Nat.reduceLT, Nat.reduceMod, Nat.reduceDiv, Int.reduceToNat, Int.reducePow, Int.reduceMul, Int.reduceAdd, Int.reduceSub, Int.reduceLE, Int.reduceLT, Int.reduceNeg, Int.reduceDiv, Int.reduceMod, Int.reduceEq, Int.reduceBEq, Int.reduceBNe, f13, f13b, f13r0, f13r1, f13r2, f13r3, f13l0, f13, f13b, f13r0, f13r1, f13r2, f13r3] | (refine BrW.of (fun hb => ?_) (fun hb => ?_) <;> (have hb' := hb; try simp only [decide_eq_true_eq, decide_eq_false_iff_not, beq_iff_eq, bne_iff_ne, beq_eq_false_iff_ne, bne_eq_false_iff_eq, Bool.not_eq_true', Bool.not_eq_false', Bool.not_eq_true, Bool.not_eq_false, Bool.and_eq_true, Bool.or_eq_true, Bool.and_eq_false_iff, Bool.or_eq_false_iff, Int.not_lt, Int.not_le, ne_eq, gt_iff_lt, ge_iff_le] at hb') <;> (try (exfalso; omega))) | (refine altW.of ?_ ?_)
    exact .here (by rw [RevFT_done l t (by omega)])


/-- A list of which the first t and the last t have changed places. -/
def RevIT (l : List Int) (t : Nat) : List Int := (List.range l.length).map fun p => if p < t ∨ l.length - 1 - p < t then l.getD (l.length - 1 - p) 0 else l.getD p 0
theorem RevIT_length (l : List Int) (t : Nat) : (RevIT l t).length = l.length := by simp [RevIT]
theorem RevIT_get (l : List Int) (t p : Nat) (h : p < l.length) : (RevIT l t).getD p 0 = if p < t ∨ l.length - 1 - p < t then l.getD (l.length - 1 - p) 0 else l.getD p 0 := by
  simp [RevIT, List.getD_eq_getElem?_getD, h]
theorem RevI_ext {l m : List Int} (h : l.length = m.length) (h2 : ∀ p, p < l.length → l.getD p 0 = m.getD p 0) : l = m := by
  refine List.ext_getElem h fun p h1 h3 => ?_
  have := h2 p h1
  simpa [List.getD_eq_getElem?_getD, h1, h3] using this
theorem RevIT_zero (l : List Int) : RevIT l 0 = l := RevI_ext (RevIT_length l 0) fun p hp => by
  rw [RevIT_length] at hp
  rw [RevIT_get l 0 p hp, if_neg (by omega)]
theorem RevIT_done (l : List Int) (t : Nat) (h : l.length ≤ 2 * t + 1) : RevIT l t = l.reverse := RevI_ext (by rw [RevIT_length, List.length_reverse]) fun p hp => by
  rw [RevIT_length] at hp
  rw [RevIT_get l t p hp]
  have e : l.reverse.getD p 0 = l.getD (l.length - 1 - p) 0 := by
    simp only [List.getD_eq_getElem?_getD]
    rw [List.getElem?_reverse hp]
  rw [e]
  split
  · rfl
  · congr 1; omega
theorem RevIT_succ (l : List Int) (t : Nat) (h : 2 * t + 1 < l.length) : ((RevIT l t).set t (l.getD (l.length - 1 - t) 0)).set (l.length - 1 - t) (l.getD t 0) = RevIT l (t + 1) := by
  refine RevI_ext (by simp [RevIT_length]) fun p hp => ?_
  simp only [List.length_set, RevIT_length] at hp
  rw [RevIT_get l (t + 1) p hp]
  have hs : ∀ (m : List Int) (i : Nat) (x : Int), p < m.length → (m.set i x).getD p 0 = if i = p then x else m.getD p 0 := fun m i x hm => by
    simp only [List.getD_eq_getElem?_getD, List.getElem?_set]
    by_cases e : i = p
    · subst e; simp [hm]
    · simp [e]
  rw [hs _ _ _ (by simp [RevIT_length]; exact hp), hs _ _ _ (by rw [RevIT_length]; exact hp), RevIT_get l t p hp]
  by_cases e1 : l.length - 1 - t = p
  · rw [if_pos e1, if_pos (by omega), show l.length - 1 - p = t by omega]
  · rw [if_neg e1]
    by_cases e2 : t = p
    · rw [if_pos e2, if_pos (by omega), e2]
    · rw [if_neg e2]
      by_cases e3 : p < t ∨ l.length - 1 - p < t
      · rw [if_pos e3, if_pos (by omega)]
      · rw [if_neg e3, if_neg (by omega)]

theorem RevI_spec (l : List Int) (k g c : Nat) (H : Heap) (hk : H[k]? = some (.cells g 1 false (flat' ienc l))) (hl : l.length ≤ 1048576) :
    ACallK Try.prog 12 [slv k 0 g l.length c] H (fun v H' => H' = H.set k (.cells g 1 false (flat' ienc l.reverse))) := by
  have hkl := (List.getElem?_eq_some_iff.1 hk).1
  have hH : H.set k (.cells g 1 false (flat' ienc l)) = H := by
    have e := (List.getElem?_eq_some_iff.1 hk).2
    rw [← e, List.set_getElem_self]
  refine .walkW f12_ok (by simp; decide) (by decide) ?_
  repeat' first | simp (disch := first | with_reducible assumption | omega) only [go_sem, Bool.true_and, Bool.and_true, Bool.and_self, Bool.false_and, Bool.and_false, Bool.true_or, Bool.or_true, Bool.false_or, Bool.or_false, ↓reduceIte, Nat.reduceEqDiff, Nat.reduceAdd, Nat.reduceMul, Nat.reduceSub, Nat.reduceBEq, Nat.reduceLeDiff, Nat.reduceLT, Nat.reduceMod, Nat.reduceDiv, Int.reduceToNat, Int.reducePow, Int.reduceMul, Int.reduceAdd, Int.reduceSub, Int.reduceLE, Int.reduceLT, Int.reduceNeg, Int.reduceDiv, Int.reduceMod, Int.reduceEq, Int.reduceBEq, Int.reduceBNe, f12, f12b, f12r0, f12r1, f12r2, f12r3, hk] | (refine BrW.of (fun hb => ?_) (fun hb => ?_) <;> (have hb' := hb; try simp only [decide_eq_true_eq, decide_eq_false_iff_not, beq_iff_eq, bne_iff_ne, beq_eq_false_iff_ne, bne_eq_false_iff_eq, Bool.not_eq_true', Bool.not_eq_false', Bool.not_eq_true, Bool.not_eq_false, Bool.and_eq_true, Bool.or_eq_true, Bool.and_eq_false_iff, Bool.or_eq_false_iff, Int.not_lt, Int.not_le, ne_eq, gt_iff_lt, ge_iff_le] at hb') <;> (try (exfalso; omega))) | (refine altW.of ?_ ?_)
  refine loopW.of (by decide) (fun m e J => ∃ t : Nat, e = [(0, slv k 0 g l.length c), (2, .int .i64 t), (3, .int .i64 ((l.length : Int) - 1 - t))] ∧ J = H.set k (.cells g 1 false (flat' ienc (RevIT l t))) ∧ m = l.length - t ∧ 2 * t ≤ l.length + 1) l.length ⟨0, by simp, by rw [RevIT_zero, hH], rfl, by omega⟩ ?_
  rintro m e J ⟨t, rfl, rfl, rfl, ht⟩
  have hget : (H.set k (.cells g 1 false (flat' ienc (RevIT l t))))[k]? = some (.cells g 1 false (flat' ienc (RevIT l t))) := List.getElem?_set_self hkl
  by_cases hlt : 2 * t + 1 < l.length
  · have hz : ((l.length : Int) - 1 - t).toNat = l.length - 1 - t := by omega
    have f1 : (flat' ienc (RevIT l t))[t]? = some (.int .i64 ((RevIT l t).getD t 0)) := by rw [flat'_ienc]; exact ints_get _ t (by rw [RevIT_length]; omega)
    have f2 : (flat' ienc (RevIT l t))[l.length - 1 - t]? = some (.int .i64 ((RevIT l t).getD (l.length - 1 - t) 0)) := by rw [flat'_ienc]; exact ints_get _ _ (by rw [RevIT_length]; omega)
    rw [RevIT_get l t t (by omega), if_neg (by omega)] at f1
    rw [RevIT_get l t (l.length - 1 - t) (by omega), if_neg (by omega)] at f2
    have w1 := ienc_set (RevIT l t) t (l.getD (l.length - 1 - t) 0)
    have w2 := ienc_set ((RevIT l t).set t (l.getD (l.length - 1 - t) 0)) (l.length - 1 - t) (l.getD t 0)
    rw [RevIT_succ l t hlt] at w2
    have l1 := flat'_length (enc := ienc) (s := 1) (fun _ => rfl) (RevIT l t)
    have l2 := flat'_length (enc := ienc) (s := 1) (fun _ => rfl) ((RevIT l t).set t (l.getD (l.length - 1 - t) 0))
    rw [RevIT_length] at l1
    rw [List.length_set, RevIT_length] at l2
    have hset := fun X => get_set_hit (x := X) hget
    have hhit : ∀ X Y : AObj, ((H.set k X).set k Y) = H.set k Y := fun X Y => by simp
    have hgk : ∀ X : AObj, (H.set k X)[k]? = some X := fun X => List.getElem?_set_self hkl
    repeat' first | simp (disch := first | with_reducible assumption | omega) only [go_sem, Bool.true_and, Bool.and_true, Bool.and_self, Bool.false_and, Bool.and_false, Bool.true_or, Bool.or_true, Bool.false_or, Bool.or_false, ↓reduceIte, Nat.reduceEqDiff, Nat.reduceAdd, Nat.reduceMul, Nat.reduceSub, Nat.reduceBEq, Nat.reduceLeDiff, Nat.reduceLT, Nat.reduceMod, Nat.reduceDiv, Int.reduceToNat, Int.reducePow, Int.reduceMul, Int.reduceAdd, Int.reduceSub, Int.reduceLE, Int.reduceLT, Int.reduceNeg, Int.reduceDiv, Int.reduceMod, Int.reduceEq, Int.reduceBEq, Int.reduceBNe, f12, f12b, f12r0, f12r1, f12r2, f12r3, f12l0, hgk, hhit, ↓f1, ↓f2, ↓w1, ↓w2, l1, l2, hz, ienc] | (refine BrW.of (fun hb => ?_) (fun hb => ?_) <;> (have hb' := hb; try simp only [decide_eq_true_eq, decide_eq_false_iff_not, beq_iff_eq, bne_iff_ne, beq_eq_false_iff_ne, bne_eq_false_iff_eq, Bool.not_eq_true', Bool.not_eq_false', Bool.not_eq_true, Bool.not_eq_false, Bool.and_eq_true, Bool.or_eq_true, Bool.and_eq_false_iff, Bool.or_eq_false_iff, Int.not_lt, Int.not_le, ne_eq, gt_iff_lt, ge_iff_le] at hb') <;> (try (exfalso; omega))) | (refine altW.of ?_ ?_)
    refine RdW.keep [0, 2, 3] (l.length - (t + 1)) (by omega) ?_
    simp (disch := first | with_reducible assumption | omega) only [go_sem, Bool.true_and, Bool.and_true, Bool.and_self, Bool.false_and, Bool.and_false, Bool.true_or, Bool.or_true, Bool.false_or, Bool.or_false, ↓reduceIte, Nat.reduceEqDiff, Nat.reduceAdd, Nat.reduceMul, Nat.reduceSub, Nat.reduceBEq, Nat.reduceLeDiff, Nat.reduceLT, Nat.reduceMod, Nat.reduceDiv, Int.reduceToNat, Int.reducePow, Int.reduceMul, Int.reduceAdd, Int.reduceSub, Int.reduceLE, Int.reduceLT, Int.reduceNeg, Int.reduceDiv, Int.reduceMod, Int.reduceEq, Int.reduceBEq, Int.reduceBNe]
    exact ⟨t + 1, by rw [show (l.length : Int) - 1 - t - 1 = (l.length : Int) - 1 - ((t + 1 : Nat) : Int) by omega]; rfl, rfl, by omega⟩
  · repeat' first | simp (disch := first | with_reducible assumption | omega) only [go_sem, Bool.true_and, Bool.and_true, Bool.and_self, Bool.false_and, Bool.and_false, Bool.true_or, Bool.or_true, Bool.false_or, Bool.or_false, ↓reduceIte, Nat.reduceEqDiff, Nat.reduceAdd, Nat.reduceMul, Nat.reduceSub, Nat.reduceBEq, Nat.reduceLeDiff, Nat.reduceLT, Nat.reduceMod, Nat.reduceDiv, Int.reduceToNat, Int.reducePow, Int.reduceMul, Int.reduceAdd, Int.reduceSub, Int.reduceLE, Int.reduceLT, Int.reduceNeg, Int.reduceDiv, Int.reduceMod, Int.reduceEq, Int.reduceBEq, Int.reduceBNe, f12, f12b, f12r0, f12r1, f12r2, f12r3, f12l0, f12, f12b, f12r0, f12r1, f12r2, f12r3] | (refine BrW.of (fun hb => ?_) (fun hb => ?_) <;> (have hb' := hb; try simp only [decide_eq_true_eq, decide_eq_false_iff_not, beq_iff_eq, bne_iff_ne, beq_eq_false_iff_ne, bne_eq_false_iff_eq, Bool.not_eq_true', Bool.not_eq_false', Bool.not_eq_true, Bool.not_eq_false, Bool.and_eq_true, Bool.or_eq_true, Bool.and_eq_false_iff, Bool.or_eq_false_iff, Int.not_lt, Int.not_le, ne_eq, gt_iff_lt, ge_iff_le] at hb') <;> (try (exfalso; omega))) | (refine altW.of ?_ ?_)
    exact .here (by rw [RevIT_done l t (by omega)])

end Go.Proofs.Ytabjglejldapgaa
