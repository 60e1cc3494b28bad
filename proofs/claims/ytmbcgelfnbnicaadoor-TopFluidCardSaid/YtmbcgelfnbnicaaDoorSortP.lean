/- Sorting by insertion: the plain laws. -/
set_option linter.unusedVariables false
namespace Go.Proofs.YtmbcgelfnbnicaaDoor

/-- An order of what D holds of: some may be alike. -/
structure Swo (D : Int → Prop) (lt : Int → Int → Bool) : Prop where
  asym : ∀ x y, D x → D y → lt x y = true → lt y x = false
  trans : ∀ x y z, D x → D y → D z → lt y x = false → lt z y = false → lt z x = false
theorem Swo.irrefl {D : Int → Prop} {lt : Int → Int → Bool} (h : Swo D lt) {x : Int} (hx : D x) : lt x x = false := by
  cases e : lt x x with
  | false => rfl
  | true => have := h.asym x x hx hx e; rw [e] at this; exact this
def sortedTo (lt : Int → Int → Bool) (L : List Int) (i : Nat) : Prop := ∀ p q, p < q → q < i → lt (L.getD q 0) (L.getD p 0) = false
/-- The j-th is on its way to its place among the first i + 1. -/
structure InsI (D : Int → Prop) (lt : Int → Int → Bool) (l0 L : List Int) (i j : Nat) : Prop where
  perm : L.Perm l0
  le : j ≤ i ∧ i < l0.length
  but : ∀ p q, p < q → q ≤ i → p ≠ j → q ≠ j → lt (L.getD q 0) (L.getD p 0) = false
  ov : ∀ q, j < q → q ≤ i → lt (L.getD q 0) (L.getD j 0) = false
theorem perm_D {D : Int → Prop} {L l0 : List Int} (h : L.Perm l0) (hD : ∀ x ∈ l0, D x) {k : Nat} (hk : k < l0.length) : D (L.getD k 0) := by
  refine hD _ (h.mem_iff.1 ?_)
  have : k < L.length := by rw [h.length_eq]; exact hk
  rw [List.getD_eq_getElem?_getD, List.getElem?_eq_getElem this]
  exact List.getElem_mem this
theorem getD_set (L : List Int) (i : Nat) (x : Int) (k : Nat) (hi : i < L.length) : (L.set i x).getD k 0 = if k = i then x else L.getD k 0 := by
  simp only [List.getD_eq_getElem?_getD]
  by_cases h : k = i
  · subst h; rw [if_pos rfl, List.getElem?_set_self hi]; rfl
  · rw [if_neg h, List.getElem?_set_ne (Ne.symm h)]
def swapD (L : List Int) (j : Nat) : List Int := (L.set (j + 1) (L.getD j 0)).set j (L.getD (j + 1) 0)
theorem swapD_len (L : List Int) (j : Nat) : (swapD L j).length = L.length := by simp [swapD]
theorem swapD_get (L : List Int) (j k : Nat) (h : j + 1 < L.length) : (swapD L j).getD k 0 = if k = j then L.getD (j + 1) 0 else if k = j + 1 then L.getD j 0 else L.getD k 0 := by
  unfold swapD
  rw [getD_set _ _ _ _ (by simp; omega)]
  split
  · rfl
  · rw [getD_set _ _ _ _ h]
theorem swapD_perm (L : List Int) (j : Nat) (h : j + 1 < L.length) : (swapD L j).Perm L := by
  have e : ∀ (p q : List Int) (x y : Int), swapD (p ++ x :: y :: q) p.length = p ++ y :: x :: q := fun p q x y => by
    unfold swapD
    have h0 : (p ++ x :: y :: q).getD p.length 0 = x := by simp [List.getD_eq_getElem?_getD]
    have h1 : (p ++ x :: y :: q).getD (p.length + 1) 0 = y := by simp [List.getD_eq_getElem?_getD]
    rw [h0, h1, List.set_append_right _ _ (by omega), show p.length + 1 - p.length = 1 by omega, List.set_append_right _ _ (by omega), Nat.sub_self]; rfl
  have hl : L = L.take j ++ L[j] :: L[j + 1] :: L.drop (j + 2) := by
    rw [← List.drop_eq_getElem_cons (by omega), ← List.drop_eq_getElem_cons (by omega), List.take_append_drop]
  have h2 := e (L.take j) (L.drop (j + 2)) L[j] L[j + 1]
  rw [← hl, show (L.take j).length = j by simp; omega] at h2
  rw [h2]
  conv => rhs; rw [hl]
  exact List.Perm.append_left _ (List.Perm.swap _ _ _)
section
variable {D : Int → Prop} {lt : Int → Int → Bool} {l0 L : List Int} {i j : Nat}
theorem InsI.start (hp : L.Perm l0) (hs : sortedTo lt L i) (hi : i < l0.length) : InsI D lt l0 L i i :=
  ⟨hp, ⟨Nat.le_refl _, hi⟩, fun p q h1 h2 h3 h4 => hs p q h1 (by omega), fun q h1 h2 => by omega⟩
theorem InsI.zero (h : InsI D lt l0 L i 0) : sortedTo lt L (i + 1) := fun p q h1 h2 => by
  by_cases h0 : p = 0
  · subst h0; exact h.ov q h1 (by omega)
  · exact h.but p q h1 (by omega) h0 (by omega)
theorem InsI.stop (ho : Swo D lt) (hD : ∀ x ∈ l0, D x) (h : InsI D lt l0 L i (j + 1)) (hn : lt (L.getD (j + 1) 0) (L.getD j 0) = false) : sortedTo lt L (i + 1) := fun p q h1 h2 => by
  have hl := h.le
  by_cases hp : p = j + 1
  · subst hp; exact h.ov q h1 (by omega)
  · by_cases hq : q = j + 1
    · subst hq
      by_cases hpj : p = j
      · rw [hpj]; exact hn
      · have := h.but p j (by omega) (by omega) (by omega) (by omega)
        exact ho.trans _ _ _ (perm_D h.perm hD (by omega)) (perm_D h.perm hD (by omega)) (perm_D h.perm hD (by omega)) this hn
    · exact h.but p q h1 (by omega) hp hq
theorem InsI.next (ho : Swo D lt) (hD : ∀ x ∈ l0, D x) (h : InsI D lt l0 L i (j + 1)) (hn : lt (L.getD (j + 1) 0) (L.getD j 0) = true) : InsI D lt l0 (swapD L j) i j := by
  have hl := h.le
  have hlen := h.perm.length_eq
  have hj : j + 1 < L.length := by omega
  refine ⟨(swapD_perm L j hj).trans h.perm, by omega, fun p q h1 h2 h3 h4 => ?_, fun q h1 h2 => ?_⟩
  · rw [swapD_get L j q hj, swapD_get L j p hj, if_neg h4, if_neg h3]
    by_cases hq : q = j + 1
    · rw [if_pos hq, if_neg (by omega)]
      exact h.but p j (by omega) (by omega) (by omega) (by omega)
    · rw [if_neg hq]
      by_cases hp : p = j + 1
      · rw [if_pos hp]
        exact h.but j q (by omega) h2 (by omega) hq
      · rw [if_neg hp]
        exact h.but p q h1 h2 hp hq
  · rw [swapD_get L j q hj, swapD_get L j j hj, if_neg (by omega), if_pos rfl]
    by_cases hq : q = j + 1
    · rw [if_pos hq]
      exact ho.asym _ _ (perm_D h.perm hD (by omega)) (perm_D h.perm hD (by omega)) hn
    · rw [if_neg hq]
      exact h.ov q (by omega) h2
end
/-- Sorted, and of the same. -/
def Sorts (lt : Int → Int → Bool) (l L : List Int) : Prop := L.Perm l ∧ sortedTo lt L L.length
end Go.Proofs.YtmbcgelfnbnicaaDoor
