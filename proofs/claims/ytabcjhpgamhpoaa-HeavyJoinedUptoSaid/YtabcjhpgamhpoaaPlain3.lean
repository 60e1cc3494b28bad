import Derived.Test.YtabcjhpgamhpoaaPlain2
/- With room for all: plain. -/
namespace Go.Proofs.Ytabcjhpgamhpoaa

def sortP (l : List Int) : List Int := l.mergeSort fun x y => decide (x ≤ y)
/-- Of the first i those that differ from the one ahead. -/
def cP (L : List Int) : Nat → List Int
  | 0 => []
  | i + 1 => if i = 0 ∨ L.getD i 0 ≠ L.getD (i - 1) 0 then cP L i ++ [L.getD i 0] else cP L i
theorem sortP_perm (l : List Int) : (sortP l).Perm l := List.mergeSort_perm l _
theorem sortP_le (l : List Int) : (sortP l).Pairwise (fun a b => a ≤ b) := by
  have := List.pairwise_mergeSort (le := fun x y : Int => decide (x ≤ y)) (fun a b c h1 h2 => by simp at *; omega) (fun a b => by simp; omega) l
  exact this.imp fun h => by simpa using h
theorem pw_get {L : List Int} (h : L.Pairwise (fun a b => a ≤ b)) {i j : Nat} (hij : i < j) (hj : j < L.length) : L.getD i 0 ≤ L.getD j 0 := by
  rw [List.getD_eq_getElem?_getD, List.getD_eq_getElem?_getD, List.getElem?_eq_getElem hj, List.getElem?_eq_getElem (by omega)]
  exact List.pairwise_iff_getElem.1 h i j (by omega) hj hij
theorem cP_mem (L : List Int) : ∀ (i : Nat) (x : Int), x ∈ cP L i ↔ ∃ j, j < i ∧ L.getD j 0 = x
  | 0, x => by simp [cP]
  | i + 1, x => by
    have ih := cP_mem L i x
    unfold cP
    by_cases h : i = 0 ∨ L.getD i 0 ≠ L.getD (i - 1) 0
    · rw [if_pos h, List.mem_append, List.mem_singleton, ih]
      constructor
      · rintro (⟨j, h1, h2⟩ | h1)
        · exact ⟨j, by omega, h2⟩
        · exact ⟨i, by omega, h1.symm⟩
      · rintro ⟨j, h1, h2⟩
        by_cases e : j = i
        · subst e; exact .inr h2.symm
        · exact .inl ⟨j, by omega, h2⟩
    · rw [if_neg h, ih]
      constructor
      · rintro ⟨j, h1, h2⟩; exact ⟨j, by omega, h2⟩
      · rintro ⟨j, h1, h2⟩
        by_cases e : j = i
        · subst e
          by_cases h0 : j = 0
          · exact absurd (.inl h0) h
          · have h3 : L.getD j 0 = L.getD (j - 1) 0 := by
              by_cases h4 : L.getD j 0 = L.getD (j - 1) 0
              · exact h4
              · exact absurd (.inr h4) h
            exact ⟨j - 1, by omega, h3 ▸ h2⟩
        · exact ⟨j, by omega, h2⟩
theorem cP_nodup {L : List Int} (h : L.Pairwise (fun a b => a ≤ b)) : ∀ i, i ≤ L.length → (cP L i).Nodup
  | 0, _ => List.nodup_nil
  | i + 1, hi => by
    have ih := cP_nodup h i (by omega)
    unfold cP
    by_cases hc : i = 0 ∨ L.getD i 0 ≠ L.getD (i - 1) 0
    · rw [if_pos hc, List.nodup_append]
      refine ⟨ih, by simp, fun x hx y hy => ?_⟩
      rw [List.mem_singleton] at hy
      subst hy
      obtain ⟨j, h1, rfl⟩ := (cP_mem L i x).1 hx
      rcases hc with hc | hc
      · omega
      · have h2 : L.getD j 0 ≤ L.getD (i - 1) 0 := by
          by_cases e : j = i - 1
          · rw [e]; exact Int.le_refl _
          · exact pw_get h (by omega) (by omega)
        have h3 := pw_get h (show i - 1 < i by omega) (by omega)
        omega
    · rw [if_neg hc]; exact ih
/-- Each one once. -/
def ownP (l : List Int) : List Int := cP (sortP l) l.length
theorem own_nodup (l : List Int) : (ownP l).Nodup := cP_nodup (sortP_le l) _ (by rw [(sortP_perm l).length_eq]; exact Nat.le_refl _)
theorem own_mem (l : List Int) (x : Int) : x ∈ ownP l ↔ x ∈ l := by
  have hl := (sortP_perm l).length_eq
  unfold ownP
  rw [cP_mem, ← (sortP_perm l).mem_iff]
  constructor
  · rintro ⟨j, h1, rfl⟩
    rw [List.getD_eq_getElem?_getD, List.getElem?_eq_getElem (by omega)]
    exact List.getElem_mem _
  · intro h
    obtain ⟨j, hj, e⟩ := List.getElem_of_mem h
    exact ⟨j, by omega, by rw [List.getD_eq_getElem?_getD, List.getElem?_eq_getElem hj]; exact e⟩
theorem nodup_le : ∀ {N M : List Int}, N.Nodup → (∀ x ∈ N, x ∈ M) → N.length ≤ M.length
  | [], _, _, _ => by simp
  | x :: N, M, h, hs => by
    rw [List.nodup_cons] at h
    have hx := hs x List.mem_cons_self
    have := nodup_le (N := N) (M := M.erase x) h.2 fun y hy => (List.mem_erase_of_ne (fun e : y = x => h.1 (by rw [← e]; exact hy))).2 (hs y (List.mem_cons_of_mem _ hy))
    rw [List.length_erase_of_mem hx] at this
    have : 0 < M.length := List.length_pos_of_mem hx
    simp only [List.length_cons]; omega
theorem Up.gt : ∀ {l : List Ct} {b : Int}, Up b l → ∀ c ∈ l, b < c.1 ∧ 1 ≤ c.2
  | [], _, _, c, hc => by cases hc
  | x :: l, b, h, c, hc => by
    rcases List.mem_cons.1 hc with rfl | hc
    · exact ⟨h.1, h.2.1⟩
    · have := h.2.2.gt c hc; have := h.1; omega
theorem Up.nodup : ∀ {l : List Ct} {b : Int}, Up b l → (l.map (·.1)).Nodup
  | [], _, _ => List.nodup_nil
  | x :: l, b, h => by
    rw [List.map_cons, List.nodup_cons]
    refine ⟨fun hm => ?_, h.2.2.nodup⟩
    obtain ⟨c, hc, e⟩ := List.mem_map.1 hm
    have := (h.2.2.gt c hc).1
    omega
theorem Up.cnt : ∀ {l : List Ct} {b : Int}, Up b l → ∀ c ∈ l, Go.Proofs.Ytabcjhpgamhpoaa.cnt l c.1 = c.2
  | [], _, _, c, hc => by cases hc
  | x :: l, b, h, c, hc => by
    unfold Go.Proofs.Ytabcjhpgamhpoaa.cnt
    rcases List.mem_cons.1 hc with rfl | hc
    · rw [if_pos rfl]
    · rw [if_neg (by have := (h.2.2.gt c hc).1; omega)]
      exact h.2.2.cnt c hc
theorem times_pos {p : List Int} {x : Int} : 1 ≤ times p x ↔ x ∈ p := by
  induction p with
  | nil => simp [times]
  | cons y p ih =>
    have := times_nonneg p x
    rw [List.mem_cons, times]
    by_cases h : y = x
    · rw [if_pos h]; exact ⟨fun _ => .inl h.symm, fun _ => by omega⟩
    · rw [if_neg h, show (1 : Int) ≤ 0 + times p x ↔ 1 ≤ times p x by omega, ih]
      exact ⟨.inr, fun h2 => h2.resolve_left fun e => h e.symm⟩
/-- Who is counted has come. -/
theorem MG.sub {k : Int} {p : List Int} {l : List Ct} {D : Int} (h : MG k p l D) : ∀ x ∈ l.map (·.1), x ∈ p := fun x hx => by
  obtain ⟨b, hu⟩ := h.up
  obtain ⟨c, hc, rfl⟩ := List.mem_map.1 hx
  have h1 := (hu.gt c hc).2
  have h2 := hu.cnt c hc
  have h3 := h.lo c.1
  exact times_pos.1 (by omega)
theorem MG.go3 {k : Int} (hk : 1 ≤ k ∧ k ≤ 400) (all : List Int) (hm : ((ownP all).length : Int) ≤ k) : ∀ {ids p : List Int} {l : List Ct}, MG k p l 0 → Right k l → (∀ x ∈ p ++ ids, x ∈ all) → (allGo k l ids).2 = 0 → MG k (p ++ ids) (allGo k l ids).1 0
  | [], p, l, h, hr, _, _ => by simpa [allGo] using h
  | id :: ids, p, l, h, hr, hsub, h0 => by
    unfold allGo at h0 ⊢
    by_cases e : (addP k l id).2 = 0
    · rw [if_pos e] at h0 ⊢
      obtain ⟨hr', D', h', hd⟩ := h.add2 hk hr id e
      have hD : D' = 0 := by
        rcases hd with hd | ⟨_, hlk, hc⟩
        · exact hd
        · exfalso
          obtain ⟨b, hu⟩ := h.up
          have hn : (id :: l.map (·.1)).Nodup := by
            rw [List.nodup_cons]
            refine ⟨fun hm => ?_, hu.nodup⟩
            obtain ⟨c, hc', e⟩ := List.mem_map.1 hm
            have h1 := hu.cnt c hc'
            have h2 := (hu.gt c hc').2
            rw [e, hc] at h1
            omega
          have hle := nodup_le (M := ownP all) hn fun x hx => by
            rw [own_mem]
            rcases List.mem_cons.1 hx with rfl | hx
            · exact hsub _ (by simp)
            · exact hsub _ (List.mem_append_left _ (h.sub x hx))
          simp only [List.length_cons, List.length_map] at hle
          omega
      subst hD
      have := MG.go3 hk all hm (ids := ids) h' hr' (by simpa using hsub) h0
      rwa [List.append_assoc] at this
    · rw [if_neg e] at h0; exact absurd h0 e
/-- HeavyFew, plain. -/
theorem few (k : Int) (ids : List Int) (h0 : (allP k ids).2 = 0) (hm : ((ownP ids).length : Int) ≤ k) (id : Int) : (allP k ids).1.length = (ownP ids).length ∧ cnt (allP k ids).1 id = times ids id := by
  have hk : 1 ≤ k ∧ k ≤ 400 := by
    by_cases hr : 1 ≤ k ∧ k ≤ 400
    · exact hr
    · rw [all_bad k ids hr] at h0; exact absurd h0 (by show ¬ (2 : Int) = 0; omega)
  have hs : MG k [] [] 0 := ⟨⟨0, trivial⟩, by simp; omega, fun x => by simp [cnt, times], fun x => by simp [cnt, times], by simp [sum], by omega⟩
  have hr0 : Right k [] := ⟨⟨hk.1, hk.2, by simp; omega⟩, fun j hj => by simp at hj⟩
  have e : allP k ids = allGo k [] ids := by unfold allP; rw [if_pos hk]
  rw [e] at h0 ⊢
  have h2 := MG.go3 hk ids hm (ids := ids) hs hr0 (by simp) h0
  rw [List.nil_append] at h2
  have hc : ∀ x, cnt (allGo k [] ids).1 x = times ids x := fun x => by have := h2.lo x; have := h2.hi x; omega
  refine ⟨?_, hc id⟩
  obtain ⟨b, hu⟩ := h2.up
  have h3 := nodup_le (M := ownP ids) hu.nodup fun x hx => (own_mem ids x).2 (h2.sub x hx)
  have h4 := nodup_le (M := (allGo k [] ids).1.map (·.1)) (own_nodup ids) fun x hx => by
    have h5 := times_pos.2 ((own_mem ids x).1 hx)
    obtain ⟨c, h6, h7⟩ := cnt_mem (l := (allGo k [] ids).1) (x := x) (by rw [hc]; omega)
    exact List.mem_map.2 ⟨c, h6, h7⟩
  simp only [List.length_map] at h3 h4
  omega
end Go.Proofs.Ytabcjhpgamhpoaa
