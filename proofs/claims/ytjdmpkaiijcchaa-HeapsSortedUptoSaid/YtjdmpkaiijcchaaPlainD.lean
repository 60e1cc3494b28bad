import Derived.Test.YtjdmpkaiijcchaaPlain
/- Each one once; all that are left are popped: plain. -/
namespace Go.Proofs.Ytjdmpkaiijcchaa

def sortP (l : List Int) : List Int := l.mergeSort fun x y => decide (x ≤ y)
/-- Of the first i those that differ from the one ahead. -/
def cP (L : List Int) : Nat → List Int
  | 0 => []
  | i + 1 => if i = 0 ∨ L.getD i 0 ≠ L.getD (i - 1) 0 then cP L i ++ [L.getD i 0] else cP L i
theorem sortP_perm (l : List Int) : (sortP l).Perm l := List.mergeSort_perm l _
theorem sortP_le (l : List Int) : (sortP l).Pairwise (fun a b => a ≤ b) := by
  have := List.pairwise_mergeSort (le := fun x y : Int => decide (x ≤ y)) (fun a b c h1 h2 => by simp at *; omega) (fun a b => by simp; omega) l
  exact this.imp fun h => by simpa using h
theorem pw_get {L : List Int} (h : L.Pairwise (fun a b => a ≤ b)) {i j : Nat} (hij : i < j) (hj : j < L.length) : L.getD i 0 ≤ L.getD j 0 := by
  rw [List.getD_eq_getElem?_getD, List.getD_eq_getElem?_getD, List.getElem?_eq_getElem hj, List.getElem?_eq_getElem (by omega)]
  exact List.pairwise_iff_getElem.1 h i j (by omega) hj hij
theorem cP_mem (L : List Int) : ∀ (i : Nat) (x : Int), x ∈ cP L i ↔ ∃ j, j < i ∧ L.getD j 0 = x
  | 0, x => by simp [cP]
  | i + 1, x => by
    have ih := cP_mem L i x
    unfold cP
    by_cases h : i = 0 ∨ L.getD i 0 ≠ L.getD (i - 1) 0
    · rw [if_pos h, List.mem_append, List.mem_singleton, ih]
      constructor
      · rintro (⟨j, h1, h2⟩ | h1)
        · exact ⟨j, by omega, h2⟩
        · exact ⟨i, by omega, h1.symm⟩
      · rintro ⟨j, h1, h2⟩
        by_cases e : j = i
        · subst e; exact .inr h2.symm
        · exact .inl ⟨j, by omega, h2⟩
    · rw [if_neg h, ih]
      constructor
      · rintro ⟨j, h1, h2⟩; exact ⟨j, by omega, h2⟩
      · rintro ⟨j, h1, h2⟩
        by_cases e : j = i
        · subst e
          by_cases h0 : j = 0
          · exact absurd (.inl h0) h
          · have h3 : L.getD j 0 = L.getD (j - 1) 0 := by
              by_cases h4 : L.getD j 0 = L.getD (j - 1) 0
              · exact h4
              · exact absurd (.inr h4) h
            exact ⟨j - 1, by omega, h3 ▸ h2⟩
        · exact ⟨j, by omega, h2⟩
theorem cP_nodup {L : List Int} (h : L.Pairwise (fun a b => a ≤ b)) : ∀ i, i ≤ L.length → (cP L i).Nodup
  | 0, _ => List.nodup_nil
  | i + 1, hi => by
    have ih := cP_nodup h i (by omega)
    unfold cP
    by_cases hc : i = 0 ∨ L.getD i 0 ≠ L.getD (i - 1) 0
    · rw [if_pos hc, List.nodup_append]
      refine ⟨ih, by simp, fun x hx y hy => ?_⟩
      rw [List.mem_singleton] at hy
      subst hy
      obtain ⟨j, h1, rfl⟩ := (cP_mem L i x).1 hx
      rcases hc with hc | hc
      · omega
      · have h2 : L.getD j 0 ≤ L.getD (i - 1) 0 := by
          by_cases e : j = i - 1
          · rw [e]; exact Int.le_refl _
          · exact pw_get h (by omega) (by omega)
        have h3 := pw_get h (show i - 1 < i by omega) (by omega)
        omega
    · rw [if_neg hc]; exact ih
/-- Each one once. -/
def ownP (l : List Int) : List Int := cP (sortP l) l.length
theorem own_nodup (l : List Int) : (ownP l).Nodup := cP_nodup (sortP_le l) _ (by rw [(sortP_perm l).length_eq]; exact Nat.le_refl _)
theorem own_mem (l : List Int) (x : Int) : x ∈ ownP l ↔ x ∈ l := by
  have hl := (sortP_perm l).length_eq
  unfold ownP
  rw [cP_mem, ← (sortP_perm l).mem_iff]
  constructor
  · rintro ⟨j, h1, rfl⟩
    rw [List.getD_eq_getElem?_getD, List.getElem?_eq_getElem (by omega)]
    exact List.getElem_mem _
  · intro h
    obtain ⟨j, hj, e⟩ := List.getElem_of_mem h
    exact ⟨j, by omega, by rw [List.getD_eq_getElem?_getD, List.getElem?_eq_getElem hj]; exact e⟩
theorem nodup_le : ∀ {N M : List Int}, N.Nodup → (∀ x ∈ N, x ∈ M) → N.length ≤ M.length
  | [], _, _, _ => by simp
  | x :: N, M, h, hs => by
    rw [List.nodup_cons] at h
    have hx := hs x List.mem_cons_self
    have := nodup_le (N := N) (M := M.erase x) h.2 fun y hy => (List.mem_erase_of_ne (fun e : y = x => h.1 (by rw [← e]; exact hy))).2 (hs y (List.mem_cons_of_mem _ hy))
    rw [List.length_erase_of_mem hx] at this
    have : 0 < M.length := List.length_pos_of_mem hx
    simp only [List.length_cons]; omega
theorem own_length {l : List Int} (h : l.Nodup) : (ownP l).length = l.length := by
  have h1 := nodup_le (own_nodup l) fun x hx => (own_mem l x).1 hx
  have h2 := nodup_le h fun x hx => (own_mem l x).2 hx
  omega
theorem insS_ids (x : It) : ∀ s : List It, (∀ y ∈ s, y.i ≠ x.i) → (s.map (·.i)).Nodup → ((insS x s).map (·.i)).Nodup
  | [], _, _ => by simp [insS]
  | y :: t, h, hn => by
    unfold insS
    rw [List.map_cons, List.nodup_cons] at hn
    split
    · rw [List.map_cons, List.map_cons, List.nodup_cons, List.nodup_cons]
      refine ⟨fun hm => ?_, hn⟩
      obtain ⟨z, hz, e⟩ := List.mem_map.1 (show x.i ∈ (y :: t).map (·.i) from hm)
      exact h z hz e
    · rw [List.map_cons, List.nodup_cons]
      refine ⟨fun hm => ?_, insS_ids x t (fun z hz => h z (List.mem_cons_of_mem _ hz)) hn.2⟩
      obtain ⟨z, hz, e⟩ := List.mem_map.1 hm
      rcases (insS_mem x t z).1 hz with hz | hz
      · rw [hz] at e; exact h y List.mem_cons_self e.symm
      · exact hn.1 (List.mem_map.2 ⟨z, hz, e⟩)
theorem filter_ids {p : It → Bool} {s : List It} (h : (s.map (·.i)).Nodup) : ((s.filter p).map (·.i)).Nodup := List.Nodup.sublist (List.Sublist.map _ List.filter_sublist) h
theorem doP_ids (s : List It) (o : Op) (h : (s.map (·.i)).Nodup) : ((doP s o).2.2.map (·.i)).Nodup := by
  have hno : hasI s o.i = false → ∀ y ∈ s, y.i ≠ o.i := fun hf y hy e => by
    have := (hasI_iff s o.i).2 ⟨y, hy, e⟩
    rw [hf] at this; cases this
  unfold doP
  split
  · split
    · exact h
    · rename_i hh; exact insS_ids _ s (hno (by simpa using hh)) h
  · split
    · cases s with
      | nil => exact h
      | cons x t => exact (List.nodup_cons.1 h).2
    · split
      · split
        · exact filter_ids h
        · exact h
      · split
        · split
          · exact insS_ids _ _ (fun y hy => ((outI_mem s o.i y).1 hy).2) (filter_ids h)
          · exact h
        · exact h
theorem runR_ids (ops : List Op) : ((runR ops).s.map (·.i)).Nodup := by
  suffices h : ∀ (l : List Op) (r : Rn), (r.s.map (·.i)).Nodup → ((l.foldl stepR r).s.map (·.i)).Nodup from h ops ⟨[], [], []⟩ List.nodup_nil
  intro l
  induction l with
  | nil => exact fun r h => h
  | cons o l ih => exact fun r h => ih _ (doP_ids r.s o h)
def popO : Op := ⟨2, 0, 0, 0⟩
theorem pop_all (ops : List Op) : ∀ i, i ≤ (runR ops).s.length → (runR (ops ++ List.replicate i popO)).pop = (runR ops).pop ++ ((runR ops).s.take i).map (·.i) ∧ (runR (ops ++ List.replicate i popO)).s = (runR ops).s.drop i
  | 0, _ => by simp
  | i + 1, hi => by
    obtain ⟨h1, h2⟩ := pop_all ops i (by omega)
    rw [List.replicate_succ', ← List.append_assoc, runR_snoc]
    have hd : (runR ops).s.drop i = (runR ops).s[i] :: (runR ops).s.drop (i + 1) := List.drop_eq_getElem_cons (by omega)
    have hdo : doP (runR (ops ++ List.replicate i popO)).s popO = (0, ((runR ops).s[i]).i, (runR ops).s.drop (i + 1)) := by
      rw [h2, hd]; rfl
    unfold stepR
    rw [hdo, h1]
    refine ⟨?_, rfl⟩
    rw [if_pos ⟨rfl, rfl⟩, List.take_succ_eq_append_getElem (by omega), List.map_append, List.append_assoc]
    rfl
theorem pop_end (ops : List Op) : (runR (ops ++ List.replicate (runR ops).s.length popO)).pop = (runR ops).pop ++ (runR ops).s.map (·.i) ∧ (runR (ops ++ List.replicate (runR ops).s.length popO)).s = [] := by
  have := pop_all ops (runR ops).s.length (Nat.le_refl _)
  rwa [List.take_length, List.drop_length] at this
end Go.Proofs.Ytjdmpkaiijcchaa
