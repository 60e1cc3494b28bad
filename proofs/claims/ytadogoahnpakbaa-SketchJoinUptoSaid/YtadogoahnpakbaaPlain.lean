/- counting many by few numbers: the plain laws -/
set_option linter.unusedVariables false
namespace Go.Proofs.Ytadogoahnpakbaa

structure C where
  id : Int
  n : Int
def c0 : C := ⟨0, 0⟩

/-- The places of a list at which each is turned by f, in order. -/
def put (f : Int → Int) (l : List Int) (ks : List Nat) : List Int := ks.foldl (fun l c => l.set c (f (l.getD c 0))) l
theorem put_snoc (f : Int → Int) (l : List Int) (ks : List Nat) (c : Nat) : put f l (ks ++ [c]) = (put f l ks).set c (f ((put f l ks).getD c 0)) := by simp [put]
theorem put_length (f : Int → Int) (ks : List Nat) : ∀ l : List Int, (put f l ks).length = l.length := by
  induction ks with
  | nil => intro l; rfl
  | cons k ks ih => intro l; show (put f (l.set k _) ks).length = _; rw [ih]; simp
theorem getD_set (l : List Int) (i j : Nat) (x : Int) (h : i < l.length) : (l.set i x).getD j 0 = if i = j then x else l.getD j 0 := by
  simp only [List.getD_eq_getElem?_getD, List.getElem?_set]
  by_cases e : i = j
  · subst e; simp [h]
  · simp [e]
theorem put_get (f : Int → Int) : ∀ (ks : List Nat) (l : List Int), ks.Nodup → (∀ k ∈ ks, k < l.length) → ∀ j, (put f l ks).getD j 0 = if j ∈ ks then f (l.getD j 0) else l.getD j 0
  | [], l, _, _, j => by simp [put]
  | k :: ks, l, hn, hk, j => by
    obtain ⟨h1, h2⟩ := List.nodup_cons.1 hn
    have hkl := hk k (by simp)
    show (put f (l.set k (f (l.getD k 0))) ks).getD j 0 = _
    rw [put_get f ks _ h2 (fun x hx => by rw [List.length_set]; exact hk x (by simp [hx])) j, getD_set _ _ _ _ hkl]
    by_cases e : k = j
    · subst e
      rw [if_neg h1, if_pos rfl, if_pos (by simp)]
    · rw [if_neg e]
      have : (j ∈ k :: ks) ↔ j ∈ ks := by simp [Ne.symm e]
      by_cases hj : j ∈ ks
      · rw [if_pos hj, if_pos (this.2 hj)]
      · rw [if_neg hj, if_neg (fun h => hj (this.1 h))]

/-- The least of those at some places; -1: there is none. -/
def leastStep (l : List Int) (m : Int) (c : Nat) : Int := if m < 0 ∨ l.getD c 0 < m then l.getD c 0 else m
def least (l : List Int) (ks : List Nat) : Int := ks.foldl (leastStep l) (-1)
theorem least_snoc (l : List Int) (ks : List Nat) (c : Nat) : least l (ks ++ [c]) = leastStep l (least l ks) c := by simp [least]
theorem snoc_ind {α : Type} {P : List α → Prop} (h0 : P []) (hs : ∀ l a, P l → P (l ++ [a])) (l : List α) : P l := by
  have : ∀ l : List α, P l.reverse := by
    intro l
    induction l with
    | nil => exact h0
    | cons a l ih => rw [List.reverse_cons]; exact hs _ _ ih
  have h := this l.reverse
  rwa [List.reverse_reverse] at h
theorem least_spec (l : List Int) (h0 : ∀ j, 0 ≤ l.getD j 0) : ∀ ks : List Nat, (ks = [] ∧ least l ks = -1) ∨ (∃ c ∈ ks, least l ks = l.getD c 0 ∧ ∀ c ∈ ks, least l ks ≤ l.getD c 0) := by
  apply snoc_ind
  · exact .inl ⟨rfl, rfl⟩
  · intro ks c ih
    right
    rw [least_snoc]
    unfold leastStep
    have hc := h0 c
    rcases ih with ⟨rfl, h⟩ | ⟨d, hd, h, h2⟩
    · rw [h, if_pos (.inl (by omega))]
      exact ⟨c, by simp, rfl, fun x hx => by simp at hx; rw [hx]; exact Int.le_refl _⟩
    · have hd0 := h0 d
      by_cases hlt : l.getD c 0 < least l ks
      · rw [if_pos (.inr hlt)]
        refine ⟨c, by simp, rfl, fun x hx => ?_⟩
        rcases List.mem_append.1 hx with hx | hx
        · have := h2 x hx; omega
        · rw [List.mem_singleton.1 hx]; exact Int.le_refl _
      · rw [if_neg (by rw [h] at hlt ⊢; omega)]
        refine ⟨d, by simp [hd], h, fun x hx => ?_⟩
        rcases List.mem_append.1 hx with hx | hx
        · exact h2 x hx
        · rw [List.mem_singleton.1 hx]; omega

/-- Where one is counted. -/
def places (w : Nat) (pl : Nat → Int → Nat) (rows : Nat) (x : Int) : List Nat := (List.range rows).map fun r => r * w + pl r x
theorem places_length (w : Nat) (pl : Nat → Int → Nat) (rows : Nat) (x : Int) : (places w pl rows x).length = rows := by simp [places]
theorem places_succ (w : Nat) (pl : Nat → Int → Nat) (r : Nat) (x : Int) : places w pl (r + 1) x = places w pl r x ++ [r * w + pl r x] := by simp [places, List.range_succ]
theorem places_get (w : Nat) (pl : Nat → Int → Nat) (rows : Nat) (x : Int) (r : Nat) (h : r < rows) : (places w pl rows x).getD r 0 = r * w + pl r x := by
  simp [places, List.getD_eq_getElem?_getD, h]
theorem mem_places {w : Nat} {pl : Nat → Int → Nat} {rows : Nat} {x : Int} {j : Nat} : j ∈ places w pl rows x ↔ ∃ r, r < rows ∧ j = r * w + pl r x := by
  simp only [places, List.mem_map, List.mem_range]
  exact ⟨fun ⟨r, h1, h2⟩ => ⟨r, h1, h2.symm⟩, fun ⟨r, h1, h2⟩ => ⟨r, h1, h2.symm⟩⟩
theorem row_inj {w r p r' p' : Nat} (hp : p < w) (hp' : p' < w) (h : r * w + p = r' * w + p') : r = r' ∧ p = p' := by
  have key : ∀ {r p r' p' : Nat}, p < w → p' < w → r * w + p = r' * w + p' → ¬ r < r' := fun {r p r' p'} hp hp' h hlt => by
    have : (r + 1) * w ≤ r' * w := Nat.mul_le_mul_right _ hlt
    rw [Nat.succ_mul] at this
    omega
  have e : r = r' := by
    have h1 := key hp hp' h
    have h2 := key hp' hp h.symm
    omega
  subst e
  exact ⟨rfl, by omega⟩
theorem places_nodup {w : Nat} {pl : Nat → Int → Nat} (hp : ∀ r x, pl r x < w) (x : Int) : ∀ rows, (places w pl rows x).Nodup
  | 0 => by simp [places]
  | r + 1 => by
    rw [places_succ]
    rw [List.nodup_append]
    refine ⟨places_nodup hp x r, by simp, fun a ha b hb => ?_⟩
    rw [List.mem_singleton.1 hb]
    obtain ⟨q, hq, rfl⟩ := mem_places.1 ha
    intro e
    have := (row_inj (hp _ _) (hp _ _) e).1
    omega
theorem places_lt {w : Nat} {pl : Nat → Int → Nat} (hp : ∀ r x, pl r x < w) {rows : Nat} {x : Int} {j : Nat} (h : j ∈ places w pl rows x) : j < rows * w := by
  obtain ⟨r, hr, rfl⟩ := mem_places.1 h
  have : (r + 1) * w ≤ rows * w := Nat.mul_le_mul_right _ hr
  have := hp r x
  rw [Nat.succ_mul] at *
  omega

/-- All that was counted of those for which P. -/
def tot (P : Int → Prop) [DecidablePred P] (l : List C) : Int := (l.map fun c => if P c.id then c.n else 0).sum
section
variable (P Q : Int → Prop) [DecidablePred P] [DecidablePred Q]
theorem tot_nil : tot P [] = 0 := rfl
theorem tot_app (l m : List C) : tot P (l ++ m) = tot P l + tot P m := by simp [tot]
theorem tot_snoc (l : List C) (c : C) : tot P (l ++ [c]) = tot P l + if P c.id then c.n else 0 := by simp [tot]
theorem tot_le {l : List C} (h : ∀ c ∈ l, 0 ≤ c.n) (hPQ : ∀ c ∈ l, c.n ≠ 0 → P c.id → Q c.id) : tot P l ≤ tot Q l := by
  induction l with
  | nil => exact Int.le_refl _
  | cons c l ih =>
    have h1 := ih (fun x hx => h x (by simp [hx])) (fun x hx => hPQ x (by simp [hx]))
    have h2 := h c (by simp)
    have h3 := hPQ c (by simp)
    simp only [tot, List.map_cons, List.sum_cons] at h1 ⊢
    by_cases hc : P c.id
    · rw [if_pos hc]
      by_cases h0 : c.n = 0
      · rw [h0]; split <;> omega
      · rw [if_pos (h3 h0 hc)]; omega
    · rw [if_neg hc]; split <;> omega
theorem tot_false : ∀ l : List C, tot (fun _ => False) l = 0
  | [] => rfl
  | c :: l => by
    have := tot_false l
    simp only [tot, List.map_cons, List.sum_cons, if_false] at this ⊢
    omega
theorem tot_nonneg {l : List C} (h : ∀ c ∈ l, 0 ≤ c.n) : 0 ≤ tot P l := by
  have := tot_le (fun _ => False) P (l := l) h (fun _ _ _ h => h.elim)
  rw [tot_false] at this
  exact this
end
end Go.Proofs.Ytadogoahnpakbaa
