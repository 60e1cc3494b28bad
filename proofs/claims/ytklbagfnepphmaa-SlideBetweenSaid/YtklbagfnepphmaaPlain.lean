/- the plain laws of windows -/
namespace Go.Proofs.Ytklbagfnepphmaa

def okL (l : List Int) : Prop := l.length ≤ 400 ∧ ∀ i, i < l.length → -1073741824 ≤ l.getD i 0 ∧ l.getD i 0 ≤ 1073741824
def wrongL (w : Int) (l : List Int) : Prop := ¬ (1 ≤ w ∧ w ≤ 400 ∧ okL l)

/-- v is the greatest of the window of w numbers that ends at k. -/
structure Most (w : Nat) (l : List Int) (k : Nat) (v : Int) : Prop where
  some' : ∃ j, j ≤ k ∧ k < j + w ∧ l.getD j 0 = v
  all' : ∀ j, j ≤ k → k < j + w → l.getD j 0 ≤ v
theorem Most.eq {w : Nat} {l : List Int} {k : Nat} {u v : Int} (h : Most w l k u) (h' : Most w l k v) : u = v := by
  obtain ⟨i, a, b, c⟩ := h.some'
  obtain ⟨j, d, e, f⟩ := h'.some'
  have := h.all' j d e
  have := h'.all' i a b
  omega
theorem Most.mono {w w' : Nat} {l : List Int} {k : Nat} {u v : Int} (hw : w ≤ w') (h : Most w l k u) (h' : Most w' l k v) : u ≤ v := by
  obtain ⟨i, a, b, c⟩ := h.some'
  have := h'.all' i a (by omega)
  omega
theorem Most.two {w : Nat} {l : List Int} {k : Nat} {u v x : Int} (hw : w ≤ k) (h : Most w l k u) (h' : Most w l (k - w) v) (h2 : Most (2 * w) l k x) : x = max u v := by
  obtain ⟨i, a, b, c⟩ := h.some'
  obtain ⟨j, d, e, f⟩ := h'.some'
  obtain ⟨m, p, q, r⟩ := h2.some'
  have h3 := h2.all' i a (by omega)
  have h4 := h2.all' j (by omega) (by omega)
  by_cases hm : k < m + w
  · have := h.all' m p hm; omega
  · have := h'.all' m (by omega) (by omega); omega

/-- Places that may be the greatest yet: behind the places up to k. -/
structure Line (w : Nat) (l : List Int) (k : Nat) (L : List Nat) : Prop where
  up : L.Pairwise (fun a b => a < b ∧ l.getD b 0 < l.getD a 0)
  in' : ∀ a ∈ L, a < k ∧ k ≤ a + w
  all' : ∀ j, j < k → k ≤ j + w → ∃ a ∈ L, j ≤ a ∧ l.getD j 0 ≤ l.getD a 0

/-- Those at the end that are no greater go. -/
def popped (l : List Int) (n : Int) : List Nat → List Nat
  | [] => []
  | a :: r => if l.getD a 0 ≤ n then [] else a :: popped l n r

theorem popped_sub (l : List Int) (n : Int) : ∀ (L : List Nat), ∀ a ∈ popped l n L, a ∈ L ∧ n < l.getD a 0
  | [], a, h => by simp [popped] at h
  | b :: r, a, h => by
    unfold popped at h
    split at h
    · simp at h
    · simp only [List.mem_cons] at h
      rcases h with rfl | h
      · exact ⟨List.mem_cons_self, by omega⟩
      · have := popped_sub l n r a h; exact ⟨List.mem_cons_of_mem _ this.1, this.2⟩
theorem popped_prefix (l : List Int) (n : Int) : ∀ (L : List Nat), popped l n L = L.take (popped l n L).length
  | [] => by simp [popped]
  | b :: r => by
    unfold popped
    split
    · simp
    · simp; exact popped_prefix l n r
theorem popped_rest (l : List Int) (n : Int) : ∀ (L : List Nat), L.Pairwise (fun a b => a < b ∧ l.getD b 0 < l.getD a 0) → ∀ a ∈ L, a ∉ popped l n L → l.getD a 0 ≤ n
  | [], _, a, h, _ => by simp at h
  | b :: r, hp, a, h, hn => by
    rw [List.pairwise_cons] at hp
    unfold popped at hn
    split at hn
    · rename_i hb
      simp only [List.mem_cons] at h
      rcases h with rfl | h
      · exact hb
      · have := hp.1 a h; omega
    · simp only [List.mem_cons] at h hn
      rcases h with rfl | h
      · simp at hn
      · exact popped_rest l n r hp.2 a h (fun hh => hn (.inr hh))

/-- The one at the front goes, if it is too far. -/
def fronted (w k : Nat) : List Nat → List Nat
  | [] => []
  | a :: r => if a + w ≤ k then r else a :: r

def lineStep (w : Nat) (l : List Int) (k : Nat) (L : List Nat) : List Nat := fronted w k (popped l (l.getD k 0) L ++ [k])

theorem Line.zero (w : Nat) (l : List Int) : Line w l 0 [] := ⟨by simp, by simp, fun j h => by omega⟩

theorem Line.step {w : Nat} {l : List Int} {k : Nat} {L : List Nat} (hw : 1 ≤ w) (h : Line w l k L) : Line w l (k + 1) (lineStep w l k L) := by
  have hsub : (popped l (l.getD k 0) L).Sublist L := by rw [popped_prefix]; exact List.take_sublist _ _
  have hpw : (popped l (l.getD k 0) L ++ [k]).Pairwise (fun a b => a < b ∧ l.getD b 0 < l.getD a 0) := by
    rw [List.pairwise_append]
    refine ⟨h.up.sublist hsub, by simp, fun a ha b hb => ?_⟩
    simp only [List.mem_singleton] at hb
    subst hb
    obtain ⟨h1, h2⟩ := popped_sub l _ L a ha
    exact ⟨(h.in' a h1).1, h2⟩
  have hin : ∀ a ∈ popped l (l.getD k 0) L ++ [k], a < k + 1 ∧ k ≤ a + w := by
    intro a ha
    rw [List.mem_append] at ha
    rcases ha with ha | ha
    · have := h.in' a (popped_sub l _ L a ha).1; omega
    · simp at ha; omega
  have hall : ∀ j, j < k + 1 → k + 1 ≤ j + w → ∃ a ∈ popped l (l.getD k 0) L ++ [k], j ≤ a ∧ l.getD j 0 ≤ l.getD a 0 := by
    intro j hj hjw
    by_cases e : j = k
    · subst e; exact ⟨j, by simp, by omega, by omega⟩
    · obtain ⟨a, ha, h1, h2⟩ := h.all' j (by omega) (by omega)
      by_cases hm : a ∈ popped l (l.getD k 0) L
      · exact ⟨a, List.mem_append_left _ hm, h1, h2⟩
      · exact ⟨k, by simp, by omega, by have := popped_rest l _ L h.up a ha hm; omega⟩
  unfold lineStep
  cases hq : popped l (l.getD k 0) L ++ [k] with
  | nil => simp at hq
  | cons a r =>
    rw [hq] at hpw hin hall
    rw [List.pairwise_cons] at hpw
    simp only [fronted]
    by_cases hc : a + w ≤ k
    · rw [if_pos hc]
      refine ⟨hpw.2, fun b hb => ?_, fun j hj hjw => ?_⟩
      · have := hin b (by simp [hb]); have := hpw.1 b hb; have := hin a (by simp); omega
      · obtain ⟨b, hb, h1, h2⟩ := hall j hj hjw
        simp only [List.mem_cons] at hb
        rcases hb with rfl | hb
        · omega
        · exact ⟨b, hb, h1, h2⟩
    · rw [if_neg hc]
      refine ⟨by rw [List.pairwise_cons]; exact hpw, fun b hb => ?_, hall⟩
      simp only [List.mem_cons] at hb
      rcases hb with rfl | hb
      · have := hin b (by simp); omega
      · have := hin b (by simp [hb]); have := hpw.1 b hb; omega

theorem Line.ne {w : Nat} {l : List Int} {k : Nat} {L : List Nat} (hw : 1 ≤ w) (h : Line w l (k + 1) L) : L ≠ [] := by
  obtain ⟨a, ha, _⟩ := h.all' k (by omega) (by omega)
  intro e; rw [e] at ha; simp at ha
theorem Line.most {w : Nat} {l : List Int} {k a : Nat} {r : List Nat} (h : Line w l (k + 1) (a :: r)) : Most w l k (l.getD a 0) := by
  have hi := h.in' a (by simp)
  refine ⟨⟨a, by omega, by omega, rfl⟩, fun j h1 h2 => ?_⟩
  obtain ⟨b, hb, h3, h4⟩ := h.all' j (by omega) (by omega)
  simp only [List.mem_cons] at hb
  rcases hb with rfl | hb
  · exact h4
  · have := h.up
    rw [List.pairwise_cons] at this
    have := this.1 b hb
    omega

/-- Sums. -/
def psum (l : List Int) (n : Nat) : Int := (l.take n).sum
theorem psum_succ (l : List Int) (n : Nat) (h : n < l.length) : psum l (n + 1) = psum l n + l.getD n 0 := by
  unfold psum
  rw [List.take_add_one, List.getElem?_eq_getElem h, List.sum_append]; simp [List.getD_eq_getElem?_getD, h]
theorem psum_range {l : List Int} (hl : okL l) : ∀ n, n ≤ l.length → -(n * 1073741824 : Int) ≤ psum l n ∧ psum l n ≤ n * 1073741824
  | 0, _ => by simp [psum]
  | n + 1, h => by
    have := psum_range hl n (by omega)
    have := hl.2 n (by omega)
    rw [psum_succ l n (by omega)]
    omega
def sumAt (w : Nat) (l : List Int) (k : Nat) : Int := psum l (k + 1) - psum l (k + 1 - w)
theorem sumAt_range {l : List Int} (hl : okL l) {w k : Nat} (hk : k < l.length) : -858993459200 ≤ sumAt w l k ∧ sumAt w l k ≤ 858993459200 := by
  have h1 := psum_range hl (k + 1) (by omega)
  have h2 := psum_range hl (k + 1 - w) (by omega)
  have h3 := hl.1
  unfold sumAt
  omega
theorem sumAt_two {w : Nat} {l : List Int} {k : Nat} (hw : w ≤ k) : sumAt (2 * w) l k = sumAt w l k + sumAt w l (k - w) := by
  unfold sumAt
  rw [show k - w + 1 = k + 1 - w by omega, show k + 1 - w - w = k + 1 - 2 * w by omega]
  omega
end Go.Proofs.Ytklbagfnepphmaa
