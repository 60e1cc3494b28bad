import Derived.Test.YtmbcgelfnbnicaaDoorSl
/- Slices of whole numbers that grow and shrink, each in an object of its own. For any program. -/
namespace Go.Proofs.YtmbcgelfnbnicaaDoor
open Go Go.Am

/-- n slices, that may be none, at V, of what L says, in objects from P on, each in one of its own. -/
structure OwnX (P n : Nat) (V : Nat → Value) (L : Nat → List Int) (J : Heap) (q o g : Nat → Nat) (cs : Nat → List Value) : Prop where
  at' : ∀ k, k < n → (V k = .slice none 0 0 ∧ L k = []) ∨ (V k = slv (q k) (o k) (g k) (L k).length (L k).length ∧ P ≤ q k ∧ J[q k]? = some (.cells (g k) 1 false (cs k)) ∧ (cs k).drop (o k) = ints (L k) ∧ o k ≤ (cs k).length)
  inj : ∀ k j, k < n → j < n → k ≠ j → V k ≠ .slice none 0 0 → V j ≠ .slice none 0 0 → q k ≠ q j
def Own (P n : Nat) (V : Nat → Value) (L : Nat → List Int) (J : Heap) : Prop := ∃ q o g cs, OwnX P n V L J q o g cs
theorem set_selfH {l : Heap} {i : Nat} {v : AObj} (h : l[i]? = some v) : l.set i v = l := by
  refine List.ext_getElem? fun j => ?_
  by_cases e : i = j
  · subst e; rw [List.getElem?_set_self (List.getElem?_eq_some_iff.1 h).1, h]
  · rw [List.getElem?_set_ne e]
theorem slv_ne (k o g n c : Nat) : slv k o g n c ≠ .slice none 0 0 := by intro h; cases h
theorem Own.nil (P n : Nat) (J : Heap) {V : Nat → Value} (hV : ∀ k, k < n → V k = .slice none 0 0) : Own P n V (fun _ => []) J :=
  ⟨fun _ => 0, fun _ => 0, fun _ => 0, fun _ => [], fun k hk => .inl ⟨hV k hk, rfl⟩, fun k _ hk _ _ h => absurd (hV k hk) h⟩
section
variable {P n : Nat} {V V' : Nat → Value} {L L' : Nat → List Int} {J J' : Heap} {q o g : Nat → Nat} {cs : Nat → List Value}
theorem OwnX.congr (h : OwnX P n V L J q o g cs) (hV : ∀ k, k < n → V' k = V k) (hL : ∀ k, k < n → L' k = L k) (hag : ∀ k, k < n → V k ≠ .slice none 0 0 → J'[q k]? = J[q k]?) : OwnX P n V' L' J' q o g cs := by
  refine ⟨fun k hk => ?_, fun k j hk hj hkj h1 h2 => ?_⟩
  · rw [hV k hk, hL k hk]
    rcases h.at' k hk with h1 | ⟨h1, h2, h3, h4⟩
    · exact .inl h1
    · exact .inr ⟨h1, h2, by rw [hag k hk (by rw [h1]; exact slv_ne _ _ _ _ _)]; exact h3, h4⟩
  · rw [hV k hk] at h1; rw [hV j hj] at h2; exact h.inj k j hk hj hkj h1 h2
/-- A heap that agrees from P on. -/
theorem Own.agree (h : Own P n V L J) (hag : ∀ k, P ≤ k → ∀ o, J[k]? = some o → J'[k]? = some o) : Own P n V L J' := by
  obtain ⟨q, o, g, cs, h⟩ := h
  refine ⟨q, o, g, cs, h.congr (fun _ _ => rfl) (fun _ _ => rfl) fun k hk hne => ?_⟩
  rcases h.at' k hk with ⟨h1, _⟩ | ⟨_, h2, h3, _⟩
  · exact (hne h1).elim
  · rw [h3]; exact hag _ h2 _ h3
theorem Own.app (h : Own P n V L J) (X : Heap) : Own P n V L (J ++ X) := h.agree fun _ _ _ ho => get_old ho X
theorem Own.cong (h : Own P n V L J) (hV : ∀ k, k < n → V' k = V k) (hL : ∀ k, k < n → L' k = L k) : Own P n V' L' J := by
  obtain ⟨q, o, g, cs, h⟩ := h
  exact ⟨q, o, g, cs, h.congr hV hL fun _ _ _ => rfl⟩
theorem OwnX.lt (h : OwnX P n V L J q o g cs) {k : Nat} (hk : k < n) (hne : V k ≠ .slice none 0 0) : q k < J.length := by
  rcases h.at' k hk with ⟨h1, _⟩ | ⟨_, _, h3, _⟩
  · exact (hne h1).elim
  · exact (List.getElem?_eq_some_iff.1 h3).1
theorem OwnX.ge (h : OwnX P n V L J q o g cs) {k : Nat} (hk : k < n) (hne : V k ≠ .slice none 0 0) : P ≤ q k := by
  rcases h.at' k hk with ⟨h1, _⟩ | ⟨_, h3, _⟩
  · exact (hne h1).elim
  · exact h3
theorem OwnX.step (h : OwnX P n V L J q o g cs) {f q' o' g' : Nat} {cs' : List Value} {l' : List Int} (hV : V' f = slv q' o' g' l'.length l'.length) (hL : L' f = l') (hVo : ∀ k, k < n → k ≠ f → V' k = V k) (hLo : ∀ k, k < n → k ≠ f → L' k = L k)
    (hP : P ≤ q') (hJ : J'[q']? = some (.cells g' 1 false cs')) (hd : cs'.drop o' = ints l') (ho : o' ≤ cs'.length) (hq : ∀ k, k < n → k ≠ f → V k ≠ .slice none 0 0 → q k ≠ q') (hag : ∀ k, k < n → k ≠ f → V k ≠ .slice none 0 0 → J'[q k]? = J[q k]?) :
    Own P n V' L' J' := by
  refine ⟨fun k => if k = f then q' else q k, fun k => if k = f then o' else o k, fun k => if k = f then g' else g k, fun k => if k = f then cs' else cs k, fun k hk => ?_, fun k j hk hj hkj h1 h2 => ?_⟩
  · by_cases e : k = f
    · simp only [if_pos e]
      rw [e, hV, hL]
      exact .inr ⟨rfl, hP, hJ, hd, ho⟩
    · simp only [if_neg e]
      rw [hVo k hk e, hLo k hk e]
      rcases h.at' k hk with h1 | ⟨h1, h2, h3, h4⟩
      · exact .inl h1
      · exact .inr ⟨h1, h2, by rw [hag k hk e (by rw [h1]; exact slv_ne _ _ _ _ _)]; exact h3, h4⟩
  · by_cases e : k = f
    · have e2 : j ≠ f := by omega
      simp only [if_pos e, if_neg e2]
      rw [hVo j hj e2] at h2
      exact (hq j hj e2 h2).symm
    · rw [hVo k hk e] at h1
      by_cases e2 : j = f
      · simp only [if_neg e, if_pos e2]
        exact hq k hk e h1
      · rw [hVo j hj e2] at h2
        simp only [if_neg e, if_neg e2]
        exact h.inj k j hk hj hkj h1 h2
end
end Go.Proofs.YtmbcgelfnbnicaaDoor
