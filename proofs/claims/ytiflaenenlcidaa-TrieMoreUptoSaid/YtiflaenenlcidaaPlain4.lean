import Derived.Test.YtiflaenenlcidaaPlain3
set_option linter.unusedVariables false
namespace Go.Proofs.Ytiflaenenlcidaa

/-- One prefix more changes only what is within it. -/
theorem found_more {l : List Px} {p : Px} (hl : Fine l) (hm : Fine (l ++ [p])) (hok : ∀ x ∈ l, x.ad.ok) (hp : p.ad.ok) (a : A) :
    (within a p.ad p.bits → (found (l ++ [p]) a 32).isSome = true ∧ ((found (l ++ [p]) a 32).getD 0 = (found l a 32).getD 0 ∨ (found (l ++ [p]) a 32).getD 0 = p.to)) ∧ (¬ within a p.ad p.bits → found (l ++ [p]) a 32 = found l a 32) := by
  have hok2 : ∀ x ∈ l ++ [p], x.ad.ok := fun x hx => by
    rcases List.mem_append.1 hx with hx | hx
    · exact hok x hx
    · rw [List.mem_singleton.1 hx]; exact hp
  have hb : ∀ x ∈ l ++ [p], x.bits ≤ ((32 : Nat) : Int) := fun x hx => by have := hm.long x hx; unfold longP at this; omega
  have hin : ∀ x ∈ l, x ∈ l ++ [p] := fun x hx => by simp [hx]
  -- what is found among all, and not last, is found without the last one
  have key : ∀ y ∈ l, found (l ++ [p]) a 32 = some y.to → within a y.ad y.bits → (∀ x ∈ l ++ [p], x.bits ≤ ((32 : Nat) : Int) → within a x.ad x.bits → x.bits ≤ y.bits) → found l a 32 = some y.to := fun y hy h1 h2 h4 => by
    rcases found_spec hl hok a 32 (by omega) with ⟨g1, g2⟩ | ⟨x, hx, g1, g2, g3, g4⟩
    · exact (g2 y hy (hb y (hin y hy)) h2).elim
    · rw [g1]
      have e1 := h4 x (hin x hx) g3 g2
      have e2 := g4 y hy (hb y (hin y hy)) h2
      rw [path_one hl hok hx hy (within_path hl hx hy g2 h2 (by omega))]
  refine ⟨fun hw => ?_, fun hw => ?_⟩
  · rcases found_spec hm hok2 a 32 (by omega) with ⟨g1, g2⟩ | ⟨y, hy, g1, g2, g3, g4⟩
    · exact (g2 p (by simp) (hb p (by simp)) hw).elim
    · rw [g1]
      refine ⟨rfl, ?_⟩
      rcases List.mem_append.1 hy with hy' | hy'
      · left; rw [key y hy' g1 g2 g4]
      · right; rw [List.mem_singleton.1 hy']; rfl
  · rcases found_spec hm hok2 a 32 (by omega) with ⟨g1, g2⟩ | ⟨y, hy, g1, g2, g3, g4⟩
    · rw [g1]
      rcases found_spec hl hok a 32 (by omega) with ⟨h1, h2⟩ | ⟨x, hx, h1, h2, h3, h4⟩
      · rw [h1]
      · exact (g2 x (hin x hx) h3 h2).elim
    · rcases List.mem_append.1 hy with hy' | hy'
      · rw [key y hy' g1 g2 g4, g1]
      · rw [List.mem_singleton.1 hy'] at g2; exact (hw g2).elim
end Go.Proofs.Ytiflaenenlcidaa
