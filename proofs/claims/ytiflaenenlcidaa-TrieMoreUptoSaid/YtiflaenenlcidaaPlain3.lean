import Derived.Test.YtiflaenenlcidaaPlain2
/- the laws of what is found -/
set_option linter.unusedVariables false
namespace Go.Proofs.Ytiflaenenlcidaa

/-- The most bits of a prefix that the address is within; -1: there is none. -/
def mostOf (l : List Px) (a : A) : Int := l.foldl (fun m x => if within a x.ad x.bits then max m x.bits else m) (-1)
theorem mostOf_snoc (l : List Px) (x : Px) (a : A) : mostOf (l ++ [x]) a = if within a x.ad x.bits then max (mostOf l a) x.bits else mostOf l a := by simp [mostOf]
theorem mostOf_spec (a : A) : ∀ l : List Px, -1 ≤ mostOf l a ∧ mostOf l a ≤ 32 ∧ (∀ x ∈ l, within a x.ad x.bits → x.bits ≤ mostOf l a) ∧ (mostOf l a = -1 ∨ ∃ x ∈ l, within a x.ad x.bits ∧ x.bits = mostOf l a) := by
  apply list_snoc_ind
  · exact ⟨by simp [mostOf], by simp [mostOf], by simp, .inl rfl⟩
  · rintro l y ⟨h0, h1, h2, h3⟩
    rw [mostOf_snoc]
    by_cases hw : within a y.ad y.bits
    · rw [if_pos hw]
      have hb := hw.1
      have hb2 := hw.2.1
      refine ⟨by omega, by omega, fun x hx hxw => ?_, .inr ?_⟩
      · rcases List.mem_append.1 hx with hx | hx
        · have := h2 x hx hxw; omega
        · rw [List.mem_singleton.1 hx]; omega
      · by_cases hm : mostOf l a ≤ y.bits
        · exact ⟨y, by simp, hw, by omega⟩
        · rcases h3 with h3 | ⟨x, hx, h4, h5⟩
          · omega
          · exact ⟨x, by simp [hx], h4, by omega⟩
    · rw [if_neg hw]
      refine ⟨h0, h1, fun x hx hxw => ?_, ?_⟩
      · rcases List.mem_append.1 hx with hx | hx
        · exact h2 x hx hxw
        · rw [List.mem_singleton.1 hx] at hxw; exact (hw hxw).elim
      · rcases h3 with h3 | ⟨x, hx, h4⟩
        · exact .inl h3
        · exact .inr ⟨x, by simp [hx], h4⟩

/-- The law of the longest one. -/
theorem longest {l : List Px} (hf : Fine l) (hok : ∀ x ∈ l, x.ad.ok) (a : A) : (found l a 32 = none ∧ mostOf l a = -1) ∨ ∃ v, found l a 32 = some v ∧ 0 ≤ mostOf l a ∧ ∃ x ∈ l, x.bits = mostOf l a ∧ x.to = v ∧ within a x.ad x.bits := by
  obtain ⟨m0, m1, m2, m3⟩ := mostOf_spec a l
  have hb : ∀ x ∈ l, x.bits ≤ ((32 : Nat) : Int) := fun x hx => by have := hf.long x hx; unfold longP at this; omega
  rcases found_spec hf hok a 32 (by omega) with ⟨h1, h2⟩ | ⟨x, hx, h1, h2, h3, h4⟩
  · left
    refine ⟨h1, ?_⟩
    rcases m3 with m3 | ⟨x, hx, hw, _⟩
    · exact m3
    · exact (h2 x hx (hb x hx) hw).elim
  · right
    have e : x.bits = mostOf l a := by
      have := m2 x hx h2
      rcases m3 with m3 | ⟨y, hy, hw, hyb⟩
      · have := h2.1; omega
      · have := h4 y hy (hb y hy) hw; omega
    exact ⟨x.to, h1, by have := h2.1; omega, x, hx, e, rfl, h2⟩

theorem within_path {l : List Px} (hf : Fine l) {x y : Px} (hx : x ∈ l) (hy : y ∈ l) {a : A} (h1 : within a x.ad x.bits) (h2 : within a y.ad y.bits) (hb : x.bits = y.bits) : x.path = y.path := by
  have e1 := (path_within hf hx (a := a) (k := x.bits.toNat) (by have := h1.2.1; omega)).2 ⟨by have := h1.1; omega, h1⟩
  have e2 := (path_within hf hy (a := a) (k := x.bits.toNat) (by have := h1.2.1; omega)).2 ⟨by have := h1.1; omega, h2⟩
  rw [e1, e2]
/-- In whatever order they stand. -/
theorem found_congr {l m : List Px} (hl : Fine l) (hm : Fine m) (hok : ∀ x ∈ l, x.ad.ok) (h : ∀ x, x ∈ l ↔ x ∈ m) (a : A) : found l a 32 = found m a 32 := by
  have hok2 : ∀ x ∈ m, x.ad.ok := fun x hx => hok x ((h x).2 hx)
  have hb : ∀ x ∈ l, x.bits ≤ ((32 : Nat) : Int) := fun x hx => by have := hl.long x hx; unfold longP at this; omega
  rcases found_spec hl hok a 32 (by omega) with ⟨h1, h2⟩ | ⟨x, hx, h1, h2, h3, h4⟩
  · rcases found_spec hm hok2 a 32 (by omega) with ⟨g1, _⟩ | ⟨y, hy, g1, g2, _⟩
    · rw [h1, g1]
    · have hy' := (h y).2 hy
      exact (h2 y hy' (hb y hy') g2).elim
  · rcases found_spec hm hok2 a 32 (by omega) with ⟨g1, g2⟩ | ⟨y, hy, g1, g2, g3, g4⟩
    · exact (g2 x ((h x).1 hx) h3 h2).elim
    · have hy' := (h y).2 hy
      have e1 := h4 y hy' g3 g2
      have e2 := g4 x ((h x).1 hx) h3 h2
      have := path_one hl hok hx hy' (within_path hl hx hy' h2 g2 (by omega))
      rw [h1, g1, this]

/-- One prefix of no bits more. -/
theorem found_all {l : List Px} {to : Int} (hl : Fine l) (hm : Fine (l ++ [⟨⟨0, 0, 0, 0⟩, 0, to⟩])) (hok : ∀ x ∈ l, x.ad.ok) (a : A) :
    found (l ++ [⟨⟨0, 0, 0, 0⟩, 0, to⟩]) a 32 = some ((found l a 32).getD to) := by
  have hok2 : ∀ x ∈ l ++ [(⟨⟨0, 0, 0, 0⟩, 0, to⟩ : Px)], x.ad.ok := fun x hx => by
    rcases List.mem_append.1 hx with hx | hx
    · exact hok x hx
    · rw [List.mem_singleton.1 hx]; simp [A.ok]
  have hb : ∀ x ∈ l, x.bits ≤ ((32 : Nat) : Int) := fun x hx => by have := hl.long x hx; unfold longP at this; omega
  have hr : (⟨⟨0, 0, 0, 0⟩, 0, to⟩ : Px) ∈ l ++ [(⟨⟨0, 0, 0, 0⟩, 0, to⟩ : Px)] := by simp
  have hrw : within a ⟨0, 0, 0, 0⟩ 0 := within.zero _ _
  rcases found_spec hm hok2 a 32 (by omega) with ⟨g1, g2⟩ | ⟨y, hy, g1, g2, g3, g4⟩
  · exact (g2 _ hr (by simp) hrw).elim
  · rw [g1]
    rcases found_spec hl hok a 32 (by omega) with ⟨h1, h2⟩ | ⟨x, hx, h1, h2, h3, h4⟩
    · rw [h1]
      rcases List.mem_append.1 hy with hy | hy
      · exact (h2 y hy (hb y hy) g2).elim
      · rw [List.mem_singleton.1 hy]; rfl
    · rw [h1]
      have hx2 : x ∈ l ++ [(⟨⟨0, 0, 0, 0⟩, 0, to⟩ : Px)] := by simp [hx]
      have e1 := g4 x hx2 h3 h2
      have key : x.bits = y.bits := by
        rcases List.mem_append.1 hy with hy' | hy'
        · have := h4 y hy' (hb y hy') g2; omega
        · have hy0 := List.mem_singleton.1 hy'
          have := h2.1
          rw [hy0] at e1 ⊢
          simp only at e1 ⊢
          omega
      have := path_one hm hok2 hx2 hy (within_path hm hx2 hy h2 g2 key)
      rw [this]; rfl
end Go.Proofs.Ytiflaenenlcidaa
