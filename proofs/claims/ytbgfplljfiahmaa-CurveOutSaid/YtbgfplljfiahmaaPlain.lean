/- the plain law of curves and services -/
set_option linter.unusedVariables false
namespace Go.Proofs.Ytbgfplljfiahmaa

structure Pr where
  x : Int
  y : Int
  deriving DecidableEq
def Pr.small (p : Pr) : Prop := 0 ≤ p.x ∧ p.x ≤ 1048576 ∧ 0 ≤ p.y ∧ p.y ≤ 1048576
instance (p : Pr) : Decidable p.small := by unfold Pr.small; infer_instance
def okP (c s : Pr) : Prop := c.small ∧ s.small
instance (c s : Pr) : Decidable (okP c s) := by unfold okP; infer_instance
def wrongF (c s : Pr) : Int := if okP c s then 0 else 2
def ceilD (n y : Int) : Int := (n + y - 1) / y
def delayF (c s : Pr) : Int × Int :=
  if okP c s then
    if c.x + c.y = 0 then (0, 0) else if s.y < c.y ∨ s.y = 0 then (0, 3) else (s.x + ceilD (c.x + c.y) s.y - 1, 0)
  else (0, 2)
def backF (c s : Pr) : Int × Int := if (delayF c s).2 = 0 then (c.x + c.y * s.x, 0) else (0, (delayF c s).2)
def chainF (a b : Pr) : Pr × Int :=
  if a.small ∧ b.small then if 1048576 < a.x + b.x then (⟨0, 0⟩, 4) else (⟨a.x + b.x, min a.y b.y⟩, 0)
  else (⟨0, 0⟩, 2)

theorem ceil_range {n y : Int} (hy : 0 < y) (hn : 0 < n) (hb : n ≤ 1099513724928) : 1 ≤ ceilD n y ∧ ceilD n y ≤ 1099513724928 := by
  unfold ceilD
  refine ⟨Int.le_ediv_of_mul_le hy (by omega), ?_⟩
  by_cases h : n ≤ y
  · have : (n + y - 1) / y ≤ (2 * y - 1) / y := Int.ediv_le_ediv hy (by omega)
    have h2 : (2 * y - 1) / y ≤ 1 := Int.le_of_lt_add_one ((Int.ediv_lt_iff_lt_mul hy).2 (by omega))
    omega
  · have h2 : (n + y - 1) / y ≤ n := by
      have : (n + y - 1) / y < n + 1 := (Int.ediv_lt_iff_lt_mul hy).2 (by
        have : n * 1 ≤ n * y := Int.mul_le_mul_of_nonneg_left (by omega) (by omega)
        rw [Int.add_mul, Int.one_mul]; omega)
      omega
    omega
theorem ceil_mono {n m y : Int} (hy : 0 < y) (h : n ≤ m) : ceilD n y ≤ ceilD m y := Int.ediv_le_ediv hy (by omega)

theorem chain_comm (a b : Pr) : chainF a b = chainF b a := by
  unfold chainF
  rw [Int.add_comm a.x b.x, Int.min_comm]
  by_cases h : a.small ∧ b.small
  · rw [if_pos h, if_pos (show b.small ∧ a.small from ⟨h.2, h.1⟩)]
  · rw [if_neg h, if_neg (show ¬ (b.small ∧ a.small) from fun x => h ⟨x.2, x.1⟩)]

theorem delay_ok {c s : Pr} (h : (delayF c s).2 = 0) : okP c s ∧ (c.x + c.y = 0 ∧ (delayF c s).1 = 0 ∨ 0 < c.x + c.y ∧ c.y ≤ s.y ∧ 0 < s.y ∧ (delayF c s).1 = s.x + ceilD (c.x + c.y) s.y - 1) := by
  unfold delayF at h ⊢
  by_cases ho : okP c s
  · rw [if_pos ho] at h ⊢
    have ho' := ho
    unfold okP Pr.small at ho'
    refine ⟨ho, ?_⟩
    by_cases h0 : c.x + c.y = 0
    · rw [if_pos h0]; exact .inl ⟨h0, rfl⟩
    · rw [if_neg h0] at h ⊢
      by_cases h1 : s.y < c.y ∨ s.y = 0
      · rw [if_pos h1] at h; simp at h
      · rw [if_neg h1]; exact .inr ⟨by omega, by omega, by omega, rfl⟩
  · rw [if_neg ho] at h; simp at h

theorem more_law {c s : Pr} {b r l : Int} (hb : 0 ≤ b) (hr : 0 ≤ r) (hl : 0 ≤ l) (h1 : (delayF c s).2 = 0) (h2 : (delayF ⟨c.x + b, c.y + r⟩ ⟨s.x + l, s.y⟩).2 = 0) : (delayF c s).1 ≤ (delayF ⟨c.x + b, c.y + r⟩ ⟨s.x + l, s.y⟩).1 := by
  obtain ⟨o1, h1⟩ := delay_ok h1
  obtain ⟨o2, h2⟩ := delay_ok h2
  unfold okP Pr.small at o1 o2
  simp only at h2 o2
  rcases h1 with ⟨a, e⟩ | ⟨a, a2, a3, e⟩ <;> rcases h2 with ⟨d, f⟩ | ⟨d, d2, d3, f⟩ <;> rw [e, f]
  · exact Int.le_refl _
  · have := ceil_range d3 d (by omega)
    omega
  · omega
  · have := ceil_mono a3 (show c.x + c.y ≤ c.x + b + (c.y + r) by omega)
    omega

theorem chain_law {c s t : Pr} (h1 : (chainF s t).2 = 0) (h2 : (delayF c s).2 = 0) (h4 : (delayF ⟨(backF c s).1, c.y⟩ t).2 = 0) :
    (delayF c (chainF s t).1).2 = 0 ∧ (delayF c (chainF s t).1).1 ≤ (delayF c s).1 + (delayF ⟨(backF c s).1, c.y⟩ t).1 := by
  have hb : (backF c s).1 = c.x + c.y * s.x := by rw [backF, if_pos h2]
  rw [hb] at h4 ⊢
  obtain ⟨o1, e1⟩ := delay_ok h2
  obtain ⟨o2, e2⟩ := delay_ok h4
  have hch : chainF s t = (⟨s.x + t.x, min s.y t.y⟩, 0) ∧ s.x + t.x ≤ 1048576 := by
    unfold chainF at h1 ⊢
    by_cases h : s.small ∧ t.small
    · rw [if_pos h] at h1 ⊢
      by_cases hx : 1048576 < s.x + t.x
      · rw [if_pos hx] at h1; simp at h1
      · rw [if_neg hx]; exact ⟨rfl, by omega⟩
    · rw [if_neg h] at h1; simp at h1
  rw [hch.1]
  have hx := hch.2
  have o1' := o1
  have o2' := o2
  unfold okP Pr.small at o1' o2'
  simp only at o2' e2
  have ok : okP c ⟨s.x + t.x, min s.y t.y⟩ := ⟨o1.1, by unfold Pr.small; simp only; omega⟩
  have hp : 0 ≤ c.y * s.x := Int.mul_nonneg (by omega) (by omega)
  by_cases h0 : c.x + c.y = 0
  · have : delayF c ⟨s.x + t.x, min s.y t.y⟩ = (0, 0) := by rw [delayF, if_pos ok, if_pos h0]
    rw [this]
    refine ⟨rfl, ?_⟩
    rcases e1 with ⟨a, e⟩ | ⟨a, a2, a3, e⟩
    · rw [e]
      rcases e2 with ⟨d, f⟩ | ⟨d, d2, d3, f⟩
      · rw [f]; simp
      · rw [f]
        have := ceil_range d3 d (by omega)
        simp only
        omega
    · omega
  · rcases e1 with ⟨a, e⟩ | ⟨a, a2, a3, e⟩
    · omega
    rcases e2 with ⟨d, f⟩ | ⟨d, d2, d3, f⟩
    · omega
    have hd : delayF c ⟨s.x + t.x, min s.y t.y⟩ = (s.x + t.x + ceilD (c.x + c.y) (min s.y t.y) - 1, 0) := by
      rw [delayF, if_pos ok, if_neg h0, if_neg (by simp only; omega)]
    rw [hd, e, f]
    refine ⟨rfl, ?_⟩
    have r1 := ceil_range a3 a (by omega)
    have r2 := ceil_range d3 d (by omega)
    simp only
    by_cases hm : s.y ≤ t.y
    · rw [show min s.y t.y = s.y by omega]; omega
    · rw [show min s.y t.y = t.y by omega]
      have := ceil_mono d3 (show c.x + c.y ≤ c.x + c.y * s.x + c.y by omega)
      omega
end Go.Proofs.Ytbgfplljfiahmaa
