import Derived.Test.YtohabldbjjngjaaPlain2
/- Common divisors: the plain laws. -/
set_option linter.unusedVariables false
namespace Go.Proofs.Ytohabldbjjngjaa

theorem remW_eq {a : W} (ha : a.ok) {b : Int} (hb : 1 ≤ b ∧ b ≤ 18446744073709551615) : remW a b = num a % b := by
  obtain ⟨h1, h2, h3, _⟩ := div_num ha hb
  rw [h1, Int.mul_comm, Int.mul_add_emod_self_left, Int.emod_eq_of_lt h2 h3]
def lcmW (a b : Nat) : W := if a = 0 ∨ b = 0 then ⟨0, 0⟩ else mulW ((a / Nat.gcd a b : Nat) : Int) b
theorem gcd_step {x y : Nat} (h : 0 < y) : Nat.gcd y (x % y) = Nat.gcd x y := by
  rw [Nat.gcd_comm x y, Nat.gcd_rec y x, Nat.gcd_comm]
theorem gcd_pos {a b : Nat} (h : ¬ (a = 0 ∧ b = 0)) : 0 < Nat.gcd a b := by
  rcases Nat.eq_zero_or_pos a with h1 | h1
  · exact Nat.gcd_pos_of_pos_right _ (by omega)
  · exact Nat.gcd_pos_of_pos_left _ h1
theorem gcd_le {a b M : Nat} (ha : a ≤ M) (hb : b ≤ M) : Nat.gcd a b ≤ M := by
  rcases Nat.eq_zero_or_pos a with h1 | h1
  · subst h1; rw [Nat.gcd_zero_left]; exact hb
  · exact Nat.le_trans (Nat.gcd_le_left _ h1) ha
section
variable {a b : Nat} (ha : 1 ≤ a ∧ a ≤ 18446744073709551615) (hb : 1 ≤ b ∧ b ≤ 18446744073709551615)
include ha hb
theorem lcm_num : num (mulW ((a / Nat.gcd a b : Nat) : Int) b) = ((a / Nat.gcd a b * b : Nat) : Int) ∧ (mulW ((a / Nat.gcd a b : Nat) : Int) b).ok := by
  have h1 : a / Nat.gcd a b ≤ a := Nat.div_le_self _ _
  have h2 : ((a / Nat.gcd a b : Nat) : Int) ≤ (a : Int) := Int.ofNat_le.2 h1
  have := mulW_num (a := ((a / Nat.gcd a b : Nat) : Int)) (b := b) ⟨Int.natCast_nonneg _, Int.le_trans h2 (by omega)⟩ ⟨by omega, by omega⟩
  exact ⟨by rw [this.1]; simp, this.2⟩
theorem lcm_a : remW (mulW ((a / Nat.gcd a b : Nat) : Int) b) a = 0 := by
  obtain ⟨h1, h2⟩ := lcm_num ha hb
  rw [remW_eq h2 ⟨by omega, by omega⟩, h1]
  have e : a / Nat.gcd a b * b = a * (b / Nat.gcd a b) := by
    rw [Nat.div_mul_right_comm (Nat.gcd_dvd_left a b), Nat.mul_div_assoc _ (Nat.gcd_dvd_right a b)]
  rw [e]
  simp
theorem lcm_b : remW (mulW ((a / Nat.gcd a b : Nat) : Int) b) b = 0 := by
  obtain ⟨h1, h2⟩ := lcm_num ha hb
  rw [remW_eq h2 ⟨by omega, by omega⟩, h1]
  simp
theorem lcm_g : divW (mulW a b) (Nat.gcd a b) = mulW ((a / Nat.gcd a b : Nat) : Int) b ∧ remW (mulW a b) (Nat.gcd a b) = 0 := by
  obtain ⟨h1, h2⟩ := lcm_num ha hb
  obtain ⟨m1, m2⟩ := mulW_num (a := (a : Int)) (b := (b : Int)) ⟨by omega, by omega⟩ ⟨by omega, by omega⟩
  have hg := gcd_pos (a := a) (b := b) (by omega)
  have hle := gcd_le (a := a) (b := b) (M := 18446744073709551615) (by omega) (by omega)
  obtain ⟨d1, d2, d3, d4⟩ := div_num m2 (b := (Nat.gcd a b : Int)) ⟨by omega, by omega⟩
  have e : a * b = a / Nat.gcd a b * b * Nat.gcd a b := by
    rw [Nat.mul_right_comm, Nat.div_mul_cancel (Nat.gcd_dvd_left a b)]
  have hz : remW (mulW a b) (Nat.gcd a b) = 0 := by
    rw [remW_eq m2 ⟨by omega, by omega⟩, m1, show (a : Int) * b = ((a * b : Nat) : Int) by simp, e]
    simp
  refine ⟨W.eq d4 h2 ?_, hz⟩
  rw [hz, m1, show (a : Int) * b = ((a * b : Nat) : Int) by simp, e, Int.natCast_mul, Int.add_zero] at d1
  rw [h1]
  exact (Int.eq_of_mul_eq_mul_right (by omega) d1).symm
end
/-- What divides both divides the greatest that does. -/
theorem dvd_g {a b d : Nat} (h1 : a % d = 0) (h2 : b % d = 0) : Nat.gcd a b % d = 0 :=
  Nat.mod_eq_zero_of_dvd (Nat.dvd_gcd (Nat.dvd_of_mod_eq_zero h1) (Nat.dvd_of_mod_eq_zero h2))
theorem g_a (a b : Nat) : a % Nat.gcd a b = 0 := Nat.mod_eq_zero_of_dvd (Nat.gcd_dvd_left a b)
theorem g_b (a b : Nat) : b % Nat.gcd a b = 0 := Nat.mod_eq_zero_of_dvd (Nat.gcd_dvd_right a b)
end Go.Proofs.Ytohabldbjjngjaa
