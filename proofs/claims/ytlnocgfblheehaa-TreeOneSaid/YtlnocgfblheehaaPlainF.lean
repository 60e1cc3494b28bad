/- the plain law of fractions -/
set_option linter.unusedVariables false
namespace Go.Proofs.Ytlnocgfblheehaa

structure F where
  num : Int
  den : Int
  deriving DecidableEq

def F.right (a : F) : Prop := 1 ≤ a.den ∧ a.den ≤ 1073741824 ∧ -1073741824 ≤ a.num ∧ a.num ≤ 1073741824
instance (a : F) : Decidable a.right := by unfold F.right; infer_instance

theorem gcd_step (a b : Int) : Int.gcd b (a.tmod b) = Int.gcd a b := by
  unfold Int.gcd
  rw [Int.natAbs_tmod, Nat.gcd_comm a.natAbs b.natAbs, Nat.gcd_rec b.natAbs a.natAbs, Nat.gcd_comm]
theorem tmod_small (a b : Int) (h : b ≠ 0) : (a.tmod b).natAbs < b.natAbs := by
  rw [Int.natAbs_tmod]; exact Nat.mod_lt _ (by omega)

/-- In lowest terms. -/
def F.of (q : Rat) : F := ⟨q.num, q.den⟩
theorem lowest_eq (n d : Int) (hd : 0 < d) : n.tdiv (Int.gcd n d) = (Rat.divInt n d).num ∧ d.tdiv (Int.gcd n d) = ((Rat.divInt n d).den : Int) := by
  have hg : (Int.gcd d n : Int) ∣ n := Int.gcd_dvd_right _ _
  have hg2 : (Int.gcd d n : Int) ∣ d := Int.gcd_dvd_left _ _
  rw [Int.gcd_comm n d, Int.tdiv_eq_ediv_of_dvd hg, Int.tdiv_eq_ediv_of_dvd hg2, Rat.num_divInt, Rat.den_divInt]
  refine ⟨by rw [Int.sign_eq_one_of_pos hd, Int.one_mul], ?_⟩
  rw [if_neg (by omega), Int.natCast_ediv]
  congr 1
  omega
theorem lowest_small (n d : Int) (hd : 0 < d) : (Rat.divInt n d).num.natAbs ≤ n.natAbs ∧ ((Rat.divInt n d).den : Int) ≤ d ∧ 1 ≤ ((Rat.divInt n d).den : Int) := by
  have h := lowest_eq n d hd
  have hp : 0 < (Rat.divInt n d).den := (Rat.divInt n d).den_pos
  refine ⟨?_, ?_, by omega⟩
  · rw [← h.1, Int.natAbs_tdiv]
    exact Nat.div_le_self _ _
  · rw [← h.2, Int.tdiv_eq_ediv_of_nonneg (by omega)]
    exact Int.ediv_le_self _ (by omega)

def F.q (a : F) : Rat := Rat.divInt a.num a.den
theorem F.q_of {r : Rat} : (F.of r).q = r := Rat.num_divInt_den r

/-- A sum, or a product, in lowest terms, if it is small enough. -/
def lowF (q : Rat) : F × Int := if (F.of q).right then (F.of q, 0) else (⟨0, 0⟩, 4)
def addF (a b : F) : F × Int := if a.right ∧ b.right then lowF (a.q + b.q) else (⟨0, 0⟩, 2)
def mulF (a b : F) : F × Int := if a.right ∧ b.right then lowF (a.q * b.q) else (⟨0, 0⟩, 2)

theorem add_q {a b : F} (ha : a.right) (hb : b.right) : a.q + b.q = Rat.divInt (a.num * b.den + b.num * a.den) (a.den * b.den) :=
  Rat.divInt_add_divInt _ _ (by have := ha.1; omega) (by have := hb.1; omega)
theorem mul_q (a b : F) : a.q * b.q = Rat.divInt (a.num * b.num) (a.den * b.den) := Rat.divInt_mul_divInt _ _

/-- Floor -/
theorem floor_go (n d : Int) (hd : 1 ≤ d) : (if n.tmod d < 0 then n.tdiv d - 1 else n.tdiv d) = n / d := by
  rw [Int.tmod_eq_emod, Int.tdiv_eq_ediv]
  have h0 := Int.emod_nonneg n (show d ≠ 0 by omega)
  have h1 := Int.emod_lt_of_pos n (show 0 < d by omega)
  by_cases h : 0 ≤ n ∨ d ∣ n
  · rw [if_pos h, if_pos h]
    simp only [Int.natCast_zero, Int.sub_zero, Int.add_zero]
    rw [if_neg (by omega)]
  · rw [if_neg h, if_neg h, Int.sign_eq_one_of_pos (by omega)]
    rw [if_pos (by omega)]
    omega
theorem tmod_zero (n d : Int) (hd : 1 ≤ d) : (n.tmod d = 0) ↔ n % d = 0 := by
  rw [← Int.dvd_iff_tmod_eq_zero, Int.dvd_iff_emod_eq_zero]
theorem floor_bounds (n d : Int) (hd : 1 ≤ d) : n / d * d ≤ n ∧ n < (n / d + 1) * d := by
  have h0 := Int.emod_nonneg n (show d ≠ 0 by omega)
  have h1 := Int.emod_lt_of_pos n (show 0 < d by omega)
  have h2 := Int.emod_add_mul_ediv n d
  rw [Int.mul_comm d] at h2
  rw [Int.add_mul]
  omega
theorem floor_range (n d : Int) (hd : 1 ≤ d) (hn : -1073741824 ≤ n ∧ n ≤ 1073741824) : -1073741824 ≤ n / d ∧ n / d ≤ 1073741824 := by
  constructor
  · exact Int.le_ediv_of_mul_le (by omega) (by have : -1073741824 * d ≤ -1073741824 * 1 := Int.mul_le_mul_of_nonpos_left (by omega) (by omega); omega)
  · by_cases h : 0 ≤ n
    · exact Int.le_trans (Int.ediv_le_self _ h) hn.2
    · have := Int.ediv_neg_of_neg_of_pos (show n < 0 by omega) (show 0 < d by omega); omega
def cmpF (a b : F) : Int × Int := if a.right ∧ b.right then (if a.num * b.den < b.num * a.den then -1 else if b.num * a.den < a.num * b.den then 1 else 0, 0) else (0, 2)
def floorF (a : F) : Int × Int := if a.right then (a.num / a.den, 0) else (0, 2)
def ceilF (a : F) : Int × Int := if a.right then (0 - (0 - a.num) / a.den, 0) else (0, 2)
end Go.Proofs.Ytlnocgfblheehaa
