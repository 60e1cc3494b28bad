import Derived.Test.YtklbagfnepphmaaPlain
/- the plain laws of averages -/
namespace Go.Proofs.Ytklbagfnepphmaa

/-- The average's numbers, as many times as great as 2 ^ shift. -/
def smooth (d : Int) : Int → List Int → List Int
  | _, [] => []
  | a, n :: r => (a + (n - a / d)) / d :: smooth d (a + (n - a / d)) r

theorem smooth_length (d : Int) : ∀ (l : List Int) (a : Int), (smooth d a l).length = l.length
  | [], _ => rfl
  | n :: r, a => by simp [smooth, smooth_length d r]

theorem ediv_between {a d n lo hi : Int} (hd : 1 ≤ d) (h1 : lo * d ≤ a) (h2 : a < (hi + 1) * d) (h3 : lo ≤ n) (h4 : n ≤ hi) : lo * d ≤ a + (n - a / d) ∧ a + (n - a / d) < (hi + 1) * d := by
  have e := Int.mul_ediv_add_emod a d
  have m0 := Int.emod_nonneg a (show d ≠ 0 by omega)
  have m1 := Int.emod_lt_of_pos a (show 0 < d by omega)
  generalize a % d = r at *
  generalize a / d = q at *
  subst e
  have q1 : lo ≤ q := by
    by_cases h : lo ≤ q
    · exact h
    · have : d * (q + 1) ≤ d * lo := Int.mul_le_mul_of_nonneg_left (by omega) (by omega)
      rw [Int.mul_comm lo d] at h1
      rw [Int.mul_add] at this
      omega
  have q2 : q ≤ hi := by
    by_cases h : q ≤ hi
    · exact h
    · have : d * (hi + 1) ≤ d * q := Int.mul_le_mul_of_nonneg_left (by omega) (by omega)
      rw [Int.mul_comm (hi + 1) d] at h2
      omega
  -- d q + r + n - q, between lo d and (hi + 1) d
  have f1 : (d - 1) * lo ≤ (d - 1) * q := Int.mul_le_mul_of_nonneg_left q1 (by omega)
  have f2 : (d - 1) * q ≤ (d - 1) * hi := Int.mul_le_mul_of_nonneg_left q2 (by omega)
  simp only [Int.sub_mul, Int.one_mul] at f1 f2
  rw [Int.mul_comm lo d, Int.mul_comm (hi + 1) d, Int.mul_add, Int.mul_one]
  generalize d * q = X at *
  generalize d * lo = Y at *
  generalize d * hi = Z at *
  omega

theorem div_between {a d lo hi : Int} (hd : 1 ≤ d) (h1 : lo * d ≤ a) (h2 : a < (hi + 1) * d) : lo ≤ a / d ∧ a / d ≤ hi := by
  refine ⟨(Int.le_ediv_iff_mul_le (by omega)).2 h1, ?_⟩
  have := (Int.ediv_lt_iff_lt_mul (show 0 < d by omega)).2 h2
  omega

/-- Between the least and the greatest. -/
theorem smooth_between {d lo hi : Int} (hd : 1 ≤ d) : ∀ (l : List Int) (a : Int) (k : Nat), k < l.length → lo * d ≤ a → a < (hi + 1) * d → (∀ i, i ≤ k → lo ≤ l.getD i 0 ∧ l.getD i 0 ≤ hi) → lo ≤ (smooth d a l).getD k 0 ∧ (smooth d a l).getD k 0 ≤ hi
  | [], _, k, h, _, _, _ => by simp at h
  | n :: r, a, k, h, h1, h2, hl => by
    have hn := hl 0 (by omega)
    simp only [List.getD_cons_zero] at hn
    obtain ⟨g1, g2⟩ := ediv_between hd h1 h2 hn.1 hn.2
    cases k with
    | zero => simp only [smooth, List.getD_cons_zero]; exact div_between hd g1 g2
    | succ k =>
      simp only [smooth, List.getD_cons_succ]
      refine smooth_between hd r _ k (by simpa using h) g1 g2 fun i hi => ?_
      have := hl (i + 1) (by omega)
      simpa using this

theorem smooth_shift {d b : Int} (hd : 1 ≤ d) : ∀ (l : List Int) (a : Int), smooth d (a + b * d) (l.map (· + b)) = (smooth d a l).map (· + b)
  | [], _ => rfl
  | n :: r, a => by
    simp only [smooth, List.map_cons]
    have e : (a + b * d) / d = a / d + b := Int.add_mul_ediv_right _ _ (by omega)
    have e2 : a + b * d + (n + b - (a / d + b)) = a + (n - a / d) + b * d := by omega
    rw [e, e2, smooth_shift hd r]
    congr 1
    exact Int.add_mul_ediv_right _ _ (by omega)

theorem smooth_same {d b : Int} (hd : 1 ≤ d) : ∀ (n : Nat), smooth d (b * d) (List.replicate n b) = List.replicate n b
  | 0 => rfl
  | n + 1 => by
    simp only [List.replicate_succ, smooth]
    have e : b * d / d = b := Int.mul_ediv_cancel _ (by omega)
    rw [e, show b * d + (b - b) = b * d by omega, e, smooth_same hd n]

theorem Most.shift {w : Nat} {l m : List Int} {k : Nat} {u v b : Int} (hm : ∀ j, j ≤ k → m.getD j 0 = l.getD j 0 + b) (h : Most w l k u) (h' : Most w m k v) : v = u + b := by
  obtain ⟨i, a1, b1, c1⟩ := h.some'
  obtain ⟨j, d, e, f⟩ := h'.some'
  have x1 := h.all' j d e
  have x2 := h'.all' i a1 b1
  rw [hm i a1] at x2
  rw [hm j d] at f
  omega
end Go.Proofs.Ytklbagfnepphmaa
