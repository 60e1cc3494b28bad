import Derived.Test.YtabjglejldapgaaPlain
/- Sharing out by weights, in plain Lean: what each one gets. -/
namespace Go.Proofs.Ytabjglejldapgaa

structure F where
  num : Int
  den : Int
  deriving DecidableEq
def f0 : F := ⟨0, 0⟩
def getF (s : Wants) (num den : Int) (i : Nat) : F := if den = 0 ∨ sat s num den i then ⟨s.w i, 1⟩ else ⟨s.c i * num, den⟩
/-- What the first ones get. -/
def gl (s : Wants) (num den : Int) : Nat → List F
  | 0 => []
  | n + 1 => gl s num den n ++ [getF s num den n]
theorem gl_len (s : Wants) (num den : Int) : ∀ n, (gl s num den n).length = n
  | 0 => rfl
  | n + 1 => by simp [gl, gl_len s num den n]
theorem gl_get (s : Wants) (num den : Int) : ∀ n i, i < n → (gl s num den n).getD i f0 = getF s num den i
  | 0, i, h => by omega
  | n + 1, i, h => by
    simp only [gl, List.getD_eq_getElem?_getD]
    by_cases hi : i < n
    · rw [List.getElem?_append_left (by rw [gl_len]; exact hi)]
      have := gl_get s num den n i hi
      rwa [List.getD_eq_getElem?_getD] at this
    · obtain rfl : i = n := by omega
      rw [List.getElem?_append_right (by rw [gl_len]; omega), gl_len]
      simp
/-- All is in range. -/
theorem lev_range {s : Wants} {all num den : Int} (hok : s.ok all) (h : IsLev s all num den) : 0 ≤ num ∧ num ≤ 1048576 ∧ 0 ≤ den ∧ den ≤ 16000 := by
  rcases h with ⟨a1, a2, a3⟩ | ⟨a1, a2, a3, a4⟩
  · omega
  · have h1 := sI_nonneg (f := fun i => if sat s num den i then s.w i else 0) s.n (fun i hi => by
      have := (hok.w i hi).1
      show 0 ≤ (if _ then s.w i else 0)
      split <;> omega)
    have h2 := sI_bound (f := fun i => if sat s num den i then 0 else s.c i) (b := 1000) s.n (fun i hi => by
      have := hok.c i hi
      show 0 ≤ (if _ then 0 else s.c i) ∧ (if _ then 0 else s.c i) ≤ 1000
      split <;> omega)
    have := hok.pos
    have := hok.len
    omega
/-- Nobody has more than it wants, and nobody less than nothing. -/
theorem getF_range {s : Wants} {all num den : Int} (hok : s.ok all) (h : IsLev s all num den) {i : Nat} (hi : i < s.n) : 1 ≤ (getF s num den i).den ∧ (getF s num den i).den ≤ 16000 ∧ 0 ≤ (getF s num den i).num ∧ (getF s num den i).num ≤ s.w i * (getF s num den i).den ∧ (getF s num den i).num ≤ 1048576000 ∧ ((getF s num den i).den = 1 ∨ (getF s num den i).den = den) := by
  have hr := lev_range hok h
  have hw := hok.w i hi
  have hc := hok.c i hi
  unfold getF
  by_cases hs : den = 0 ∨ sat s num den i
  · rw [if_pos hs]
    exact ⟨by show (1 : Int) ≤ 1; omega, by show (1 : Int) ≤ _; omega, hw.1, by show s.w i ≤ s.w i * 1; omega, by show s.w i ≤ _; omega, Or.inl rfl⟩
  · rw [if_neg hs]
    have hd : den ≠ 0 := fun e => hs (Or.inl e)
    have hns : ¬ sat s num den i := fun e => hs (Or.inr e)
    unfold sat at hns
    have m1 := Int.mul_nonneg (show 0 ≤ s.c i by omega) hr.1
    have m2 := Int.mul_le_mul hc.2 hr.2.1 hr.1 (by omega)
    refine ⟨by show 1 ≤ den; omega, by show den ≤ _; omega, m1, by show s.c i * num ≤ s.w i * den; omega, by show s.c i * num ≤ _; omega, Or.inr rfl⟩
end Go.Proofs.Ytabjglejldapgaa
