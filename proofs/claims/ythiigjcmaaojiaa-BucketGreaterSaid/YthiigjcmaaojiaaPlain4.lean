import Derived.Test.YthiigjcmaaojiaaPlain3
/- the plain law of a greater bucket -/
set_option linter.unusedVariables false
namespace Go.Proofs.Ythiigjcmaaojiaa

theorem run_two {b : Bk} {x s : S} {out : List Bool} {m : Bk} (h : run b [x, s] = some (out, m)) : good b x ∧ good (takeB b x).1 s ∧ out = [(takeB b x).2.1, (takeB (takeB b x).1 s).2.1] := by
  rw [run_cons] at h
  by_cases h1 : good b x
  · rw [if_pos h1, run_cons] at h
    by_cases h2 : good (takeB b x).1 s
    · rw [if_pos h2] at h
      simp [run] at h
      exact ⟨h1, h2, h.1.symm⟩
    · rw [if_neg h2] at h; simp at h
  · rw [if_neg h1] at h; simp at h

theorem take_iff {b : Bk} {s : S} (h : good b s) : ((takeB b s).2.1 = true ↔ s.by' * b.den ≤ (filled b s.at').lv) ∧ (takeB b s).1.lv = (filled b s.at').lv - (if (takeB b s).2.1 = true then s.by' * b.den else 0) ∧ (takeB b s).1.num = b.num ∧ (takeB b s).1.den = b.den ∧ (takeB b s).1.bu = b.bu ∧ (takeB b s).1.at' = s.at' := by
  obtain ⟨h1, h2, h3⟩ := h
  by_cases hl : s.by' * b.den ≤ (filled b s.at').lv
  · rw [take_yes h1 h2 h3 hl]
    refine ⟨by simp [hl], by simp, rfl, rfl, rfl, rfl⟩
  · rw [take_no h1 h2 h3 hl]
    refine ⟨by simp; omega, by simp, rfl, rfl, rfl, rfl⟩

theorem greater {n d b f m : Int} {x s : S} {o1 o2 : List Bool} {m1 m2 : Bk} (hf : 0 ≤ f) (hm : 0 ≤ m) (h1 : run ⟨n, d, b, b * d, 0⟩ [x, s] = some (o1, m1)) (h2 : run ⟨n + f, d, b + m, (b + m) * d, 0⟩ [x, s] = some (o2, m2))
    (he : o1.getD 0 false = o2.getD 0 false) : o1.length = 2 ∧ o2.length = 2 ∧ (o1.getD 1 false = true → o2.getD 1 false = true) := by
  obtain ⟨a1, a2, rfl⟩ := run_two h1
  obtain ⟨b1, b2, rfl⟩ := run_two h2
  refine ⟨rfl, rfl, fun hy => ?_⟩
  simp only [List.getD_cons_zero, List.getD_cons_succ] at he hy ⊢
  obtain ⟨p1, p2, p3, p4, p5, p6⟩ := take_iff a1
  obtain ⟨q1, q2, q3, q4, q5, q6⟩ := take_iff b1
  obtain ⟨r1, _⟩ := take_iff a2
  obtain ⟨t1, _⟩ := take_iff b2
  rw [r1] at hy
  rw [t1]
  rw [← he] at q2
  have ha := a2.2.1.1
  rw [p6] at ha
  have hd := a1.1.2.2.1
  simp only at hd
  generalize (takeB ⟨n, d, b, b * d, 0⟩ x).1 = u at *
  generalize (takeB ⟨n + f, d, b + m, (b + m) * d, 0⟩ x).1 = v at *
  generalize (if (takeB ⟨n, d, b, b * d, 0⟩ x).2.1 = true then x.by' * d else 0) = c at *
  simp only at p3 p4 p5 q3 q4 q5
  unfold filled at hy p2 q2 ⊢
  simp only at hy p2 q2 ⊢
  rw [p3, p4, p5, p6] at hy
  rw [q3, q4, q5, q6]
  have e0 : 0 ≤ (x.at' - 0) * n := Int.mul_nonneg (by have := a1.2.1.1; simp only at this; omega) a1.1.1
  have e1 : 0 ≤ (x.at' - 0) * (n + f) := Int.mul_nonneg (by have := a1.2.1.1; simp only at this; omega) b1.1.1
  have e2 : 0 ≤ (s.at' - x.at') * n := Int.mul_nonneg (by omega) a1.1.1
  have e3 : 0 ≤ (s.at' - x.at') * f := Int.mul_nonneg (by omega) hf
  have e4 : 0 ≤ m * d := Int.mul_nonneg hm (by omega)
  rw [Int.mul_add] at e1 q2 ⊢
  rw [Int.add_mul] at q2 ⊢
  generalize (x.at' - 0) * f = A7 at *
  generalize (s.at' - x.at') * n = A1 at *
  generalize (s.at' - x.at') * f = A2 at *
  generalize (x.at' - 0) * n = A3 at *
  generalize b * d = A4 at *
  generalize m * d = A5 at *
  generalize s.by' * d = A6 at *
  omega
end Go.Proofs.Ythiigjcmaaojiaa
