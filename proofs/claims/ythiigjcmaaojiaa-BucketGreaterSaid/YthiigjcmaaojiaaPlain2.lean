import Derived.Test.YthiigjcmaaojiaaPlain
/- the plain laws of buckets -/
set_option linter.unusedVariables false
namespace Go.Proofs.Ythiigjcmaaojiaa

theorem fill_ok' {b : Bk} {t : Int} (hr : b.right) (ht : okT b t) : fillB b t = (filled b t, 0) := by rw [fillB, if_pos hr, if_pos ht]
theorem take_yes {b : Bk} {s : S} (hr : b.right) (ht : okT b s.at') (hb : okB s.by') (hl : s.by' * b.den ≤ (filled b s.at').lv) : takeB b s = ({ filled b s.at' with lv := (filled b s.at').lv - s.by' * b.den }, true, 0) := by
  rw [takeB, if_pos (by rw [fill_ok' hr ht]), if_pos hb, if_pos hl]
theorem take_no {b : Bk} {s : S} (hr : b.right) (ht : okT b s.at') (hb : okB s.by') (hl : ¬ s.by' * b.den ≤ (filled b s.at').lv) : takeB b s = (filled b s.at', false, 0) := by
  rw [takeB, if_pos (by rw [fill_ok' hr ht]), if_pos hb, if_neg hl]

theorem ready_law {b : Bk} {n : Int} : ((readyB b n).2.1 = false ∧ (readyB b n).1 = 0) ∨
    ((readyB b n).2 = (true, 0) ∧ (∃ c, takeB b ⟨(readyB b n).1, n⟩ = (c, true, 0)) ∧ 0 ≤ b.at' ∧ b.at' ≤ (readyB b n).1 ∧ (readyB b n).1 ≤ 1099511627776 ∧ ((readyB b n).1 = b.at' ∨ ∃ c, takeB b ⟨(readyB b n).1 - 1, n⟩ = (c, false, 0))) := by
  unfold readyB
  rcases Classical.em (¬ b.right) with hr | hr
  · rw [if_neg hr]; exact .inl ⟨rfl, rfl⟩
  have hr := Classical.not_not.1 hr
  rw [if_pos hr]
  rcases Classical.em (¬ okB n) with hb | hb
  · rw [if_neg hb]; exact .inl ⟨rfl, rfl⟩
  have hb := Classical.not_not.1 hb
  rw [if_pos hb]
  have hr' := hr
  unfold Bk.right at hr'
  have hcost := hr.cost hb
  by_cases c1 : n * b.den - b.lv ≤ 0
  · rw [if_pos c1]
    refine .inr ⟨rfl, ⟨_, take_yes hr (by unfold okT; simp only; omega) hb ?_⟩, by omega, by simp only; omega, by simp only; omega, .inl rfl⟩
    unfold filled
    simp only [Int.sub_self, Int.zero_mul]
    omega
  rw [if_neg c1]
  by_cases c2 : b.bu < n ∨ b.num = 0
  · rw [if_pos c2]; exact .inl ⟨rfl, rfl⟩
  rw [if_neg c2]
  by_cases c3 : 1099511627776 < readyT b n
  · rw [if_pos c3]; exact .inl ⟨rfl, rfl⟩
  rw [if_neg c3]
  have hmul : n * b.den ≤ b.bu * b.den := Int.mul_le_mul_of_nonneg_right (by omega) (by omega)
  have e0 := Int.emod_nonneg (n * b.den - b.lv + b.num - 1) (show b.num ≠ 0 by omega)
  have e1 := Int.emod_lt_of_pos (n * b.den - b.lv + b.num - 1) (show 0 < b.num by omega)
  have e2 := Int.emod_add_mul_ediv (n * b.den - b.lv + b.num - 1) b.num
  have hq : 0 ≤ (n * b.den - b.lv + b.num - 1) / b.num := Int.ediv_nonneg (by omega) (by omega)
  have hT : readyT b n = b.at' + (n * b.den - b.lv + b.num - 1) / b.num := rfl
  generalize (n * b.den - b.lv + b.num - 1) / b.num = q at *
  generalize (n * b.den - b.lv + b.num - 1) % b.num = r at *
  rw [Int.mul_comm] at e2
  have hq1 : 1 ≤ q := by
    by_cases h : 1 ≤ q
    · exact h
    · have : q = 0 := by omega
      rw [this, Int.zero_mul] at e2
      omega
  simp only [hT] at c3 ⊢
  have e3 : (q - 1) * b.num = q * b.num - b.num := by rw [Int.sub_mul, Int.one_mul]
  refine .inr ⟨trivial, ⟨_, take_yes hr (by unfold okT; simp only; omega) hb ?_⟩, by omega, by omega, by omega, .inr ⟨_, take_no hr (by unfold okT; simp only; omega) hb ?_⟩⟩
  · unfold filled
    simp only [show b.at' + q - b.at' = q by omega]
    omega
  · unfold filled
    simp only [show b.at' + q - 1 - b.at' = q - 1 by omega, e3]
    omega

theorem time_law {b : Bk} {x y n : Int} (h1 : (fillB b x).2 = 0) (h2 : (fillB (fillB b x).1 y).2 = 0) : fillB b y = fillB (fillB b x).1 y ∧
    ((takeB b ⟨x, n⟩).2.2 = 0 → (fillB (takeB b ⟨x, n⟩).1 y).2 = 0 ∧ (fillB (takeB b ⟨x, n⟩).1 y).1.lv ≤ (fillB b y).1.lv ∧ (takeB b ⟨x, n⟩).1.lv ≤ (fillB b x).1.lv) := by
  have key : ∀ {b : Bk} {t : Int}, (fillB b t).2 = 0 → b.right ∧ okT b t := fun {b t} h => by
    unfold fillB at h
    by_cases hr : b.right
    · by_cases ht : okT b t
      · exact ⟨hr, ht⟩
      · rw [if_pos hr, if_neg ht] at h; simp at h
    · rw [if_neg hr] at h; simp at h
  obtain ⟨hr, hx⟩ := key h1
  rw [fill_ok' hr hx] at h2 ⊢
  obtain ⟨hr2, hy⟩ := key h2
  obtain ⟨hyb, he⟩ := filled_twice hr hx hy
  simp only at hr2 hy ⊢
  rw [fill_ok' hr2 hy, fill_ok' hr hyb, he]
  refine ⟨rfl, fun h3 => ?_⟩
  unfold takeB at h3 ⊢
  simp only [fill_ok' hr hx, if_true] at h3 ⊢
  rcases Classical.em (¬ okB n) with hb | hb
  · rw [if_neg hb] at h3; simp at h3
  have hb := Classical.not_not.1 hb
  rw [if_pos hb]
  have hcost := hr.cost hb
  by_cases hl : n * b.den ≤ (filled b x).lv
  · rw [if_pos hl]
    have hr3 : Bk.right { filled b x with lv := (filled b x).lv - n * b.den } := by
      unfold Bk.right at hr2 ⊢
      simp only
      have hbu : (filled b x).bu = b.bu := rfl
      have hden : (filled b x).den = b.den := rfl
      omega
    have hy3 : okT { filled b x with lv := (filled b x).lv - n * b.den } y := hy
    simp only [fill_ok' hr3 hy3]
    refine ⟨trivial, ?_, by omega⟩
    have e1 : (filled { filled b x with lv := (filled b x).lv - n * b.den } y).lv = (filled b x).lv - n * b.den + min ((y - x) * b.num) (b.bu * b.den - ((filled b x).lv - n * b.den)) := rfl
    have e2 : (filled (filled b x) y).lv = (filled b x).lv + min ((y - x) * b.num) (b.bu * b.den - (filled b x).lv) := rfl
    rw [e1, ← he, e2]
    omega
  · rw [if_neg hl]
    simp only [fill_ok' hr2 hy, he]
    exact ⟨trivial, Int.le_refl _, Int.le_refl _⟩
end Go.Proofs.Ythiigjcmaaojiaa
