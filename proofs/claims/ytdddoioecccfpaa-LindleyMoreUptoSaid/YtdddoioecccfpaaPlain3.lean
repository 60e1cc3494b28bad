import Derived.Test.YtdddoioecccfpaaPlain2
/- the laws of queues -/
set_option linter.unusedVariables false
namespace Go.Proofs.Ytdddoioecccfpaa

theorem reichGo (t : Int) (s : S) (r : List S) : ∀ (l : List S) (x y f : Int), f = x + y → 0 ≤ x → y ≤ t → (∀ a ∈ l, ¬ a.bad ∧ y ≤ a.at' ∧ a.at' ≤ t) → l.Pairwise (fun a b => a.at' ≤ b.at') →
    0 ≤ (workGo t x y l).1 ∧ (workGo t x y l).2 ≤ t ∧ (waitsGo f (l ++ s :: r)).getD l.length 0 = max ((workGo t x y l).1 + (workGo t x y l).2) s.at' - s.at'
  | [], x, y, f, hf, hx, hy, _, _ => by
    simp only [workGo, List.nil_append, waitsGo, List.length_nil, List.getD_cons_zero]
    exact ⟨hx, hy, by rw [hf]⟩
  | a :: l, x, y, f, hf, hx, hy, h, hp => by
    have ha := h a (by simp)
    obtain ⟨hb, h1, h2⟩ := ha
    unfold S.bad at hb
    cases hp with
    | cons hp1 hp2 =>
      have ih := reichGo t s r l (max (x - (a.at' - y)) 0 + a.by') a.at' (max f a.at' + a.by') (by omega) (by omega) h2 (fun b hb => ⟨(h b (by simp [hb])).1, hp1 b hb, (h b (by simp [hb])).2.2⟩) hp2
      simp only [workGo, if_neg (show ¬ t < a.at' by omega), List.cons_append, waitsGo, List.length_cons, List.getD_cons_succ]
      exact ih

theorem reich {l : List S} (h : Fine l) {k : Nat} (hk : k < l.length) : work (l.take k) (l.getD k s0).at' = (waits l).getD k 0 := by
  have hd : l = l.take k ++ l.getD k s0 :: l.drop (k + 1) := by
    have e : l.getD k s0 = l[k] := by simp [List.getD_eq_getElem?_getD, hk]
    rw [e, ← List.drop_eq_getElem_cons hk, List.take_append_drop]
  have hl : (l.take k).length = k := by simp; omega
  have hg := h.get hk
  obtain ⟨h1, h2, h3⟩ := reichGo (l.getD k s0).at' (l.getD k s0) (l.drop (k + 1)) (l.take k) 0 0 0 (by omega) (by omega) hg.1 (fun a ha => by
    obtain ⟨i, hi, rfl⟩ := List.getElem_of_mem ha
    have hi' : i < k := by simpa [hl] using hi
    have e : (l.take k)[i] = l.getD i s0 := by simp [List.getD_eq_getElem?_getD, show i < l.length by omega]
    rw [e]
    have := h.get (i := i) (by omega)
    exact ⟨by unfold S.bad; omega, this.1, h.le (by omega) hk⟩) (h.take k).row
  rw [hl, ← hd] at h3
  unfold waits
  rw [h3]
  unfold work workEnd
  rw [if_neg (by omega)]
  omega

def come (t : Int) : List S → Int
  | [] => 0
  | s :: r => (if s.at' = t then s.by' else 0) + come t r

theorem come_nil (t : Int) : come t [] = 0 := rfl
theorem come_cons (t : Int) (s : S) (r : List S) : come t (s :: r) = (if s.at' = t then s.by' else 0) + come t r := rfl
theorem come_none {t : Int} : ∀ {l : List S}, (∀ a ∈ l, t < a.at') → come t l = 0
  | [], _ => rfl
  | s :: r, h => by
    unfold come
    rw [if_neg (by have := h s (by simp); omega), come_none fun a ha => h a (by simp [ha])]
    rfl
theorem workGo_stop {t x y : Int} : ∀ {l : List S}, (∀ a ∈ l, t < a.at') → workGo t x y l = (x, y)
  | [], _ => rfl
  | s :: r, h => by unfold workGo; rw [if_pos (h s (by simp))]

theorem stepB (t : Int) : ∀ (l : List S) (x y : Int), 0 ≤ x → y ≤ t → (∀ a ∈ l, ¬ a.bad ∧ t ≤ a.at') → l.Pairwise (fun a b => a.at' ≤ b.at') → workEnd t (workGo t x y l) = max (x - (t - y)) 0 + come t l
  | [], x, y, hx, hy, _, _ => by
    unfold workGo workEnd come
    simp only
    rw [if_neg (by omega)]
    omega
  | s :: r, x, y, hx, hy, h, hp => by
    obtain ⟨hb, h1⟩ := h s (by simp)
    unfold S.bad at hb
    cases hp with
    | cons hp1 hp2 =>
      by_cases hs : t < s.at'
      · have hr : ∀ a ∈ s :: r, t < a.at' := fun a ha => by
          rcases List.mem_cons.1 ha with rfl | ha
          · exact hs
          · have := hp1 a ha; omega
        rw [workGo_stop hr, come_none hr]
        unfold workEnd
        simp only
        rw [if_neg (by omega)]
        omega
      · have he : s.at' = t := by omega
        unfold workGo come
        rw [if_neg hs, if_pos he, stepB t r _ _ (by omega) (by omega) (fun a ha => ⟨(h a (by simp [ha])).1, (h a (by simp [ha])).2⟩) hp2]
        omega

theorem stepA (t : Int) : ∀ (l : List S) (x y : Int), 0 ≤ x → 0 ≤ y → (y ≤ t ∨ (x = 0 ∧ y = 0)) → (∀ a ∈ l, ¬ a.bad ∧ y ≤ a.at') → l.Pairwise (fun a b => a.at' ≤ b.at') →
    workEnd (t + 1) (workGo (t + 1) x y l) = max (workEnd t (workGo t x y l) - 1) 0 + come (t + 1) l := by
  intro l
  induction l with
  | nil =>
    intro x y hx hy0 hy _ _
    unfold workGo workEnd come
    simp only
    split <;> split <;> omega
  | cons s r ih =>
    intro x y hx hy0 hy h hp
    obtain ⟨hb, h1⟩ := h s (by simp)
    have hb' := hb
    unfold S.bad at hb
    by_cases hs : t < s.at'
    · -- both stop here, but for those that come now
      have hr : ∀ a ∈ s :: r, t < a.at' := fun a ha => by
        rcases List.mem_cons.1 ha with rfl | ha
        · exact hs
        · cases hp with | cons hp1 _ => have := hp1 a ha; omega
      rw [workGo_stop hr]
      by_cases hy1 : y ≤ t + 1
      · rw [stepB (t + 1) (s :: r) x y hx hy1 (fun a ha => ⟨(h a ha).1, by have := hr a ha; omega⟩) hp]
        unfold workEnd
        simp only
        split <;> omega
      · have hr2 : ∀ a ∈ s :: r, t + 1 < a.at' := fun a ha => by have := (h a ha).2; omega
        rw [workGo_stop hr2, come_none hr2]
        unfold workEnd
        simp only
        rw [if_pos (by omega), if_pos (by omega)]
        omega
    · cases hp with
      | cons hp1 hp2 =>
        have := ih (max (x - (s.at' - y)) 0 + s.by') s.at' (by omega) (by omega) (.inl (by omega)) (fun a ha => ⟨(h a (by simp [ha])).1, hp1 a ha⟩) hp2
        unfold workGo come
        rw [if_neg hs, if_neg (show ¬ t + 1 < s.at' by omega), if_neg (by omega), this]
        omega

theorem there_none {t : Int} : ∀ {l : List S} {v : List Int}, (∀ a ∈ l, t < a.at') → thereGo t l v = 0
  | [], _, _ => by simp [thereGo]
  | s :: r, [], _ => by simp [thereGo]
  | s :: r, w :: v, h => by
    unfold thereGo
    rw [if_neg (by have := h s (by simp); omega), there_none fun a ha => h a (by simp [ha])]
    rfl
theorem there_nonneg (t : Int) : ∀ (l : List S) (v : List Int), 0 ≤ thereGo t l v
  | [], v => by simp [thereGo]
  | s :: r, [] => by simp [thereGo]
  | s :: r, w :: v => by
    have := there_nonneg t r v
    unfold thereGo
    split <;> omega

theorem stepC (t : Int) : ∀ (l : List S) (x y f : Int), f = x + y → 0 ≤ x → y ≤ t → (∀ a ∈ l, ¬ a.bad ∧ y ≤ a.at') → l.Pairwise (fun a b => a.at' ≤ b.at') →
    ((0 < thereGo t l (waitsGo f l) ∨ t < f) ↔ 0 < workEnd t (workGo t x y l)) := by
  intro l
  induction l with
  | nil =>
    intro x y f hf hx hy _ _
    unfold workGo workEnd
    simp only [thereGo]
    rw [if_neg (by omega)]
    omega
  | cons s r ih =>
    intro x y f hf hx hy h hp
    obtain ⟨hb, h1⟩ := h s (by simp)
    unfold S.bad at hb
    by_cases hs : t < s.at'
    · have hr : ∀ a ∈ s :: r, t < a.at' := fun a ha => by
        rcases List.mem_cons.1 ha with rfl | ha
        · exact hs
        · cases hp with | cons hp1 _ => have := hp1 a ha; omega
      rw [workGo_stop hr, there_none hr]
      unfold workEnd
      simp only
      rw [if_neg (by omega)]
      omega
    · cases hp with
      | cons hp1 hp2 =>
        have := ih (max (x - (s.at' - y)) 0 + s.by') s.at' (max f s.at' + s.by') (by omega) (by omega) (by omega) (fun a ha => ⟨(h a (by simp [ha])).1, hp1 a ha⟩) hp2
        have hn := there_nonneg t r (waitsGo (max f s.at' + s.by') r)
        unfold workGo waitsGo thereGo
        rw [if_neg hs, ← this]
        by_cases hc : t < max f s.at' + s.by'
        · rw [if_pos (by omega)]; omega
        · rw [if_neg (by omega)]; omega

theorem work_law {l : List S} (h : Fine l) (t : Int) : work l (t + 1) = max (work l t - 1) 0 + come (t + 1) l ∧ (0 < there l t ↔ 0 < work l t) := by
  have hall : ∀ a ∈ l, ¬ a.bad ∧ 0 ≤ a.at' := fun a ha => ⟨h.all a ha, by have := h.all a ha; unfold S.bad at this; omega⟩
  refine ⟨stepA t l 0 0 (by omega) (by omega) (.inr ⟨rfl, rfl⟩) hall h.row, ?_⟩
  by_cases ht : 0 ≤ t
  · have := stepC t l 0 0 0 (by omega) (by omega) ht hall h.row
    unfold there work waits
    rw [← this]
    omega
  · have hr : ∀ a ∈ l, t < a.at' := fun a ha => by have := (hall a ha).2; omega
    unfold there work
    rw [there_none hr, workGo_stop hr]
    unfold workEnd
    simp only
    rw [if_pos (by omega)]
theorem work_range {l : List S} (h : Fine l) (t : Int) : 0 ≤ work l t := by
  unfold work workEnd
  split <;> omega
theorem workGo_most (t : Int) : ∀ (l : List S) (x y : Int), (∀ a ∈ l, ¬ a.bad ∧ y ≤ a.at') → l.Pairwise (fun a b => a.at' ≤ b.at') → 0 ≤ x → (workGo t x y l).1 ≤ x + (l.length : Int) * 1048576
  | [], x, y, _, _, _ => by simp [workGo]
  | s :: r, x, y, h, hp, hx => by
    have hb := (h s (by simp)).1
    have h1 := (h s (by simp)).2
    unfold S.bad at hb
    unfold workGo
    by_cases hs : t < s.at'
    · rw [if_pos hs]; simp only [List.length_cons]; omega
    · rw [if_neg hs]
      cases hp with
      | cons hp1 hp2 =>
        have := workGo_most t r (max (x - (s.at' - y)) 0 + s.by') s.at' (fun a ha => ⟨(h a (by simp [ha])).1, hp1 a ha⟩) hp2 (by omega)
        simp only [List.length_cons]
        omega
theorem work_most {l : List S} (h : Fine l) (t : Int) : work l t ≤ 419430400 := by
  have hall : ∀ a ∈ l, ¬ a.bad ∧ 0 ≤ a.at' := fun a ha => ⟨h.all a ha, by have := h.all a ha; unfold S.bad at this; omega⟩
  have := workGo_most t l 0 0 hall h.row (by omega)
  have := h.len
  unfold work workEnd
  split <;> omega
end Go.Proofs.Ytdddoioecccfpaa
