import Derived.Test.YtabcjhpgamhpoaaPlain
/- Counts, however many come: plain. -/
namespace Go.Proofs.Ytabcjhpgamhpoaa

theorem right_of {k : Int} {l : List Ct} (hk : 1 ≤ k ∧ k ≤ 400) (hu : ∃ b, Up b l) (hl : (l.length : Int) ≤ k) (hm : ∀ c ∈ l, c.2 ≤ mx) : Right k l := by
  obtain ⟨b, hu⟩ := hu
  exact ⟨⟨hk.1, hk.2, hl⟩, okTo_up hu hm⟩
theorem Right.mx {k : Int} {l : List Ct} (h : Right k l) : ∀ c ∈ l, c.2 ≤ mx := (h.2.up0).2
theorem MG.add2 {k : Int} {p : List Int} {l : List Ct} {D : Int} (h : MG k p l D) (hk : 1 ≤ k ∧ k ≤ 400) (hr : Right k l) (id : Int) (h0 : (addP k l id).2 = 0) :
    Right k (addP k l id).1 ∧ ∃ D', MG k (p ++ [id]) (addP k l id).1 D' ∧ (D' = D ∨ (D' = D + 1 ∧ (l.length : Int) = k ∧ cnt l id = 0)) := by
  obtain ⟨b, hu, hb⟩ := up_any h.up id
  have hlen : ((p ++ [id]).length : Int) = p.length + 1 := by simp
  have hmx := hr.mx
  unfold addP at h0 ⊢
  rw [if_pos hr] at h0 ⊢
  by_cases hf : lb l id < l.length ∧ (l.getD (lb l id) c0).1 = id
  · rw [if_pos hf] at h0 ⊢
    obtain ⟨a1, a2, a3⟩ := up_set hu hf.1 hf.2
    by_cases hm : (l.getD (lb l id) c0).2 = Go.Proofs.Ytabcjhpgamhpoaa.mx
    · rw [if_pos hm] at h0; exact absurd h0 (by show ¬ (4 : Int) = 0; omega)
    rw [if_neg hm]
    have hle := (hr.2 _ hf.1).1.2
    refine ⟨right_of hk ⟨b, a1⟩ (by simpa using h.len) fun c hc => ?_, D, ⟨⟨b, a1⟩, by simpa using h.len, fun x => ?_, fun x => ?_, ?_, h.nn⟩, .inl rfl⟩
    · rcases List.mem_or_eq_of_mem_set hc with hc | rfl
      · exact hmx c hc
      · show (l.getD (lb l id) c0).2 + 1 ≤ _; omega
    · show cnt (l.set _ _) x ≤ _; rw [a2, times_app]; have := h.lo x; omega
    · show _ ≤ cnt (l.set _ _) x + D; rw [a2, times_app]; have := h.hi x; omega
    · show Go.Proofs.Ytabcjhpgamhpoaa.sum (l.set _ _) + _ = _; rw [a3, hlen]; have := h.sum; omega
  · rw [if_neg hf]
    by_cases hl : (l.length : Int) < k
    · rw [if_pos hl]
      obtain ⟨a1, a2, a3⟩ := up_put hu hb hf
      have hpl : ((putAt l (lb l id) (id, 1)).length : Int) ≤ k := by
        have : (putAt l (lb l id) (id, 1)).length = l.length + 1 := by
          have := congrArg List.length (List.take_append_drop (lb l id) l)
          simp only [putAt, List.length_append, List.length_cons] at this ⊢; omega
        rw [this]; omega
      refine ⟨right_of hk ⟨b, a1⟩ hpl fun c hc => ?_, D, ⟨⟨b, a1⟩, hpl, fun x => ?_, fun x => ?_, ?_, h.nn⟩, .inl rfl⟩
      · rcases List.mem_append.1 (show c ∈ l.take (lb l id) ++ (id, 1) :: l.drop (lb l id) from hc) with hc | hc
        · exact hmx c (List.mem_of_mem_take hc)
        · rcases List.mem_cons.1 hc with rfl | hc
          · show (1 : Int) ≤ Go.Proofs.Ytabcjhpgamhpoaa.mx; unfold Go.Proofs.Ytabcjhpgamhpoaa.mx; omega
          · exact hmx c (List.mem_of_mem_drop hc)
      · show cnt (putAt _ _ _) x ≤ _; rw [a2, times_app]; have := h.lo x; omega
      · show _ ≤ cnt (putAt _ _ _) x + D; rw [a2, times_app]; have := h.hi x; omega
      · show Go.Proofs.Ytabcjhpgamhpoaa.sum (putAt _ _ _) + _ = _; rw [a3, hlen]; have := h.sum; omega
    · rw [if_neg hl]
      obtain ⟨a1, a2, a3, a4⟩ := up_less hu
      have hc := cnt_none hu hf
      have hle := h.len
      have hlk : (l.length : Int) = k := by omega
      have hpl : ((lessP l 1).length : Int) ≤ k := by omega
      refine ⟨right_of hk ⟨b, a1⟩ hpl fun c hc => ?_, D + 1, ⟨⟨b, a1⟩, hpl, fun x => ?_, fun x => ?_, ?_, by have := h.nn; omega⟩, .inr ⟨rfl, hlk, hc⟩⟩
      · obtain ⟨c', hc', e⟩ := List.mem_map.1 (show c ∈ (l.filter fun c => decide (1 < c.2)).map (fun c => (c.1, c.2 - 1)) from hc)
        have h1 := hmx c' (List.mem_filter.1 hc').1
        rw [← e]; show c'.2 - 1 ≤ _; omega
      · show cnt (lessP l 1) x ≤ _; rw [times_app]; have := h.lo x; have := (a2 x).1; split <;> omega
      · show _ ≤ cnt (lessP l 1) x + (D + 1); rw [times_app]; have := h.hi x; have := (a2 x).2
        by_cases hx : id = x
        · subst hx
          have hn := cnt_nonneg id a1
          rw [if_pos rfl]; omega
        · rw [if_neg hx]; omega
      · show Go.Proofs.Ytabcjhpgamhpoaa.sum (lessP l 1) + _ = _
        rw [hlen, Int.add_mul, Int.one_mul]; have := h.sum; omega
theorem MG.go2 {k : Int} (hk : 1 ≤ k ∧ k ≤ 400) : ∀ {ids p : List Int} {l : List Ct} {D : Int}, MG k p l D → Right k l → (allGo k l ids).2 = 0 → Right k (allGo k l ids).1 ∧ ∃ D', MG k (p ++ ids) (allGo k l ids).1 D'
  | [], p, l, D, h, hr, _ => ⟨hr, D, by simpa [allGo] using h⟩
  | id :: ids, p, l, D, h, hr, h0 => by
    unfold allGo at h0 ⊢
    by_cases e : (addP k l id).2 = 0
    · rw [if_pos e] at h0 ⊢
      obtain ⟨hr', D', h', _⟩ := h.add2 hk hr id e
      have := MG.go2 hk (ids := ids) h' hr' h0
      rwa [List.append_assoc] at this
    · rw [if_neg e] at h0; exact absurd h0 e
theorem near2 (k : Int) (ids : List Int) (hk : 1 ≤ k ∧ k ≤ 400) (h0 : (allP k ids).2 = 0) (id : Int) :
    0 ≤ cnt (allP k ids).1 id ∧ cnt (allP k ids).1 id ≤ times ids id ∧ (times ids id - cnt (allP k ids).1 id) * (k + 1) ≤ ids.length ∧ Right k (allP k ids).1 := by
  have hs : MG k [] [] 0 := ⟨⟨0, trivial⟩, by simp; omega, fun x => by simp [cnt, times], fun x => by simp [cnt, times], by simp [sum], by omega⟩
  have hr0 : Right k [] := ⟨⟨hk.1, hk.2, by simp; omega⟩, fun j hj => by simp at hj⟩
  have e : allP k ids = allGo k [] ids := by unfold allP; rw [if_pos hk]
  rw [e] at h0 ⊢
  obtain ⟨hr, D, h2⟩ := MG.go2 hk hs hr0 h0
  rw [List.nil_append] at h2
  obtain ⟨b, hu⟩ := h2.up
  refine ⟨cnt_nonneg id hu, h2.lo id, ?_, hr⟩
  have h3 := h2.hi id
  have h4 := h2.sum
  have h5 := sum_nonneg hu
  have h6 : (times ids id - cnt (allGo k [] ids).1 id) * (k + 1) ≤ D * (k + 1) := Int.mul_le_mul_of_nonneg_right (by omega) (by omega)
  omega
end Go.Proofs.Ytabcjhpgamhpoaa
