import Derived.Test.YteopnmfdncjbhaaPlain
/- the plain laws of one packet -/
namespace Go.Proofs.Yteopnmfdncjbhaa

theorem come_eq {m : M} {s : S} {had : Int} (h : good m s had) : come m s = min ((s.at' - m.at') * m.co) (m.bu - m.fi + m.ex - m.se) := by
  obtain ⟨⟨h1, h2, h3, h4, h5, h6, h7, h8, h9, h10, h11, h12⟩, _, _, h15, h16, _⟩ := h
  unfold come
  split
  · rfl
  · rename_i hc
    have hco : 0 < m.co := by omega
    have hq : (m.bu - m.fi + m.ex - m.se) / m.co < s.at' - m.at' := by omega
    have := (Int.ediv_lt_iff_lt_mul hco).1 hq
    omega

theorem filled_now {m : M} {s : S} {had : Int} (h : good m s had) (hs : s.at' = m.at') : filled m s = m := by
  have hc := come_eq h
  rw [hs, Int.sub_self, Int.zero_mul] at hc
  obtain ⟨⟨h1, h2, h3, h4, h5, h6, h7, h8, h9, h10, h11, h12⟩, _, _, h15, h16, _⟩ := h
  have hc0 : come m s = 0 := by omega
  unfold filled
  rw [hc0, hs]
  have : min 0 (m.bu - m.fi) = 0 := by omega
  simp only [this]
  cases m
  simp

theorem filled_right {m : M} {s : S} {had : Int} (h : good m s had) : (filled m s).right := by
  have hr := come_range h
  obtain ⟨⟨h1, h2, h3, h4, h5, h6, h7, h8, h9, h10, h11, h12⟩, _, _, h15, h16, _⟩ := h
  unfold filled M.right
  simp only
  omega

theorem taken_right {m : M} {s : S} {had : Int} (h : m.right) (hb : 0 ≤ s.by') : (taken m s had).1.right := by
  unfold M.right at h
  unfold taken
  split
  · unfold M.right; simp only; omega
  · split
    · unfold M.right; simp only; omega
    · unfold M.right; omega
theorem taken_range {m : M} {s : S} {had : Int} (h1 : 1 ≤ had) (h3 : had ≤ 3) : had ≤ (taken m s had).2 ∧ (taken m s had).2 ≤ 3 := by
  unfold taken
  split
  · simp only; omega
  · split
    · simp only; omega
    · simp only; omega
theorem taken_mono {m : M} {s : S} {had : Int} (h1 : 1 ≤ had) : (taken m s had).2 ≤ (taken m s (had + 1)).2 := by
  unfold taken
  (repeat' split) <;> simp only <;> omega

/-- What is red takes nothing. -/
theorem filled_twice {m : M} {s t : S} (h : good m s 1) (ht : good (filled m s) t 1) : good m t 1 ∧ filled (filled m s) t = filled m t := by
  have hat : (filled m s).at' = s.at' := rfl
  have hgm : good m t 1 := by
    obtain ⟨a, b⟩ := ht
    obtain ⟨c, d⟩ := h
    exact ⟨c, by omega⟩
  refine ⟨hgm, ?_⟩
  have e1 := come_eq h
  have e2 := come_eq ht
  have e3 := come_eq hgm
  obtain ⟨⟨h1, h2, h3, h4, h5, h6, h7, h8, h9, h10, h11, h12⟩, _, _, h15, h16, _⟩ := h
  have hx : (filled m s).co = m.co ∧ (filled m s).bu = m.bu ∧ (filled m s).ex = m.ex ∧ (filled m s).fi = m.fi + min (come m s) (m.bu - m.fi) ∧ (filled m s).se = m.se + (come m s - min (come m s) (m.bu - m.fi)) := ⟨rfl, rfl, rfl, rfl, rfl⟩
  obtain ⟨x1, x2, x3, x4, x5⟩ := hx
  rw [hat, x1, x2, x3, x4, x5] at e2
  have p0 : 0 ≤ (s.at' - m.at') * m.co := Int.mul_nonneg (by omega) h1
  have p1 : 0 ≤ (t.at' - s.at') * m.co := Int.mul_nonneg (by have := ht.2; omega) h1
  have p2 : (t.at' - m.at') * m.co = (s.at' - m.at') * m.co + (t.at' - s.at') * m.co := by rw [← Int.add_mul]; congr 1; omega
  generalize (t.at' - m.at') * m.co = P at *
  generalize (s.at' - m.at') * m.co = P1 at *
  generalize (t.at' - s.at') * m.co = P2 at *
  rw [show filled (filled m s) t = ⟨(filled m s).co, (filled m s).bu, (filled m s).ex, (filled m s).fi + min (come (filled m s) t) ((filled m s).bu - (filled m s).fi), (filled m s).se + (come (filled m s) t - min (come (filled m s) t) ((filled m s).bu - (filled m s).fi)), t.at'⟩ from rfl]
  rw [show filled m t = ⟨m.co, m.bu, m.ex, m.fi + min (come m t) (m.bu - m.fi), m.se + (come m t - min (come m t) (m.bu - m.fi)), t.at'⟩ from rfl]
  rw [x1, x2, x3, x4, x5]
  simp only [M.mk.injEq, true_and, and_true]
  omega
end Go.Proofs.Yteopnmfdncjbhaa
