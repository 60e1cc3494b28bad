import Derived.Test.YtmbcgelfnbnicaaDoorBase
import Derived.Test.YtmbcgelfnbnicaaDoorLib
set_option linter.unusedVariables false
namespace Go.Proofs.YtmbcgelfnbnicaaDoor.Me
/- the plain law of meters -/

structure M where
  co : Int
  bu : Int
  ex : Int
  fi : Int
  se : Int
  at' : Int
  deriving DecidableEq
structure S where
  at' : Int
  by' : Int
  deriving DecidableEq

def M.zero : M := ⟨0, 0, 0, 0, 0, 0⟩
def M.right (m : M) : Prop := 0 ≤ m.co ∧ m.co ≤ 1048576 ∧ 0 ≤ m.bu ∧ m.bu ≤ 1048576 ∧ 0 ≤ m.ex ∧ m.ex ≤ 1048576 ∧ 0 ≤ m.fi ∧ m.fi ≤ m.bu ∧ 0 ≤ m.se ∧ m.se ≤ m.ex ∧ 0 ≤ m.at' ∧ m.at' ≤ 1099511627776
instance (m : M) : Decidable m.right := by unfold M.right; infer_instance

def come (m : M) (s : S) : Int :=
  if m.co = 0 ∨ s.at' - m.at' ≤ (m.bu - m.fi + m.ex - m.se) / m.co then min ((s.at' - m.at') * m.co) (m.bu - m.fi + m.ex - m.se) else m.bu - m.fi + m.ex - m.se
def filled (m : M) (s : S) : M :=
  let f := min (come m s) (m.bu - m.fi)
  ⟨m.co, m.bu, m.ex, m.fi + f, m.se + (come m s - f), s.at'⟩
def taken (m : M) (s : S) (had : Int) : M × Int :=
  if had = 1 ∧ s.by' ≤ m.fi then ({ m with fi := m.fi - s.by' }, 1)
  else if had ≤ 2 ∧ s.by' ≤ m.se then ({ m with se := m.se - s.by' }, 2)
  else (m, 3)
def good (m : M) (s : S) (had : Int) : Prop := m.right ∧ 1 ≤ had ∧ had ≤ 3 ∧ m.at' ≤ s.at' ∧ s.at' ≤ 1099511627776 ∧ 0 ≤ s.by' ∧ s.by' ≤ 1048576
instance (m : M) (s : S) (had : Int) : Decidable (good m s had) := by unfold good; infer_instance
def err (m : M) (had : Int) : Int := if ¬ m.right then 1 else if had < 1 ∨ 3 < had then 5 else 2

theorem come_range {m : M} {s : S} {had : Int} (h : good m s had) : 0 ≤ come m s ∧ come m s ≤ m.bu - m.fi + m.ex - m.se := by
  obtain ⟨⟨h1, h2, h3, h4, h5, h6, h7, h8, h9, h10, h11, h12⟩, _, _, h15, h16, _⟩ := h
  unfold come
  have : 0 ≤ (s.at' - m.at') * m.co := Int.mul_nonneg (by omega) h1
  split <;> omega


/- the plain laws of one packet -/

theorem come_eq {m : M} {s : S} {had : Int} (h : good m s had) : come m s = min ((s.at' - m.at') * m.co) (m.bu - m.fi + m.ex - m.se) := by
  obtain ⟨⟨h1, h2, h3, h4, h5, h6, h7, h8, h9, h10, h11, h12⟩, _, _, h15, h16, _⟩ := h
  unfold come
  split
  · rfl
  · rename_i hc
    have hco : 0 < m.co := by omega
    have hq : (m.bu - m.fi + m.ex - m.se) / m.co < s.at' - m.at' := by omega
    have := (Int.ediv_lt_iff_lt_mul hco).1 hq
    omega

theorem filled_now {m : M} {s : S} {had : Int} (h : good m s had) (hs : s.at' = m.at') : filled m s = m := by
  have hc := come_eq h
  rw [hs, Int.sub_self, Int.zero_mul] at hc
  obtain ⟨⟨h1, h2, h3, h4, h5, h6, h7, h8, h9, h10, h11, h12⟩, _, _, h15, h16, _⟩ := h
  have hc0 : come m s = 0 := by omega
  unfold filled
  rw [hc0, hs]
  have : min 0 (m.bu - m.fi) = 0 := by omega
  simp only [this]
  cases m
  simp

theorem filled_right {m : M} {s : S} {had : Int} (h : good m s had) : (filled m s).right := by
  have hr := come_range h
  obtain ⟨⟨h1, h2, h3, h4, h5, h6, h7, h8, h9, h10, h11, h12⟩, _, _, h15, h16, _⟩ := h
  unfold filled M.right
  simp only
  omega

theorem taken_right {m : M} {s : S} {had : Int} (h : m.right) (hb : 0 ≤ s.by') : (taken m s had).1.right := by
  unfold M.right at h
  unfold taken
  split
  · unfold M.right; simp only; omega
  · split
    · unfold M.right; simp only; omega
    · unfold M.right; omega
theorem taken_range {m : M} {s : S} {had : Int} (h1 : 1 ≤ had) (h3 : had ≤ 3) : had ≤ (taken m s had).2 ∧ (taken m s had).2 ≤ 3 := by
  unfold taken
  split
  · simp only; omega
  · split
    · simp only; omega
    · simp only; omega
theorem taken_mono {m : M} {s : S} {had : Int} (h1 : 1 ≤ had) : (taken m s had).2 ≤ (taken m s (had + 1)).2 := by
  unfold taken
  (repeat' split) <;> simp only <;> omega

/-- What is red takes nothing. -/
theorem filled_twice {m : M} {s t : S} (h : good m s 1) (ht : good (filled m s) t 1) : good m t 1 ∧ filled (filled m s) t = filled m t := by
  have hat : (filled m s).at' = s.at' := rfl
  have hgm : good m t 1 := by
    obtain ⟨a, b⟩ := ht
    obtain ⟨c, d⟩ := h
    exact ⟨c, by omega⟩
  refine ⟨hgm, ?_⟩
  have e1 := come_eq h
  have e2 := come_eq ht
  have e3 := come_eq hgm
  obtain ⟨⟨h1, h2, h3, h4, h5, h6, h7, h8, h9, h10, h11, h12⟩, _, _, h15, h16, _⟩ := h
  have hx : (filled m s).co = m.co ∧ (filled m s).bu = m.bu ∧ (filled m s).ex = m.ex ∧ (filled m s).fi = m.fi + min (come m s) (m.bu - m.fi) ∧ (filled m s).se = m.se + (come m s - min (come m s) (m.bu - m.fi)) := ⟨rfl, rfl, rfl, rfl, rfl⟩
  obtain ⟨x1, x2, x3, x4, x5⟩ := hx
  rw [hat, x1, x2, x3, x4, x5] at e2
  have p0 : 0 ≤ (s.at' - m.at') * m.co := Int.mul_nonneg (by omega) h1
  have p1 : 0 ≤ (t.at' - s.at') * m.co := Int.mul_nonneg (by have := ht.2; omega) h1
  have p2 : (t.at' - m.at') * m.co = (s.at' - m.at') * m.co + (t.at' - s.at') * m.co := by rw [← Int.add_mul]; congr 1; omega
  generalize (t.at' - m.at') * m.co = P at *
  generalize (s.at' - m.at') * m.co = P1 at *
  generalize (t.at' - s.at') * m.co = P2 at *
  rw [show filled (filled m s) t = ⟨(filled m s).co, (filled m s).bu, (filled m s).ex, (filled m s).fi + min (come (filled m s) t) ((filled m s).bu - (filled m s).fi), (filled m s).se + (come (filled m s) t - min (come (filled m s) t) ((filled m s).bu - (filled m s).fi)), t.at'⟩ from rfl]
  rw [show filled m t = ⟨m.co, m.bu, m.ex, m.fi + min (come m t) (m.bu - m.fi), m.se + (come m t - min (come m t) (m.bu - m.fi)), t.at'⟩ from rfl]
  rw [x1, x2, x3, x4, x5]
  simp only [M.mk.injEq, true_and, and_true]
  omega

/- the plain law of a run of packets: no more is green than was committed -/

theorem come_most {m : M} {s : S} {had : Int} (h : good m s had) : come m s ≤ (s.at' - m.at') * m.co := by
  rw [come_eq h]; omega

/-- The meter and the colour behind one packet. -/
def next (m : M) (s : S) : M × Int := taken (filled m s) s 1
/-- The run. -/
def run : M → List S → Option (List Int × M)
  | m, [] => some ([], m)
  | m, s :: r => if good m s 1 then (run (next m s).1 r).map fun p => ((next m s).2 :: p.1, p.2) else none
theorem run_cons (m : M) (s : S) (r : List S) : run m (s :: r) = if good m s 1 then (run (next m s).1 r).map fun p => ((next m s).2 :: p.1, p.2) else none := rfl

def greenOf (c b : Int) : Int := if c = 1 then b else 0
def bothOf (c b : Int) : Int := if c ≠ 3 then b else 0

theorem next_step {m : M} {s : S} (h : good m s 1) :
    (next m s).1.at' = s.at' ∧ (next m s).1.co = m.co ∧ (next m s).1.bu = m.bu ∧ (next m s).1.ex = m.ex ∧
    greenOf (next m s).2 s.by' + (next m s).1.fi ≤ m.bu ∧ greenOf (next m s).2 s.by' + (next m s).1.fi ≤ m.fi + m.co * (s.at' - m.at') ∧
    bothOf (next m s).2 s.by' + (next m s).1.fi + (next m s).1.se ≤ m.bu + m.ex ∧ bothOf (next m s).2 s.by' + (next m s).1.fi + (next m s).1.se ≤ m.fi + m.se + m.co * (s.at' - m.at') ∧
    0 ≤ (next m s).1.fi ∧ 0 ≤ (next m s).1.se ∧ ((next m s).2 = 1 ∨ (next m s).2 = 2 ∨ (next m s).2 = 3) := by
  have h1 := come_range h
  have h2 := come_most h
  rw [Int.mul_comm] at h2
  generalize m.co * (s.at' - m.at') = P at *
  obtain ⟨⟨g1, g2, g3, g4, g5, g6, g7, g8, g9, g10, g11, g12⟩, _, _, g15, g16, g17, g18⟩ := h
  unfold next taken filled greenOf bothOf
  have hf : min (come m s) (m.bu - m.fi) ≤ come m s ∧ min (come m s) (m.bu - m.fi) ≤ m.bu - m.fi ∧ 0 ≤ min (come m s) (m.bu - m.fi) ∧ (come m s ≤ m.bu - m.fi → min (come m s) (m.bu - m.fi) = come m s) := by omega
  generalize min (come m s) (m.bu - m.fi) = f at *
  generalize come m s = k at *
  obtain ⟨f1, f2, f3, f4⟩ := hf
  have c1 : ¬ (m.co = 0 ∧ m.co = 1) := by omega
  by_cases d1 : s.by' ≤ m.fi + f
  · simp [d1]; omega
  · by_cases d2 : s.by' ≤ m.se + (k - f)
    · simp [d1, d2]; omega
    · simp [d1, d2]; omega

theorem next_good {m : M} {s : S} (h : good m s 1) : (next m s).1.right := taken_right (filled_right h) (by have := h.2; omega)

theorem run_length {m : M} {l : List S} {out : List Int} {m' : M} (hr : run m l = some (out, m')) : out.length = l.length := by
  induction l generalizing m out m' with
  | nil => simp [run] at hr; simp [← hr.1]
  | cons s r ih =>
    rw [run_cons] at hr
    by_cases hg : good m s 1
    · rw [if_pos hg] at hr
      obtain ⟨⟨o, m2⟩, h1, h2⟩ := Option.map_eq_some_iff.1 hr
      simp only [Prod.mk.injEq] at h2
      obtain ⟨rfl, rfl⟩ := h2
      simp [ih h1]
    · rw [if_neg hg] at hr; cases hr


end Go.Proofs.YtmbcgelfnbnicaaDoor.Me
