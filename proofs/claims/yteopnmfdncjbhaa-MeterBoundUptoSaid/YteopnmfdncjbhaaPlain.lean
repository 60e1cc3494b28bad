/- the plain law of meters -/
namespace Go.Proofs.Yteopnmfdncjbhaa

structure M where
  co : Int
  bu : Int
  ex : Int
  fi : Int
  se : Int
  at' : Int
  deriving DecidableEq
structure S where
  at' : Int
  by' : Int
  deriving DecidableEq

def M.zero : M := ⟨0, 0, 0, 0, 0, 0⟩
def M.right (m : M) : Prop := 0 ≤ m.co ∧ m.co ≤ 1048576 ∧ 0 ≤ m.bu ∧ m.bu ≤ 1048576 ∧ 0 ≤ m.ex ∧ m.ex ≤ 1048576 ∧ 0 ≤ m.fi ∧ m.fi ≤ m.bu ∧ 0 ≤ m.se ∧ m.se ≤ m.ex ∧ 0 ≤ m.at' ∧ m.at' ≤ 1099511627776
instance (m : M) : Decidable m.right := by unfold M.right; infer_instance

def come (m : M) (s : S) : Int :=
  if m.co = 0 ∨ s.at' - m.at' ≤ (m.bu - m.fi + m.ex - m.se) / m.co then min ((s.at' - m.at') * m.co) (m.bu - m.fi + m.ex - m.se) else m.bu - m.fi + m.ex - m.se
def filled (m : M) (s : S) : M :=
  let f := min (come m s) (m.bu - m.fi)
  ⟨m.co, m.bu, m.ex, m.fi + f, m.se + (come m s - f), s.at'⟩
def taken (m : M) (s : S) (had : Int) : M × Int :=
  if had = 1 ∧ s.by' ≤ m.fi then ({ m with fi := m.fi - s.by' }, 1)
  else if had ≤ 2 ∧ s.by' ≤ m.se then ({ m with se := m.se - s.by' }, 2)
  else (m, 3)
def good (m : M) (s : S) (had : Int) : Prop := m.right ∧ 1 ≤ had ∧ had ≤ 3 ∧ m.at' ≤ s.at' ∧ s.at' ≤ 1099511627776 ∧ 0 ≤ s.by' ∧ s.by' ≤ 1048576
instance (m : M) (s : S) (had : Int) : Decidable (good m s had) := by unfold good; infer_instance
def err (m : M) (had : Int) : Int := if ¬ m.right then 1 else if had < 1 ∨ 3 < had then 5 else 2

theorem come_range {m : M} {s : S} {had : Int} (h : good m s had) : 0 ≤ come m s ∧ come m s ≤ m.bu - m.fi + m.ex - m.se := by
  obtain ⟨⟨h1, h2, h3, h4, h5, h6, h7, h8, h9, h10, h11, h12⟩, _, _, h15, h16, _⟩ := h
  unfold come
  have : 0 ≤ (s.at' - m.at') * m.co := Int.mul_nonneg (by omega) h1
  split <;> omega

end Go.Proofs.Yteopnmfdncjbhaa
