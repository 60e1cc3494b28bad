import Derived.Test.YtmbcgelfnbnicaaDoorBase
import Derived.Test.YtmbcgelfnbnicaaDoorLib
set_option linter.unusedVariables false
namespace Go.Proofs.YtmbcgelfnbnicaaDoor.Cu
/- the plain law of curves and services -/

structure Pr where
  x : Int
  y : Int
  deriving DecidableEq
def Pr.small (p : Pr) : Prop := 0 ≤ p.x ∧ p.x ≤ 1048576 ∧ 0 ≤ p.y ∧ p.y ≤ 1048576
instance (p : Pr) : Decidable p.small := by unfold Pr.small; infer_instance
def okP (c s : Pr) : Prop := c.small ∧ s.small
instance (c s : Pr) : Decidable (okP c s) := by unfold okP; infer_instance
def wrongF (c s : Pr) : Int := if okP c s then 0 else 2

/- what waits, how much room there is, and what goes -/

/-- What goes in a unit. -/
def goes (s : Pr) (w g n : Int) : Int := if 0 < w + n ∧ s.x ≤ g then min (w + n) s.y else 0
def since (w' g : Int) : Int := if w' = 0 then 0 else g + 1
/-- What waits, and since when: ahead of the i-th unit. -/
def st (s : Pr) (l : List Int) : Nat → Int × Int
  | 0 => (0, 0)
  | i + 1 => ((st s l i).1 + l.getD i 0 - goes s (st s l i).1 (st s l i).2 (l.getD i 0), since ((st s l i).1 + l.getD i 0 - goes s (st s l i).1 (st s l i).2 (l.getD i 0)) (st s l i).2)
def out (s : Pr) (l : List Int) (i : Nat) : Int := goes s (st s l i).1 (st s l i).2 (l.getD i 0)
/-- How much room there is. -/
def room (c : Pr) (l : List Int) : Nat → Int
  | 0 => c.x
  | i + 1 => min (room c l i) c.x + c.y - l.getD i 0
def keeps (c : Pr) (l : List Int) : Prop := ∀ i, i < l.length → 0 ≤ room c l (i + 1)
instance (c : Pr) (l : List Int) : Decidable (keeps c l) := by unfold keeps; infer_instance
def okL (l : List Int) : Prop := l.length ≤ 400 ∧ ∀ i, i < l.length → 0 ≤ l.getD i 0 ∧ l.getD i 0 ≤ 1048576
instance (l : List Int) : Decidable (okL l) := by unfold okL; infer_instance

theorem st_w (s : Pr) (l : List Int) (i : Nat) : (st s l (i + 1)).1 = (st s l i).1 + l.getD i 0 - out s l i := rfl
theorem st_s (s : Pr) (l : List Int) (i : Nat) : (st s l (i + 1)).2 = since (st s l (i + 1)).1 (st s l i).2 := rfl
theorem room_succ (c : Pr) (l : List Int) (i : Nat) : room c l (i + 1) = min (room c l i) c.x + c.y - l.getD i 0 := rfl

theorem goes_range {s : Pr} {w g n : Int} (hs : s.small) (hw : 0 ≤ w) (hn : 0 ≤ n) : 0 ≤ goes s w g n ∧ goes s w g n ≤ w + n ∧ goes s w g n ≤ s.y := by
  obtain ⟨_, _, h3, _⟩ := hs
  unfold goes
  split <;> omega
theorem st_range {s : Pr} {l : List Int} (hs : s.small) (hl : okL l) : ∀ i, i ≤ l.length → 0 ≤ (st s l i).1 ∧ (st s l i).1 ≤ i * 1048576 ∧ 0 ≤ (st s l i).2 ∧ (st s l i).2 ≤ i
  | 0, _ => by simp [st]
  | i + 1, h => by
    obtain ⟨a, b, c, d⟩ := st_range hs hl i (by omega)
    obtain ⟨e, f⟩ := hl.2 i (by omega)
    have hg := goes_range (g := (st s l i).2) hs a e
    rw [st_s, st_w]
    unfold since out
    split <;> omega
theorem out_range {s : Pr} {l : List Int} (hs : s.small) (hl : okL l) (i : Nat) (hi : i < l.length) : 0 ≤ out s l i ∧ out s l i ≤ 1048576 := by
  obtain ⟨a, b, c, d⟩ := st_range hs hl i (by omega)
  obtain ⟨e, f⟩ := hl.2 i hi
  have hg := goes_range (g := (st s l i).2) hs a e
  have := hs.2.2.2
  unfold out
  omega
theorem room_range {c : Pr} {l : List Int} (hc : c.small) (hl : okL l) (hk : keeps c l) : ∀ i, i ≤ l.length → 0 ≤ room c l i ∧ room c l i ≤ 2097152
  | 0, _ => by have := hc.1; have := hc.2.1; simp only [room]; omega
  | i + 1, h => by
    have h1 := hk i (by omega)
    have h2 := hl.2 i (by omega)
    have := hc.2.1
    have := hc.2.2.2
    refine ⟨h1, ?_⟩
    rw [room_succ]; omega


end Go.Proofs.YtmbcgelfnbnicaaDoor.Cu
