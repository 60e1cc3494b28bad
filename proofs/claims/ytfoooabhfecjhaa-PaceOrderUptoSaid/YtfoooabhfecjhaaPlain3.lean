import Derived.Test.YtfoooabhfecjhaaPlain2
/- Packets no faster than they may, in plain Lean: all that happens. -/
namespace Go.Proofs.Ytfoooabhfecjhaa

theorem runP_app (p : P) (a b : List O) : runP p (a ++ b) = runP (runP p a) b := by
  induction a generalizing p with
  | nil => rfl
  | cons o r ih => exact ih _
theorem runP_snoc (p : P) (l : List O) (o : O) : runP p (l ++ [o]) = (doP (runP p l) o).1 := by rw [runP_app]; rfl
theorem ansP_app (p : P) (a b : List O) : ansP p (a ++ b) = ansP p a ++ ansP (runP p a) b := by
  induction a generalizing p with
  | nil => rfl
  | cons o r ih =>
    have := ih (doP p o).1
    simp only [ansP, runP, List.cons_append, this]
theorem ansP_snoc (p : P) (l : List O) (o : O) : ansP p (l ++ [o]) = ansP p l ++ [(doP (runP p l) o).2] := by rw [ansP_app]; rfl
theorem ansP_length (p : P) (l : List O) : (ansP p l).length = l.length := by
  induction l generalizing p with
  | nil => rfl
  | cons o r ih => simp [ansP, ih]
theorem runP_ok {p : P} {i : Nat} (h : Ok p i) : ∀ (l : List O), Ok (runP p l) (i + l.length)
  | [] => h
  | o :: r => by
    have := runP_ok (doP_ok h o) r
    rw [show i + (o :: r).length = i + 1 + r.length by simp; omega]
    exact this
/-- How it begins. -/
def p0 (n d b : Int) : P := ⟨[], 0, ⟨n, d, b, b * d, 0⟩, 0⟩
theorem p0_ok {n d b : Int} (h : (⟨n, d, b, b * d, 0⟩ : Bk).right) : Ok (p0 n d b) 0 :=
  ⟨⟨by show (0 : Int) ≤ 100; omega, by show (100 : Int) ≤ 400; omega, by show (0 : Int) ≤ 60000; omega, by show (60000 : Int) ≤ 1073741824; omega, by show (0 : Int) ≤ 0; omega, by show (0 : Int) ≤ 1099511627776; omega, by show (0 : Int) ≤ 100; omega, fun x hx => (by cases hx), by show (0 : Int) ≤ 60000; omega⟩, h, by show (0 : Int) ≤ 0; omega, by show (0 : Int) + 0 ≤ _; omega⟩
end Go.Proofs.Ytfoooabhfecjhaa
