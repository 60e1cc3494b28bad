/-
  What all of this seat's closings share. Printed by a program of this claim's writer.
-/
import Derived.Test.YtfkhljgifndbpaaDoorRows
import Derived.Test.YtfkhljgifndbpaaDoorAmX
import Derived.JoinedCond
import Derived.JoinedOf
import Derived.KernelRfl
namespace Go.Proofs.YtfkhljgifndbpaaDoor
open Go Go.Am

theorem laid : laidOutB Tryd.prog = true := by kernel_rfl
theorem own : ownKnob Tryd.prog.godebug = none := by kernel_rfl
theorem one_le {H : Type} (d : DataW H) : 1 ≤ Rows.uptoBulk d := by
  cases d with
  | lit l => cases l <;> simp [Rows.uptoBulk]
  | nil => simp [Rows.uptoBulk]
  | ptr d => simp [Rows.uptoBulk]
  | slice elems spare => simp [Rows.uptoBulk]
  | agg parts => simp [Rows.uptoBulk]
  | iface t d => simp [Rows.uptoBulk]
  | map entries => simp [Rows.uptoBulk]
  | held h => simp [Rows.uptoBulk]
def bulk (H : Type) : Bulk H where
  one := Rows.uptoBulk
  all := Rows.uptoBulkAll
  str := fun b => by simp [Rows.uptoBulk]
  slice := fun e s => by simp [Rows.uptoBulk]
  agg := fun l => by simp [Rows.uptoBulk]
  nil := by simp [Rows.uptoBulkAll]
  cons := fun d l => by simp [Rows.uptoBulkAll]
  pos := one_le
theorem small {H : Type} {l : List (DataW H)} (h : Rows.uptoSmall H l = true) : ∀ d ∈ l, Small 1048576 d := fun d hd => by
  have h1 : Rows.uptoBulkAll l ≤ 1048576 := of_decide_eq_true h
  have h2 : Rows.uptoBulk d ≤ Rows.uptoBulkAll l := (bulk H).mem hd
  exact .inr ⟨bulk H, Nat.le_trans h2 h1⟩
theorem great {H : Type} {l : List (DataW H)} : ∀ d ∈ l, Small (H := H) maxLen d := fun _ _ => .inl (Nat.le_refl _)

/-- BenchMore: function 3 -/
def BenchMoreSh : List (Bool × List CS) := [(false, [.str]), (false, [.str])]
/-- BenchBack: function 4 -/
def BenchBackSh : List (Bool × List CS) := [(true, [.int .i64, .int .i64, .int .i64, .slice [.int .i64, .int .i64]]), (false, [.str])]
end Go.Proofs.YtfkhljgifndbpaaDoor
