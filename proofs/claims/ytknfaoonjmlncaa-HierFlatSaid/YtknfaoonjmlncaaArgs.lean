import Derived.Test.YtknfaoonjmlncaaStepsR
import Derived.Test.YtknfaoonjmlncaaAlive
import Derived.Test.YtknfaoonjmlncaaBase
set_option linter.unusedSimpArgs false
set_option linter.unusedVariables false
set_option maxHeartbeats 2000000
set_option maxRecDepth 20000
namespace Go.Proofs.Ytknfaoonjmlncaa
open Go Go.Am
attribute [local irreducible] opsW Ww loopW callW drawW outW outDW gW cW BrW bothW vW resW DropW RdW dcallW altW Later.run

theorem Nd.of {B : Nat} {H : Heap} (cs : List Value) (h : RowOk B H [.int .i64, .int .i64] cs) : ∃ s : Nd, cs = s.cells ∧ (-9223372036854775808 ≤ s.u ∧ s.u ≤ 9223372036854775807 ∧ -9223372036854775808 ≤ s.w ∧ s.w ≤ 9223372036854775807) := by
  obtain ⟨_, _, rfl, c0, h⟩ := h.cons_inv
  obtain ⟨_, _, rfl, c1, h⟩ := h.cons_inv
  obtain rfl := h.nil_inv
  obtain ⟨x0, rfl, h0⟩ := c0.int_inv
  obtain ⟨x1, rfl, h1⟩ := c1.int_inv
  exact ⟨⟨x0, x1⟩, rfl, h0.1, h0.2, h1.1, h1.2⟩
theorem nodes_of {H : Heap} {v : Value} (h : ArgOk maxLen H (false, [.slice [.int .i64, .int .i64]]) v) : ∃ k c, ∃ l : List Nd, v = slv k 0 0 l.length c ∧ l.length ≤ 9223372036854775807 ∧ l.length ≤ c ∧ Nodes H k 0 0 l := by
  obtain ⟨k, c, l, h1, h2, h3, h4, _⟩ := rows_of (α := Nd) (enc := Nd.cells) (ok := fun s => (-9223372036854775808 ≤ s.u ∧ s.u ≤ 9223372036854775807 ∧ -9223372036854775808 ≤ s.w ∧ s.w ≤ 9223372036854775807)) 2 (fun _ => rfl) n0 rfl (fun cs h => Nd.of cs h) h
  exact ⟨k, c, l, h1, Nat.le_trans h2 (by decide), h3, h4⟩
theorem int_of {B : Nat} {H : Heap} {v : Value} (h : ArgOk B H (false, [.int .i64]) v) : ∃ n : Int, v = .int .i64 n ∧ -9223372036854775808 ≤ n ∧ n ≤ 9223372036854775807 := by
  obtain ⟨n, rfl, h1⟩ := h.cell.int_inv
  exact ⟨n, rfl, h1.1, h1.2⟩
end Go.Proofs.Ytknfaoonjmlncaa
