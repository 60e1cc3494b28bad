/-
  No cell of these rows narrows 'for every input' (looked for: loops, veiled, ifaces, maps, wideKeys, modest, calm, conditions, laid).
  DERIVED. THE GIVEN ROWS OF THIS SEAT. 4 by the template 'for every input the law returns true; each argument reads behind the call as it read before'; 0 by the template 'total and deterministic' (their statements: YtcoelfklgpaidaaTotals.lean).
  GIVEN WITH THE SEED: the statements are not yours to turn. If you find one false, say at which input.
  Laid BY PROGRAM, IN A SANDBOX (cutbox-rows.mjs): the forced cells as the released guide's own fill.sh prints them over the translation b73c4f2793e2308f… (all of the seat's roots in one cut). By AI agents, Wed Nov 11 2026. No macro, syntax, notation, axiom, sorry.
-/
import Derived.Test.YtcoelfklgpaidaaChecked
import GoSem.Claim
import GoSem.ClaimJoined
import GoSem.ClaimMapViews
import Derived.JoinedTies
import Derived.KernelRfl
namespace Go.Proofs.Ytcoelfklgpaidaa
/- THE CELL 'sum', in the pinned program and in every row, IS THE sha256 OF THE DUMP (.gsa) THAT YtcoelfklgpaidaaProg.lean LOADS. Nothing in Lean hashes anything: it is a label: what it is worth is what the hold of that sum in a sandbox is worth. -/
noncomputable def Try.pinned : Pinned := { name := "ytcoelfklgpaidaa", sum := "b73c4f2793e2308f2a007596e6d3e9d44ae80bd3bc8ecff52a50546bacf8b28d", checked := Try.checked }
namespace Rows
def none {H : Type} : Left H := { results := [], args := [] }

/-- 'weirhousekeep.EdfRight': WHATEVER THE INPUT: true; the input reads as it did. -/
def edfRightSpec : ChangeSpec := { name := "edfRight", fn := fun _ => fun
  | [d] => { results := [.lit (.bool true)], args := [d] }
  | _ => none }
def edfRightRow : OpenClaim := { program := "ytcoelfklgpaidaa", sum := "b73c4f2793e2308f2a007596e6d3e9d44ae80bd3bc8ecff52a50546bacf8b28d", func := "weirhouse/weirhousekeep.EdfRight", spec := "edfRight", apart := false }
def EdfRightSaid : Prop := edfRightRow.holds Try.pinned (OpenSpec.ofChange edfRightSpec)

/-- ITS FALSE NEIGHBOUR: 'it returns false'. Refute it at one input. -/
def edfRightWrong : ChangeSpec := { name := "edfRight", fn := fun _ => fun
  | [d] => { results := [.lit (.bool false)], args := [d] }
  | _ => none }
def EdfRightWrongFalsely : Prop := edfRightRow.holds Try.pinned (OpenSpec.ofChange edfRightWrong)

/-- 'weirhousekeep.EdfBest': WHATEVER THE INPUT: true; the input reads as it did. -/
def edfBestSpec : ChangeSpec := { name := "edfBest", fn := fun _ => fun
  | [d] => { results := [.lit (.bool true)], args := [d] }
  | _ => none }
def edfBestRow : OpenClaim := { program := "ytcoelfklgpaidaa", sum := "b73c4f2793e2308f2a007596e6d3e9d44ae80bd3bc8ecff52a50546bacf8b28d", func := "weirhouse/weirhousekeep.EdfBest", spec := "edfBest", apart := false }
def EdfBestSaid : Prop := edfBestRow.holds Try.pinned (OpenSpec.ofChange edfBestSpec)

/-- ITS FALSE NEIGHBOUR: 'it returns false'. Refute it at one input. -/
def edfBestWrong : ChangeSpec := { name := "edfBest", fn := fun _ => fun
  | [d] => { results := [.lit (.bool false)], args := [d] }
  | _ => none }
def EdfBestWrongFalsely : Prop := edfBestRow.holds Try.pinned (OpenSpec.ofChange edfBestWrong)

/-- 'weirhousekeep.EdfOther': WHATEVER THE INPUT: true; the input reads as it did. -/
def edfOtherSpec : ChangeSpec := { name := "edfOther", fn := fun _ => fun
  | [d1, d2] => { results := [.lit (.bool true)], args := [d1, d2] }
  | _ => none }
def edfOtherRow : OpenClaim := { program := "ytcoelfklgpaidaa", sum := "b73c4f2793e2308f2a007596e6d3e9d44ae80bd3bc8ecff52a50546bacf8b28d", func := "weirhouse/weirhousekeep.EdfOther", spec := "edfOther", apart := false }
def EdfOtherSaid : Prop := edfOtherRow.holds Try.pinned (OpenSpec.ofChange edfOtherSpec)

/-- ITS FALSE NEIGHBOUR: 'it returns false'. Refute it at one input. -/
def edfOtherWrong : ChangeSpec := { name := "edfOther", fn := fun _ => fun
  | [d1, d2] => { results := [.lit (.bool false)], args := [d1, d2] }
  | _ => none }
def EdfOtherWrongFalsely : Prop := edfOtherRow.holds Try.pinned (OpenSpec.ofChange edfOtherWrong)

/-- 'weirhousekeep.EdfBusy': WHATEVER THE INPUT: true; the input reads as it did. -/
def edfBusySpec : ChangeSpec := { name := "edfBusy", fn := fun _ => fun
  | [d] => { results := [.lit (.bool true)], args := [d] }
  | _ => none }
def edfBusyRow : OpenClaim := { program := "ytcoelfklgpaidaa", sum := "b73c4f2793e2308f2a007596e6d3e9d44ae80bd3bc8ecff52a50546bacf8b28d", func := "weirhouse/weirhousekeep.EdfBusy", spec := "edfBusy", unfollowed := true, recurses := true, apart := false }
def EdfBusySaid : Prop := edfBusyRow.holds Try.pinned (OpenSpec.ofChange edfBusySpec)

/-- ITS FALSE NEIGHBOUR: 'it returns false'. Refute it at one input. -/
def edfBusyWrong : ChangeSpec := { name := "edfBusy", fn := fun _ => fun
  | [d] => { results := [.lit (.bool false)], args := [d] }
  | _ => none }
def EdfBusyWrongFalsely : Prop := edfBusyRow.holds Try.pinned (OpenSpec.ofChange edfBusyWrong)

/- THE SECOND FORM. 'bulk': how many values and letters a reading holds, each counted each time it is reached (what is shared counts as often as it is met; a slice's spare places count too). A statement '..UptoSaid' is the law's where the arguments, and the package variables that the reading takes, are together of bulk at most 1048576: NARROWER than '..Said'. Prove '..Said' where nothing that the law and all that it calls make is longer than what came in: it says more and counts as full. Else prove '..UptoSaid'. A law counts once. -/
mutual
def uptoBulk {H : Type} : DataW H → Nat
  | .lit (.string bytes) => bytes.length + 1
  | .lit _ => 1
  | .nil => 1
  | .ptr d => uptoBulk d + 1
  | .slice elems spare => uptoBulkAll elems + uptoBulkAll spare + 1
  | .agg parts => uptoBulkAll parts + 1
  | .iface _ d => uptoBulk d + 1
  | .map entries => uptoBulkEntries entries + 1
  | .held _ => 1
def uptoBulkAll {H : Type} : List (DataW H) → Nat
  | [] => 0
  | d :: r => uptoBulk d + uptoBulkAll r
def uptoBulkEntries {H : Type} : List (Lit × DataW H) → Nat
  | [] => 0
  | x :: r => uptoBulkEntry x + uptoBulkEntries r
def uptoBulkEntry {H : Type} : Lit × DataW H → Nat
  | (.string bytes, d) => bytes.length + uptoBulk d + 1
  | (_, d) => uptoBulk d + 1
 end
def uptoSmall : (H : Type) → List (DataW H) → Bool := fun _ ds => decide (uptoBulkAll ds ≤ 1048576)
def OpenSpec.upto (s : _root_.Go.ChangeSpec) : _root_.Go.OpenSpec := { _root_.Go.OpenSpec.ofChange s with cond := some uptoSmall }

/-- 'weirhousekeep.EdfRight', WHERE WHAT IT READS IS OF BULK AT MOST 1048576: true; the input reads as it did. -/
def edfRightUptoRow : OpenClaim := { program := "ytcoelfklgpaidaa", sum := "b73c4f2793e2308f2a007596e6d3e9d44ae80bd3bc8ecff52a50546bacf8b28d", func := "weirhouse/weirhousekeep.EdfRight", spec := "edfRight", apart := false, narrowed := true }
def EdfRightUptoSaid : Prop := edfRightUptoRow.holds Try.pinned (OpenSpec.upto edfRightSpec)

/-- 'weirhousekeep.EdfBest', WHERE WHAT IT READS IS OF BULK AT MOST 1048576: true; the input reads as it did. -/
def edfBestUptoRow : OpenClaim := { program := "ytcoelfklgpaidaa", sum := "b73c4f2793e2308f2a007596e6d3e9d44ae80bd3bc8ecff52a50546bacf8b28d", func := "weirhouse/weirhousekeep.EdfBest", spec := "edfBest", apart := false, narrowed := true }
def EdfBestUptoSaid : Prop := edfBestUptoRow.holds Try.pinned (OpenSpec.upto edfBestSpec)

/-- 'weirhousekeep.EdfOther', WHERE WHAT IT READS IS OF BULK AT MOST 1048576: true; the input reads as it did. -/
def edfOtherUptoRow : OpenClaim := { program := "ytcoelfklgpaidaa", sum := "b73c4f2793e2308f2a007596e6d3e9d44ae80bd3bc8ecff52a50546bacf8b28d", func := "weirhouse/weirhousekeep.EdfOther", spec := "edfOther", apart := false, narrowed := true }
def EdfOtherUptoSaid : Prop := edfOtherUptoRow.holds Try.pinned (OpenSpec.upto edfOtherSpec)

/-- 'weirhousekeep.EdfBusy', WHERE WHAT IT READS IS OF BULK AT MOST 1048576: true; the input reads as it did. -/
def edfBusyUptoRow : OpenClaim := { program := "ytcoelfklgpaidaa", sum := "b73c4f2793e2308f2a007596e6d3e9d44ae80bd3bc8ecff52a50546bacf8b28d", func := "weirhouse/weirhousekeep.EdfBusy", spec := "edfBusy", unfollowed := true, recurses := true, apart := false, narrowed := true }
def EdfBusyUptoSaid : Prop := edfBusyUptoRow.holds Try.pinned (OpenSpec.upto edfBusySpec)

end Rows
end Go.Proofs.Ytcoelfklgpaidaa
