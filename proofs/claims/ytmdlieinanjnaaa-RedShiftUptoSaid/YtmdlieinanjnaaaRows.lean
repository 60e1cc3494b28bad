/-
  No cell of these rows narrows 'for every input' (looked for: loops, veiled, ifaces, maps, wideKeys, modest, calm, conditions, laid).
  DERIVED. THE GIVEN ROWS OF THIS SEAT. 4 by the template 'for every input the law returns true; each argument reads behind the call as it read before'; 0 by the template 'total and deterministic' (their statements: YtmdlieinanjnaaaTotals.lean).
  GIVEN WITH THE SEED: the statements are not yours to turn. If you find one false, say at which input.
  Laid BY PROGRAM, IN A SANDBOX (cutbox-rows.mjs): the forced cells as the released guide's own fill.sh prints them over the translation 06d340592ee28425… (all of the seat's roots in one cut). By AI agents, Wed Nov 11 2026. No macro, syntax, notation, axiom, sorry.
-/
import Derived.Test.YtmdlieinanjnaaaChecked
import GoSem.Claim
import GoSem.ClaimJoined
import GoSem.ClaimMapViews
import Derived.JoinedTies
import Derived.KernelRfl
namespace Go.Proofs.Ytmdlieinanjnaaa
/- THE CELL 'sum', in the pinned program and in every row, IS THE sha256 OF THE DUMP (.gsa) THAT YtmdlieinanjnaaaProg.lean LOADS. Nothing in Lean hashes anything: it is a label: what it is worth is what the hold of that sum in a sandbox is worth. -/
noncomputable def Try.pinned : Pinned := { name := "ytmdlieinanjnaaa", sum := "06d340592ee284257806eddc6da1c716f7e1f85432e142013b78aa2508c09bfb", checked := Try.checked }
namespace Rows
def none {H : Type} : Left H := { results := [], args := [] }

/-- 'weirhousekeep.RedFine': WHATEVER THE INPUT: true; the input reads as it did. -/
def redFineSpec : ChangeSpec := { name := "redFine", fn := fun _ => fun
  | [d1, d2, d3] => { results := [.lit (.bool true)], args := [d1, d2, d3] }
  | _ => none }
def redFineRow : OpenClaim := { program := "ytmdlieinanjnaaa", sum := "06d340592ee284257806eddc6da1c716f7e1f85432e142013b78aa2508c09bfb", func := "weirhouse/weirhousekeep.RedFine", spec := "redFine", apart := false }
def RedFineSaid : Prop := redFineRow.holds Try.pinned (OpenSpec.ofChange redFineSpec)

/-- ITS FALSE NEIGHBOUR: 'it returns false'. Refute it at one input. -/
def redFineWrong : ChangeSpec := { name := "redFine", fn := fun _ => fun
  | [d1, d2, d3] => { results := [.lit (.bool false)], args := [d1, d2, d3] }
  | _ => none }
def RedFineWrongFalsely : Prop := redFineRow.holds Try.pinned (OpenSpec.ofChange redFineWrong)

/-- 'weirhousekeep.RedGaps': WHATEVER THE INPUT: true; the input reads as it did. -/
def redGapsSpec : ChangeSpec := { name := "redGaps", fn := fun _ => fun
  | [d1, d2] => { results := [.lit (.bool true)], args := [d1, d2] }
  | _ => none }
def redGapsRow : OpenClaim := { program := "ytmdlieinanjnaaa", sum := "06d340592ee284257806eddc6da1c716f7e1f85432e142013b78aa2508c09bfb", func := "weirhouse/weirhousekeep.RedGaps", spec := "redGaps", apart := false }
def RedGapsSaid : Prop := redGapsRow.holds Try.pinned (OpenSpec.ofChange redGapsSpec)

/-- ITS FALSE NEIGHBOUR: 'it returns false'. Refute it at one input. -/
def redGapsWrong : ChangeSpec := { name := "redGaps", fn := fun _ => fun
  | [d1, d2] => { results := [.lit (.bool false)], args := [d1, d2] }
  | _ => none }
def RedGapsWrongFalsely : Prop := redGapsRow.holds Try.pinned (OpenSpec.ofChange redGapsWrong)

/-- 'weirhousekeep.RedAhead': WHATEVER THE INPUT: true; the input reads as it did. -/
def redAheadSpec : ChangeSpec := { name := "redAhead", fn := fun _ => fun
  | [d1, d2, d3, d4] => { results := [.lit (.bool true)], args := [d1, d2, d3, d4] }
  | _ => none }
def redAheadRow : OpenClaim := { program := "ytmdlieinanjnaaa", sum := "06d340592ee284257806eddc6da1c716f7e1f85432e142013b78aa2508c09bfb", func := "weirhouse/weirhousekeep.RedAhead", spec := "redAhead", apart := false }
def RedAheadSaid : Prop := redAheadRow.holds Try.pinned (OpenSpec.ofChange redAheadSpec)

/-- ITS FALSE NEIGHBOUR: 'it returns false'. Refute it at one input. -/
def redAheadWrong : ChangeSpec := { name := "redAhead", fn := fun _ => fun
  | [d1, d2, d3, d4] => { results := [.lit (.bool false)], args := [d1, d2, d3, d4] }
  | _ => none }
def RedAheadWrongFalsely : Prop := redAheadRow.holds Try.pinned (OpenSpec.ofChange redAheadWrong)

/-- 'weirhousekeep.RedShift': WHATEVER THE INPUT: true; the input reads as it did. -/
def redShiftSpec : ChangeSpec := { name := "redShift", fn := fun _ => fun
  | [d1, d2, d3, d4] => { results := [.lit (.bool true)], args := [d1, d2, d3, d4] }
  | _ => none }
def redShiftRow : OpenClaim := { program := "ytmdlieinanjnaaa", sum := "06d340592ee284257806eddc6da1c716f7e1f85432e142013b78aa2508c09bfb", func := "weirhouse/weirhousekeep.RedShift", spec := "redShift", apart := false }
def RedShiftSaid : Prop := redShiftRow.holds Try.pinned (OpenSpec.ofChange redShiftSpec)

/-- ITS FALSE NEIGHBOUR: 'it returns false'. Refute it at one input. -/
def redShiftWrong : ChangeSpec := { name := "redShift", fn := fun _ => fun
  | [d1, d2, d3, d4] => { results := [.lit (.bool false)], args := [d1, d2, d3, d4] }
  | _ => none }
def RedShiftWrongFalsely : Prop := redShiftRow.holds Try.pinned (OpenSpec.ofChange redShiftWrong)

/- THE SECOND FORM. 'bulk': how many values and letters a reading holds, each counted each time it is reached (what is shared counts as often as it is met; a slice's spare places count too). A statement '..UptoSaid' is the law's where the arguments, and the package variables that the reading takes, are together of bulk at most 1048576: NARROWER than '..Said'. Prove '..Said' where nothing that the law and all that it calls make is longer than what came in: it says more and counts as full. Else prove '..UptoSaid'. A law counts once. -/
mutual
def uptoBulk {H : Type} : DataW H → Nat
  | .lit (.string bytes) => bytes.length + 1
  | .lit _ => 1
  | .nil => 1
  | .ptr d => uptoBulk d + 1
  | .slice elems spare => uptoBulkAll elems + uptoBulkAll spare + 1
  | .agg parts => uptoBulkAll parts + 1
  | .iface _ d => uptoBulk d + 1
  | .map entries => uptoBulkEntries entries + 1
  | .held _ => 1
def uptoBulkAll {H : Type} : List (DataW H) → Nat
  | [] => 0
  | d :: r => uptoBulk d + uptoBulkAll r
def uptoBulkEntries {H : Type} : List (Lit × DataW H) → Nat
  | [] => 0
  | x :: r => uptoBulkEntry x + uptoBulkEntries r
def uptoBulkEntry {H : Type} : Lit × DataW H → Nat
  | (.string bytes, d) => bytes.length + uptoBulk d + 1
  | (_, d) => uptoBulk d + 1
 end
def uptoSmall : (H : Type) → List (DataW H) → Bool := fun _ ds => decide (uptoBulkAll ds ≤ 1048576)
def OpenSpec.upto (s : _root_.Go.ChangeSpec) : _root_.Go.OpenSpec := { _root_.Go.OpenSpec.ofChange s with cond := some uptoSmall }

/-- 'weirhousekeep.RedFine', WHERE WHAT IT READS IS OF BULK AT MOST 1048576: true; the input reads as it did. -/
def redFineUptoRow : OpenClaim := { program := "ytmdlieinanjnaaa", sum := "06d340592ee284257806eddc6da1c716f7e1f85432e142013b78aa2508c09bfb", func := "weirhouse/weirhousekeep.RedFine", spec := "redFine", apart := false, narrowed := true }
def RedFineUptoSaid : Prop := redFineUptoRow.holds Try.pinned (OpenSpec.upto redFineSpec)

/-- 'weirhousekeep.RedGaps', WHERE WHAT IT READS IS OF BULK AT MOST 1048576: true; the input reads as it did. -/
def redGapsUptoRow : OpenClaim := { program := "ytmdlieinanjnaaa", sum := "06d340592ee284257806eddc6da1c716f7e1f85432e142013b78aa2508c09bfb", func := "weirhouse/weirhousekeep.RedGaps", spec := "redGaps", apart := false, narrowed := true }
def RedGapsUptoSaid : Prop := redGapsUptoRow.holds Try.pinned (OpenSpec.upto redGapsSpec)

/-- 'weirhousekeep.RedAhead', WHERE WHAT IT READS IS OF BULK AT MOST 1048576: true; the input reads as it did. -/
def redAheadUptoRow : OpenClaim := { program := "ytmdlieinanjnaaa", sum := "06d340592ee284257806eddc6da1c716f7e1f85432e142013b78aa2508c09bfb", func := "weirhouse/weirhousekeep.RedAhead", spec := "redAhead", apart := false, narrowed := true }
def RedAheadUptoSaid : Prop := redAheadUptoRow.holds Try.pinned (OpenSpec.upto redAheadSpec)

/-- 'weirhousekeep.RedShift', WHERE WHAT IT READS IS OF BULK AT MOST 1048576: true; the input reads as it did. -/
def redShiftUptoRow : OpenClaim := { program := "ytmdlieinanjnaaa", sum := "06d340592ee284257806eddc6da1c716f7e1f85432e142013b78aa2508c09bfb", func := "weirhouse/weirhousekeep.RedShift", spec := "redShift", apart := false, narrowed := true }
def RedShiftUptoSaid : Prop := redShiftUptoRow.holds Try.pinned (OpenSpec.upto redShiftSpec)

end Rows
end Go.Proofs.Ytmdlieinanjnaaa
