/-
  No cell of these rows narrows 'for every input' (looked for: loops, veiled, ifaces, maps, wideKeys, modest, calm, conditions, laid).
  DERIVED. THE GIVEN ROWS OF THIS SEAT. 4 by the template 'for every input the law returns true; each argument reads behind the call as it read before'; 0 by the template 'total and deterministic' (their statements: YtlnocgfblheehaaTotals.lean).
  GIVEN WITH THE SEED: the statements are not yours to turn. If you find one false, say at which input.
  Laid BY PROGRAM, IN A SANDBOX (cutbox-rows.mjs): the forced cells as the released guide's own fill.sh prints them over the translation 161788c44be80311… (all of the seat's roots in one cut). By AI agents, Wed Nov 11 2026. No macro, syntax, notation, axiom, sorry.
-/
import Derived.Test.YtlnocgfblheehaaChecked
import GoSem.Claim
import GoSem.ClaimJoined
import GoSem.ClaimMapViews
import Derived.JoinedTies
import Derived.KernelRfl
namespace Go.Proofs.Ytlnocgfblheehaa
/- THE CELL 'sum', in the pinned program and in every row, IS THE sha256 OF THE DUMP (.gsa) THAT YtlnocgfblheehaaProg.lean LOADS. Nothing in Lean hashes anything: it is a label: what it is worth is what the hold of that sum in a sandbox is worth. -/
noncomputable def Try.pinned : Pinned := { name := "ytlnocgfblheehaa", sum := "161788c44be80311c6f74ead1d4ba57a5d9b7e71cd998da83bf3479a289858c0", checked := Try.checked }
namespace Rows
def none {H : Type} : Left H := { results := [], args := [] }

/-- 'weirhousekeep.TreePath': WHATEVER THE INPUT: true; the input reads as it did. -/
def treePathSpec : ChangeSpec := { name := "treePath", fn := fun _ => fun
  | [d1, d2] => { results := [.lit (.bool true)], args := [d1, d2] }
  | _ => none }
def treePathRow : OpenClaim := { program := "ytlnocgfblheehaa", sum := "161788c44be80311c6f74ead1d4ba57a5d9b7e71cd998da83bf3479a289858c0", func := "weirhouse/weirhousekeep.TreePath", spec := "treePath", inPlace := ["slices.overlaps[int]"], unfollowed := true, recurses := true, apart := false }
def TreePathSaid : Prop := treePathRow.holds Try.pinned (OpenSpec.ofChange treePathSpec)

/-- ITS FALSE NEIGHBOUR: 'it returns false'. Refute it at one input. -/
def treePathWrong : ChangeSpec := { name := "treePath", fn := fun _ => fun
  | [d1, d2] => { results := [.lit (.bool false)], args := [d1, d2] }
  | _ => none }
def TreePathWrongFalsely : Prop := treePathRow.holds Try.pinned (OpenSpec.ofChange treePathWrong)

/-- 'weirhousekeep.TreeMeet': WHATEVER THE INPUT: true; the input reads as it did. -/
def treeMeetSpec : ChangeSpec := { name := "treeMeet", fn := fun _ => fun
  | [d1, d2, d3, d4] => { results := [.lit (.bool true)], args := [d1, d2, d3, d4] }
  | _ => none }
def treeMeetRow : OpenClaim := { program := "ytlnocgfblheehaa", sum := "161788c44be80311c6f74ead1d4ba57a5d9b7e71cd998da83bf3479a289858c0", func := "weirhouse/weirhousekeep.TreeMeet", spec := "treeMeet", inPlace := ["slices.overlaps[int]"], unfollowed := true, recurses := true, apart := false }
def TreeMeetSaid : Prop := treeMeetRow.holds Try.pinned (OpenSpec.ofChange treeMeetSpec)

/-- ITS FALSE NEIGHBOUR: 'it returns false'. Refute it at one input. -/
def treeMeetWrong : ChangeSpec := { name := "treeMeet", fn := fun _ => fun
  | [d1, d2, d3, d4] => { results := [.lit (.bool false)], args := [d1, d2, d3, d4] }
  | _ => none }
def TreeMeetWrongFalsely : Prop := treeMeetRow.holds Try.pinned (OpenSpec.ofChange treeMeetWrong)

/-- 'weirhousekeep.TreeOne': WHATEVER THE INPUT: true; the input reads as it did. -/
def treeOneSpec : ChangeSpec := { name := "treeOne", fn := fun _ => fun
  | [d] => { results := [.lit (.bool true)], args := [d] }
  | _ => none }
def treeOneRow : OpenClaim := { program := "ytlnocgfblheehaa", sum := "161788c44be80311c6f74ead1d4ba57a5d9b7e71cd998da83bf3479a289858c0", func := "weirhouse/weirhousekeep.TreeOne", spec := "treeOne", inPlace := ["slices.overlaps[int]"], unfollowed := true, recurses := true, apart := false }
def TreeOneSaid : Prop := treeOneRow.holds Try.pinned (OpenSpec.ofChange treeOneSpec)

/-- ITS FALSE NEIGHBOUR: 'it returns false'. Refute it at one input. -/
def treeOneWrong : ChangeSpec := { name := "treeOne", fn := fun _ => fun
  | [d] => { results := [.lit (.bool false)], args := [d] }
  | _ => none }
def TreeOneWrongFalsely : Prop := treeOneRow.holds Try.pinned (OpenSpec.ofChange treeOneWrong)

/-- 'weirhousekeep.TreeMore': WHATEVER THE INPUT: true; the input reads as it did. -/
def treeMoreSpec : ChangeSpec := { name := "treeMore", fn := fun _ => fun
  | [d1, d2, d3] => { results := [.lit (.bool true)], args := [d1, d2, d3] }
  | _ => none }
def treeMoreRow : OpenClaim := { program := "ytlnocgfblheehaa", sum := "161788c44be80311c6f74ead1d4ba57a5d9b7e71cd998da83bf3479a289858c0", func := "weirhouse/weirhousekeep.TreeMore", spec := "treeMore", inPlace := ["slices.overlaps[int]"], unfollowed := true, recurses := true, apart := false }
def TreeMoreSaid : Prop := treeMoreRow.holds Try.pinned (OpenSpec.ofChange treeMoreSpec)

/-- ITS FALSE NEIGHBOUR: 'it returns false'. Refute it at one input. -/
def treeMoreWrong : ChangeSpec := { name := "treeMore", fn := fun _ => fun
  | [d1, d2, d3] => { results := [.lit (.bool false)], args := [d1, d2, d3] }
  | _ => none }
def TreeMoreWrongFalsely : Prop := treeMoreRow.holds Try.pinned (OpenSpec.ofChange treeMoreWrong)

/- THE SECOND FORM. 'bulk': how many values and letters a reading holds, each counted each time it is reached (what is shared counts as often as it is met; a slice's spare places count too). A statement '..UptoSaid' is the law's where the arguments, and the package variables that the reading takes, are together of bulk at most 1048576: NARROWER than '..Said'. Prove '..Said' where nothing that the law and all that it calls make is longer than what came in: it says more and counts as full. Else prove '..UptoSaid'. A law counts once. -/
mutual
def uptoBulk {H : Type} : DataW H → Nat
  | .lit (.string bytes) => bytes.length + 1
  | .lit _ => 1
  | .nil => 1
  | .ptr d => uptoBulk d + 1
  | .slice elems spare => uptoBulkAll elems + uptoBulkAll spare + 1
  | .agg parts => uptoBulkAll parts + 1
  | .iface _ d => uptoBulk d + 1
  | .map entries => uptoBulkEntries entries + 1
  | .held _ => 1
def uptoBulkAll {H : Type} : List (DataW H) → Nat
  | [] => 0
  | d :: r => uptoBulk d + uptoBulkAll r
def uptoBulkEntries {H : Type} : List (Lit × DataW H) → Nat
  | [] => 0
  | x :: r => uptoBulkEntry x + uptoBulkEntries r
def uptoBulkEntry {H : Type} : Lit × DataW H → Nat
  | (.string bytes, d) => bytes.length + uptoBulk d + 1
  | (_, d) => uptoBulk d + 1
 end
def uptoSmall : (H : Type) → List (DataW H) → Bool := fun _ ds => decide (uptoBulkAll ds ≤ 1048576)
def OpenSpec.upto (s : _root_.Go.ChangeSpec) : _root_.Go.OpenSpec := { _root_.Go.OpenSpec.ofChange s with cond := some uptoSmall }

/-- 'weirhousekeep.TreePath', WHERE WHAT IT READS IS OF BULK AT MOST 1048576: true; the input reads as it did. -/
def treePathUptoRow : OpenClaim := { program := "ytlnocgfblheehaa", sum := "161788c44be80311c6f74ead1d4ba57a5d9b7e71cd998da83bf3479a289858c0", func := "weirhouse/weirhousekeep.TreePath", spec := "treePath", inPlace := ["slices.overlaps[int]"], unfollowed := true, recurses := true, apart := false, narrowed := true }
def TreePathUptoSaid : Prop := treePathUptoRow.holds Try.pinned (OpenSpec.upto treePathSpec)

/-- 'weirhousekeep.TreeMeet', WHERE WHAT IT READS IS OF BULK AT MOST 1048576: true; the input reads as it did. -/
def treeMeetUptoRow : OpenClaim := { program := "ytlnocgfblheehaa", sum := "161788c44be80311c6f74ead1d4ba57a5d9b7e71cd998da83bf3479a289858c0", func := "weirhouse/weirhousekeep.TreeMeet", spec := "treeMeet", inPlace := ["slices.overlaps[int]"], unfollowed := true, recurses := true, apart := false, narrowed := true }
def TreeMeetUptoSaid : Prop := treeMeetUptoRow.holds Try.pinned (OpenSpec.upto treeMeetSpec)

/-- 'weirhousekeep.TreeOne', WHERE WHAT IT READS IS OF BULK AT MOST 1048576: true; the input reads as it did. -/
def treeOneUptoRow : OpenClaim := { program := "ytlnocgfblheehaa", sum := "161788c44be80311c6f74ead1d4ba57a5d9b7e71cd998da83bf3479a289858c0", func := "weirhouse/weirhousekeep.TreeOne", spec := "treeOne", inPlace := ["slices.overlaps[int]"], unfollowed := true, recurses := true, apart := false, narrowed := true }
def TreeOneUptoSaid : Prop := treeOneUptoRow.holds Try.pinned (OpenSpec.upto treeOneSpec)

/-- 'weirhousekeep.TreeMore', WHERE WHAT IT READS IS OF BULK AT MOST 1048576: true; the input reads as it did. -/
def treeMoreUptoRow : OpenClaim := { program := "ytlnocgfblheehaa", sum := "161788c44be80311c6f74ead1d4ba57a5d9b7e71cd998da83bf3479a289858c0", func := "weirhouse/weirhousekeep.TreeMore", spec := "treeMore", inPlace := ["slices.overlaps[int]"], unfollowed := true, recurses := true, apart := false, narrowed := true }
def TreeMoreUptoSaid : Prop := treeMoreUptoRow.holds Try.pinned (OpenSpec.upto treeMoreSpec)

end Rows
end Go.Proofs.Ytlnocgfblheehaa
