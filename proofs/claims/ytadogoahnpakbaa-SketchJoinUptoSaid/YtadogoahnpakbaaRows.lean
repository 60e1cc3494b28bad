/-
  No cell of these rows narrows 'for every input' (looked for: loops, veiled, ifaces, maps, wideKeys, modest, calm, conditions, laid).
  DERIVED. THE GIVEN ROWS OF THIS SEAT. 4 by the template 'for every input the law returns true; each argument reads behind the call as it read before'; 0 by the template 'total and deterministic' (their statements: YtadogoahnpakbaaTotals.lean).
  GIVEN WITH THE SEED: the statements are not yours to turn. If you find one false, say at which input.
  Laid BY PROGRAM, IN A SANDBOX (cutbox-rows.mjs): the forced cells as the released guide's own fill.sh prints them over the translation 8bb407c0ad81d0a7… (all of the seat's roots in one cut). By AI agents, Wed Nov 11 2026. No macro, syntax, notation, axiom, sorry.
-/
import Derived.Test.YtadogoahnpakbaaChecked
import GoSem.Claim
import GoSem.ClaimJoined
import GoSem.ClaimMapViews
import Derived.JoinedTies
import Derived.KernelRfl
namespace Go.Proofs.Ytadogoahnpakbaa
/- THE CELL 'sum', in the pinned program and in every row, IS THE sha256 OF THE DUMP (.gsa) THAT YtadogoahnpakbaaProg.lean LOADS. Nothing in Lean hashes anything: it is a label: what it is worth is what the hold of that sum in a sandbox is worth. -/
noncomputable def Try.pinned : Pinned := { name := "ytadogoahnpakbaa", sum := "8bb407c0ad81d0a7ecbc80bbdbb2db270512105647a81d772946d9484fc6778f", checked := Try.checked }
namespace Rows
def none {H : Type} : Left H := { results := [], args := [] }

/-- 'weirhousekeep.SketchNever': WHATEVER THE INPUT: true; the input reads as it did. -/
def sketchNeverSpec : ChangeSpec := { name := "sketchNever", fn := fun _ => fun
  | [d1, d2, d3, d4] => { results := [.lit (.bool true)], args := [d1, d2, d3, d4] }
  | _ => none }
def sketchNeverRow : OpenClaim := { program := "ytadogoahnpakbaa", sum := "8bb407c0ad81d0a7ecbc80bbdbb2db270512105647a81d772946d9484fc6778f", func := "weirhouse/weirhousekeep.SketchNever", spec := "sketchNever", unfollowed := true, recurses := true, apart := false }
def SketchNeverSaid : Prop := sketchNeverRow.holds Try.pinned (OpenSpec.ofChange sketchNeverSpec)

/-- ITS FALSE NEIGHBOUR: 'it returns false'. Refute it at one input. -/
def sketchNeverWrong : ChangeSpec := { name := "sketchNever", fn := fun _ => fun
  | [d1, d2, d3, d4] => { results := [.lit (.bool false)], args := [d1, d2, d3, d4] }
  | _ => none }
def SketchNeverWrongFalsely : Prop := sketchNeverRow.holds Try.pinned (OpenSpec.ofChange sketchNeverWrong)

/-- 'weirhousekeep.SketchRows': WHATEVER THE INPUT: true; the input reads as it did. -/
def sketchRowsSpec : ChangeSpec := { name := "sketchRows", fn := fun _ => fun
  | [d1, d2, d3] => { results := [.lit (.bool true)], args := [d1, d2, d3] }
  | _ => none }
def sketchRowsRow : OpenClaim := { program := "ytadogoahnpakbaa", sum := "8bb407c0ad81d0a7ecbc80bbdbb2db270512105647a81d772946d9484fc6778f", func := "weirhouse/weirhousekeep.SketchRows", spec := "sketchRows", unfollowed := true, recurses := true, apart := false }
def SketchRowsSaid : Prop := sketchRowsRow.holds Try.pinned (OpenSpec.ofChange sketchRowsSpec)

/-- ITS FALSE NEIGHBOUR: 'it returns false'. Refute it at one input. -/
def sketchRowsWrong : ChangeSpec := { name := "sketchRows", fn := fun _ => fun
  | [d1, d2, d3] => { results := [.lit (.bool false)], args := [d1, d2, d3] }
  | _ => none }
def SketchRowsWrongFalsely : Prop := sketchRowsRow.holds Try.pinned (OpenSpec.ofChange sketchRowsWrong)

/-- 'weirhousekeep.SketchAlone': WHATEVER THE INPUT: true; the input reads as it did. -/
def sketchAloneSpec : ChangeSpec := { name := "sketchAlone", fn := fun _ => fun
  | [d1, d2, d3, d4] => { results := [.lit (.bool true)], args := [d1, d2, d3, d4] }
  | _ => none }
def sketchAloneRow : OpenClaim := { program := "ytadogoahnpakbaa", sum := "8bb407c0ad81d0a7ecbc80bbdbb2db270512105647a81d772946d9484fc6778f", func := "weirhouse/weirhousekeep.SketchAlone", spec := "sketchAlone", unfollowed := true, recurses := true, apart := false }
def SketchAloneSaid : Prop := sketchAloneRow.holds Try.pinned (OpenSpec.ofChange sketchAloneSpec)

/-- ITS FALSE NEIGHBOUR: 'it returns false'. Refute it at one input. -/
def sketchAloneWrong : ChangeSpec := { name := "sketchAlone", fn := fun _ => fun
  | [d1, d2, d3, d4] => { results := [.lit (.bool false)], args := [d1, d2, d3, d4] }
  | _ => none }
def SketchAloneWrongFalsely : Prop := sketchAloneRow.holds Try.pinned (OpenSpec.ofChange sketchAloneWrong)

/-- 'weirhousekeep.SketchJoin': WHATEVER THE INPUT: true; the input reads as it did. -/
def sketchJoinSpec : ChangeSpec := { name := "sketchJoin", fn := fun _ => fun
  | [d1, d2, d3, d4] => { results := [.lit (.bool true)], args := [d1, d2, d3, d4] }
  | _ => none }
def sketchJoinRow : OpenClaim := { program := "ytadogoahnpakbaa", sum := "8bb407c0ad81d0a7ecbc80bbdbb2db270512105647a81d772946d9484fc6778f", func := "weirhouse/weirhousekeep.SketchJoin", spec := "sketchJoin", unfollowed := true, recurses := true, apart := false }
def SketchJoinSaid : Prop := sketchJoinRow.holds Try.pinned (OpenSpec.ofChange sketchJoinSpec)

/-- ITS FALSE NEIGHBOUR: 'it returns false'. Refute it at one input. -/
def sketchJoinWrong : ChangeSpec := { name := "sketchJoin", fn := fun _ => fun
  | [d1, d2, d3, d4] => { results := [.lit (.bool false)], args := [d1, d2, d3, d4] }
  | _ => none }
def SketchJoinWrongFalsely : Prop := sketchJoinRow.holds Try.pinned (OpenSpec.ofChange sketchJoinWrong)

/- THE SECOND FORM. 'bulk': how many values and letters a reading holds, each counted each time it is reached (what is shared counts as often as it is met; a slice's spare places count too). A statement '..UptoSaid' is the law's where the arguments, and the package variables that the reading takes, are together of bulk at most 1048576: NARROWER than '..Said'. Prove '..Said' where nothing that the law and all that it calls make is longer than what came in: it says more and counts as full. Else prove '..UptoSaid'. A law counts once. -/
mutual
def uptoBulk {H : Type} : DataW H → Nat
  | .lit (.string bytes) => bytes.length + 1
  | .lit _ => 1
  | .nil => 1
  | .ptr d => uptoBulk d + 1
  | .slice elems spare => uptoBulkAll elems + uptoBulkAll spare + 1
  | .agg parts => uptoBulkAll parts + 1
  | .iface _ d => uptoBulk d + 1
  | .map entries => uptoBulkEntries entries + 1
  | .held _ => 1
def uptoBulkAll {H : Type} : List (DataW H) → Nat
  | [] => 0
  | d :: r => uptoBulk d + uptoBulkAll r
def uptoBulkEntries {H : Type} : List (Lit × DataW H) → Nat
  | [] => 0
  | x :: r => uptoBulkEntry x + uptoBulkEntries r
def uptoBulkEntry {H : Type} : Lit × DataW H → Nat
  | (.string bytes, d) => bytes.length + uptoBulk d + 1
  | (_, d) => uptoBulk d + 1
 end
def uptoSmall : (H : Type) → List (DataW H) → Bool := fun _ ds => decide (uptoBulkAll ds ≤ 1048576)
def OpenSpec.upto (s : _root_.Go.ChangeSpec) : _root_.Go.OpenSpec := { _root_.Go.OpenSpec.ofChange s with cond := some uptoSmall }

/-- 'weirhousekeep.SketchNever', WHERE WHAT IT READS IS OF BULK AT MOST 1048576: true; the input reads as it did. -/
def sketchNeverUptoRow : OpenClaim := { program := "ytadogoahnpakbaa", sum := "8bb407c0ad81d0a7ecbc80bbdbb2db270512105647a81d772946d9484fc6778f", func := "weirhouse/weirhousekeep.SketchNever", spec := "sketchNever", unfollowed := true, recurses := true, apart := false, narrowed := true }
def SketchNeverUptoSaid : Prop := sketchNeverUptoRow.holds Try.pinned (OpenSpec.upto sketchNeverSpec)

/-- 'weirhousekeep.SketchRows', WHERE WHAT IT READS IS OF BULK AT MOST 1048576: true; the input reads as it did. -/
def sketchRowsUptoRow : OpenClaim := { program := "ytadogoahnpakbaa", sum := "8bb407c0ad81d0a7ecbc80bbdbb2db270512105647a81d772946d9484fc6778f", func := "weirhouse/weirhousekeep.SketchRows", spec := "sketchRows", unfollowed := true, recurses := true, apart := false, narrowed := true }
def SketchRowsUptoSaid : Prop := sketchRowsUptoRow.holds Try.pinned (OpenSpec.upto sketchRowsSpec)

/-- 'weirhousekeep.SketchAlone', WHERE WHAT IT READS IS OF BULK AT MOST 1048576: true; the input reads as it did. -/
def sketchAloneUptoRow : OpenClaim := { program := "ytadogoahnpakbaa", sum := "8bb407c0ad81d0a7ecbc80bbdbb2db270512105647a81d772946d9484fc6778f", func := "weirhouse/weirhousekeep.SketchAlone", spec := "sketchAlone", unfollowed := true, recurses := true, apart := false, narrowed := true }
def SketchAloneUptoSaid : Prop := sketchAloneUptoRow.holds Try.pinned (OpenSpec.upto sketchAloneSpec)

/-- 'weirhousekeep.SketchJoin', WHERE WHAT IT READS IS OF BULK AT MOST 1048576: true; the input reads as it did. -/
def sketchJoinUptoRow : OpenClaim := { program := "ytadogoahnpakbaa", sum := "8bb407c0ad81d0a7ecbc80bbdbb2db270512105647a81d772946d9484fc6778f", func := "weirhouse/weirhousekeep.SketchJoin", spec := "sketchJoin", unfollowed := true, recurses := true, apart := false, narrowed := true }
def SketchJoinUptoSaid : Prop := sketchJoinUptoRow.holds Try.pinned (OpenSpec.upto sketchJoinSpec)

end Rows
end Go.Proofs.Ytadogoahnpakbaa
