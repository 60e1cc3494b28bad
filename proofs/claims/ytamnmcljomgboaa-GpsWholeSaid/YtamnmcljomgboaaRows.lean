/-
  No cell of these rows narrows 'for every input' (looked for: loops, veiled, ifaces, maps, wideKeys, modest, calm, conditions, laid).
  DERIVED. THE GIVEN ROWS OF THIS SEAT. 5 by the template 'for every input the law returns true; each argument reads behind the call as it read before'; 0 by the template 'total and deterministic' (their statements: YtamnmcljomgboaaTotals.lean).
  GIVEN WITH THE SEED: the statements are not yours to turn. If you find one false, say at which input.
  Laid BY PROGRAM, IN A SANDBOX (cutbox-rows.mjs): the forced cells as the released guide's own fill.sh prints them over the translation 44fa1e47c97aff47… (all of the seat's roots in one cut). By AI agents, Wed Nov 11 2026. No macro, syntax, notation, axiom, sorry.
-/
import Derived.Test.YtamnmcljomgboaaChecked
import GoSem.Claim
import GoSem.ClaimJoined
import GoSem.ClaimMapViews
import Derived.JoinedTies
import Derived.KernelRfl
namespace Go.Proofs.Ytamnmcljomgboaa
/- THE CELL 'sum', in the pinned program and in every row, IS THE sha256 OF THE DUMP (.gsa) THAT YtamnmcljomgboaaProg.lean LOADS. Nothing in Lean hashes anything: it is a label: what it is worth is what the hold of that sum in a sandbox is worth. -/
noncomputable def Try.pinned : Pinned := { name := "ytamnmcljomgboaa", sum := "44fa1e47c97aff476f34e1c06924fcc1c45e82418bfc5d5a00e4b3aa2089ac77", checked := Try.checked }
namespace Rows
def none {H : Type} : Left H := { results := [], args := [] }

/-- 'weirhousekeep.GpsLast': WHATEVER THE INPUT: true; the input reads as it did. -/
def gpsLastSpec : ChangeSpec := { name := "gpsLast", fn := fun _ => fun
  | [d1, d2] => { results := [.lit (.bool true)], args := [d1, d2] }
  | _ => none }
def gpsLastRow : OpenClaim := { program := "ytamnmcljomgboaa", sum := "44fa1e47c97aff476f34e1c06924fcc1c45e82418bfc5d5a00e4b3aa2089ac77", func := "weirhouse/weirhousekeep.GpsLast", spec := "gpsLast", unfollowed := true, recurses := true, apart := false }
def GpsLastSaid : Prop := gpsLastRow.holds Try.pinned (OpenSpec.ofChange gpsLastSpec)

/-- ITS FALSE NEIGHBOUR: 'it returns false'. Refute it at one input. -/
def gpsLastWrong : ChangeSpec := { name := "gpsLast", fn := fun _ => fun
  | [d1, d2] => { results := [.lit (.bool false)], args := [d1, d2] }
  | _ => none }
def GpsLastWrongFalsely : Prop := gpsLastRow.holds Try.pinned (OpenSpec.ofChange gpsLastWrong)

/-- 'weirhousekeep.GpsShare': WHATEVER THE INPUT: true; the input reads as it did. -/
def gpsShareSpec : ChangeSpec := { name := "gpsShare", fn := fun _ => fun
  | [d1, d2] => { results := [.lit (.bool true)], args := [d1, d2] }
  | _ => none }
def gpsShareRow : OpenClaim := { program := "ytamnmcljomgboaa", sum := "44fa1e47c97aff476f34e1c06924fcc1c45e82418bfc5d5a00e4b3aa2089ac77", func := "weirhouse/weirhousekeep.GpsShare", spec := "gpsShare", unfollowed := true, recurses := true, apart := false }
def GpsShareSaid : Prop := gpsShareRow.holds Try.pinned (OpenSpec.ofChange gpsShareSpec)

/-- ITS FALSE NEIGHBOUR: 'it returns false'. Refute it at one input. -/
def gpsShareWrong : ChangeSpec := { name := "gpsShare", fn := fun _ => fun
  | [d1, d2] => { results := [.lit (.bool false)], args := [d1, d2] }
  | _ => none }
def GpsShareWrongFalsely : Prop := gpsShareRow.holds Try.pinned (OpenSpec.ofChange gpsShareWrong)

/-- 'weirhousekeep.GpsWhole': WHATEVER THE INPUT: true; the input reads as it did. -/
def gpsWholeSpec : ChangeSpec := { name := "gpsWhole", fn := fun _ => fun
  | [d1, d2] => { results := [.lit (.bool true)], args := [d1, d2] }
  | _ => none }
def gpsWholeRow : OpenClaim := { program := "ytamnmcljomgboaa", sum := "44fa1e47c97aff476f34e1c06924fcc1c45e82418bfc5d5a00e4b3aa2089ac77", func := "weirhouse/weirhousekeep.GpsWhole", spec := "gpsWhole", unfollowed := true, recurses := true, apart := false }
def GpsWholeSaid : Prop := gpsWholeRow.holds Try.pinned (OpenSpec.ofChange gpsWholeSpec)

/-- ITS FALSE NEIGHBOUR: 'it returns false'. Refute it at one input. -/
def gpsWholeWrong : ChangeSpec := { name := "gpsWhole", fn := fun _ => fun
  | [d1, d2] => { results := [.lit (.bool false)], args := [d1, d2] }
  | _ => none }
def GpsWholeWrongFalsely : Prop := gpsWholeRow.holds Try.pinned (OpenSpec.ofChange gpsWholeWrong)

/-- 'weirhousekeep.GpsMore': WHATEVER THE INPUT: true; the input reads as it did. -/
def gpsMoreSpec : ChangeSpec := { name := "gpsMore", fn := fun _ => fun
  | [d1, d2, d3, d4] => { results := [.lit (.bool true)], args := [d1, d2, d3, d4] }
  | _ => none }
def gpsMoreRow : OpenClaim := { program := "ytamnmcljomgboaa", sum := "44fa1e47c97aff476f34e1c06924fcc1c45e82418bfc5d5a00e4b3aa2089ac77", func := "weirhouse/weirhousekeep.GpsMore", spec := "gpsMore", unfollowed := true, recurses := true, apart := false }
def GpsMoreSaid : Prop := gpsMoreRow.holds Try.pinned (OpenSpec.ofChange gpsMoreSpec)

/-- ITS FALSE NEIGHBOUR: 'it returns false'. Refute it at one input. -/
def gpsMoreWrong : ChangeSpec := { name := "gpsMore", fn := fun _ => fun
  | [d1, d2, d3, d4] => { results := [.lit (.bool false)], args := [d1, d2, d3, d4] }
  | _ => none }
def GpsMoreWrongFalsely : Prop := gpsMoreRow.holds Try.pinned (OpenSpec.ofChange gpsMoreWrong)

/-- 'weirhousekeep.GpsScale': WHATEVER THE INPUT: true; the input reads as it did. -/
def gpsScaleSpec : ChangeSpec := { name := "gpsScale", fn := fun _ => fun
  | [d1, d2, d3] => { results := [.lit (.bool true)], args := [d1, d2, d3] }
  | _ => none }
def gpsScaleRow : OpenClaim := { program := "ytamnmcljomgboaa", sum := "44fa1e47c97aff476f34e1c06924fcc1c45e82418bfc5d5a00e4b3aa2089ac77", func := "weirhouse/weirhousekeep.GpsScale", spec := "gpsScale", unfollowed := true, recurses := true, apart := false }
def GpsScaleSaid : Prop := gpsScaleRow.holds Try.pinned (OpenSpec.ofChange gpsScaleSpec)

/-- ITS FALSE NEIGHBOUR: 'it returns false'. Refute it at one input. -/
def gpsScaleWrong : ChangeSpec := { name := "gpsScale", fn := fun _ => fun
  | [d1, d2, d3] => { results := [.lit (.bool false)], args := [d1, d2, d3] }
  | _ => none }
def GpsScaleWrongFalsely : Prop := gpsScaleRow.holds Try.pinned (OpenSpec.ofChange gpsScaleWrong)

/- THE SECOND FORM. 'bulk': how many values and letters a reading holds, each counted each time it is reached (what is shared counts as often as it is met; a slice's spare places count too). A statement '..UptoSaid' is the law's where the arguments, and the package variables that the reading takes, are together of bulk at most 1048576: NARROWER than '..Said'. Prove '..Said' where nothing that the law and all that it calls make is longer than what came in: it says more and counts as full. Else prove '..UptoSaid'. A law counts once. -/
mutual
def uptoBulk {H : Type} : DataW H → Nat
  | .lit (.string bytes) => bytes.length + 1
  | .lit _ => 1
  | .nil => 1
  | .ptr d => uptoBulk d + 1
  | .slice elems spare => uptoBulkAll elems + uptoBulkAll spare + 1
  | .agg parts => uptoBulkAll parts + 1
  | .iface _ d => uptoBulk d + 1
  | .map entries => uptoBulkEntries entries + 1
  | .held _ => 1
def uptoBulkAll {H : Type} : List (DataW H) → Nat
  | [] => 0
  | d :: r => uptoBulk d + uptoBulkAll r
def uptoBulkEntries {H : Type} : List (Lit × DataW H) → Nat
  | [] => 0
  | x :: r => uptoBulkEntry x + uptoBulkEntries r
def uptoBulkEntry {H : Type} : Lit × DataW H → Nat
  | (.string bytes, d) => bytes.length + uptoBulk d + 1
  | (_, d) => uptoBulk d + 1
 end
def uptoSmall : (H : Type) → List (DataW H) → Bool := fun _ ds => decide (uptoBulkAll ds ≤ 1048576)
def OpenSpec.upto (s : _root_.Go.ChangeSpec) : _root_.Go.OpenSpec := { _root_.Go.OpenSpec.ofChange s with cond := some uptoSmall }

/-- 'weirhousekeep.GpsLast', WHERE WHAT IT READS IS OF BULK AT MOST 1048576: true; the input reads as it did. -/
def gpsLastUptoRow : OpenClaim := { program := "ytamnmcljomgboaa", sum := "44fa1e47c97aff476f34e1c06924fcc1c45e82418bfc5d5a00e4b3aa2089ac77", func := "weirhouse/weirhousekeep.GpsLast", spec := "gpsLast", unfollowed := true, recurses := true, apart := false, narrowed := true }
def GpsLastUptoSaid : Prop := gpsLastUptoRow.holds Try.pinned (OpenSpec.upto gpsLastSpec)

/-- 'weirhousekeep.GpsShare', WHERE WHAT IT READS IS OF BULK AT MOST 1048576: true; the input reads as it did. -/
def gpsShareUptoRow : OpenClaim := { program := "ytamnmcljomgboaa", sum := "44fa1e47c97aff476f34e1c06924fcc1c45e82418bfc5d5a00e4b3aa2089ac77", func := "weirhouse/weirhousekeep.GpsShare", spec := "gpsShare", unfollowed := true, recurses := true, apart := false, narrowed := true }
def GpsShareUptoSaid : Prop := gpsShareUptoRow.holds Try.pinned (OpenSpec.upto gpsShareSpec)

/-- 'weirhousekeep.GpsWhole', WHERE WHAT IT READS IS OF BULK AT MOST 1048576: true; the input reads as it did. -/
def gpsWholeUptoRow : OpenClaim := { program := "ytamnmcljomgboaa", sum := "44fa1e47c97aff476f34e1c06924fcc1c45e82418bfc5d5a00e4b3aa2089ac77", func := "weirhouse/weirhousekeep.GpsWhole", spec := "gpsWhole", unfollowed := true, recurses := true, apart := false, narrowed := true }
def GpsWholeUptoSaid : Prop := gpsWholeUptoRow.holds Try.pinned (OpenSpec.upto gpsWholeSpec)

/-- 'weirhousekeep.GpsMore', WHERE WHAT IT READS IS OF BULK AT MOST 1048576: true; the input reads as it did. -/
def gpsMoreUptoRow : OpenClaim := { program := "ytamnmcljomgboaa", sum := "44fa1e47c97aff476f34e1c06924fcc1c45e82418bfc5d5a00e4b3aa2089ac77", func := "weirhouse/weirhousekeep.GpsMore", spec := "gpsMore", unfollowed := true, recurses := true, apart := false, narrowed := true }
def GpsMoreUptoSaid : Prop := gpsMoreUptoRow.holds Try.pinned (OpenSpec.upto gpsMoreSpec)

/-- 'weirhousekeep.GpsScale', WHERE WHAT IT READS IS OF BULK AT MOST 1048576: true; the input reads as it did. -/
def gpsScaleUptoRow : OpenClaim := { program := "ytamnmcljomgboaa", sum := "44fa1e47c97aff476f34e1c06924fcc1c45e82418bfc5d5a00e4b3aa2089ac77", func := "weirhouse/weirhousekeep.GpsScale", spec := "gpsScale", unfollowed := true, recurses := true, apart := false, narrowed := true }
def GpsScaleUptoSaid : Prop := gpsScaleUptoRow.holds Try.pinned (OpenSpec.upto gpsScaleSpec)

end Rows
end Go.Proofs.Ytamnmcljomgboaa
