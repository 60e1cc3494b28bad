/-
  No cell of these rows narrows 'for every input' (looked for: loops, veiled, ifaces, maps, wideKeys, modest, calm, conditions, laid).
  DERIVED. THE GIVEN ROWS OF THIS SEAT. 5 by the template 'for every input the law returns true; each argument reads behind the call as it read before'; 0 by the template 'total and deterministic' (their statements: YthdpcloggedhfaaTotals.lean).
  GIVEN WITH THE SEED: the statements are not yours to turn. If you find one false, say at which input.
  Laid BY PROGRAM, IN A SANDBOX (cutbox-rows.mjs): the forced cells as the released guide's own fill.sh prints them over the translation 43edc44e948315c8… (all of the seat's roots in one cut). By AI agents, Wed Nov 11 2026. No macro, syntax, notation, axiom, sorry.
-/
import Derived.Test.YthdpcloggedhfaaChecked
import GoSem.Claim
import GoSem.ClaimJoined
import GoSem.ClaimMapViews
import Derived.JoinedTies
import Derived.KernelRfl
namespace Go.Proofs.Ythdpcloggedhfaa
/- THE CELL 'sum', in the pinned program and in every row, IS THE sha256 OF THE DUMP (.gsa) THAT YthdpcloggedhfaaProg.lean LOADS. Nothing in Lean hashes anything: it is a label: what it is worth is what the hold of that sum in a sandbox is worth. -/
noncomputable def Try.pinned : Pinned := { name := "ythdpcloggedhfaa", sum := "43edc44e948315c8783f9efce39afb0073d6ad85d63196fe28a5178bc900feb6", checked := Try.checked }
namespace Rows
def none {H : Type} : Left H := { results := [], args := [] }

/-- 'weirhousekeep.DrrFair': WHATEVER THE INPUT: true; the input reads as it did. -/
def drrFairSpec : ChangeSpec := { name := "drrFair", fn := fun _ => fun
  | [d1, d2, d3] => { results := [.lit (.bool true)], args := [d1, d2, d3] }
  | _ => none }
def drrFairRow : OpenClaim := { program := "ythdpcloggedhfaa", sum := "43edc44e948315c8783f9efce39afb0073d6ad85d63196fe28a5178bc900feb6", func := "weirhouse/weirhousekeep.DrrFair", spec := "drrFair", unfollowed := true, recurses := true, apart := false }
def DrrFairSaid : Prop := drrFairRow.holds Try.pinned (OpenSpec.ofChange drrFairSpec)

/-- ITS FALSE NEIGHBOUR: 'it returns false'. Refute it at one input. -/
def drrFairWrong : ChangeSpec := { name := "drrFair", fn := fun _ => fun
  | [d1, d2, d3] => { results := [.lit (.bool false)], args := [d1, d2, d3] }
  | _ => none }
def DrrFairWrongFalsely : Prop := drrFairRow.holds Try.pinned (OpenSpec.ofChange drrFairWrong)

/-- 'weirhousekeep.DrrOrder': WHATEVER THE INPUT: true; the input reads as it did. -/
def drrOrderSpec : ChangeSpec := { name := "drrOrder", fn := fun _ => fun
  | [d1, d2, d3] => { results := [.lit (.bool true)], args := [d1, d2, d3] }
  | _ => none }
def drrOrderRow : OpenClaim := { program := "ythdpcloggedhfaa", sum := "43edc44e948315c8783f9efce39afb0073d6ad85d63196fe28a5178bc900feb6", func := "weirhouse/weirhousekeep.DrrOrder", spec := "drrOrder", unfollowed := true, recurses := true, apart := false }
def DrrOrderSaid : Prop := drrOrderRow.holds Try.pinned (OpenSpec.ofChange drrOrderSpec)

/-- ITS FALSE NEIGHBOUR: 'it returns false'. Refute it at one input. -/
def drrOrderWrong : ChangeSpec := { name := "drrOrder", fn := fun _ => fun
  | [d1, d2, d3] => { results := [.lit (.bool false)], args := [d1, d2, d3] }
  | _ => none }
def DrrOrderWrongFalsely : Prop := drrOrderRow.holds Try.pinned (OpenSpec.ofChange drrOrderWrong)

/-- 'weirhousekeep.DrrApart': WHATEVER THE INPUT: true; the input reads as it did. -/
def drrApartSpec : ChangeSpec := { name := "drrApart", fn := fun _ => fun
  | [d1, d2, d3, d4] => { results := [.lit (.bool true)], args := [d1, d2, d3, d4] }
  | _ => none }
def drrApartRow : OpenClaim := { program := "ythdpcloggedhfaa", sum := "43edc44e948315c8783f9efce39afb0073d6ad85d63196fe28a5178bc900feb6", func := "weirhouse/weirhousekeep.DrrApart", spec := "drrApart", unfollowed := true, recurses := true, apart := false }
def DrrApartSaid : Prop := drrApartRow.holds Try.pinned (OpenSpec.ofChange drrApartSpec)

/-- ITS FALSE NEIGHBOUR: 'it returns false'. Refute it at one input. -/
def drrApartWrong : ChangeSpec := { name := "drrApart", fn := fun _ => fun
  | [d1, d2, d3, d4] => { results := [.lit (.bool false)], args := [d1, d2, d3, d4] }
  | _ => none }
def DrrApartWrongFalsely : Prop := drrApartRow.holds Try.pinned (OpenSpec.ofChange drrApartWrong)

/-- 'weirhousekeep.DrrAll': WHATEVER THE INPUT: true; the input reads as it did. -/
def drrAllSpec : ChangeSpec := { name := "drrAll", fn := fun _ => fun
  | [d1, d2] => { results := [.lit (.bool true)], args := [d1, d2] }
  | _ => none }
def drrAllRow : OpenClaim := { program := "ythdpcloggedhfaa", sum := "43edc44e948315c8783f9efce39afb0073d6ad85d63196fe28a5178bc900feb6", func := "weirhouse/weirhousekeep.DrrAll", spec := "drrAll", unfollowed := true, recurses := true, apart := false }
def DrrAllSaid : Prop := drrAllRow.holds Try.pinned (OpenSpec.ofChange drrAllSpec)

/-- ITS FALSE NEIGHBOUR: 'it returns false'. Refute it at one input. -/
def drrAllWrong : ChangeSpec := { name := "drrAll", fn := fun _ => fun
  | [d1, d2] => { results := [.lit (.bool false)], args := [d1, d2] }
  | _ => none }
def DrrAllWrongFalsely : Prop := drrAllRow.holds Try.pinned (OpenSpec.ofChange drrAllWrong)

/-- 'weirhousekeep.DrrParts': WHATEVER THE INPUT: true; the input reads as it did. -/
def drrPartsSpec : ChangeSpec := { name := "drrParts", fn := fun _ => fun
  | [d1, d2, d3] => { results := [.lit (.bool true)], args := [d1, d2, d3] }
  | _ => none }
def drrPartsRow : OpenClaim := { program := "ythdpcloggedhfaa", sum := "43edc44e948315c8783f9efce39afb0073d6ad85d63196fe28a5178bc900feb6", func := "weirhouse/weirhousekeep.DrrParts", spec := "drrParts", unfollowed := true, recurses := true, apart := false }
def DrrPartsSaid : Prop := drrPartsRow.holds Try.pinned (OpenSpec.ofChange drrPartsSpec)

/-- ITS FALSE NEIGHBOUR: 'it returns false'. Refute it at one input. -/
def drrPartsWrong : ChangeSpec := { name := "drrParts", fn := fun _ => fun
  | [d1, d2, d3] => { results := [.lit (.bool false)], args := [d1, d2, d3] }
  | _ => none }
def DrrPartsWrongFalsely : Prop := drrPartsRow.holds Try.pinned (OpenSpec.ofChange drrPartsWrong)

/- THE SECOND FORM. 'bulk': how many values and letters a reading holds, each counted each time it is reached (what is shared counts as often as it is met; a slice's spare places count too). A statement '..UptoSaid' is the law's where the arguments, and the package variables that the reading takes, are together of bulk at most 1048576: NARROWER than '..Said'. Prove '..Said' where nothing that the law and all that it calls make is longer than what came in: it says more and counts as full. Else prove '..UptoSaid'. A law counts once. -/
mutual
def uptoBulk {H : Type} : DataW H → Nat
  | .lit (.string bytes) => bytes.length + 1
  | .lit _ => 1
  | .nil => 1
  | .ptr d => uptoBulk d + 1
  | .slice elems spare => uptoBulkAll elems + uptoBulkAll spare + 1
  | .agg parts => uptoBulkAll parts + 1
  | .iface _ d => uptoBulk d + 1
  | .map entries => uptoBulkEntries entries + 1
  | .held _ => 1
def uptoBulkAll {H : Type} : List (DataW H) → Nat
  | [] => 0
  | d :: r => uptoBulk d + uptoBulkAll r
def uptoBulkEntries {H : Type} : List (Lit × DataW H) → Nat
  | [] => 0
  | x :: r => uptoBulkEntry x + uptoBulkEntries r
def uptoBulkEntry {H : Type} : Lit × DataW H → Nat
  | (.string bytes, d) => bytes.length + uptoBulk d + 1
  | (_, d) => uptoBulk d + 1
 end
def uptoSmall : (H : Type) → List (DataW H) → Bool := fun _ ds => decide (uptoBulkAll ds ≤ 1048576)
def OpenSpec.upto (s : _root_.Go.ChangeSpec) : _root_.Go.OpenSpec := { _root_.Go.OpenSpec.ofChange s with cond := some uptoSmall }

/-- 'weirhousekeep.DrrFair', WHERE WHAT IT READS IS OF BULK AT MOST 1048576: true; the input reads as it did. -/
def drrFairUptoRow : OpenClaim := { program := "ythdpcloggedhfaa", sum := "43edc44e948315c8783f9efce39afb0073d6ad85d63196fe28a5178bc900feb6", func := "weirhouse/weirhousekeep.DrrFair", spec := "drrFair", unfollowed := true, recurses := true, apart := false, narrowed := true }
def DrrFairUptoSaid : Prop := drrFairUptoRow.holds Try.pinned (OpenSpec.upto drrFairSpec)

/-- 'weirhousekeep.DrrOrder', WHERE WHAT IT READS IS OF BULK AT MOST 1048576: true; the input reads as it did. -/
def drrOrderUptoRow : OpenClaim := { program := "ythdpcloggedhfaa", sum := "43edc44e948315c8783f9efce39afb0073d6ad85d63196fe28a5178bc900feb6", func := "weirhouse/weirhousekeep.DrrOrder", spec := "drrOrder", unfollowed := true, recurses := true, apart := false, narrowed := true }
def DrrOrderUptoSaid : Prop := drrOrderUptoRow.holds Try.pinned (OpenSpec.upto drrOrderSpec)

/-- 'weirhousekeep.DrrApart', WHERE WHAT IT READS IS OF BULK AT MOST 1048576: true; the input reads as it did. -/
def drrApartUptoRow : OpenClaim := { program := "ythdpcloggedhfaa", sum := "43edc44e948315c8783f9efce39afb0073d6ad85d63196fe28a5178bc900feb6", func := "weirhouse/weirhousekeep.DrrApart", spec := "drrApart", unfollowed := true, recurses := true, apart := false, narrowed := true }
def DrrApartUptoSaid : Prop := drrApartUptoRow.holds Try.pinned (OpenSpec.upto drrApartSpec)

/-- 'weirhousekeep.DrrAll', WHERE WHAT IT READS IS OF BULK AT MOST 1048576: true; the input reads as it did. -/
def drrAllUptoRow : OpenClaim := { program := "ythdpcloggedhfaa", sum := "43edc44e948315c8783f9efce39afb0073d6ad85d63196fe28a5178bc900feb6", func := "weirhouse/weirhousekeep.DrrAll", spec := "drrAll", unfollowed := true, recurses := true, apart := false, narrowed := true }
def DrrAllUptoSaid : Prop := drrAllUptoRow.holds Try.pinned (OpenSpec.upto drrAllSpec)

/-- 'weirhousekeep.DrrParts', WHERE WHAT IT READS IS OF BULK AT MOST 1048576: true; the input reads as it did. -/
def drrPartsUptoRow : OpenClaim := { program := "ythdpcloggedhfaa", sum := "43edc44e948315c8783f9efce39afb0073d6ad85d63196fe28a5178bc900feb6", func := "weirhouse/weirhousekeep.DrrParts", spec := "drrParts", unfollowed := true, recurses := true, apart := false, narrowed := true }
def DrrPartsUptoSaid : Prop := drrPartsUptoRow.holds Try.pinned (OpenSpec.upto drrPartsSpec)

end Rows
end Go.Proofs.Ythdpcloggedhfaa
