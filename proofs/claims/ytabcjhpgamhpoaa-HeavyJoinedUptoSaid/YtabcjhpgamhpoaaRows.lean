/-
  No cell of these rows narrows 'for every input' (looked for: loops, veiled, ifaces, maps, wideKeys, modest, calm, conditions, laid).
  DERIVED. THE GIVEN ROWS OF THIS SEAT. 4 by the template 'for every input the law returns true; each argument reads behind the call as it read before'; 0 by the template 'total and deterministic' (their statements: YtabcjhpgamhpoaaTotals.lean).
  GIVEN WITH THE SEED: the statements are not yours to turn. If you find one false, say at which input.
  Laid BY PROGRAM, IN A SANDBOX (cutbox-rows.mjs): the forced cells as the released guide's own fill.sh prints them over the translation 07d8a792be5962c7… (all of the seat's roots in one cut). By AI agents, Wed Nov 11 2026. No macro, syntax, notation, axiom, sorry.
-/
import Derived.Test.YtabcjhpgamhpoaaChecked
import GoSem.Claim
import GoSem.ClaimJoined
import GoSem.ClaimMapViews
import Derived.JoinedTies
import Derived.KernelRfl
namespace Go.Proofs.Ytabcjhpgamhpoaa
/- THE CELL 'sum', in the pinned program and in every row, IS THE sha256 OF THE DUMP (.gsa) THAT YtabcjhpgamhpoaaProg.lean LOADS. Nothing in Lean hashes anything: it is a label: what it is worth is what the hold of that sum in a sandbox is worth. -/
noncomputable def Try.pinned : Pinned := { name := "ytabcjhpgamhpoaa", sum := "07d8a792be5962c7e9fe0c36314f54e0fb95c60cdc2e623db3b5e7b38012cf74", checked := Try.checked }
namespace Rows
def none {H : Type} : Left H := { results := [], args := [] }

/-- 'weirhousekeep.HeavyNear': WHATEVER THE INPUT: true; the input reads as it did. -/
def heavyNearSpec : ChangeSpec := { name := "heavyNear", fn := fun _ => fun
  | [d1, d2, d3] => { results := [.lit (.bool true)], args := [d1, d2, d3] }
  | _ => none }
def heavyNearRow : OpenClaim := { program := "ytabcjhpgamhpoaa", sum := "07d8a792be5962c7e9fe0c36314f54e0fb95c60cdc2e623db3b5e7b38012cf74", func := "weirhouse/weirhousekeep.HeavyNear", spec := "heavyNear", inPlace := ["slices.overlaps[weirhouse/api.Count]"], unfollowed := true, recurses := true, apart := false }
def HeavyNearSaid : Prop := heavyNearRow.holds Try.pinned (OpenSpec.ofChange heavyNearSpec)

/-- ITS FALSE NEIGHBOUR: 'it returns false'. Refute it at one input. -/
def heavyNearWrong : ChangeSpec := { name := "heavyNear", fn := fun _ => fun
  | [d1, d2, d3] => { results := [.lit (.bool false)], args := [d1, d2, d3] }
  | _ => none }
def HeavyNearWrongFalsely : Prop := heavyNearRow.holds Try.pinned (OpenSpec.ofChange heavyNearWrong)

/-- 'weirhousekeep.HeavyJoined': WHATEVER THE INPUT: true; the input reads as it did. -/
def heavyJoinedSpec : ChangeSpec := { name := "heavyJoined", fn := fun _ => fun
  | [d1, d2, d3, d4] => { results := [.lit (.bool true)], args := [d1, d2, d3, d4] }
  | _ => none }
def heavyJoinedRow : OpenClaim := { program := "ytabcjhpgamhpoaa", sum := "07d8a792be5962c7e9fe0c36314f54e0fb95c60cdc2e623db3b5e7b38012cf74", func := "weirhouse/weirhousekeep.HeavyJoined", spec := "heavyJoined", inPlace := ["slices.overlaps[weirhouse/api.Count]"], unfollowed := true, recurses := true, apart := false }
def HeavyJoinedSaid : Prop := heavyJoinedRow.holds Try.pinned (OpenSpec.ofChange heavyJoinedSpec)

/-- ITS FALSE NEIGHBOUR: 'it returns false'. Refute it at one input. -/
def heavyJoinedWrong : ChangeSpec := { name := "heavyJoined", fn := fun _ => fun
  | [d1, d2, d3, d4] => { results := [.lit (.bool false)], args := [d1, d2, d3, d4] }
  | _ => none }
def HeavyJoinedWrongFalsely : Prop := heavyJoinedRow.holds Try.pinned (OpenSpec.ofChange heavyJoinedWrong)

/-- 'weirhousekeep.HeavyMost': WHATEVER THE INPUT: true; the input reads as it did. -/
def heavyMostSpec : ChangeSpec := { name := "heavyMost", fn := fun _ => fun
  | [d] => { results := [.lit (.bool true)], args := [d] }
  | _ => none }
def heavyMostRow : OpenClaim := { program := "ytabcjhpgamhpoaa", sum := "07d8a792be5962c7e9fe0c36314f54e0fb95c60cdc2e623db3b5e7b38012cf74", func := "weirhouse/weirhousekeep.HeavyMost", spec := "heavyMost", inPlace := ["slices.overlaps[weirhouse/api.Count]"], unfollowed := true, recurses := true, apart := false }
def HeavyMostSaid : Prop := heavyMostRow.holds Try.pinned (OpenSpec.ofChange heavyMostSpec)

/-- ITS FALSE NEIGHBOUR: 'it returns false'. Refute it at one input. -/
def heavyMostWrong : ChangeSpec := { name := "heavyMost", fn := fun _ => fun
  | [d] => { results := [.lit (.bool false)], args := [d] }
  | _ => none }
def HeavyMostWrongFalsely : Prop := heavyMostRow.holds Try.pinned (OpenSpec.ofChange heavyMostWrong)

/-- 'weirhousekeep.HeavyFew': WHATEVER THE INPUT: true; the input reads as it did. -/
def heavyFewSpec : ChangeSpec := { name := "heavyFew", fn := fun _ => fun
  | [d1, d2, d3] => { results := [.lit (.bool true)], args := [d1, d2, d3] }
  | _ => none }
def heavyFewRow : OpenClaim := { program := "ytabcjhpgamhpoaa", sum := "07d8a792be5962c7e9fe0c36314f54e0fb95c60cdc2e623db3b5e7b38012cf74", func := "weirhouse/weirhousekeep.HeavyFew", spec := "heavyFew", inPlace := ["slices.overlaps[weirhouse/api.Count]"], unfollowed := true, recurses := true, apart := false }
def HeavyFewSaid : Prop := heavyFewRow.holds Try.pinned (OpenSpec.ofChange heavyFewSpec)

/-- ITS FALSE NEIGHBOUR: 'it returns false'. Refute it at one input. -/
def heavyFewWrong : ChangeSpec := { name := "heavyFew", fn := fun _ => fun
  | [d1, d2, d3] => { results := [.lit (.bool false)], args := [d1, d2, d3] }
  | _ => none }
def HeavyFewWrongFalsely : Prop := heavyFewRow.holds Try.pinned (OpenSpec.ofChange heavyFewWrong)

/- THE SECOND FORM. 'bulk': how many values and letters a reading holds, each counted each time it is reached (what is shared counts as often as it is met; a slice's spare places count too). A statement '..UptoSaid' is the law's where the arguments, and the package variables that the reading takes, are together of bulk at most 1048576: NARROWER than '..Said'. Prove '..Said' where nothing that the law and all that it calls make is longer than what came in: it says more and counts as full. Else prove '..UptoSaid'. A law counts once. -/
mutual
def uptoBulk {H : Type} : DataW H → Nat
  | .lit (.string bytes) => bytes.length + 1
  | .lit _ => 1
  | .nil => 1
  | .ptr d => uptoBulk d + 1
  | .slice elems spare => uptoBulkAll elems + uptoBulkAll spare + 1
  | .agg parts => uptoBulkAll parts + 1
  | .iface _ d => uptoBulk d + 1
  | .map entries => uptoBulkEntries entries + 1
  | .held _ => 1
def uptoBulkAll {H : Type} : List (DataW H) → Nat
  | [] => 0
  | d :: r => uptoBulk d + uptoBulkAll r
def uptoBulkEntries {H : Type} : List (Lit × DataW H) → Nat
  | [] => 0
  | x :: r => uptoBulkEntry x + uptoBulkEntries r
def uptoBulkEntry {H : Type} : Lit × DataW H → Nat
  | (.string bytes, d) => bytes.length + uptoBulk d + 1
  | (_, d) => uptoBulk d + 1
 end
def uptoSmall : (H : Type) → List (DataW H) → Bool := fun _ ds => decide (uptoBulkAll ds ≤ 1048576)
def OpenSpec.upto (s : _root_.Go.ChangeSpec) : _root_.Go.OpenSpec := { _root_.Go.OpenSpec.ofChange s with cond := some uptoSmall }

/-- 'weirhousekeep.HeavyNear', WHERE WHAT IT READS IS OF BULK AT MOST 1048576: true; the input reads as it did. -/
def heavyNearUptoRow : OpenClaim := { program := "ytabcjhpgamhpoaa", sum := "07d8a792be5962c7e9fe0c36314f54e0fb95c60cdc2e623db3b5e7b38012cf74", func := "weirhouse/weirhousekeep.HeavyNear", spec := "heavyNear", inPlace := ["slices.overlaps[weirhouse/api.Count]"], unfollowed := true, recurses := true, apart := false, narrowed := true }
def HeavyNearUptoSaid : Prop := heavyNearUptoRow.holds Try.pinned (OpenSpec.upto heavyNearSpec)

/-- 'weirhousekeep.HeavyJoined', WHERE WHAT IT READS IS OF BULK AT MOST 1048576: true; the input reads as it did. -/
def heavyJoinedUptoRow : OpenClaim := { program := "ytabcjhpgamhpoaa", sum := "07d8a792be5962c7e9fe0c36314f54e0fb95c60cdc2e623db3b5e7b38012cf74", func := "weirhouse/weirhousekeep.HeavyJoined", spec := "heavyJoined", inPlace := ["slices.overlaps[weirhouse/api.Count]"], unfollowed := true, recurses := true, apart := false, narrowed := true }
def HeavyJoinedUptoSaid : Prop := heavyJoinedUptoRow.holds Try.pinned (OpenSpec.upto heavyJoinedSpec)

/-- 'weirhousekeep.HeavyMost', WHERE WHAT IT READS IS OF BULK AT MOST 1048576: true; the input reads as it did. -/
def heavyMostUptoRow : OpenClaim := { program := "ytabcjhpgamhpoaa", sum := "07d8a792be5962c7e9fe0c36314f54e0fb95c60cdc2e623db3b5e7b38012cf74", func := "weirhouse/weirhousekeep.HeavyMost", spec := "heavyMost", inPlace := ["slices.overlaps[weirhouse/api.Count]"], unfollowed := true, recurses := true, apart := false, narrowed := true }
def HeavyMostUptoSaid : Prop := heavyMostUptoRow.holds Try.pinned (OpenSpec.upto heavyMostSpec)

/-- 'weirhousekeep.HeavyFew', WHERE WHAT IT READS IS OF BULK AT MOST 1048576: true; the input reads as it did. -/
def heavyFewUptoRow : OpenClaim := { program := "ytabcjhpgamhpoaa", sum := "07d8a792be5962c7e9fe0c36314f54e0fb95c60cdc2e623db3b5e7b38012cf74", func := "weirhouse/weirhousekeep.HeavyFew", spec := "heavyFew", inPlace := ["slices.overlaps[weirhouse/api.Count]"], unfollowed := true, recurses := true, apart := false, narrowed := true }
def HeavyFewUptoSaid : Prop := heavyFewUptoRow.holds Try.pinned (OpenSpec.upto heavyFewSpec)

end Rows
end Go.Proofs.Ytabcjhpgamhpoaa
