/-
  No cell of these rows narrows 'for every input' (looked for: loops, veiled, ifaces, maps, wideKeys, modest, calm, conditions, laid).
  DERIVED. THE GIVEN ROWS OF THIS SEAT. 4 by the template 'for every input the law returns true; each argument reads behind the call as it read before'; 0 by the template 'total and deterministic' (their statements: YthiigjcmaaojiaaTotals.lean).
  GIVEN WITH THE SEED: the statements are not yours to turn. If you find one false, say at which input.
  Laid BY PROGRAM, IN A SANDBOX (cutbox-rows.mjs): the forced cells as the released guide's own fill.sh prints them over the translation 42d733a39e706424… (all of the seat's roots in one cut). By AI agents, Wed Nov 11 2026. No macro, syntax, notation, axiom, sorry.
-/
import Derived.Test.YthiigjcmaaojiaaChecked
import GoSem.Claim
import GoSem.ClaimJoined
import GoSem.ClaimMapViews
import Derived.JoinedTies
import Derived.KernelRfl
namespace Go.Proofs.Ythiigjcmaaojiaa
/- THE CELL 'sum', in the pinned program and in every row, IS THE sha256 OF THE DUMP (.gsa) THAT YthiigjcmaaojiaaProg.lean LOADS. Nothing in Lean hashes anything: it is a label: what it is worth is what the hold of that sum in a sandbox is worth. -/
noncomputable def Try.pinned : Pinned := { name := "ythiigjcmaaojiaa", sum := "42d733a39e706424a439eff2581e79fd72bb91292ff91cab78979827fb287496", checked := Try.checked }
namespace Rows
def none {H : Type} : Left H := { results := [], args := [] }

/-- 'weirhousekeep.BucketBound': WHATEVER THE INPUT: true; the input reads as it did. -/
def bucketBoundSpec : ChangeSpec := { name := "bucketBound", fn := fun _ => fun
  | [d1, d2, d3, d4] => { results := [.lit (.bool true)], args := [d1, d2, d3, d4] }
  | _ => none }
def bucketBoundRow : OpenClaim := { program := "ythiigjcmaaojiaa", sum := "42d733a39e706424a439eff2581e79fd72bb91292ff91cab78979827fb287496", func := "weirhouse/weirhousekeep.BucketBound", spec := "bucketBound", apart := false }
def BucketBoundSaid : Prop := bucketBoundRow.holds Try.pinned (OpenSpec.ofChange bucketBoundSpec)

/-- ITS FALSE NEIGHBOUR: 'it returns false'. Refute it at one input. -/
def bucketBoundWrong : ChangeSpec := { name := "bucketBound", fn := fun _ => fun
  | [d1, d2, d3, d4] => { results := [.lit (.bool false)], args := [d1, d2, d3, d4] }
  | _ => none }
def BucketBoundWrongFalsely : Prop := bucketBoundRow.holds Try.pinned (OpenSpec.ofChange bucketBoundWrong)

/-- 'weirhousekeep.BucketTime': WHATEVER THE INPUT: true; the input reads as it did. -/
def bucketTimeSpec : ChangeSpec := { name := "bucketTime", fn := fun _ => fun
  | [d1, d2, d3, d4] => { results := [.lit (.bool true)], args := [d1, d2, d3, d4] }
  | _ => none }
def bucketTimeRow : OpenClaim := { program := "ythiigjcmaaojiaa", sum := "42d733a39e706424a439eff2581e79fd72bb91292ff91cab78979827fb287496", func := "weirhouse/weirhousekeep.BucketTime", spec := "bucketTime", apart := false }
def BucketTimeSaid : Prop := bucketTimeRow.holds Try.pinned (OpenSpec.ofChange bucketTimeSpec)

/-- ITS FALSE NEIGHBOUR: 'it returns false'. Refute it at one input. -/
def bucketTimeWrong : ChangeSpec := { name := "bucketTime", fn := fun _ => fun
  | [d1, d2, d3, d4] => { results := [.lit (.bool false)], args := [d1, d2, d3, d4] }
  | _ => none }
def BucketTimeWrongFalsely : Prop := bucketTimeRow.holds Try.pinned (OpenSpec.ofChange bucketTimeWrong)

/-- 'weirhousekeep.BucketReady': WHATEVER THE INPUT: true; the input reads as it did. -/
def bucketReadySpec : ChangeSpec := { name := "bucketReady", fn := fun _ => fun
  | [d1, d2] => { results := [.lit (.bool true)], args := [d1, d2] }
  | _ => none }
def bucketReadyRow : OpenClaim := { program := "ythiigjcmaaojiaa", sum := "42d733a39e706424a439eff2581e79fd72bb91292ff91cab78979827fb287496", func := "weirhouse/weirhousekeep.BucketReady", spec := "bucketReady", apart := false }
def BucketReadySaid : Prop := bucketReadyRow.holds Try.pinned (OpenSpec.ofChange bucketReadySpec)

/-- ITS FALSE NEIGHBOUR: 'it returns false'. Refute it at one input. -/
def bucketReadyWrong : ChangeSpec := { name := "bucketReady", fn := fun _ => fun
  | [d1, d2] => { results := [.lit (.bool false)], args := [d1, d2] }
  | _ => none }
def BucketReadyWrongFalsely : Prop := bucketReadyRow.holds Try.pinned (OpenSpec.ofChange bucketReadyWrong)

/-- 'weirhousekeep.BucketGreater': WHATEVER THE INPUT: true; the input reads as it did. -/
def bucketGreaterSpec : ChangeSpec := { name := "bucketGreater", fn := fun _ => fun
  | [d1, d2, d3, d4, d5, d6, d7] => { results := [.lit (.bool true)], args := [d1, d2, d3, d4, d5, d6, d7] }
  | _ => none }
def bucketGreaterRow : OpenClaim := { program := "ythiigjcmaaojiaa", sum := "42d733a39e706424a439eff2581e79fd72bb91292ff91cab78979827fb287496", func := "weirhouse/weirhousekeep.BucketGreater", spec := "bucketGreater", apart := false }
def BucketGreaterSaid : Prop := bucketGreaterRow.holds Try.pinned (OpenSpec.ofChange bucketGreaterSpec)

/-- ITS FALSE NEIGHBOUR: 'it returns false'. Refute it at one input. -/
def bucketGreaterWrong : ChangeSpec := { name := "bucketGreater", fn := fun _ => fun
  | [d1, d2, d3, d4, d5, d6, d7] => { results := [.lit (.bool false)], args := [d1, d2, d3, d4, d5, d6, d7] }
  | _ => none }
def BucketGreaterWrongFalsely : Prop := bucketGreaterRow.holds Try.pinned (OpenSpec.ofChange bucketGreaterWrong)

/- THE SECOND FORM. 'bulk': how many values and letters a reading holds, each counted each time it is reached (what is shared counts as often as it is met; a slice's spare places count too). A statement '..UptoSaid' is the law's where the arguments, and the package variables that the reading takes, are together of bulk at most 1048576: NARROWER than '..Said'. Prove '..Said' where nothing that the law and all that it calls make is longer than what came in: it says more and counts as full. Else prove '..UptoSaid'. A law counts once. -/
mutual
def uptoBulk {H : Type} : DataW H → Nat
  | .lit (.string bytes) => bytes.length + 1
  | .lit _ => 1
  | .nil => 1
  | .ptr d => uptoBulk d + 1
  | .slice elems spare => uptoBulkAll elems + uptoBulkAll spare + 1
  | .agg parts => uptoBulkAll parts + 1
  | .iface _ d => uptoBulk d + 1
  | .map entries => uptoBulkEntries entries + 1
  | .held _ => 1
def uptoBulkAll {H : Type} : List (DataW H) → Nat
  | [] => 0
  | d :: r => uptoBulk d + uptoBulkAll r
def uptoBulkEntries {H : Type} : List (Lit × DataW H) → Nat
  | [] => 0
  | x :: r => uptoBulkEntry x + uptoBulkEntries r
def uptoBulkEntry {H : Type} : Lit × DataW H → Nat
  | (.string bytes, d) => bytes.length + uptoBulk d + 1
  | (_, d) => uptoBulk d + 1
 end
def uptoSmall : (H : Type) → List (DataW H) → Bool := fun _ ds => decide (uptoBulkAll ds ≤ 1048576)
def OpenSpec.upto (s : _root_.Go.ChangeSpec) : _root_.Go.OpenSpec := { _root_.Go.OpenSpec.ofChange s with cond := some uptoSmall }

/-- 'weirhousekeep.BucketBound', WHERE WHAT IT READS IS OF BULK AT MOST 1048576: true; the input reads as it did. -/
def bucketBoundUptoRow : OpenClaim := { program := "ythiigjcmaaojiaa", sum := "42d733a39e706424a439eff2581e79fd72bb91292ff91cab78979827fb287496", func := "weirhouse/weirhousekeep.BucketBound", spec := "bucketBound", apart := false, narrowed := true }
def BucketBoundUptoSaid : Prop := bucketBoundUptoRow.holds Try.pinned (OpenSpec.upto bucketBoundSpec)

/-- 'weirhousekeep.BucketTime', WHERE WHAT IT READS IS OF BULK AT MOST 1048576: true; the input reads as it did. -/
def bucketTimeUptoRow : OpenClaim := { program := "ythiigjcmaaojiaa", sum := "42d733a39e706424a439eff2581e79fd72bb91292ff91cab78979827fb287496", func := "weirhouse/weirhousekeep.BucketTime", spec := "bucketTime", apart := false, narrowed := true }
def BucketTimeUptoSaid : Prop := bucketTimeUptoRow.holds Try.pinned (OpenSpec.upto bucketTimeSpec)

/-- 'weirhousekeep.BucketReady', WHERE WHAT IT READS IS OF BULK AT MOST 1048576: true; the input reads as it did. -/
def bucketReadyUptoRow : OpenClaim := { program := "ythiigjcmaaojiaa", sum := "42d733a39e706424a439eff2581e79fd72bb91292ff91cab78979827fb287496", func := "weirhouse/weirhousekeep.BucketReady", spec := "bucketReady", apart := false, narrowed := true }
def BucketReadyUptoSaid : Prop := bucketReadyUptoRow.holds Try.pinned (OpenSpec.upto bucketReadySpec)

/-- 'weirhousekeep.BucketGreater', WHERE WHAT IT READS IS OF BULK AT MOST 1048576: true; the input reads as it did. -/
def bucketGreaterUptoRow : OpenClaim := { program := "ythiigjcmaaojiaa", sum := "42d733a39e706424a439eff2581e79fd72bb91292ff91cab78979827fb287496", func := "weirhouse/weirhousekeep.BucketGreater", spec := "bucketGreater", apart := false, narrowed := true }
def BucketGreaterUptoSaid : Prop := bucketGreaterUptoRow.holds Try.pinned (OpenSpec.upto bucketGreaterSpec)

end Rows
end Go.Proofs.Ythiigjcmaaojiaa
