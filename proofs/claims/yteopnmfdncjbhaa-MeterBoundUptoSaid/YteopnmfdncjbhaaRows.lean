/-
  No cell of these rows narrows 'for every input' (looked for: loops, veiled, ifaces, maps, wideKeys, modest, calm, conditions, laid).
  DERIVED. THE GIVEN ROWS OF THIS SEAT. 4 by the template 'for every input the law returns true; each argument reads behind the call as it read before'; 0 by the template 'total and deterministic' (their statements: YteopnmfdncjbhaaTotals.lean).
  GIVEN WITH THE SEED: the statements are not yours to turn. If you find one false, say at which input.
  Laid BY PROGRAM, IN A SANDBOX (cutbox-rows.mjs): the forced cells as the released guide's own fill.sh prints them over the translation 317e83898bc6d73b… (all of the seat's roots in one cut). By AI agents, Wed Nov 11 2026. No macro, syntax, notation, axiom, sorry.
-/
import Derived.Test.YteopnmfdncjbhaaChecked
import GoSem.Claim
import GoSem.ClaimJoined
import GoSem.ClaimMapViews
import Derived.JoinedTies
import Derived.KernelRfl
namespace Go.Proofs.Yteopnmfdncjbhaa
/- THE CELL 'sum', in the pinned program and in every row, IS THE sha256 OF THE DUMP (.gsa) THAT YteopnmfdncjbhaaProg.lean LOADS. Nothing in Lean hashes anything: it is a label: what it is worth is what the hold of that sum in a sandbox is worth. -/
noncomputable def Try.pinned : Pinned := { name := "yteopnmfdncjbhaa", sum := "317e83898bc6d73b1b1cb665a223b1ae99d5bdca32f560bf16e07855253cddbb", checked := Try.checked }
namespace Rows
def none {H : Type} : Left H := { results := [], args := [] }

/-- 'weirhousekeep.MeterBound': WHATEVER THE INPUT: true; the input reads as it did. -/
def meterBoundSpec : ChangeSpec := { name := "meterBound", fn := fun _ => fun
  | [d1, d2, d3, d4] => { results := [.lit (.bool true)], args := [d1, d2, d3, d4] }
  | _ => none }
def meterBoundRow : OpenClaim := { program := "yteopnmfdncjbhaa", sum := "317e83898bc6d73b1b1cb665a223b1ae99d5bdca32f560bf16e07855253cddbb", func := "weirhouse/weirhousekeep.MeterBound", spec := "meterBound", unfollowed := true, recurses := true, apart := false }
def MeterBoundSaid : Prop := meterBoundRow.holds Try.pinned (OpenSpec.ofChange meterBoundSpec)

/-- ITS FALSE NEIGHBOUR: 'it returns false'. Refute it at one input. -/
def meterBoundWrong : ChangeSpec := { name := "meterBound", fn := fun _ => fun
  | [d1, d2, d3, d4] => { results := [.lit (.bool false)], args := [d1, d2, d3, d4] }
  | _ => none }
def MeterBoundWrongFalsely : Prop := meterBoundRow.holds Try.pinned (OpenSpec.ofChange meterBoundWrong)

/-- 'weirhousekeep.MeterWorse': WHATEVER THE INPUT: true; the input reads as it did. -/
def meterWorseSpec : ChangeSpec := { name := "meterWorse", fn := fun _ => fun
  | [d1, d2, d3] => { results := [.lit (.bool true)], args := [d1, d2, d3] }
  | _ => none }
def meterWorseRow : OpenClaim := { program := "yteopnmfdncjbhaa", sum := "317e83898bc6d73b1b1cb665a223b1ae99d5bdca32f560bf16e07855253cddbb", func := "weirhouse/weirhousekeep.MeterWorse", spec := "meterWorse", unfollowed := true, recurses := true, apart := false }
def MeterWorseSaid : Prop := meterWorseRow.holds Try.pinned (OpenSpec.ofChange meterWorseSpec)

/-- ITS FALSE NEIGHBOUR: 'it returns false'. Refute it at one input. -/
def meterWorseWrong : ChangeSpec := { name := "meterWorse", fn := fun _ => fun
  | [d1, d2, d3] => { results := [.lit (.bool false)], args := [d1, d2, d3] }
  | _ => none }
def MeterWorseWrongFalsely : Prop := meterWorseRow.holds Try.pinned (OpenSpec.ofChange meterWorseWrong)

/-- 'weirhousekeep.MeterStill': WHATEVER THE INPUT: true; the input reads as it did. -/
def meterStillSpec : ChangeSpec := { name := "meterStill", fn := fun _ => fun
  | [d1, d2, d3] => { results := [.lit (.bool true)], args := [d1, d2, d3] }
  | _ => none }
def meterStillRow : OpenClaim := { program := "yteopnmfdncjbhaa", sum := "317e83898bc6d73b1b1cb665a223b1ae99d5bdca32f560bf16e07855253cddbb", func := "weirhouse/weirhousekeep.MeterStill", spec := "meterStill", unfollowed := true, recurses := true, apart := false }
def MeterStillSaid : Prop := meterStillRow.holds Try.pinned (OpenSpec.ofChange meterStillSpec)

/-- ITS FALSE NEIGHBOUR: 'it returns false'. Refute it at one input. -/
def meterStillWrong : ChangeSpec := { name := "meterStill", fn := fun _ => fun
  | [d1, d2, d3] => { results := [.lit (.bool false)], args := [d1, d2, d3] }
  | _ => none }
def MeterStillWrongFalsely : Prop := meterStillRow.holds Try.pinned (OpenSpec.ofChange meterStillWrong)

/-- 'weirhousekeep.MeterSum': WHATEVER THE INPUT: true; the input reads as it did. -/
def meterSumSpec : ChangeSpec := { name := "meterSum", fn := fun _ => fun
  | [d1, d2] => { results := [.lit (.bool true)], args := [d1, d2] }
  | _ => none }
def meterSumRow : OpenClaim := { program := "yteopnmfdncjbhaa", sum := "317e83898bc6d73b1b1cb665a223b1ae99d5bdca32f560bf16e07855253cddbb", func := "weirhouse/weirhousekeep.MeterSum", spec := "meterSum", unfollowed := true, recurses := true, apart := false }
def MeterSumSaid : Prop := meterSumRow.holds Try.pinned (OpenSpec.ofChange meterSumSpec)

/-- ITS FALSE NEIGHBOUR: 'it returns false'. Refute it at one input. -/
def meterSumWrong : ChangeSpec := { name := "meterSum", fn := fun _ => fun
  | [d1, d2] => { results := [.lit (.bool false)], args := [d1, d2] }
  | _ => none }
def MeterSumWrongFalsely : Prop := meterSumRow.holds Try.pinned (OpenSpec.ofChange meterSumWrong)

/- THE SECOND FORM. 'bulk': how many values and letters a reading holds, each counted each time it is reached (what is shared counts as often as it is met; a slice's spare places count too). A statement '..UptoSaid' is the law's where the arguments, and the package variables that the reading takes, are together of bulk at most 1048576: NARROWER than '..Said'. Prove '..Said' where nothing that the law and all that it calls make is longer than what came in: it says more and counts as full. Else prove '..UptoSaid'. A law counts once. -/
mutual
def uptoBulk {H : Type} : DataW H → Nat
  | .lit (.string bytes) => bytes.length + 1
  | .lit _ => 1
  | .nil => 1
  | .ptr d => uptoBulk d + 1
  | .slice elems spare => uptoBulkAll elems + uptoBulkAll spare + 1
  | .agg parts => uptoBulkAll parts + 1
  | .iface _ d => uptoBulk d + 1
  | .map entries => uptoBulkEntries entries + 1
  | .held _ => 1
def uptoBulkAll {H : Type} : List (DataW H) → Nat
  | [] => 0
  | d :: r => uptoBulk d + uptoBulkAll r
def uptoBulkEntries {H : Type} : List (Lit × DataW H) → Nat
  | [] => 0
  | x :: r => uptoBulkEntry x + uptoBulkEntries r
def uptoBulkEntry {H : Type} : Lit × DataW H → Nat
  | (.string bytes, d) => bytes.length + uptoBulk d + 1
  | (_, d) => uptoBulk d + 1
 end
def uptoSmall : (H : Type) → List (DataW H) → Bool := fun _ ds => decide (uptoBulkAll ds ≤ 1048576)
def OpenSpec.upto (s : _root_.Go.ChangeSpec) : _root_.Go.OpenSpec := { _root_.Go.OpenSpec.ofChange s with cond := some uptoSmall }

/-- 'weirhousekeep.MeterBound', WHERE WHAT IT READS IS OF BULK AT MOST 1048576: true; the input reads as it did. -/
def meterBoundUptoRow : OpenClaim := { program := "yteopnmfdncjbhaa", sum := "317e83898bc6d73b1b1cb665a223b1ae99d5bdca32f560bf16e07855253cddbb", func := "weirhouse/weirhousekeep.MeterBound", spec := "meterBound", unfollowed := true, recurses := true, apart := false, narrowed := true }
def MeterBoundUptoSaid : Prop := meterBoundUptoRow.holds Try.pinned (OpenSpec.upto meterBoundSpec)

/-- 'weirhousekeep.MeterWorse', WHERE WHAT IT READS IS OF BULK AT MOST 1048576: true; the input reads as it did. -/
def meterWorseUptoRow : OpenClaim := { program := "yteopnmfdncjbhaa", sum := "317e83898bc6d73b1b1cb665a223b1ae99d5bdca32f560bf16e07855253cddbb", func := "weirhouse/weirhousekeep.MeterWorse", spec := "meterWorse", unfollowed := true, recurses := true, apart := false, narrowed := true }
def MeterWorseUptoSaid : Prop := meterWorseUptoRow.holds Try.pinned (OpenSpec.upto meterWorseSpec)

/-- 'weirhousekeep.MeterStill', WHERE WHAT IT READS IS OF BULK AT MOST 1048576: true; the input reads as it did. -/
def meterStillUptoRow : OpenClaim := { program := "yteopnmfdncjbhaa", sum := "317e83898bc6d73b1b1cb665a223b1ae99d5bdca32f560bf16e07855253cddbb", func := "weirhouse/weirhousekeep.MeterStill", spec := "meterStill", unfollowed := true, recurses := true, apart := false, narrowed := true }
def MeterStillUptoSaid : Prop := meterStillUptoRow.holds Try.pinned (OpenSpec.upto meterStillSpec)

/-- 'weirhousekeep.MeterSum', WHERE WHAT IT READS IS OF BULK AT MOST 1048576: true; the input reads as it did. -/
def meterSumUptoRow : OpenClaim := { program := "yteopnmfdncjbhaa", sum := "317e83898bc6d73b1b1cb665a223b1ae99d5bdca32f560bf16e07855253cddbb", func := "weirhouse/weirhousekeep.MeterSum", spec := "meterSum", unfollowed := true, recurses := true, apart := false, narrowed := true }
def MeterSumUptoSaid : Prop := meterSumUptoRow.holds Try.pinned (OpenSpec.upto meterSumSpec)

end Rows
end Go.Proofs.Yteopnmfdncjbhaa
