/-
  No cell of these rows narrows 'for every input' (looked for: loops, veiled, ifaces, maps, wideKeys, modest, calm, conditions, laid).
  DERIVED. THE GIVEN ROWS OF THIS SEAT. 4 by the template 'for every input the law returns true; each argument reads behind the call as it read before'; 0 by the template 'total and deterministic' (their statements: YtdkccpppflnmpaaTotals.lean).
  GIVEN WITH THE SEED: the statements are not yours to turn. If you find one false, say at which input.
  Laid BY PROGRAM, IN A SANDBOX (cutbox-rows.mjs): the forced cells as the released guide's own fill.sh prints them over the translation a032d4b4572df64b… (all of the seat's roots in one cut). By AI agents, Wed Nov 11 2026. No macro, syntax, notation, axiom, sorry.
-/
import Derived.Test.YtdkccpppflnmpaaChecked
import GoSem.Claim
import GoSem.ClaimJoined
import GoSem.ClaimMapViews
import Derived.JoinedTies
import Derived.KernelRfl
namespace Go.Proofs.Ytdkccpppflnmpaa
/- THE CELL 'sum', in the pinned program and in every row, IS THE sha256 OF THE DUMP (.gsa) THAT YtdkccpppflnmpaaProg.lean LOADS. Nothing in Lean hashes anything: it is a label: what it is worth is what the hold of that sum in a sandbox is worth. -/
noncomputable def Try.pinned : Pinned := { name := "ytdkccpppflnmpaa", sum := "a032d4b4572df64b939dce0d3e2b661442cdab5e90d1de11f04675f5dfb6741b", checked := Try.checked }
namespace Rows
def none {H : Type} : Left H := { results := [], args := [] }

/-- 'weirhousekeep.HeadBack': WHATEVER THE INPUT: true; the input reads as it did. -/
def headBackSpec : ChangeSpec := { name := "headBack", fn := fun _ => fun
  | [d] => { results := [.lit (.bool true)], args := [d] }
  | _ => none }
def headBackRow : OpenClaim := { program := "ytdkccpppflnmpaa", sum := "a032d4b4572df64b939dce0d3e2b661442cdab5e90d1de11f04675f5dfb6741b", func := "weirhouse/weirhousekeep.HeadBack", spec := "headBack", unfollowed := true, recurses := true, apart := false }
def HeadBackSaid : Prop := headBackRow.holds Try.pinned (OpenSpec.ofChange headBackSpec)

/-- ITS FALSE NEIGHBOUR: 'it returns false'. Refute it at one input. -/
def headBackWrong : ChangeSpec := { name := "headBack", fn := fun _ => fun
  | [d] => { results := [.lit (.bool false)], args := [d] }
  | _ => none }
def HeadBackWrongFalsely : Prop := headBackRow.holds Try.pinned (OpenSpec.ofChange headBackWrong)

/-- 'weirhousekeep.HeadSpoilt': WHATEVER THE INPUT: true; the input reads as it did. -/
def headSpoiltSpec : ChangeSpec := { name := "headSpoilt", fn := fun _ => fun
  | [d1, d2, d3] => { results := [.lit (.bool true)], args := [d1, d2, d3] }
  | _ => none }
def headSpoiltRow : OpenClaim := { program := "ytdkccpppflnmpaa", sum := "a032d4b4572df64b939dce0d3e2b661442cdab5e90d1de11f04675f5dfb6741b", func := "weirhouse/weirhousekeep.HeadSpoilt", spec := "headSpoilt", unfollowed := true, recurses := true, apart := false }
def HeadSpoiltSaid : Prop := headSpoiltRow.holds Try.pinned (OpenSpec.ofChange headSpoiltSpec)

/-- ITS FALSE NEIGHBOUR: 'it returns false'. Refute it at one input. -/
def headSpoiltWrong : ChangeSpec := { name := "headSpoilt", fn := fun _ => fun
  | [d1, d2, d3] => { results := [.lit (.bool false)], args := [d1, d2, d3] }
  | _ => none }
def HeadSpoiltWrongFalsely : Prop := headSpoiltRow.holds Try.pinned (OpenSpec.ofChange headSpoiltWrong)

/-- 'weirhousekeep.HeadShort': WHATEVER THE INPUT: true; the input reads as it did. -/
def headShortSpec : ChangeSpec := { name := "headShort", fn := fun _ => fun
  | [d1, d2, d3] => { results := [.lit (.bool true)], args := [d1, d2, d3] }
  | _ => none }
def headShortRow : OpenClaim := { program := "ytdkccpppflnmpaa", sum := "a032d4b4572df64b939dce0d3e2b661442cdab5e90d1de11f04675f5dfb6741b", func := "weirhouse/weirhousekeep.HeadShort", spec := "headShort", unfollowed := true, recurses := true, apart := false }
def HeadShortSaid : Prop := headShortRow.holds Try.pinned (OpenSpec.ofChange headShortSpec)

/-- ITS FALSE NEIGHBOUR: 'it returns false'. Refute it at one input. -/
def headShortWrong : ChangeSpec := { name := "headShort", fn := fun _ => fun
  | [d1, d2, d3] => { results := [.lit (.bool false)], args := [d1, d2, d3] }
  | _ => none }
def HeadShortWrongFalsely : Prop := headShortRow.holds Try.pinned (OpenSpec.ofChange headShortWrong)

/-- 'weirhousekeep.HeadRead': WHATEVER THE INPUT: true; the input reads as it did. -/
def headReadSpec : ChangeSpec := { name := "headRead", fn := fun _ => fun
  | [d] => { results := [.lit (.bool true)], args := [d] }
  | _ => none }
def headReadRow : OpenClaim := { program := "ytdkccpppflnmpaa", sum := "a032d4b4572df64b939dce0d3e2b661442cdab5e90d1de11f04675f5dfb6741b", func := "weirhouse/weirhousekeep.HeadRead", spec := "headRead", unfollowed := true, recurses := true, apart := false }
def HeadReadSaid : Prop := headReadRow.holds Try.pinned (OpenSpec.ofChange headReadSpec)

/-- ITS FALSE NEIGHBOUR: 'it returns false'. Refute it at one input. -/
def headReadWrong : ChangeSpec := { name := "headRead", fn := fun _ => fun
  | [d] => { results := [.lit (.bool false)], args := [d] }
  | _ => none }
def HeadReadWrongFalsely : Prop := headReadRow.holds Try.pinned (OpenSpec.ofChange headReadWrong)

/- THE SECOND FORM. 'bulk': how many values and letters a reading holds, each counted each time it is reached (what is shared counts as often as it is met; a slice's spare places count too). A statement '..UptoSaid' is the law's where the arguments, and the package variables that the reading takes, are together of bulk at most 1048576: NARROWER than '..Said'. Prove '..Said' where nothing that the law and all that it calls make is longer than what came in: it says more and counts as full. Else prove '..UptoSaid'. A law counts once. -/
mutual
def uptoBulk {H : Type} : DataW H → Nat
  | .lit (.string bytes) => bytes.length + 1
  | .lit _ => 1
  | .nil => 1
  | .ptr d => uptoBulk d + 1
  | .slice elems spare => uptoBulkAll elems + uptoBulkAll spare + 1
  | .agg parts => uptoBulkAll parts + 1
  | .iface _ d => uptoBulk d + 1
  | .map entries => uptoBulkEntries entries + 1
  | .held _ => 1
def uptoBulkAll {H : Type} : List (DataW H) → Nat
  | [] => 0
  | d :: r => uptoBulk d + uptoBulkAll r
def uptoBulkEntries {H : Type} : List (Lit × DataW H) → Nat
  | [] => 0
  | x :: r => uptoBulkEntry x + uptoBulkEntries r
def uptoBulkEntry {H : Type} : Lit × DataW H → Nat
  | (.string bytes, d) => bytes.length + uptoBulk d + 1
  | (_, d) => uptoBulk d + 1
 end
def uptoSmall : (H : Type) → List (DataW H) → Bool := fun _ ds => decide (uptoBulkAll ds ≤ 1048576)
def OpenSpec.upto (s : _root_.Go.ChangeSpec) : _root_.Go.OpenSpec := { _root_.Go.OpenSpec.ofChange s with cond := some uptoSmall }

/-- 'weirhousekeep.HeadBack', WHERE WHAT IT READS IS OF BULK AT MOST 1048576: true; the input reads as it did. -/
def headBackUptoRow : OpenClaim := { program := "ytdkccpppflnmpaa", sum := "a032d4b4572df64b939dce0d3e2b661442cdab5e90d1de11f04675f5dfb6741b", func := "weirhouse/weirhousekeep.HeadBack", spec := "headBack", unfollowed := true, recurses := true, apart := false, narrowed := true }
def HeadBackUptoSaid : Prop := headBackUptoRow.holds Try.pinned (OpenSpec.upto headBackSpec)

/-- 'weirhousekeep.HeadSpoilt', WHERE WHAT IT READS IS OF BULK AT MOST 1048576: true; the input reads as it did. -/
def headSpoiltUptoRow : OpenClaim := { program := "ytdkccpppflnmpaa", sum := "a032d4b4572df64b939dce0d3e2b661442cdab5e90d1de11f04675f5dfb6741b", func := "weirhouse/weirhousekeep.HeadSpoilt", spec := "headSpoilt", unfollowed := true, recurses := true, apart := false, narrowed := true }
def HeadSpoiltUptoSaid : Prop := headSpoiltUptoRow.holds Try.pinned (OpenSpec.upto headSpoiltSpec)

/-- 'weirhousekeep.HeadShort', WHERE WHAT IT READS IS OF BULK AT MOST 1048576: true; the input reads as it did. -/
def headShortUptoRow : OpenClaim := { program := "ytdkccpppflnmpaa", sum := "a032d4b4572df64b939dce0d3e2b661442cdab5e90d1de11f04675f5dfb6741b", func := "weirhouse/weirhousekeep.HeadShort", spec := "headShort", unfollowed := true, recurses := true, apart := false, narrowed := true }
def HeadShortUptoSaid : Prop := headShortUptoRow.holds Try.pinned (OpenSpec.upto headShortSpec)

/-- 'weirhousekeep.HeadRead', WHERE WHAT IT READS IS OF BULK AT MOST 1048576: true; the input reads as it did. -/
def headReadUptoRow : OpenClaim := { program := "ytdkccpppflnmpaa", sum := "a032d4b4572df64b939dce0d3e2b661442cdab5e90d1de11f04675f5dfb6741b", func := "weirhouse/weirhousekeep.HeadRead", spec := "headRead", unfollowed := true, recurses := true, apart := false, narrowed := true }
def HeadReadUptoSaid : Prop := headReadUptoRow.holds Try.pinned (OpenSpec.upto headReadSpec)

end Rows
end Go.Proofs.Ytdkccpppflnmpaa
