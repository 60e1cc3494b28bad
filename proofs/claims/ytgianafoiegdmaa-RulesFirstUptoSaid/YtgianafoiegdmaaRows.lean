/-
  No cell of these rows narrows 'for every input' (looked for: loops, veiled, ifaces, maps, wideKeys, modest, calm, conditions, laid).
  DERIVED. THE GIVEN ROWS OF THIS SEAT. 4 by the template 'for every input the law returns true; each argument reads behind the call as it read before'; 0 by the template 'total and deterministic' (their statements: YtgianafoiegdmaaTotals.lean).
  GIVEN WITH THE SEED: the statements are not yours to turn. If you find one false, say at which input.
  Laid BY PROGRAM, IN A SANDBOX (cutbox-rows.mjs): the forced cells as the released guide's own fill.sh prints them over the translation 382f52a3fa34803d… (all of the seat's roots in one cut). By AI agents, Wed Nov 11 2026. No macro, syntax, notation, axiom, sorry.
-/
import Derived.Test.YtgianafoiegdmaaChecked
import GoSem.Claim
import GoSem.ClaimJoined
import GoSem.ClaimMapViews
import Derived.JoinedTies
import Derived.KernelRfl
namespace Go.Proofs.Ytgianafoiegdmaa
/- THE CELL 'sum', in the pinned program and in every row, IS THE sha256 OF THE DUMP (.gsa) THAT YtgianafoiegdmaaProg.lean LOADS. Nothing in Lean hashes anything: it is a label: what it is worth is what the hold of that sum in a sandbox is worth. -/
noncomputable def Try.pinned : Pinned := { name := "ytgianafoiegdmaa", sum := "382f52a3fa34803dd7e5e323244961c27a473c2d6db4ecbf6c3e7a6137e8dde1", checked := Try.checked }
namespace Rows
def none {H : Type} : Left H := { results := [], args := [] }

/-- 'weirhousekeep.RulesSwap': WHATEVER THE INPUT: true; the input reads as it did. -/
def rulesSwapSpec : ChangeSpec := { name := "rulesSwap", fn := fun _ => fun
  | [d1, d2, d3] => { results := [.lit (.bool true)], args := [d1, d2, d3] }
  | _ => none }
def rulesSwapRow : OpenClaim := { program := "ytgianafoiegdmaa", sum := "382f52a3fa34803dd7e5e323244961c27a473c2d6db4ecbf6c3e7a6137e8dde1", func := "weirhouse/weirhousekeep.RulesSwap", spec := "rulesSwap", unfollowed := true, recurses := true, apart := false }
def RulesSwapSaid : Prop := rulesSwapRow.holds Try.pinned (OpenSpec.ofChange rulesSwapSpec)

/-- ITS FALSE NEIGHBOUR: 'it returns false'. Refute it at one input. -/
def rulesSwapWrong : ChangeSpec := { name := "rulesSwap", fn := fun _ => fun
  | [d1, d2, d3] => { results := [.lit (.bool false)], args := [d1, d2, d3] }
  | _ => none }
def RulesSwapWrongFalsely : Prop := rulesSwapRow.holds Try.pinned (OpenSpec.ofChange rulesSwapWrong)

/-- 'weirhousekeep.RulesAll': WHATEVER THE INPUT: true; the input reads as it did. -/
def rulesAllSpec : ChangeSpec := { name := "rulesAll", fn := fun _ => fun
  | [d1, d2, d3] => { results := [.lit (.bool true)], args := [d1, d2, d3] }
  | _ => none }
def rulesAllRow : OpenClaim := { program := "ytgianafoiegdmaa", sum := "382f52a3fa34803dd7e5e323244961c27a473c2d6db4ecbf6c3e7a6137e8dde1", func := "weirhouse/weirhousekeep.RulesAll", spec := "rulesAll", unfollowed := true, recurses := true, apart := false }
def RulesAllSaid : Prop := rulesAllRow.holds Try.pinned (OpenSpec.ofChange rulesAllSpec)

/-- ITS FALSE NEIGHBOUR: 'it returns false'. Refute it at one input. -/
def rulesAllWrong : ChangeSpec := { name := "rulesAll", fn := fun _ => fun
  | [d1, d2, d3] => { results := [.lit (.bool false)], args := [d1, d2, d3] }
  | _ => none }
def RulesAllWrongFalsely : Prop := rulesAllRow.holds Try.pinned (OpenSpec.ofChange rulesAllWrong)

/-- 'weirhousekeep.RulesPruned': WHATEVER THE INPUT: true; the input reads as it did. -/
def rulesPrunedSpec : ChangeSpec := { name := "rulesPruned", fn := fun _ => fun
  | [d1, d2] => { results := [.lit (.bool true)], args := [d1, d2] }
  | _ => none }
def rulesPrunedRow : OpenClaim := { program := "ytgianafoiegdmaa", sum := "382f52a3fa34803dd7e5e323244961c27a473c2d6db4ecbf6c3e7a6137e8dde1", func := "weirhouse/weirhousekeep.RulesPruned", spec := "rulesPruned", unfollowed := true, recurses := true, apart := false }
def RulesPrunedSaid : Prop := rulesPrunedRow.holds Try.pinned (OpenSpec.ofChange rulesPrunedSpec)

/-- ITS FALSE NEIGHBOUR: 'it returns false'. Refute it at one input. -/
def rulesPrunedWrong : ChangeSpec := { name := "rulesPruned", fn := fun _ => fun
  | [d1, d2] => { results := [.lit (.bool false)], args := [d1, d2] }
  | _ => none }
def RulesPrunedWrongFalsely : Prop := rulesPrunedRow.holds Try.pinned (OpenSpec.ofChange rulesPrunedWrong)

/-- 'weirhousekeep.RulesFirst': WHATEVER THE INPUT: true; the input reads as it did. -/
def rulesFirstSpec : ChangeSpec := { name := "rulesFirst", fn := fun _ => fun
  | [d1, d2, d3] => { results := [.lit (.bool true)], args := [d1, d2, d3] }
  | _ => none }
def rulesFirstRow : OpenClaim := { program := "ytgianafoiegdmaa", sum := "382f52a3fa34803dd7e5e323244961c27a473c2d6db4ecbf6c3e7a6137e8dde1", func := "weirhouse/weirhousekeep.RulesFirst", spec := "rulesFirst", unfollowed := true, recurses := true, apart := false }
def RulesFirstSaid : Prop := rulesFirstRow.holds Try.pinned (OpenSpec.ofChange rulesFirstSpec)

/-- ITS FALSE NEIGHBOUR: 'it returns false'. Refute it at one input. -/
def rulesFirstWrong : ChangeSpec := { name := "rulesFirst", fn := fun _ => fun
  | [d1, d2, d3] => { results := [.lit (.bool false)], args := [d1, d2, d3] }
  | _ => none }
def RulesFirstWrongFalsely : Prop := rulesFirstRow.holds Try.pinned (OpenSpec.ofChange rulesFirstWrong)

/- THE SECOND FORM. 'bulk': how many values and letters a reading holds, each counted each time it is reached (what is shared counts as often as it is met; a slice's spare places count too). A statement '..UptoSaid' is the law's where the arguments, and the package variables that the reading takes, are together of bulk at most 1048576: NARROWER than '..Said'. Prove '..Said' where nothing that the law and all that it calls make is longer than what came in: it says more and counts as full. Else prove '..UptoSaid'. A law counts once. -/
mutual
def uptoBulk {H : Type} : DataW H → Nat
  | .lit (.string bytes) => bytes.length + 1
  | .lit _ => 1
  | .nil => 1
  | .ptr d => uptoBulk d + 1
  | .slice elems spare => uptoBulkAll elems + uptoBulkAll spare + 1
  | .agg parts => uptoBulkAll parts + 1
  | .iface _ d => uptoBulk d + 1
  | .map entries => uptoBulkEntries entries + 1
  | .held _ => 1
def uptoBulkAll {H : Type} : List (DataW H) → Nat
  | [] => 0
  | d :: r => uptoBulk d + uptoBulkAll r
def uptoBulkEntries {H : Type} : List (Lit × DataW H) → Nat
  | [] => 0
  | x :: r => uptoBulkEntry x + uptoBulkEntries r
def uptoBulkEntry {H : Type} : Lit × DataW H → Nat
  | (.string bytes, d) => bytes.length + uptoBulk d + 1
  | (_, d) => uptoBulk d + 1
 end
def uptoSmall : (H : Type) → List (DataW H) → Bool := fun _ ds => decide (uptoBulkAll ds ≤ 1048576)
def OpenSpec.upto (s : _root_.Go.ChangeSpec) : _root_.Go.OpenSpec := { _root_.Go.OpenSpec.ofChange s with cond := some uptoSmall }

/-- 'weirhousekeep.RulesSwap', WHERE WHAT IT READS IS OF BULK AT MOST 1048576: true; the input reads as it did. -/
def rulesSwapUptoRow : OpenClaim := { program := "ytgianafoiegdmaa", sum := "382f52a3fa34803dd7e5e323244961c27a473c2d6db4ecbf6c3e7a6137e8dde1", func := "weirhouse/weirhousekeep.RulesSwap", spec := "rulesSwap", unfollowed := true, recurses := true, apart := false, narrowed := true }
def RulesSwapUptoSaid : Prop := rulesSwapUptoRow.holds Try.pinned (OpenSpec.upto rulesSwapSpec)

/-- 'weirhousekeep.RulesAll', WHERE WHAT IT READS IS OF BULK AT MOST 1048576: true; the input reads as it did. -/
def rulesAllUptoRow : OpenClaim := { program := "ytgianafoiegdmaa", sum := "382f52a3fa34803dd7e5e323244961c27a473c2d6db4ecbf6c3e7a6137e8dde1", func := "weirhouse/weirhousekeep.RulesAll", spec := "rulesAll", unfollowed := true, recurses := true, apart := false, narrowed := true }
def RulesAllUptoSaid : Prop := rulesAllUptoRow.holds Try.pinned (OpenSpec.upto rulesAllSpec)

/-- 'weirhousekeep.RulesPruned', WHERE WHAT IT READS IS OF BULK AT MOST 1048576: true; the input reads as it did. -/
def rulesPrunedUptoRow : OpenClaim := { program := "ytgianafoiegdmaa", sum := "382f52a3fa34803dd7e5e323244961c27a473c2d6db4ecbf6c3e7a6137e8dde1", func := "weirhouse/weirhousekeep.RulesPruned", spec := "rulesPruned", unfollowed := true, recurses := true, apart := false, narrowed := true }
def RulesPrunedUptoSaid : Prop := rulesPrunedUptoRow.holds Try.pinned (OpenSpec.upto rulesPrunedSpec)

/-- 'weirhousekeep.RulesFirst', WHERE WHAT IT READS IS OF BULK AT MOST 1048576: true; the input reads as it did. -/
def rulesFirstUptoRow : OpenClaim := { program := "ytgianafoiegdmaa", sum := "382f52a3fa34803dd7e5e323244961c27a473c2d6db4ecbf6c3e7a6137e8dde1", func := "weirhouse/weirhousekeep.RulesFirst", spec := "rulesFirst", unfollowed := true, recurses := true, apart := false, narrowed := true }
def RulesFirstUptoSaid : Prop := rulesFirstUptoRow.holds Try.pinned (OpenSpec.upto rulesFirstSpec)

end Rows
end Go.Proofs.Ytgianafoiegdmaa
