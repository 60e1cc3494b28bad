/-
  No cell of these rows narrows 'for every input' (looked for: loops, veiled, ifaces, maps, wideKeys, modest, calm, conditions, laid).
  DERIVED. THE GIVEN ROWS OF THIS SEAT. 5 by the template 'for every input the law returns true; each argument reads behind the call as it read before'; 0 by the template 'total and deterministic' (their statements: YtbgfplljfiahmaaTotals.lean).
  GIVEN WITH THE SEED: the statements are not yours to turn. If you find one false, say at which input.
  Laid BY PROGRAM, IN A SANDBOX (cutbox-rows.mjs): the forced cells as the released guide's own fill.sh prints them over the translation 4a94f10fa119a889… (all of the seat's roots in one cut). By AI agents, Wed Nov 11 2026. No macro, syntax, notation, axiom, sorry.
-/
import Derived.Test.YtbgfplljfiahmaaChecked
import GoSem.Claim
import GoSem.ClaimJoined
import GoSem.ClaimMapViews
import Derived.JoinedTies
import Derived.KernelRfl
namespace Go.Proofs.Ytbgfplljfiahmaa
/- THE CELL 'sum', in the pinned program and in every row, IS THE sha256 OF THE DUMP (.gsa) THAT YtbgfplljfiahmaaProg.lean LOADS. Nothing in Lean hashes anything: it is a label: what it is worth is what the hold of that sum in a sandbox is worth. -/
noncomputable def Try.pinned : Pinned := { name := "ytbgfplljfiahmaa", sum := "4a94f10fa119a889df417c843d69852b14c35454e5f21699fd77fc15424e74e3", checked := Try.checked }
namespace Rows
def none {H : Type} : Left H := { results := [], args := [] }

/-- 'weirhousekeep.CurveBacklog': WHATEVER THE INPUT: true; the input reads as it did. -/
def curveBacklogSpec : ChangeSpec := { name := "curveBacklog", fn := fun _ => fun
  | [d1, d2, d3] => { results := [.lit (.bool true)], args := [d1, d2, d3] }
  | _ => none }
def curveBacklogRow : OpenClaim := { program := "ytbgfplljfiahmaa", sum := "4a94f10fa119a889df417c843d69852b14c35454e5f21699fd77fc15424e74e3", func := "weirhouse/weirhousekeep.CurveBacklog", spec := "curveBacklog", apart := false }
def CurveBacklogSaid : Prop := curveBacklogRow.holds Try.pinned (OpenSpec.ofChange curveBacklogSpec)

/-- ITS FALSE NEIGHBOUR: 'it returns false'. Refute it at one input. -/
def curveBacklogWrong : ChangeSpec := { name := "curveBacklog", fn := fun _ => fun
  | [d1, d2, d3] => { results := [.lit (.bool false)], args := [d1, d2, d3] }
  | _ => none }
def CurveBacklogWrongFalsely : Prop := curveBacklogRow.holds Try.pinned (OpenSpec.ofChange curveBacklogWrong)

/-- 'weirhousekeep.CurveDelay': WHATEVER THE INPUT: true; the input reads as it did. -/
def curveDelaySpec : ChangeSpec := { name := "curveDelay", fn := fun _ => fun
  | [d1, d2, d3] => { results := [.lit (.bool true)], args := [d1, d2, d3] }
  | _ => none }
def curveDelayRow : OpenClaim := { program := "ytbgfplljfiahmaa", sum := "4a94f10fa119a889df417c843d69852b14c35454e5f21699fd77fc15424e74e3", func := "weirhouse/weirhousekeep.CurveDelay", spec := "curveDelay", apart := false }
def CurveDelaySaid : Prop := curveDelayRow.holds Try.pinned (OpenSpec.ofChange curveDelaySpec)

/-- ITS FALSE NEIGHBOUR: 'it returns false'. Refute it at one input. -/
def curveDelayWrong : ChangeSpec := { name := "curveDelay", fn := fun _ => fun
  | [d1, d2, d3] => { results := [.lit (.bool false)], args := [d1, d2, d3] }
  | _ => none }
def CurveDelayWrongFalsely : Prop := curveDelayRow.holds Try.pinned (OpenSpec.ofChange curveDelayWrong)

/-- 'weirhousekeep.CurveOut': WHATEVER THE INPUT: true; the input reads as it did. -/
def curveOutSpec : ChangeSpec := { name := "curveOut", fn := fun _ => fun
  | [d1, d2, d3] => { results := [.lit (.bool true)], args := [d1, d2, d3] }
  | _ => none }
def curveOutRow : OpenClaim := { program := "ytbgfplljfiahmaa", sum := "4a94f10fa119a889df417c843d69852b14c35454e5f21699fd77fc15424e74e3", func := "weirhouse/weirhousekeep.CurveOut", spec := "curveOut", apart := false }
def CurveOutSaid : Prop := curveOutRow.holds Try.pinned (OpenSpec.ofChange curveOutSpec)

/-- ITS FALSE NEIGHBOUR: 'it returns false'. Refute it at one input. -/
def curveOutWrong : ChangeSpec := { name := "curveOut", fn := fun _ => fun
  | [d1, d2, d3] => { results := [.lit (.bool false)], args := [d1, d2, d3] }
  | _ => none }
def CurveOutWrongFalsely : Prop := curveOutRow.holds Try.pinned (OpenSpec.ofChange curveOutWrong)

/-- 'weirhousekeep.CurveMore': WHATEVER THE INPUT: true; the input reads as it did. -/
def curveMoreSpec : ChangeSpec := { name := "curveMore", fn := fun _ => fun
  | [d1, d2, d3, d4, d5] => { results := [.lit (.bool true)], args := [d1, d2, d3, d4, d5] }
  | _ => none }
def curveMoreRow : OpenClaim := { program := "ytbgfplljfiahmaa", sum := "4a94f10fa119a889df417c843d69852b14c35454e5f21699fd77fc15424e74e3", func := "weirhouse/weirhousekeep.CurveMore", spec := "curveMore", apart := false }
def CurveMoreSaid : Prop := curveMoreRow.holds Try.pinned (OpenSpec.ofChange curveMoreSpec)

/-- ITS FALSE NEIGHBOUR: 'it returns false'. Refute it at one input. -/
def curveMoreWrong : ChangeSpec := { name := "curveMore", fn := fun _ => fun
  | [d1, d2, d3, d4, d5] => { results := [.lit (.bool false)], args := [d1, d2, d3, d4, d5] }
  | _ => none }
def CurveMoreWrongFalsely : Prop := curveMoreRow.holds Try.pinned (OpenSpec.ofChange curveMoreWrong)

/-- 'weirhousekeep.CurveChain': WHATEVER THE INPUT: true; the input reads as it did. -/
def curveChainSpec : ChangeSpec := { name := "curveChain", fn := fun _ => fun
  | [d1, d2, d3] => { results := [.lit (.bool true)], args := [d1, d2, d3] }
  | _ => none }
def curveChainRow : OpenClaim := { program := "ytbgfplljfiahmaa", sum := "4a94f10fa119a889df417c843d69852b14c35454e5f21699fd77fc15424e74e3", func := "weirhouse/weirhousekeep.CurveChain", spec := "curveChain", apart := false }
def CurveChainSaid : Prop := curveChainRow.holds Try.pinned (OpenSpec.ofChange curveChainSpec)

/-- ITS FALSE NEIGHBOUR: 'it returns false'. Refute it at one input. -/
def curveChainWrong : ChangeSpec := { name := "curveChain", fn := fun _ => fun
  | [d1, d2, d3] => { results := [.lit (.bool false)], args := [d1, d2, d3] }
  | _ => none }
def CurveChainWrongFalsely : Prop := curveChainRow.holds Try.pinned (OpenSpec.ofChange curveChainWrong)

/- THE SECOND FORM. 'bulk': how many values and letters a reading holds, each counted each time it is reached (what is shared counts as often as it is met; a slice's spare places count too). A statement '..UptoSaid' is the law's where the arguments, and the package variables that the reading takes, are together of bulk at most 1048576: NARROWER than '..Said'. Prove '..Said' where nothing that the law and all that it calls make is longer than what came in: it says more and counts as full. Else prove '..UptoSaid'. A law counts once. -/
mutual
def uptoBulk {H : Type} : DataW H → Nat
  | .lit (.string bytes) => bytes.length + 1
  | .lit _ => 1
  | .nil => 1
  | .ptr d => uptoBulk d + 1
  | .slice elems spare => uptoBulkAll elems + uptoBulkAll spare + 1
  | .agg parts => uptoBulkAll parts + 1
  | .iface _ d => uptoBulk d + 1
  | .map entries => uptoBulkEntries entries + 1
  | .held _ => 1
def uptoBulkAll {H : Type} : List (DataW H) → Nat
  | [] => 0
  | d :: r => uptoBulk d + uptoBulkAll r
def uptoBulkEntries {H : Type} : List (Lit × DataW H) → Nat
  | [] => 0
  | x :: r => uptoBulkEntry x + uptoBulkEntries r
def uptoBulkEntry {H : Type} : Lit × DataW H → Nat
  | (.string bytes, d) => bytes.length + uptoBulk d + 1
  | (_, d) => uptoBulk d + 1
 end
def uptoSmall : (H : Type) → List (DataW H) → Bool := fun _ ds => decide (uptoBulkAll ds ≤ 1048576)
def OpenSpec.upto (s : _root_.Go.ChangeSpec) : _root_.Go.OpenSpec := { _root_.Go.OpenSpec.ofChange s with cond := some uptoSmall }

/-- 'weirhousekeep.CurveBacklog', WHERE WHAT IT READS IS OF BULK AT MOST 1048576: true; the input reads as it did. -/
def curveBacklogUptoRow : OpenClaim := { program := "ytbgfplljfiahmaa", sum := "4a94f10fa119a889df417c843d69852b14c35454e5f21699fd77fc15424e74e3", func := "weirhouse/weirhousekeep.CurveBacklog", spec := "curveBacklog", apart := false, narrowed := true }
def CurveBacklogUptoSaid : Prop := curveBacklogUptoRow.holds Try.pinned (OpenSpec.upto curveBacklogSpec)

/-- 'weirhousekeep.CurveDelay', WHERE WHAT IT READS IS OF BULK AT MOST 1048576: true; the input reads as it did. -/
def curveDelayUptoRow : OpenClaim := { program := "ytbgfplljfiahmaa", sum := "4a94f10fa119a889df417c843d69852b14c35454e5f21699fd77fc15424e74e3", func := "weirhouse/weirhousekeep.CurveDelay", spec := "curveDelay", apart := false, narrowed := true }
def CurveDelayUptoSaid : Prop := curveDelayUptoRow.holds Try.pinned (OpenSpec.upto curveDelaySpec)

/-- 'weirhousekeep.CurveOut', WHERE WHAT IT READS IS OF BULK AT MOST 1048576: true; the input reads as it did. -/
def curveOutUptoRow : OpenClaim := { program := "ytbgfplljfiahmaa", sum := "4a94f10fa119a889df417c843d69852b14c35454e5f21699fd77fc15424e74e3", func := "weirhouse/weirhousekeep.CurveOut", spec := "curveOut", apart := false, narrowed := true }
def CurveOutUptoSaid : Prop := curveOutUptoRow.holds Try.pinned (OpenSpec.upto curveOutSpec)

/-- 'weirhousekeep.CurveMore', WHERE WHAT IT READS IS OF BULK AT MOST 1048576: true; the input reads as it did. -/
def curveMoreUptoRow : OpenClaim := { program := "ytbgfplljfiahmaa", sum := "4a94f10fa119a889df417c843d69852b14c35454e5f21699fd77fc15424e74e3", func := "weirhouse/weirhousekeep.CurveMore", spec := "curveMore", apart := false, narrowed := true }
def CurveMoreUptoSaid : Prop := curveMoreUptoRow.holds Try.pinned (OpenSpec.upto curveMoreSpec)

/-- 'weirhousekeep.CurveChain', WHERE WHAT IT READS IS OF BULK AT MOST 1048576: true; the input reads as it did. -/
def curveChainUptoRow : OpenClaim := { program := "ytbgfplljfiahmaa", sum := "4a94f10fa119a889df417c843d69852b14c35454e5f21699fd77fc15424e74e3", func := "weirhouse/weirhousekeep.CurveChain", spec := "curveChain", apart := false, narrowed := true }
def CurveChainUptoSaid : Prop := curveChainUptoRow.holds Try.pinned (OpenSpec.upto curveChainSpec)

end Rows
end Go.Proofs.Ytbgfplljfiahmaa
