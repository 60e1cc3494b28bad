/-
  No cell of these rows narrows 'for every input' (looked for: loops, veiled, ifaces, maps, wideKeys, modest, calm, conditions, laid).
  DERIVED. THE GIVEN ROWS OF THIS SEAT. 4 by the template 'for every input the law returns true; each argument reads behind the call as it read before'; 0 by the template 'total and deterministic' (their statements: YtdcodafidefloaaTotals.lean).
  GIVEN WITH THE SEED: the statements are not yours to turn. If you find one false, say at which input.
  Laid BY PROGRAM, IN A SANDBOX (cutbox-rows.mjs): the forced cells as the released guide's own fill.sh prints them over the translation bc552e18de2e2d45… (all of the seat's roots in one cut). By AI agents, Wed Nov 11 2026. No macro, syntax, notation, axiom, sorry.
-/
import Derived.Test.YtdcodafidefloaaChecked
import GoSem.Claim
import GoSem.ClaimJoined
import GoSem.ClaimMapViews
import Derived.JoinedTies
import Derived.KernelRfl
namespace Go.Proofs.Ytdcodafidefloaa
/- THE CELL 'sum', in the pinned program and in every row, IS THE sha256 OF THE DUMP (.gsa) THAT YtdcodafidefloaaProg.lean LOADS. Nothing in Lean hashes anything: it is a label: what it is worth is what the hold of that sum in a sandbox is worth. -/
noncomputable def Try.pinned : Pinned := { name := "ytdcodafidefloaa", sum := "bc552e18de2e2d45e8c2ff14804c069461a237a5e3647303d19f855e28c5ea6d", checked := Try.checked }
namespace Rows
def none {H : Type} : Left H := { results := [], args := [] }

/-- 'weirhousekeep.WfqOrder': WHATEVER THE INPUT: true; the input reads as it did. -/
def wfqOrderSpec : ChangeSpec := { name := "wfqOrder", fn := fun _ => fun
  | [d1, d2] => { results := [.lit (.bool true)], args := [d1, d2] }
  | _ => none }
def wfqOrderRow : OpenClaim := { program := "ytdcodafidefloaa", sum := "bc552e18de2e2d45e8c2ff14804c069461a237a5e3647303d19f855e28c5ea6d", func := "weirhouse/weirhousekeep.WfqOrder", spec := "wfqOrder", apart := false }
def WfqOrderSaid : Prop := wfqOrderRow.holds Try.pinned (OpenSpec.ofChange wfqOrderSpec)

/-- ITS FALSE NEIGHBOUR: 'it returns false'. Refute it at one input. -/
def wfqOrderWrong : ChangeSpec := { name := "wfqOrder", fn := fun _ => fun
  | [d1, d2] => { results := [.lit (.bool false)], args := [d1, d2] }
  | _ => none }
def WfqOrderWrongFalsely : Prop := wfqOrderRow.holds Try.pinned (OpenSpec.ofChange wfqOrderWrong)

/-- 'weirhousekeep.WfqShare': WHATEVER THE INPUT: true; the input reads as it did. -/
def wfqShareSpec : ChangeSpec := { name := "wfqShare", fn := fun _ => fun
  | [d1, d2, d3] => { results := [.lit (.bool true)], args := [d1, d2, d3] }
  | _ => none }
def wfqShareRow : OpenClaim := { program := "ytdcodafidefloaa", sum := "bc552e18de2e2d45e8c2ff14804c069461a237a5e3647303d19f855e28c5ea6d", func := "weirhouse/weirhousekeep.WfqShare", spec := "wfqShare", apart := false }
def WfqShareSaid : Prop := wfqShareRow.holds Try.pinned (OpenSpec.ofChange wfqShareSpec)

/-- ITS FALSE NEIGHBOUR: 'it returns false'. Refute it at one input. -/
def wfqShareWrong : ChangeSpec := { name := "wfqShare", fn := fun _ => fun
  | [d1, d2, d3] => { results := [.lit (.bool false)], args := [d1, d2, d3] }
  | _ => none }
def WfqShareWrongFalsely : Prop := wfqShareRow.holds Try.pinned (OpenSpec.ofChange wfqShareWrong)

/-- 'weirhousekeep.WfqAlone': WHATEVER THE INPUT: true; the input reads as it did. -/
def wfqAloneSpec : ChangeSpec := { name := "wfqAlone", fn := fun _ => fun
  | [d1, d2, d3] => { results := [.lit (.bool true)], args := [d1, d2, d3] }
  | _ => none }
def wfqAloneRow : OpenClaim := { program := "ytdcodafidefloaa", sum := "bc552e18de2e2d45e8c2ff14804c069461a237a5e3647303d19f855e28c5ea6d", func := "weirhouse/weirhousekeep.WfqAlone", spec := "wfqAlone", apart := false }
def WfqAloneSaid : Prop := wfqAloneRow.holds Try.pinned (OpenSpec.ofChange wfqAloneSpec)

/-- ITS FALSE NEIGHBOUR: 'it returns false'. Refute it at one input. -/
def wfqAloneWrong : ChangeSpec := { name := "wfqAlone", fn := fun _ => fun
  | [d1, d2, d3] => { results := [.lit (.bool false)], args := [d1, d2, d3] }
  | _ => none }
def WfqAloneWrongFalsely : Prop := wfqAloneRow.holds Try.pinned (OpenSpec.ofChange wfqAloneWrong)

/-- 'weirhousekeep.WfqSmooth': WHATEVER THE INPUT: true; the input reads as it did. -/
def wfqSmoothSpec : ChangeSpec := { name := "wfqSmooth", fn := fun _ => fun
  | [d1, d2] => { results := [.lit (.bool true)], args := [d1, d2] }
  | _ => none }
def wfqSmoothRow : OpenClaim := { program := "ytdcodafidefloaa", sum := "bc552e18de2e2d45e8c2ff14804c069461a237a5e3647303d19f855e28c5ea6d", func := "weirhouse/weirhousekeep.WfqSmooth", spec := "wfqSmooth", apart := false }
def WfqSmoothSaid : Prop := wfqSmoothRow.holds Try.pinned (OpenSpec.ofChange wfqSmoothSpec)

/-- ITS FALSE NEIGHBOUR: 'it returns false'. Refute it at one input. -/
def wfqSmoothWrong : ChangeSpec := { name := "wfqSmooth", fn := fun _ => fun
  | [d1, d2] => { results := [.lit (.bool false)], args := [d1, d2] }
  | _ => none }
def WfqSmoothWrongFalsely : Prop := wfqSmoothRow.holds Try.pinned (OpenSpec.ofChange wfqSmoothWrong)

/- THE SECOND FORM. 'bulk': how many values and letters a reading holds, each counted each time it is reached (what is shared counts as often as it is met; a slice's spare places count too). A statement '..UptoSaid' is the law's where the arguments, and the package variables that the reading takes, are together of bulk at most 1048576: NARROWER than '..Said'. Prove '..Said' where nothing that the law and all that it calls make is longer than what came in: it says more and counts as full. Else prove '..UptoSaid'. A law counts once. -/
mutual
def uptoBulk {H : Type} : DataW H → Nat
  | .lit (.string bytes) => bytes.length + 1
  | .lit _ => 1
  | .nil => 1
  | .ptr d => uptoBulk d + 1
  | .slice elems spare => uptoBulkAll elems + uptoBulkAll spare + 1
  | .agg parts => uptoBulkAll parts + 1
  | .iface _ d => uptoBulk d + 1
  | .map entries => uptoBulkEntries entries + 1
  | .held _ => 1
def uptoBulkAll {H : Type} : List (DataW H) → Nat
  | [] => 0
  | d :: r => uptoBulk d + uptoBulkAll r
def uptoBulkEntries {H : Type} : List (Lit × DataW H) → Nat
  | [] => 0
  | x :: r => uptoBulkEntry x + uptoBulkEntries r
def uptoBulkEntry {H : Type} : Lit × DataW H → Nat
  | (.string bytes, d) => bytes.length + uptoBulk d + 1
  | (_, d) => uptoBulk d + 1
 end
def uptoSmall : (H : Type) → List (DataW H) → Bool := fun _ ds => decide (uptoBulkAll ds ≤ 1048576)
def OpenSpec.upto (s : _root_.Go.ChangeSpec) : _root_.Go.OpenSpec := { _root_.Go.OpenSpec.ofChange s with cond := some uptoSmall }

/-- 'weirhousekeep.WfqOrder', WHERE WHAT IT READS IS OF BULK AT MOST 1048576: true; the input reads as it did. -/
def wfqOrderUptoRow : OpenClaim := { program := "ytdcodafidefloaa", sum := "bc552e18de2e2d45e8c2ff14804c069461a237a5e3647303d19f855e28c5ea6d", func := "weirhouse/weirhousekeep.WfqOrder", spec := "wfqOrder", apart := false, narrowed := true }
def WfqOrderUptoSaid : Prop := wfqOrderUptoRow.holds Try.pinned (OpenSpec.upto wfqOrderSpec)

/-- 'weirhousekeep.WfqShare', WHERE WHAT IT READS IS OF BULK AT MOST 1048576: true; the input reads as it did. -/
def wfqShareUptoRow : OpenClaim := { program := "ytdcodafidefloaa", sum := "bc552e18de2e2d45e8c2ff14804c069461a237a5e3647303d19f855e28c5ea6d", func := "weirhouse/weirhousekeep.WfqShare", spec := "wfqShare", apart := false, narrowed := true }
def WfqShareUptoSaid : Prop := wfqShareUptoRow.holds Try.pinned (OpenSpec.upto wfqShareSpec)

/-- 'weirhousekeep.WfqAlone', WHERE WHAT IT READS IS OF BULK AT MOST 1048576: true; the input reads as it did. -/
def wfqAloneUptoRow : OpenClaim := { program := "ytdcodafidefloaa", sum := "bc552e18de2e2d45e8c2ff14804c069461a237a5e3647303d19f855e28c5ea6d", func := "weirhouse/weirhousekeep.WfqAlone", spec := "wfqAlone", apart := false, narrowed := true }
def WfqAloneUptoSaid : Prop := wfqAloneUptoRow.holds Try.pinned (OpenSpec.upto wfqAloneSpec)

/-- 'weirhousekeep.WfqSmooth', WHERE WHAT IT READS IS OF BULK AT MOST 1048576: true; the input reads as it did. -/
def wfqSmoothUptoRow : OpenClaim := { program := "ytdcodafidefloaa", sum := "bc552e18de2e2d45e8c2ff14804c069461a237a5e3647303d19f855e28c5ea6d", func := "weirhouse/weirhousekeep.WfqSmooth", spec := "wfqSmooth", apart := false, narrowed := true }
def WfqSmoothUptoSaid : Prop := wfqSmoothUptoRow.holds Try.pinned (OpenSpec.upto wfqSmoothSpec)

end Rows
end Go.Proofs.Ytdcodafidefloaa
