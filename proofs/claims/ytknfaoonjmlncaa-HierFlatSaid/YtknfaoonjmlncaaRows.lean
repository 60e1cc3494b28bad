/-
  No cell of these rows narrows 'for every input' (looked for: loops, veiled, ifaces, maps, wideKeys, modest, calm, conditions, laid).
  DERIVED. THE GIVEN ROWS OF THIS SEAT. 3 by the template 'for every input the law returns true; each argument reads behind the call as it read before'; 0 by the template 'total and deterministic' (their statements: YtknfaoonjmlncaaTotals.lean).
  GIVEN WITH THE SEED: the statements are not yours to turn. If you find one false, say at which input.
  Laid BY PROGRAM, IN A SANDBOX (cutbox-rows.mjs): the forced cells as the released guide's own fill.sh prints them over the translation bc800d1d330f63d3… (all of the seat's roots in one cut). By AI agents, Wed Nov 11 2026. No macro, syntax, notation, axiom, sorry.
-/
import Derived.Test.YtknfaoonjmlncaaChecked
import GoSem.Claim
import GoSem.ClaimJoined
import GoSem.ClaimMapViews
import Derived.JoinedTies
import Derived.KernelRfl
namespace Go.Proofs.Ytknfaoonjmlncaa
/- THE CELL 'sum', in the pinned program and in every row, IS THE sha256 OF THE DUMP (.gsa) THAT YtknfaoonjmlncaaProg.lean LOADS. Nothing in Lean hashes anything: it is a label: what it is worth is what the hold of that sum in a sandbox is worth. -/
noncomputable def Try.pinned : Pinned := { name := "ytknfaoonjmlncaa", sum := "bc800d1d330f63d3b9faeb565f44ec39dbb1cb5fd9f62697bef0c08c6f0decbb", checked := Try.checked }
namespace Rows
def none {H : Type} : Left H := { results := [], args := [] }

/-- 'weirhousekeep.HierOrder': WHATEVER THE INPUT: true; the input reads as it did. -/
def hierOrderSpec : ChangeSpec := { name := "hierOrder", fn := fun _ => fun
  | [d1, d2] => { results := [.lit (.bool true)], args := [d1, d2] }
  | _ => none }
def hierOrderRow : OpenClaim := { program := "ytknfaoonjmlncaa", sum := "bc800d1d330f63d3b9faeb565f44ec39dbb1cb5fd9f62697bef0c08c6f0decbb", func := "weirhouse/weirhousekeep.HierOrder", spec := "hierOrder", unfollowed := true, recurses := true, apart := false }
def HierOrderSaid : Prop := hierOrderRow.holds Try.pinned (OpenSpec.ofChange hierOrderSpec)

/-- ITS FALSE NEIGHBOUR: 'it returns false'. Refute it at one input. -/
def hierOrderWrong : ChangeSpec := { name := "hierOrder", fn := fun _ => fun
  | [d1, d2] => { results := [.lit (.bool false)], args := [d1, d2] }
  | _ => none }
def HierOrderWrongFalsely : Prop := hierOrderRow.holds Try.pinned (OpenSpec.ofChange hierOrderWrong)

/-- 'weirhousekeep.HierFlat': WHATEVER THE INPUT: true; the input reads as it did. -/
def hierFlatSpec : ChangeSpec := { name := "hierFlat", fn := fun _ => fun
  | [d1, d2] => { results := [.lit (.bool true)], args := [d1, d2] }
  | _ => none }
def hierFlatRow : OpenClaim := { program := "ytknfaoonjmlncaa", sum := "bc800d1d330f63d3b9faeb565f44ec39dbb1cb5fd9f62697bef0c08c6f0decbb", func := "weirhouse/weirhousekeep.HierFlat", spec := "hierFlat", unfollowed := true, recurses := true, apart := false }
def HierFlatSaid : Prop := hierFlatRow.holds Try.pinned (OpenSpec.ofChange hierFlatSpec)

/-- ITS FALSE NEIGHBOUR: 'it returns false'. Refute it at one input. -/
def hierFlatWrong : ChangeSpec := { name := "hierFlat", fn := fun _ => fun
  | [d1, d2] => { results := [.lit (.bool false)], args := [d1, d2] }
  | _ => none }
def HierFlatWrongFalsely : Prop := hierFlatRow.holds Try.pinned (OpenSpec.ofChange hierFlatWrong)

/-- 'weirhousekeep.HierShare': WHATEVER THE INPUT: true; the input reads as it did. -/
def hierShareSpec : ChangeSpec := { name := "hierShare", fn := fun _ => fun
  | [d1, d2, d3] => { results := [.lit (.bool true)], args := [d1, d2, d3] }
  | _ => none }
def hierShareRow : OpenClaim := { program := "ytknfaoonjmlncaa", sum := "bc800d1d330f63d3b9faeb565f44ec39dbb1cb5fd9f62697bef0c08c6f0decbb", func := "weirhouse/weirhousekeep.HierShare", spec := "hierShare", inPlace := ["slices.overlaps[int]"], unfollowed := true, recurses := true, apart := false }
def HierShareSaid : Prop := hierShareRow.holds Try.pinned (OpenSpec.ofChange hierShareSpec)

/-- ITS FALSE NEIGHBOUR: 'it returns false'. Refute it at one input. -/
def hierShareWrong : ChangeSpec := { name := "hierShare", fn := fun _ => fun
  | [d1, d2, d3] => { results := [.lit (.bool false)], args := [d1, d2, d3] }
  | _ => none }
def HierShareWrongFalsely : Prop := hierShareRow.holds Try.pinned (OpenSpec.ofChange hierShareWrong)

/- THE SECOND FORM. 'bulk': how many values and letters a reading holds, each counted each time it is reached (what is shared counts as often as it is met; a slice's spare places count too). A statement '..UptoSaid' is the law's where the arguments, and the package variables that the reading takes, are together of bulk at most 1048576: NARROWER than '..Said'. Prove '..Said' where nothing that the law and all that it calls make is longer than what came in: it says more and counts as full. Else prove '..UptoSaid'. A law counts once. -/
mutual
def uptoBulk {H : Type} : DataW H → Nat
  | .lit (.string bytes) => bytes.length + 1
  | .lit _ => 1
  | .nil => 1
  | .ptr d => uptoBulk d + 1
  | .slice elems spare => uptoBulkAll elems + uptoBulkAll spare + 1
  | .agg parts => uptoBulkAll parts + 1
  | .iface _ d => uptoBulk d + 1
  | .map entries => uptoBulkEntries entries + 1
  | .held _ => 1
def uptoBulkAll {H : Type} : List (DataW H) → Nat
  | [] => 0
  | d :: r => uptoBulk d + uptoBulkAll r
def uptoBulkEntries {H : Type} : List (Lit × DataW H) → Nat
  | [] => 0
  | x :: r => uptoBulkEntry x + uptoBulkEntries r
def uptoBulkEntry {H : Type} : Lit × DataW H → Nat
  | (.string bytes, d) => bytes.length + uptoBulk d + 1
  | (_, d) => uptoBulk d + 1
 end
def uptoSmall : (H : Type) → List (DataW H) → Bool := fun _ ds => decide (uptoBulkAll ds ≤ 1048576)
def OpenSpec.upto (s : _root_.Go.ChangeSpec) : _root_.Go.OpenSpec := { _root_.Go.OpenSpec.ofChange s with cond := some uptoSmall }

/-- 'weirhousekeep.HierOrder', WHERE WHAT IT READS IS OF BULK AT MOST 1048576: true; the input reads as it did. -/
def hierOrderUptoRow : OpenClaim := { program := "ytknfaoonjmlncaa", sum := "bc800d1d330f63d3b9faeb565f44ec39dbb1cb5fd9f62697bef0c08c6f0decbb", func := "weirhouse/weirhousekeep.HierOrder", spec := "hierOrder", unfollowed := true, recurses := true, apart := false, narrowed := true }
def HierOrderUptoSaid : Prop := hierOrderUptoRow.holds Try.pinned (OpenSpec.upto hierOrderSpec)

/-- 'weirhousekeep.HierFlat', WHERE WHAT IT READS IS OF BULK AT MOST 1048576: true; the input reads as it did. -/
def hierFlatUptoRow : OpenClaim := { program := "ytknfaoonjmlncaa", sum := "bc800d1d330f63d3b9faeb565f44ec39dbb1cb5fd9f62697bef0c08c6f0decbb", func := "weirhouse/weirhousekeep.HierFlat", spec := "hierFlat", unfollowed := true, recurses := true, apart := false, narrowed := true }
def HierFlatUptoSaid : Prop := hierFlatUptoRow.holds Try.pinned (OpenSpec.upto hierFlatSpec)

/-- 'weirhousekeep.HierShare', WHERE WHAT IT READS IS OF BULK AT MOST 1048576: true; the input reads as it did. -/
def hierShareUptoRow : OpenClaim := { program := "ytknfaoonjmlncaa", sum := "bc800d1d330f63d3b9faeb565f44ec39dbb1cb5fd9f62697bef0c08c6f0decbb", func := "weirhouse/weirhousekeep.HierShare", spec := "hierShare", inPlace := ["slices.overlaps[int]"], unfollowed := true, recurses := true, apart := false, narrowed := true }
def HierShareUptoSaid : Prop := hierShareUptoRow.holds Try.pinned (OpenSpec.upto hierShareSpec)

end Rows
end Go.Proofs.Ytknfaoonjmlncaa
