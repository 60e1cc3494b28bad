/-
  No cell of these rows narrows 'for every input' (looked for: loops, veiled, ifaces, maps, wideKeys, modest, calm, conditions, laid).
  DERIVED. THE GIVEN ROWS OF THIS SEAT. 4 by the template 'for every input the law returns true; each argument reads behind the call as it read before'; 0 by the template 'total and deterministic' (their statements: YtjdmpkaiijcchaaTotals.lean).
  GIVEN WITH THE SEED: the statements are not yours to turn. If you find one false, say at which input.
  Laid BY PROGRAM, IN A SANDBOX (cutbox-rows.mjs): the forced cells as the released guide's own fill.sh prints them over the translation d2bec3523bee0716… (all of the seat's roots in one cut). By AI agents, Wed Nov 11 2026. No macro, syntax, notation, axiom, sorry.
-/
import Derived.Test.YtjdmpkaiijcchaaChecked
import GoSem.Claim
import GoSem.ClaimJoined
import GoSem.ClaimMapViews
import Derived.JoinedTies
import Derived.KernelRfl
namespace Go.Proofs.Ytjdmpkaiijcchaa
/- THE CELL 'sum', in the pinned program and in every row, IS THE sha256 OF THE DUMP (.gsa) THAT YtjdmpkaiijcchaaProg.lean LOADS. Nothing in Lean hashes anything: it is a label: what it is worth is what the hold of that sum in a sandbox is worth. -/
noncomputable def Try.pinned : Pinned := { name := "ytjdmpkaiijcchaa", sum := "d2bec3523bee0716f55044266817b4865267d142131656795dc5a6642238c330", checked := Try.checked }
namespace Rows
def none {H : Type} : Left H := { results := [], args := [] }

/-- 'weirhousekeep.HeapsUpdate': WHATEVER THE INPUT: true; the input reads as it did. -/
def heapsUpdateSpec : ChangeSpec := { name := "heapsUpdate", fn := fun _ => fun
  | [d1, d2, d3] => { results := [.lit (.bool true)], args := [d1, d2, d3] }
  | _ => none }
def heapsUpdateRow : OpenClaim := { program := "ytjdmpkaiijcchaa", sum := "d2bec3523bee0716f55044266817b4865267d142131656795dc5a6642238c330", func := "weirhouse/weirhousekeep.HeapsUpdate", spec := "heapsUpdate", apart := false }
def HeapsUpdateSaid : Prop := heapsUpdateRow.holds Try.pinned (OpenSpec.ofChange heapsUpdateSpec)

/-- ITS FALSE NEIGHBOUR: 'it returns false'. Refute it at one input. -/
def heapsUpdateWrong : ChangeSpec := { name := "heapsUpdate", fn := fun _ => fun
  | [d1, d2, d3] => { results := [.lit (.bool false)], args := [d1, d2, d3] }
  | _ => none }
def HeapsUpdateWrongFalsely : Prop := heapsUpdateRow.holds Try.pinned (OpenSpec.ofChange heapsUpdateWrong)

/-- 'weirhousekeep.HeapsRemove': WHATEVER THE INPUT: true; the input reads as it did. -/
def heapsRemoveSpec : ChangeSpec := { name := "heapsRemove", fn := fun _ => fun
  | [d1, d2] => { results := [.lit (.bool true)], args := [d1, d2] }
  | _ => none }
def heapsRemoveRow : OpenClaim := { program := "ytjdmpkaiijcchaa", sum := "d2bec3523bee0716f55044266817b4865267d142131656795dc5a6642238c330", func := "weirhouse/weirhousekeep.HeapsRemove", spec := "heapsRemove", unfollowed := true, recurses := true, apart := false }
def HeapsRemoveSaid : Prop := heapsRemoveRow.holds Try.pinned (OpenSpec.ofChange heapsRemoveSpec)

/-- ITS FALSE NEIGHBOUR: 'it returns false'. Refute it at one input. -/
def heapsRemoveWrong : ChangeSpec := { name := "heapsRemove", fn := fun _ => fun
  | [d1, d2] => { results := [.lit (.bool false)], args := [d1, d2] }
  | _ => none }
def HeapsRemoveWrongFalsely : Prop := heapsRemoveRow.holds Try.pinned (OpenSpec.ofChange heapsRemoveWrong)

/-- 'weirhousekeep.HeapsOrder': WHATEVER THE INPUT: true; the input reads as it did. -/
def heapsOrderSpec : ChangeSpec := { name := "heapsOrder", fn := fun _ => fun
  | [d] => { results := [.lit (.bool true)], args := [d] }
  | _ => none }
def heapsOrderRow : OpenClaim := { program := "ytjdmpkaiijcchaa", sum := "d2bec3523bee0716f55044266817b4865267d142131656795dc5a6642238c330", func := "weirhouse/weirhousekeep.HeapsOrder", spec := "heapsOrder", inPlace := ["slices.overlaps[weirhouse/api.HeapOp]"], apart := false }
def HeapsOrderSaid : Prop := heapsOrderRow.holds Try.pinned (OpenSpec.ofChange heapsOrderSpec)

/-- ITS FALSE NEIGHBOUR: 'it returns false'. Refute it at one input. -/
def heapsOrderWrong : ChangeSpec := { name := "heapsOrder", fn := fun _ => fun
  | [d] => { results := [.lit (.bool false)], args := [d] }
  | _ => none }
def HeapsOrderWrongFalsely : Prop := heapsOrderRow.holds Try.pinned (OpenSpec.ofChange heapsOrderWrong)

/-- 'weirhousekeep.HeapsSorted': WHATEVER THE INPUT: true; the input reads as it did. -/
def heapsSortedSpec : ChangeSpec := { name := "heapsSorted", fn := fun _ => fun
  | [d] => { results := [.lit (.bool true)], args := [d] }
  | _ => none }
def heapsSortedRow : OpenClaim := { program := "ytjdmpkaiijcchaa", sum := "d2bec3523bee0716f55044266817b4865267d142131656795dc5a6642238c330", func := "weirhouse/weirhousekeep.HeapsSorted", spec := "heapsSorted", unfollowed := true, recurses := true, apart := false }
def HeapsSortedSaid : Prop := heapsSortedRow.holds Try.pinned (OpenSpec.ofChange heapsSortedSpec)

/-- ITS FALSE NEIGHBOUR: 'it returns false'. Refute it at one input. -/
def heapsSortedWrong : ChangeSpec := { name := "heapsSorted", fn := fun _ => fun
  | [d] => { results := [.lit (.bool false)], args := [d] }
  | _ => none }
def HeapsSortedWrongFalsely : Prop := heapsSortedRow.holds Try.pinned (OpenSpec.ofChange heapsSortedWrong)

/- THE SECOND FORM. 'bulk': how many values and letters a reading holds, each counted each time it is reached (what is shared counts as often as it is met; a slice's spare places count too). A statement '..UptoSaid' is the law's where the arguments, and the package variables that the reading takes, are together of bulk at most 1048576: NARROWER than '..Said'. Prove '..Said' where nothing that the law and all that it calls make is longer than what came in: it says more and counts as full. Else prove '..UptoSaid'. A law counts once. -/
mutual
def uptoBulk {H : Type} : DataW H → Nat
  | .lit (.string bytes) => bytes.length + 1
  | .lit _ => 1
  | .nil => 1
  | .ptr d => uptoBulk d + 1
  | .slice elems spare => uptoBulkAll elems + uptoBulkAll spare + 1
  | .agg parts => uptoBulkAll parts + 1
  | .iface _ d => uptoBulk d + 1
  | .map entries => uptoBulkEntries entries + 1
  | .held _ => 1
def uptoBulkAll {H : Type} : List (DataW H) → Nat
  | [] => 0
  | d :: r => uptoBulk d + uptoBulkAll r
def uptoBulkEntries {H : Type} : List (Lit × DataW H) → Nat
  | [] => 0
  | x :: r => uptoBulkEntry x + uptoBulkEntries r
def uptoBulkEntry {H : Type} : Lit × DataW H → Nat
  | (.string bytes, d) => bytes.length + uptoBulk d + 1
  | (_, d) => uptoBulk d + 1
 end
def uptoSmall : (H : Type) → List (DataW H) → Bool := fun _ ds => decide (uptoBulkAll ds ≤ 1048576)
def OpenSpec.upto (s : _root_.Go.ChangeSpec) : _root_.Go.OpenSpec := { _root_.Go.OpenSpec.ofChange s with cond := some uptoSmall }

/-- 'weirhousekeep.HeapsUpdate', WHERE WHAT IT READS IS OF BULK AT MOST 1048576: true; the input reads as it did. -/
def heapsUpdateUptoRow : OpenClaim := { program := "ytjdmpkaiijcchaa", sum := "d2bec3523bee0716f55044266817b4865267d142131656795dc5a6642238c330", func := "weirhouse/weirhousekeep.HeapsUpdate", spec := "heapsUpdate", apart := false, narrowed := true }
def HeapsUpdateUptoSaid : Prop := heapsUpdateUptoRow.holds Try.pinned (OpenSpec.upto heapsUpdateSpec)

/-- 'weirhousekeep.HeapsRemove', WHERE WHAT IT READS IS OF BULK AT MOST 1048576: true; the input reads as it did. -/
def heapsRemoveUptoRow : OpenClaim := { program := "ytjdmpkaiijcchaa", sum := "d2bec3523bee0716f55044266817b4865267d142131656795dc5a6642238c330", func := "weirhouse/weirhousekeep.HeapsRemove", spec := "heapsRemove", unfollowed := true, recurses := true, apart := false, narrowed := true }
def HeapsRemoveUptoSaid : Prop := heapsRemoveUptoRow.holds Try.pinned (OpenSpec.upto heapsRemoveSpec)

/-- 'weirhousekeep.HeapsOrder', WHERE WHAT IT READS IS OF BULK AT MOST 1048576: true; the input reads as it did. -/
def heapsOrderUptoRow : OpenClaim := { program := "ytjdmpkaiijcchaa", sum := "d2bec3523bee0716f55044266817b4865267d142131656795dc5a6642238c330", func := "weirhouse/weirhousekeep.HeapsOrder", spec := "heapsOrder", inPlace := ["slices.overlaps[weirhouse/api.HeapOp]"], apart := false, narrowed := true }
def HeapsOrderUptoSaid : Prop := heapsOrderUptoRow.holds Try.pinned (OpenSpec.upto heapsOrderSpec)

/-- 'weirhousekeep.HeapsSorted', WHERE WHAT IT READS IS OF BULK AT MOST 1048576: true; the input reads as it did. -/
def heapsSortedUptoRow : OpenClaim := { program := "ytjdmpkaiijcchaa", sum := "d2bec3523bee0716f55044266817b4865267d142131656795dc5a6642238c330", func := "weirhouse/weirhousekeep.HeapsSorted", spec := "heapsSorted", unfollowed := true, recurses := true, apart := false, narrowed := true }
def HeapsSortedUptoSaid : Prop := heapsSortedUptoRow.holds Try.pinned (OpenSpec.upto heapsSortedSpec)

end Rows
end Go.Proofs.Ytjdmpkaiijcchaa
