/-
  No cell of these rows narrows 'for every input' (looked for: loops, veiled, ifaces, maps, wideKeys, modest, calm, conditions, laid).
  DERIVED. THE GIVEN ROWS OF THIS SEAT. 5 by the template 'for every input the law returns true; each argument reads behind the call as it read before'; 0 by the template 'total and deterministic' (their statements: YtfoooabhfecjhaaTotals.lean).
  GIVEN WITH THE SEED: the statements are not yours to turn. If you find one false, say at which input.
  Laid BY PROGRAM, IN A SANDBOX (cutbox-rows.mjs): the forced cells as the released guide's own fill.sh prints them over the translation 84e68c345d1d69db… (all of the seat's roots in one cut). By AI agents, Wed Nov 11 2026. No macro, syntax, notation, axiom, sorry.
-/
import Derived.Test.YtfoooabhfecjhaaChecked
import GoSem.Claim
import GoSem.ClaimJoined
import GoSem.ClaimMapViews
import Derived.JoinedTies
import Derived.KernelRfl
namespace Go.Proofs.Ytfoooabhfecjhaa
/- THE CELL 'sum', in the pinned program and in every row, IS THE sha256 OF THE DUMP (.gsa) THAT YtfoooabhfecjhaaProg.lean LOADS. Nothing in Lean hashes anything: it is a label: what it is worth is what the hold of that sum in a sandbox is worth. -/
noncomputable def Try.pinned : Pinned := { name := "ytfoooabhfecjhaa", sum := "84e68c345d1d69dbf7f30bb231d17f52b8eb1e08abffcfaf4d2918d44609eea7", checked := Try.checked }
namespace Rows
def none {H : Type} : Left H := { results := [], args := [] }

/-- 'weirhousekeep.PaceBound': WHATEVER THE INPUT: true; the input reads as it did. -/
def paceBoundSpec : ChangeSpec := { name := "paceBound", fn := fun _ => fun
  | [d1, d2, d3, d4] => { results := [.lit (.bool true)], args := [d1, d2, d3, d4] }
  | _ => none }
def paceBoundRow : OpenClaim := { program := "ytfoooabhfecjhaa", sum := "84e68c345d1d69dbf7f30bb231d17f52b8eb1e08abffcfaf4d2918d44609eea7", func := "weirhouse/weirhousekeep.PaceBound", spec := "paceBound", unfollowed := true, recurses := true, apart := false }
def PaceBoundSaid : Prop := paceBoundRow.holds Try.pinned (OpenSpec.ofChange paceBoundSpec)

/-- ITS FALSE NEIGHBOUR: 'it returns false'. Refute it at one input. -/
def paceBoundWrong : ChangeSpec := { name := "paceBound", fn := fun _ => fun
  | [d1, d2, d3, d4] => { results := [.lit (.bool false)], args := [d1, d2, d3, d4] }
  | _ => none }
def PaceBoundWrongFalsely : Prop := paceBoundRow.holds Try.pinned (OpenSpec.ofChange paceBoundWrong)

/-- 'weirhousekeep.PaceBusy': WHATEVER THE INPUT: true; the input reads as it did. -/
def paceBusySpec : ChangeSpec := { name := "paceBusy", fn := fun _ => fun
  | [d1, d2, d3, d4, d5] => { results := [.lit (.bool true)], args := [d1, d2, d3, d4, d5] }
  | _ => none }
def paceBusyRow : OpenClaim := { program := "ytfoooabhfecjhaa", sum := "84e68c345d1d69dbf7f30bb231d17f52b8eb1e08abffcfaf4d2918d44609eea7", func := "weirhouse/weirhousekeep.PaceBusy", spec := "paceBusy", unfollowed := true, recurses := true, apart := false }
def PaceBusySaid : Prop := paceBusyRow.holds Try.pinned (OpenSpec.ofChange paceBusySpec)

/-- ITS FALSE NEIGHBOUR: 'it returns false'. Refute it at one input. -/
def paceBusyWrong : ChangeSpec := { name := "paceBusy", fn := fun _ => fun
  | [d1, d2, d3, d4, d5] => { results := [.lit (.bool false)], args := [d1, d2, d3, d4, d5] }
  | _ => none }
def PaceBusyWrongFalsely : Prop := paceBusyRow.holds Try.pinned (OpenSpec.ofChange paceBusyWrong)

/-- 'weirhousekeep.PaceAll': WHATEVER THE INPUT: true; the input reads as it did. -/
def paceAllSpec : ChangeSpec := { name := "paceAll", fn := fun _ => fun
  | [d1, d2, d3, d4] => { results := [.lit (.bool true)], args := [d1, d2, d3, d4] }
  | _ => none }
def paceAllRow : OpenClaim := { program := "ytfoooabhfecjhaa", sum := "84e68c345d1d69dbf7f30bb231d17f52b8eb1e08abffcfaf4d2918d44609eea7", func := "weirhouse/weirhousekeep.PaceAll", spec := "paceAll", unfollowed := true, recurses := true, apart := false }
def PaceAllSaid : Prop := paceAllRow.holds Try.pinned (OpenSpec.ofChange paceAllSpec)

/-- ITS FALSE NEIGHBOUR: 'it returns false'. Refute it at one input. -/
def paceAllWrong : ChangeSpec := { name := "paceAll", fn := fun _ => fun
  | [d1, d2, d3, d4] => { results := [.lit (.bool false)], args := [d1, d2, d3, d4] }
  | _ => none }
def PaceAllWrongFalsely : Prop := paceAllRow.holds Try.pinned (OpenSpec.ofChange paceAllWrong)

/-- 'weirhousekeep.PaceParts': WHATEVER THE INPUT: true; the input reads as it did. -/
def pacePartsSpec : ChangeSpec := { name := "paceParts", fn := fun _ => fun
  | [d1, d2, d3, d4, d5, d6] => { results := [.lit (.bool true)], args := [d1, d2, d3, d4, d5, d6] }
  | _ => none }
def pacePartsRow : OpenClaim := { program := "ytfoooabhfecjhaa", sum := "84e68c345d1d69dbf7f30bb231d17f52b8eb1e08abffcfaf4d2918d44609eea7", func := "weirhouse/weirhousekeep.PaceParts", spec := "paceParts", unfollowed := true, recurses := true, apart := false }
def PacePartsSaid : Prop := pacePartsRow.holds Try.pinned (OpenSpec.ofChange pacePartsSpec)

/-- ITS FALSE NEIGHBOUR: 'it returns false'. Refute it at one input. -/
def pacePartsWrong : ChangeSpec := { name := "paceParts", fn := fun _ => fun
  | [d1, d2, d3, d4, d5, d6] => { results := [.lit (.bool false)], args := [d1, d2, d3, d4, d5, d6] }
  | _ => none }
def PacePartsWrongFalsely : Prop := pacePartsRow.holds Try.pinned (OpenSpec.ofChange pacePartsWrong)

/-- 'weirhousekeep.PaceOrder': WHATEVER THE INPUT: true; the input reads as it did. -/
def paceOrderSpec : ChangeSpec := { name := "paceOrder", fn := fun _ => fun
  | [d1, d2, d3, d4] => { results := [.lit (.bool true)], args := [d1, d2, d3, d4] }
  | _ => none }
def paceOrderRow : OpenClaim := { program := "ytfoooabhfecjhaa", sum := "84e68c345d1d69dbf7f30bb231d17f52b8eb1e08abffcfaf4d2918d44609eea7", func := "weirhouse/weirhousekeep.PaceOrder", spec := "paceOrder", unfollowed := true, recurses := true, apart := false }
def PaceOrderSaid : Prop := paceOrderRow.holds Try.pinned (OpenSpec.ofChange paceOrderSpec)

/-- ITS FALSE NEIGHBOUR: 'it returns false'. Refute it at one input. -/
def paceOrderWrong : ChangeSpec := { name := "paceOrder", fn := fun _ => fun
  | [d1, d2, d3, d4] => { results := [.lit (.bool false)], args := [d1, d2, d3, d4] }
  | _ => none }
def PaceOrderWrongFalsely : Prop := paceOrderRow.holds Try.pinned (OpenSpec.ofChange paceOrderWrong)

/- THE SECOND FORM. 'bulk': how many values and letters a reading holds, each counted each time it is reached (what is shared counts as often as it is met; a slice's spare places count too). A statement '..UptoSaid' is the law's where the arguments, and the package variables that the reading takes, are together of bulk at most 1048576: NARROWER than '..Said'. Prove '..Said' where nothing that the law and all that it calls make is longer than what came in: it says more and counts as full. Else prove '..UptoSaid'. A law counts once. -/
mutual
def uptoBulk {H : Type} : DataW H → Nat
  | .lit (.string bytes) => bytes.length + 1
  | .lit _ => 1
  | .nil => 1
  | .ptr d => uptoBulk d + 1
  | .slice elems spare => uptoBulkAll elems + uptoBulkAll spare + 1
  | .agg parts => uptoBulkAll parts + 1
  | .iface _ d => uptoBulk d + 1
  | .map entries => uptoBulkEntries entries + 1
  | .held _ => 1
def uptoBulkAll {H : Type} : List (DataW H) → Nat
  | [] => 0
  | d :: r => uptoBulk d + uptoBulkAll r
def uptoBulkEntries {H : Type} : List (Lit × DataW H) → Nat
  | [] => 0
  | x :: r => uptoBulkEntry x + uptoBulkEntries r
def uptoBulkEntry {H : Type} : Lit × DataW H → Nat
  | (.string bytes, d) => bytes.length + uptoBulk d + 1
  | (_, d) => uptoBulk d + 1
 end
def uptoSmall : (H : Type) → List (DataW H) → Bool := fun _ ds => decide (uptoBulkAll ds ≤ 1048576)
def OpenSpec.upto (s : _root_.Go.ChangeSpec) : _root_.Go.OpenSpec := { _root_.Go.OpenSpec.ofChange s with cond := some uptoSmall }

/-- 'weirhousekeep.PaceBound', WHERE WHAT IT READS IS OF BULK AT MOST 1048576: true; the input reads as it did. -/
def paceBoundUptoRow : OpenClaim := { program := "ytfoooabhfecjhaa", sum := "84e68c345d1d69dbf7f30bb231d17f52b8eb1e08abffcfaf4d2918d44609eea7", func := "weirhouse/weirhousekeep.PaceBound", spec := "paceBound", unfollowed := true, recurses := true, apart := false, narrowed := true }
def PaceBoundUptoSaid : Prop := paceBoundUptoRow.holds Try.pinned (OpenSpec.upto paceBoundSpec)

/-- 'weirhousekeep.PaceBusy', WHERE WHAT IT READS IS OF BULK AT MOST 1048576: true; the input reads as it did. -/
def paceBusyUptoRow : OpenClaim := { program := "ytfoooabhfecjhaa", sum := "84e68c345d1d69dbf7f30bb231d17f52b8eb1e08abffcfaf4d2918d44609eea7", func := "weirhouse/weirhousekeep.PaceBusy", spec := "paceBusy", unfollowed := true, recurses := true, apart := false, narrowed := true }
def PaceBusyUptoSaid : Prop := paceBusyUptoRow.holds Try.pinned (OpenSpec.upto paceBusySpec)

/-- 'weirhousekeep.PaceAll', WHERE WHAT IT READS IS OF BULK AT MOST 1048576: true; the input reads as it did. -/
def paceAllUptoRow : OpenClaim := { program := "ytfoooabhfecjhaa", sum := "84e68c345d1d69dbf7f30bb231d17f52b8eb1e08abffcfaf4d2918d44609eea7", func := "weirhouse/weirhousekeep.PaceAll", spec := "paceAll", unfollowed := true, recurses := true, apart := false, narrowed := true }
def PaceAllUptoSaid : Prop := paceAllUptoRow.holds Try.pinned (OpenSpec.upto paceAllSpec)

/-- 'weirhousekeep.PaceParts', WHERE WHAT IT READS IS OF BULK AT MOST 1048576: true; the input reads as it did. -/
def pacePartsUptoRow : OpenClaim := { program := "ytfoooabhfecjhaa", sum := "84e68c345d1d69dbf7f30bb231d17f52b8eb1e08abffcfaf4d2918d44609eea7", func := "weirhouse/weirhousekeep.PaceParts", spec := "paceParts", unfollowed := true, recurses := true, apart := false, narrowed := true }
def PacePartsUptoSaid : Prop := pacePartsUptoRow.holds Try.pinned (OpenSpec.upto pacePartsSpec)

/-- 'weirhousekeep.PaceOrder', WHERE WHAT IT READS IS OF BULK AT MOST 1048576: true; the input reads as it did. -/
def paceOrderUptoRow : OpenClaim := { program := "ytfoooabhfecjhaa", sum := "84e68c345d1d69dbf7f30bb231d17f52b8eb1e08abffcfaf4d2918d44609eea7", func := "weirhouse/weirhousekeep.PaceOrder", spec := "paceOrder", unfollowed := true, recurses := true, apart := false, narrowed := true }
def PaceOrderUptoSaid : Prop := paceOrderUptoRow.holds Try.pinned (OpenSpec.upto paceOrderSpec)

end Rows
end Go.Proofs.Ytfoooabhfecjhaa
