/-
  No cell of these rows narrows 'for every input' (looked for: loops, veiled, ifaces, maps, wideKeys, modest, calm, conditions, laid).
  DERIVED. THE GIVEN ROWS OF THIS SEAT. 4 by the template 'for every input the law returns true; each argument reads behind the call as it read before'; 0 by the template 'total and deterministic' (their statements: YtklbagfnepphmaaTotals.lean).
  GIVEN WITH THE SEED: the statements are not yours to turn. If you find one false, say at which input.
  Laid BY PROGRAM, IN A SANDBOX (cutbox-rows.mjs): the forced cells as the released guide's own fill.sh prints them over the translation bf4e5e3e1c226df3… (all of the seat's roots in one cut). By AI agents, Wed Nov 11 2026. No macro, syntax, notation, axiom, sorry.
-/
import Derived.Test.YtklbagfnepphmaaChecked
import GoSem.Claim
import GoSem.ClaimJoined
import GoSem.ClaimMapViews
import Derived.JoinedTies
import Derived.KernelRfl
namespace Go.Proofs.Ytklbagfnepphmaa
/- THE CELL 'sum', in the pinned program and in every row, IS THE sha256 OF THE DUMP (.gsa) THAT YtklbagfnepphmaaProg.lean LOADS. Nothing in Lean hashes anything: it is a label: what it is worth is what the hold of that sum in a sandbox is worth. -/
noncomputable def Try.pinned : Pinned := { name := "ytklbagfnepphmaa", sum := "bf4e5e3e1c226df344c5ba51e95ce4ae561ca8548677f31c6c567b864fde402b", checked := Try.checked }
namespace Rows
def none {H : Type} : Left H := { results := [], args := [] }

/-- 'weirhousekeep.SlideParts': WHATEVER THE INPUT: true; the input reads as it did. -/
def slidePartsSpec : ChangeSpec := { name := "slideParts", fn := fun _ => fun
  | [d1, d2] => { results := [.lit (.bool true)], args := [d1, d2] }
  | _ => none }
def slidePartsRow : OpenClaim := { program := "ytklbagfnepphmaa", sum := "bf4e5e3e1c226df344c5ba51e95ce4ae561ca8548677f31c6c567b864fde402b", func := "weirhouse/weirhousekeep.SlideParts", spec := "slideParts", apart := false }
def SlidePartsSaid : Prop := slidePartsRow.holds Try.pinned (OpenSpec.ofChange slidePartsSpec)

/-- ITS FALSE NEIGHBOUR: 'it returns false'. Refute it at one input. -/
def slidePartsWrong : ChangeSpec := { name := "slideParts", fn := fun _ => fun
  | [d1, d2] => { results := [.lit (.bool false)], args := [d1, d2] }
  | _ => none }
def SlidePartsWrongFalsely : Prop := slidePartsRow.holds Try.pinned (OpenSpec.ofChange slidePartsWrong)

/-- 'weirhousekeep.SlideShift': WHATEVER THE INPUT: true; the input reads as it did. -/
def slideShiftSpec : ChangeSpec := { name := "slideShift", fn := fun _ => fun
  | [d1, d2, d3, d4, d5] => { results := [.lit (.bool true)], args := [d1, d2, d3, d4, d5] }
  | _ => none }
def slideShiftRow : OpenClaim := { program := "ytklbagfnepphmaa", sum := "bf4e5e3e1c226df344c5ba51e95ce4ae561ca8548677f31c6c567b864fde402b", func := "weirhouse/weirhousekeep.SlideShift", spec := "slideShift", apart := false }
def SlideShiftSaid : Prop := slideShiftRow.holds Try.pinned (OpenSpec.ofChange slideShiftSpec)

/-- ITS FALSE NEIGHBOUR: 'it returns false'. Refute it at one input. -/
def slideShiftWrong : ChangeSpec := { name := "slideShift", fn := fun _ => fun
  | [d1, d2, d3, d4, d5] => { results := [.lit (.bool false)], args := [d1, d2, d3, d4, d5] }
  | _ => none }
def SlideShiftWrongFalsely : Prop := slideShiftRow.holds Try.pinned (OpenSpec.ofChange slideShiftWrong)

/-- 'weirhousekeep.SlideMost': WHATEVER THE INPUT: true; the input reads as it did. -/
def slideMostSpec : ChangeSpec := { name := "slideMost", fn := fun _ => fun
  | [d1, d2] => { results := [.lit (.bool true)], args := [d1, d2] }
  | _ => none }
def slideMostRow : OpenClaim := { program := "ytklbagfnepphmaa", sum := "bf4e5e3e1c226df344c5ba51e95ce4ae561ca8548677f31c6c567b864fde402b", func := "weirhouse/weirhousekeep.SlideMost", spec := "slideMost", unfollowed := true, recurses := true, apart := false }
def SlideMostSaid : Prop := slideMostRow.holds Try.pinned (OpenSpec.ofChange slideMostSpec)

/-- ITS FALSE NEIGHBOUR: 'it returns false'. Refute it at one input. -/
def slideMostWrong : ChangeSpec := { name := "slideMost", fn := fun _ => fun
  | [d1, d2] => { results := [.lit (.bool false)], args := [d1, d2] }
  | _ => none }
def SlideMostWrongFalsely : Prop := slideMostRow.holds Try.pinned (OpenSpec.ofChange slideMostWrong)

/-- 'weirhousekeep.SlideBetween': WHATEVER THE INPUT: true; the input reads as it did. -/
def slideBetweenSpec : ChangeSpec := { name := "slideBetween", fn := fun _ => fun
  | [d1, d2, d3] => { results := [.lit (.bool true)], args := [d1, d2, d3] }
  | _ => none }
def slideBetweenRow : OpenClaim := { program := "ytklbagfnepphmaa", sum := "bf4e5e3e1c226df344c5ba51e95ce4ae561ca8548677f31c6c567b864fde402b", func := "weirhouse/weirhousekeep.SlideBetween", spec := "slideBetween", unfollowed := true, recurses := true, apart := false }
def SlideBetweenSaid : Prop := slideBetweenRow.holds Try.pinned (OpenSpec.ofChange slideBetweenSpec)

/-- ITS FALSE NEIGHBOUR: 'it returns false'. Refute it at one input. -/
def slideBetweenWrong : ChangeSpec := { name := "slideBetween", fn := fun _ => fun
  | [d1, d2, d3] => { results := [.lit (.bool false)], args := [d1, d2, d3] }
  | _ => none }
def SlideBetweenWrongFalsely : Prop := slideBetweenRow.holds Try.pinned (OpenSpec.ofChange slideBetweenWrong)

/- THE SECOND FORM. 'bulk': how many values and letters a reading holds, each counted each time it is reached (what is shared counts as often as it is met; a slice's spare places count too). A statement '..UptoSaid' is the law's where the arguments, and the package variables that the reading takes, are together of bulk at most 1048576: NARROWER than '..Said'. Prove '..Said' where nothing that the law and all that it calls make is longer than what came in: it says more and counts as full. Else prove '..UptoSaid'. A law counts once. -/
mutual
def uptoBulk {H : Type} : DataW H → Nat
  | .lit (.string bytes) => bytes.length + 1
  | .lit _ => 1
  | .nil => 1
  | .ptr d => uptoBulk d + 1
  | .slice elems spare => uptoBulkAll elems + uptoBulkAll spare + 1
  | .agg parts => uptoBulkAll parts + 1
  | .iface _ d => uptoBulk d + 1
  | .map entries => uptoBulkEntries entries + 1
  | .held _ => 1
def uptoBulkAll {H : Type} : List (DataW H) → Nat
  | [] => 0
  | d :: r => uptoBulk d + uptoBulkAll r
def uptoBulkEntries {H : Type} : List (Lit × DataW H) → Nat
  | [] => 0
  | x :: r => uptoBulkEntry x + uptoBulkEntries r
def uptoBulkEntry {H : Type} : Lit × DataW H → Nat
  | (.string bytes, d) => bytes.length + uptoBulk d + 1
  | (_, d) => uptoBulk d + 1
 end
def uptoSmall : (H : Type) → List (DataW H) → Bool := fun _ ds => decide (uptoBulkAll ds ≤ 1048576)
def OpenSpec.upto (s : _root_.Go.ChangeSpec) : _root_.Go.OpenSpec := { _root_.Go.OpenSpec.ofChange s with cond := some uptoSmall }

/-- 'weirhousekeep.SlideParts', WHERE WHAT IT READS IS OF BULK AT MOST 1048576: true; the input reads as it did. -/
def slidePartsUptoRow : OpenClaim := { program := "ytklbagfnepphmaa", sum := "bf4e5e3e1c226df344c5ba51e95ce4ae561ca8548677f31c6c567b864fde402b", func := "weirhouse/weirhousekeep.SlideParts", spec := "slideParts", apart := false, narrowed := true }
def SlidePartsUptoSaid : Prop := slidePartsUptoRow.holds Try.pinned (OpenSpec.upto slidePartsSpec)

/-- 'weirhousekeep.SlideShift', WHERE WHAT IT READS IS OF BULK AT MOST 1048576: true; the input reads as it did. -/
def slideShiftUptoRow : OpenClaim := { program := "ytklbagfnepphmaa", sum := "bf4e5e3e1c226df344c5ba51e95ce4ae561ca8548677f31c6c567b864fde402b", func := "weirhouse/weirhousekeep.SlideShift", spec := "slideShift", apart := false, narrowed := true }
def SlideShiftUptoSaid : Prop := slideShiftUptoRow.holds Try.pinned (OpenSpec.upto slideShiftSpec)

/-- 'weirhousekeep.SlideMost', WHERE WHAT IT READS IS OF BULK AT MOST 1048576: true; the input reads as it did. -/
def slideMostUptoRow : OpenClaim := { program := "ytklbagfnepphmaa", sum := "bf4e5e3e1c226df344c5ba51e95ce4ae561ca8548677f31c6c567b864fde402b", func := "weirhouse/weirhousekeep.SlideMost", spec := "slideMost", unfollowed := true, recurses := true, apart := false, narrowed := true }
def SlideMostUptoSaid : Prop := slideMostUptoRow.holds Try.pinned (OpenSpec.upto slideMostSpec)

/-- 'weirhousekeep.SlideBetween', WHERE WHAT IT READS IS OF BULK AT MOST 1048576: true; the input reads as it did. -/
def slideBetweenUptoRow : OpenClaim := { program := "ytklbagfnepphmaa", sum := "bf4e5e3e1c226df344c5ba51e95ce4ae561ca8548677f31c6c567b864fde402b", func := "weirhouse/weirhousekeep.SlideBetween", spec := "slideBetween", unfollowed := true, recurses := true, apart := false, narrowed := true }
def SlideBetweenUptoSaid : Prop := slideBetweenUptoRow.holds Try.pinned (OpenSpec.upto slideBetweenSpec)

end Rows
end Go.Proofs.Ytklbagfnepphmaa
