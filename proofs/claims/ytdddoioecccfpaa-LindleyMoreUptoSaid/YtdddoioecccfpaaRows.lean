/-
  No cell of these rows narrows 'for every input' (looked for: loops, veiled, ifaces, maps, wideKeys, modest, calm, conditions, laid).
  DERIVED. THE GIVEN ROWS OF THIS SEAT. 4 by the template 'for every input the law returns true; each argument reads behind the call as it read before'; 0 by the template 'total and deterministic' (their statements: YtdddoioecccfpaaTotals.lean).
  GIVEN WITH THE SEED: the statements are not yours to turn. If you find one false, say at which input.
  Laid BY PROGRAM, IN A SANDBOX (cutbox-rows.mjs): the forced cells as the released guide's own fill.sh prints them over the translation 115f3d81796a21d3… (all of the seat's roots in one cut). By AI agents, Wed Nov 11 2026. No macro, syntax, notation, axiom, sorry.
-/
import Derived.Test.YtdddoioecccfpaaChecked
import GoSem.Claim
import GoSem.ClaimJoined
import GoSem.ClaimMapViews
import Derived.JoinedTies
import Derived.KernelRfl
namespace Go.Proofs.Ytdddoioecccfpaa
/- THE CELL 'sum', in the pinned program and in every row, IS THE sha256 OF THE DUMP (.gsa) THAT YtdddoioecccfpaaProg.lean LOADS. Nothing in Lean hashes anything: it is a label: what it is worth is what the hold of that sum in a sandbox is worth. -/
noncomputable def Try.pinned : Pinned := { name := "ytdddoioecccfpaa", sum := "115f3d81796a21d3db02ce9adf48de0fbaeeaaeb45a32c5abfdc59383eb300b3", checked := Try.checked }
namespace Rows
def none {H : Type} : Left H := { results := [], args := [] }

/-- 'weirhousekeep.LindleyReich': WHATEVER THE INPUT: true; the input reads as it did. -/
def lindleyReichSpec : ChangeSpec := { name := "lindleyReich", fn := fun _ => fun
  | [d] => { results := [.lit (.bool true)], args := [d] }
  | _ => none }
def lindleyReichRow : OpenClaim := { program := "ytdddoioecccfpaa", sum := "115f3d81796a21d3db02ce9adf48de0fbaeeaaeb45a32c5abfdc59383eb300b3", func := "weirhouse/weirhousekeep.LindleyReich", spec := "lindleyReich", apart := false }
def LindleyReichSaid : Prop := lindleyReichRow.holds Try.pinned (OpenSpec.ofChange lindleyReichSpec)

/-- ITS FALSE NEIGHBOUR: 'it returns false'. Refute it at one input. -/
def lindleyReichWrong : ChangeSpec := { name := "lindleyReich", fn := fun _ => fun
  | [d] => { results := [.lit (.bool false)], args := [d] }
  | _ => none }
def LindleyReichWrongFalsely : Prop := lindleyReichRow.holds Try.pinned (OpenSpec.ofChange lindleyReichWrong)

/-- 'weirhousekeep.LindleyLittle': WHATEVER THE INPUT: true; the input reads as it did. -/
def lindleyLittleSpec : ChangeSpec := { name := "lindleyLittle", fn := fun _ => fun
  | [d] => { results := [.lit (.bool true)], args := [d] }
  | _ => none }
def lindleyLittleRow : OpenClaim := { program := "ytdddoioecccfpaa", sum := "115f3d81796a21d3db02ce9adf48de0fbaeeaaeb45a32c5abfdc59383eb300b3", func := "weirhouse/weirhousekeep.LindleyLittle", spec := "lindleyLittle", apart := false }
def LindleyLittleSaid : Prop := lindleyLittleRow.holds Try.pinned (OpenSpec.ofChange lindleyLittleSpec)

/-- ITS FALSE NEIGHBOUR: 'it returns false'. Refute it at one input. -/
def lindleyLittleWrong : ChangeSpec := { name := "lindleyLittle", fn := fun _ => fun
  | [d] => { results := [.lit (.bool false)], args := [d] }
  | _ => none }
def LindleyLittleWrongFalsely : Prop := lindleyLittleRow.holds Try.pinned (OpenSpec.ofChange lindleyLittleWrong)

/-- 'weirhousekeep.LindleyWork': WHATEVER THE INPUT: true; the input reads as it did. -/
def lindleyWorkSpec : ChangeSpec := { name := "lindleyWork", fn := fun _ => fun
  | [d1, d2] => { results := [.lit (.bool true)], args := [d1, d2] }
  | _ => none }
def lindleyWorkRow : OpenClaim := { program := "ytdddoioecccfpaa", sum := "115f3d81796a21d3db02ce9adf48de0fbaeeaaeb45a32c5abfdc59383eb300b3", func := "weirhouse/weirhousekeep.LindleyWork", spec := "lindleyWork", apart := false }
def LindleyWorkSaid : Prop := lindleyWorkRow.holds Try.pinned (OpenSpec.ofChange lindleyWorkSpec)

/-- ITS FALSE NEIGHBOUR: 'it returns false'. Refute it at one input. -/
def lindleyWorkWrong : ChangeSpec := { name := "lindleyWork", fn := fun _ => fun
  | [d1, d2] => { results := [.lit (.bool false)], args := [d1, d2] }
  | _ => none }
def LindleyWorkWrongFalsely : Prop := lindleyWorkRow.holds Try.pinned (OpenSpec.ofChange lindleyWorkWrong)

/-- 'weirhousekeep.LindleyMore': WHATEVER THE INPUT: true; the input reads as it did. -/
def lindleyMoreSpec : ChangeSpec := { name := "lindleyMore", fn := fun _ => fun
  | [d1, d2, d3] => { results := [.lit (.bool true)], args := [d1, d2, d3] }
  | _ => none }
def lindleyMoreRow : OpenClaim := { program := "ytdddoioecccfpaa", sum := "115f3d81796a21d3db02ce9adf48de0fbaeeaaeb45a32c5abfdc59383eb300b3", func := "weirhouse/weirhousekeep.LindleyMore", spec := "lindleyMore", apart := false }
def LindleyMoreSaid : Prop := lindleyMoreRow.holds Try.pinned (OpenSpec.ofChange lindleyMoreSpec)

/-- ITS FALSE NEIGHBOUR: 'it returns false'. Refute it at one input. -/
def lindleyMoreWrong : ChangeSpec := { name := "lindleyMore", fn := fun _ => fun
  | [d1, d2, d3] => { results := [.lit (.bool false)], args := [d1, d2, d3] }
  | _ => none }
def LindleyMoreWrongFalsely : Prop := lindleyMoreRow.holds Try.pinned (OpenSpec.ofChange lindleyMoreWrong)

/- THE SECOND FORM. 'bulk': how many values and letters a reading holds, each counted each time it is reached (what is shared counts as often as it is met; a slice's spare places count too). A statement '..UptoSaid' is the law's where the arguments, and the package variables that the reading takes, are together of bulk at most 1048576: NARROWER than '..Said'. Prove '..Said' where nothing that the law and all that it calls make is longer than what came in: it says more and counts as full. Else prove '..UptoSaid'. A law counts once. -/
mutual
def uptoBulk {H : Type} : DataW H → Nat
  | .lit (.string bytes) => bytes.length + 1
  | .lit _ => 1
  | .nil => 1
  | .ptr d => uptoBulk d + 1
  | .slice elems spare => uptoBulkAll elems + uptoBulkAll spare + 1
  | .agg parts => uptoBulkAll parts + 1
  | .iface _ d => uptoBulk d + 1
  | .map entries => uptoBulkEntries entries + 1
  | .held _ => 1
def uptoBulkAll {H : Type} : List (DataW H) → Nat
  | [] => 0
  | d :: r => uptoBulk d + uptoBulkAll r
def uptoBulkEntries {H : Type} : List (Lit × DataW H) → Nat
  | [] => 0
  | x :: r => uptoBulkEntry x + uptoBulkEntries r
def uptoBulkEntry {H : Type} : Lit × DataW H → Nat
  | (.string bytes, d) => bytes.length + uptoBulk d + 1
  | (_, d) => uptoBulk d + 1
 end
def uptoSmall : (H : Type) → List (DataW H) → Bool := fun _ ds => decide (uptoBulkAll ds ≤ 1048576)
def OpenSpec.upto (s : _root_.Go.ChangeSpec) : _root_.Go.OpenSpec := { _root_.Go.OpenSpec.ofChange s with cond := some uptoSmall }

/-- 'weirhousekeep.LindleyReich', WHERE WHAT IT READS IS OF BULK AT MOST 1048576: true; the input reads as it did. -/
def lindleyReichUptoRow : OpenClaim := { program := "ytdddoioecccfpaa", sum := "115f3d81796a21d3db02ce9adf48de0fbaeeaaeb45a32c5abfdc59383eb300b3", func := "weirhouse/weirhousekeep.LindleyReich", spec := "lindleyReich", apart := false, narrowed := true }
def LindleyReichUptoSaid : Prop := lindleyReichUptoRow.holds Try.pinned (OpenSpec.upto lindleyReichSpec)

/-- 'weirhousekeep.LindleyLittle', WHERE WHAT IT READS IS OF BULK AT MOST 1048576: true; the input reads as it did. -/
def lindleyLittleUptoRow : OpenClaim := { program := "ytdddoioecccfpaa", sum := "115f3d81796a21d3db02ce9adf48de0fbaeeaaeb45a32c5abfdc59383eb300b3", func := "weirhouse/weirhousekeep.LindleyLittle", spec := "lindleyLittle", apart := false, narrowed := true }
def LindleyLittleUptoSaid : Prop := lindleyLittleUptoRow.holds Try.pinned (OpenSpec.upto lindleyLittleSpec)

/-- 'weirhousekeep.LindleyWork', WHERE WHAT IT READS IS OF BULK AT MOST 1048576: true; the input reads as it did. -/
def lindleyWorkUptoRow : OpenClaim := { program := "ytdddoioecccfpaa", sum := "115f3d81796a21d3db02ce9adf48de0fbaeeaaeb45a32c5abfdc59383eb300b3", func := "weirhouse/weirhousekeep.LindleyWork", spec := "lindleyWork", apart := false, narrowed := true }
def LindleyWorkUptoSaid : Prop := lindleyWorkUptoRow.holds Try.pinned (OpenSpec.upto lindleyWorkSpec)

/-- 'weirhousekeep.LindleyMore', WHERE WHAT IT READS IS OF BULK AT MOST 1048576: true; the input reads as it did. -/
def lindleyMoreUptoRow : OpenClaim := { program := "ytdddoioecccfpaa", sum := "115f3d81796a21d3db02ce9adf48de0fbaeeaaeb45a32c5abfdc59383eb300b3", func := "weirhouse/weirhousekeep.LindleyMore", spec := "lindleyMore", apart := false, narrowed := true }
def LindleyMoreUptoSaid : Prop := lindleyMoreUptoRow.holds Try.pinned (OpenSpec.upto lindleyMoreSpec)

end Rows
end Go.Proofs.Ytdddoioecccfpaa
