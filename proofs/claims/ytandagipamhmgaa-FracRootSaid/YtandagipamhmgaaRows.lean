/-
  No cell of these rows narrows 'for every input' (looked for: loops, veiled, ifaces, maps, wideKeys, modest, calm, conditions, laid).
  DERIVED. THE GIVEN ROWS OF THIS SEAT. 4 by the template 'for every input the law returns true; each argument reads behind the call as it read before'; 0 by the template 'total and deterministic' (their statements: YtandagipamhmgaaTotals.lean).
  GIVEN WITH THE SEED: the statements are not yours to turn. If you find one false, say at which input.
  Laid BY PROGRAM, IN A SANDBOX (cutbox-rows.mjs): the forced cells as the released guide's own fill.sh prints them over the translation cffd61db899fcbb5… (all of the seat's roots in one cut). By AI agents, Wed Nov 11 2026. No macro, syntax, notation, axiom, sorry.
-/
import Derived.Test.YtandagipamhmgaaChecked
import GoSem.Claim
import GoSem.ClaimJoined
import GoSem.ClaimMapViews
import Derived.JoinedTies
import Derived.KernelRfl
namespace Go.Proofs.Ytandagipamhmgaa
/- THE CELL 'sum', in the pinned program and in every row, IS THE sha256 OF THE DUMP (.gsa) THAT YtandagipamhmgaaProg.lean LOADS. Nothing in Lean hashes anything: it is a label: what it is worth is what the hold of that sum in a sandbox is worth. -/
noncomputable def Try.pinned : Pinned := { name := "ytandagipamhmgaa", sum := "cffd61db899fcbb5c050881608dd966ae960137e31dd3f4863b7da50465adc22", checked := Try.checked }
namespace Rows
def none {H : Type} : Left H := { results := [], args := [] }

/-- 'weirhousekeep.FracRound': WHATEVER THE INPUT: true; the input reads as it did. -/
def fracRoundSpec : ChangeSpec := { name := "fracRound", fn := fun _ => fun
  | [d] => { results := [.lit (.bool true)], args := [d] }
  | _ => none }
def fracRoundRow : OpenClaim := { program := "ytandagipamhmgaa", sum := "cffd61db899fcbb5c050881608dd966ae960137e31dd3f4863b7da50465adc22", func := "weirhouse/weirhousekeep.FracRound", spec := "fracRound", apart := false }
def FracRoundSaid : Prop := fracRoundRow.holds Try.pinned (OpenSpec.ofChange fracRoundSpec)

/-- ITS FALSE NEIGHBOUR: 'it returns false'. Refute it at one input. -/
def fracRoundWrong : ChangeSpec := { name := "fracRound", fn := fun _ => fun
  | [d] => { results := [.lit (.bool false)], args := [d] }
  | _ => none }
def FracRoundWrongFalsely : Prop := fracRoundRow.holds Try.pinned (OpenSpec.ofChange fracRoundWrong)

/-- 'weirhousekeep.FracRoot': WHATEVER THE INPUT: true; the input reads as it did. -/
def fracRootSpec : ChangeSpec := { name := "fracRoot", fn := fun _ => fun
  | [d1, d2] => { results := [.lit (.bool true)], args := [d1, d2] }
  | _ => none }
def fracRootRow : OpenClaim := { program := "ytandagipamhmgaa", sum := "cffd61db899fcbb5c050881608dd966ae960137e31dd3f4863b7da50465adc22", func := "weirhouse/weirhousekeep.FracRoot", spec := "fracRoot", apart := false }
def FracRootSaid : Prop := fracRootRow.holds Try.pinned (OpenSpec.ofChange fracRootSpec)

/-- ITS FALSE NEIGHBOUR: 'it returns false'. Refute it at one input. -/
def fracRootWrong : ChangeSpec := { name := "fracRoot", fn := fun _ => fun
  | [d1, d2] => { results := [.lit (.bool false)], args := [d1, d2] }
  | _ => none }
def FracRootWrongFalsely : Prop := fracRootRow.holds Try.pinned (OpenSpec.ofChange fracRootWrong)

/-- 'weirhousekeep.FracField': WHATEVER THE INPUT: true; the input reads as it did. -/
def fracFieldSpec : ChangeSpec := { name := "fracField", fn := fun _ => fun
  | [d1, d2, d3] => { results := [.lit (.bool true)], args := [d1, d2, d3] }
  | _ => none }
def fracFieldRow : OpenClaim := { program := "ytandagipamhmgaa", sum := "cffd61db899fcbb5c050881608dd966ae960137e31dd3f4863b7da50465adc22", func := "weirhouse/weirhousekeep.FracField", spec := "fracField", apart := false }
def FracFieldSaid : Prop := fracFieldRow.holds Try.pinned (OpenSpec.ofChange fracFieldSpec)

/-- ITS FALSE NEIGHBOUR: 'it returns false'. Refute it at one input. -/
def fracFieldWrong : ChangeSpec := { name := "fracField", fn := fun _ => fun
  | [d1, d2, d3] => { results := [.lit (.bool false)], args := [d1, d2, d3] }
  | _ => none }
def FracFieldWrongFalsely : Prop := fracFieldRow.holds Try.pinned (OpenSpec.ofChange fracFieldWrong)

/-- 'weirhousekeep.FracOrder': WHATEVER THE INPUT: true; the input reads as it did. -/
def fracOrderSpec : ChangeSpec := { name := "fracOrder", fn := fun _ => fun
  | [d1, d2, d3] => { results := [.lit (.bool true)], args := [d1, d2, d3] }
  | _ => none }
def fracOrderRow : OpenClaim := { program := "ytandagipamhmgaa", sum := "cffd61db899fcbb5c050881608dd966ae960137e31dd3f4863b7da50465adc22", func := "weirhouse/weirhousekeep.FracOrder", spec := "fracOrder", apart := false }
def FracOrderSaid : Prop := fracOrderRow.holds Try.pinned (OpenSpec.ofChange fracOrderSpec)

/-- ITS FALSE NEIGHBOUR: 'it returns false'. Refute it at one input. -/
def fracOrderWrong : ChangeSpec := { name := "fracOrder", fn := fun _ => fun
  | [d1, d2, d3] => { results := [.lit (.bool false)], args := [d1, d2, d3] }
  | _ => none }
def FracOrderWrongFalsely : Prop := fracOrderRow.holds Try.pinned (OpenSpec.ofChange fracOrderWrong)

/- THE SECOND FORM. 'bulk': how many values and letters a reading holds, each counted each time it is reached (what is shared counts as often as it is met; a slice's spare places count too). A statement '..UptoSaid' is the law's where the arguments, and the package variables that the reading takes, are together of bulk at most 1048576: NARROWER than '..Said'. Prove '..Said' where nothing that the law and all that it calls make is longer than what came in: it says more and counts as full. Else prove '..UptoSaid'. A law counts once. -/
mutual
def uptoBulk {H : Type} : DataW H → Nat
  | .lit (.string bytes) => bytes.length + 1
  | .lit _ => 1
  | .nil => 1
  | .ptr d => uptoBulk d + 1
  | .slice elems spare => uptoBulkAll elems + uptoBulkAll spare + 1
  | .agg parts => uptoBulkAll parts + 1
  | .iface _ d => uptoBulk d + 1
  | .map entries => uptoBulkEntries entries + 1
  | .held _ => 1
def uptoBulkAll {H : Type} : List (DataW H) → Nat
  | [] => 0
  | d :: r => uptoBulk d + uptoBulkAll r
def uptoBulkEntries {H : Type} : List (Lit × DataW H) → Nat
  | [] => 0
  | x :: r => uptoBulkEntry x + uptoBulkEntries r
def uptoBulkEntry {H : Type} : Lit × DataW H → Nat
  | (.string bytes, d) => bytes.length + uptoBulk d + 1
  | (_, d) => uptoBulk d + 1
 end
def uptoSmall : (H : Type) → List (DataW H) → Bool := fun _ ds => decide (uptoBulkAll ds ≤ 1048576)
def OpenSpec.upto (s : _root_.Go.ChangeSpec) : _root_.Go.OpenSpec := { _root_.Go.OpenSpec.ofChange s with cond := some uptoSmall }

/-- 'weirhousekeep.FracRound', WHERE WHAT IT READS IS OF BULK AT MOST 1048576: true; the input reads as it did. -/
def fracRoundUptoRow : OpenClaim := { program := "ytandagipamhmgaa", sum := "cffd61db899fcbb5c050881608dd966ae960137e31dd3f4863b7da50465adc22", func := "weirhouse/weirhousekeep.FracRound", spec := "fracRound", apart := false, narrowed := true }
def FracRoundUptoSaid : Prop := fracRoundUptoRow.holds Try.pinned (OpenSpec.upto fracRoundSpec)

/-- 'weirhousekeep.FracRoot', WHERE WHAT IT READS IS OF BULK AT MOST 1048576: true; the input reads as it did. -/
def fracRootUptoRow : OpenClaim := { program := "ytandagipamhmgaa", sum := "cffd61db899fcbb5c050881608dd966ae960137e31dd3f4863b7da50465adc22", func := "weirhouse/weirhousekeep.FracRoot", spec := "fracRoot", apart := false, narrowed := true }
def FracRootUptoSaid : Prop := fracRootUptoRow.holds Try.pinned (OpenSpec.upto fracRootSpec)

/-- 'weirhousekeep.FracField', WHERE WHAT IT READS IS OF BULK AT MOST 1048576: true; the input reads as it did. -/
def fracFieldUptoRow : OpenClaim := { program := "ytandagipamhmgaa", sum := "cffd61db899fcbb5c050881608dd966ae960137e31dd3f4863b7da50465adc22", func := "weirhouse/weirhousekeep.FracField", spec := "fracField", apart := false, narrowed := true }
def FracFieldUptoSaid : Prop := fracFieldUptoRow.holds Try.pinned (OpenSpec.upto fracFieldSpec)

/-- 'weirhousekeep.FracOrder', WHERE WHAT IT READS IS OF BULK AT MOST 1048576: true; the input reads as it did. -/
def fracOrderUptoRow : OpenClaim := { program := "ytandagipamhmgaa", sum := "cffd61db899fcbb5c050881608dd966ae960137e31dd3f4863b7da50465adc22", func := "weirhouse/weirhousekeep.FracOrder", spec := "fracOrder", apart := false, narrowed := true }
def FracOrderUptoSaid : Prop := fracOrderUptoRow.holds Try.pinned (OpenSpec.upto fracOrderSpec)

end Rows
end Go.Proofs.Ytandagipamhmgaa
