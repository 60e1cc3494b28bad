/-
  No cell of these rows narrows 'for every input' (looked for: loops, veiled, ifaces, maps, wideKeys, modest, calm, conditions, laid).
  DERIVED. THE GIVEN ROWS OF THIS SEAT. 3 by the template 'for every input the law returns true; each argument reads behind the call as it read before'; 0 by the template 'total and deterministic' (their statements: YtmfcccgfifaojaaTotals.lean).
  GIVEN WITH THE SEED: the statements are not yours to turn. If you find one false, say at which input.
  Laid BY PROGRAM, IN A SANDBOX (cutbox-rows.mjs): the forced cells as the released guide's own fill.sh prints them over the translation 0356793fdc387995… (all of the seat's roots in one cut). By AI agents, Wed Nov 11 2026. No macro, syntax, notation, axiom, sorry.
-/
import Derived.Test.YtmfcccgfifaojaaChecked
import GoSem.Claim
import GoSem.ClaimJoined
import GoSem.ClaimMapViews
import Derived.JoinedTies
import Derived.KernelRfl
namespace Go.Proofs.Ytmfcccgfifaojaa
/- THE CELL 'sum', in the pinned program and in every row, IS THE sha256 OF THE DUMP (.gsa) THAT YtmfcccgfifaojaaProg.lean LOADS. Nothing in Lean hashes anything: it is a label: what it is worth is what the hold of that sum in a sandbox is worth. -/
noncomputable def Try.pinned : Pinned := { name := "ytmfcccgfifaojaa", sum := "0356793fdc387995fe531331148ada92d6ea2ccab04cdf9c4faf78927faf9529", checked := Try.checked }
namespace Rows
def none {H : Type} : Left H := { results := [], args := [] }

/-- 'weirhousekeep.SumsCheck': WHATEVER THE INPUT: true; the input reads as it did. -/
def sumsCheckSpec : ChangeSpec := { name := "sumsCheck", fn := fun _ => fun
  | [d1, d2, d3] => { results := [.lit (.bool true)], args := [d1, d2, d3] }
  | _ => none }
def sumsCheckRow : OpenClaim := { program := "ytmfcccgfifaojaa", sum := "0356793fdc387995fe531331148ada92d6ea2ccab04cdf9c4faf78927faf9529", func := "weirhouse/weirhousekeep.SumsCheck", spec := "sumsCheck", apart := false }
def SumsCheckSaid : Prop := sumsCheckRow.holds Try.pinned (OpenSpec.ofChange sumsCheckSpec)

/-- ITS FALSE NEIGHBOUR: 'it returns false'. Refute it at one input. -/
def sumsCheckWrong : ChangeSpec := { name := "sumsCheck", fn := fun _ => fun
  | [d1, d2, d3] => { results := [.lit (.bool false)], args := [d1, d2, d3] }
  | _ => none }
def SumsCheckWrongFalsely : Prop := sumsCheckRow.holds Try.pinned (OpenSpec.ofChange sumsCheckWrong)

/-- 'weirhousekeep.SumsTurn': WHATEVER THE INPUT: true; the input reads as it did. -/
def sumsTurnSpec : ChangeSpec := { name := "sumsTurn", fn := fun _ => fun
  | [d1, d2, d3] => { results := [.lit (.bool true)], args := [d1, d2, d3] }
  | _ => none }
def sumsTurnRow : OpenClaim := { program := "ytmfcccgfifaojaa", sum := "0356793fdc387995fe531331148ada92d6ea2ccab04cdf9c4faf78927faf9529", func := "weirhouse/weirhousekeep.SumsTurn", spec := "sumsTurn", apart := false }
def SumsTurnSaid : Prop := sumsTurnRow.holds Try.pinned (OpenSpec.ofChange sumsTurnSpec)

/-- ITS FALSE NEIGHBOUR: 'it returns false'. Refute it at one input. -/
def sumsTurnWrong : ChangeSpec := { name := "sumsTurn", fn := fun _ => fun
  | [d1, d2, d3] => { results := [.lit (.bool false)], args := [d1, d2, d3] }
  | _ => none }
def SumsTurnWrongFalsely : Prop := sumsTurnRow.holds Try.pinned (OpenSpec.ofChange sumsTurnWrong)

/-- 'weirhousekeep.SumsGroup': WHATEVER THE INPUT: true; the input reads as it did. -/
def sumsGroupSpec : ChangeSpec := { name := "sumsGroup", fn := fun _ => fun
  | [d1, d2, d3, d4, d5] => { results := [.lit (.bool true)], args := [d1, d2, d3, d4, d5] }
  | _ => none }
def sumsGroupRow : OpenClaim := { program := "ytmfcccgfifaojaa", sum := "0356793fdc387995fe531331148ada92d6ea2ccab04cdf9c4faf78927faf9529", func := "weirhouse/weirhousekeep.SumsGroup", spec := "sumsGroup", apart := false }
def SumsGroupSaid : Prop := sumsGroupRow.holds Try.pinned (OpenSpec.ofChange sumsGroupSpec)

/-- ITS FALSE NEIGHBOUR: 'it returns false'. Refute it at one input. -/
def sumsGroupWrong : ChangeSpec := { name := "sumsGroup", fn := fun _ => fun
  | [d1, d2, d3, d4, d5] => { results := [.lit (.bool false)], args := [d1, d2, d3, d4, d5] }
  | _ => none }
def SumsGroupWrongFalsely : Prop := sumsGroupRow.holds Try.pinned (OpenSpec.ofChange sumsGroupWrong)

/- THE SECOND FORM. 'bulk': how many values and letters a reading holds, each counted each time it is reached (what is shared counts as often as it is met; a slice's spare places count too). A statement '..UptoSaid' is the law's where the arguments, and the package variables that the reading takes, are together of bulk at most 1048576: NARROWER than '..Said'. Prove '..Said' where nothing that the law and all that it calls make is longer than what came in: it says more and counts as full. Else prove '..UptoSaid'. A law counts once. -/
mutual
def uptoBulk {H : Type} : DataW H → Nat
  | .lit (.string bytes) => bytes.length + 1
  | .lit _ => 1
  | .nil => 1
  | .ptr d => uptoBulk d + 1
  | .slice elems spare => uptoBulkAll elems + uptoBulkAll spare + 1
  | .agg parts => uptoBulkAll parts + 1
  | .iface _ d => uptoBulk d + 1
  | .map entries => uptoBulkEntries entries + 1
  | .held _ => 1
def uptoBulkAll {H : Type} : List (DataW H) → Nat
  | [] => 0
  | d :: r => uptoBulk d + uptoBulkAll r
def uptoBulkEntries {H : Type} : List (Lit × DataW H) → Nat
  | [] => 0
  | x :: r => uptoBulkEntry x + uptoBulkEntries r
def uptoBulkEntry {H : Type} : Lit × DataW H → Nat
  | (.string bytes, d) => bytes.length + uptoBulk d + 1
  | (_, d) => uptoBulk d + 1
 end
def uptoSmall : (H : Type) → List (DataW H) → Bool := fun _ ds => decide (uptoBulkAll ds ≤ 1048576)
def OpenSpec.upto (s : _root_.Go.ChangeSpec) : _root_.Go.OpenSpec := { _root_.Go.OpenSpec.ofChange s with cond := some uptoSmall }

/-- 'weirhousekeep.SumsCheck', WHERE WHAT IT READS IS OF BULK AT MOST 1048576: true; the input reads as it did. -/
def sumsCheckUptoRow : OpenClaim := { program := "ytmfcccgfifaojaa", sum := "0356793fdc387995fe531331148ada92d6ea2ccab04cdf9c4faf78927faf9529", func := "weirhouse/weirhousekeep.SumsCheck", spec := "sumsCheck", apart := false, narrowed := true }
def SumsCheckUptoSaid : Prop := sumsCheckUptoRow.holds Try.pinned (OpenSpec.upto sumsCheckSpec)

/-- 'weirhousekeep.SumsTurn', WHERE WHAT IT READS IS OF BULK AT MOST 1048576: true; the input reads as it did. -/
def sumsTurnUptoRow : OpenClaim := { program := "ytmfcccgfifaojaa", sum := "0356793fdc387995fe531331148ada92d6ea2ccab04cdf9c4faf78927faf9529", func := "weirhouse/weirhousekeep.SumsTurn", spec := "sumsTurn", apart := false, narrowed := true }
def SumsTurnUptoSaid : Prop := sumsTurnUptoRow.holds Try.pinned (OpenSpec.upto sumsTurnSpec)

/-- 'weirhousekeep.SumsGroup', WHERE WHAT IT READS IS OF BULK AT MOST 1048576: true; the input reads as it did. -/
def sumsGroupUptoRow : OpenClaim := { program := "ytmfcccgfifaojaa", sum := "0356793fdc387995fe531331148ada92d6ea2ccab04cdf9c4faf78927faf9529", func := "weirhouse/weirhousekeep.SumsGroup", spec := "sumsGroup", apart := false, narrowed := true }
def SumsGroupUptoSaid : Prop := sumsGroupUptoRow.holds Try.pinned (OpenSpec.upto sumsGroupSpec)

end Rows
end Go.Proofs.Ytmfcccgfifaojaa
