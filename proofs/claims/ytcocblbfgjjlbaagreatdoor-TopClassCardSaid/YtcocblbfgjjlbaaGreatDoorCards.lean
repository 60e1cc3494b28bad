/-
  DERIVED. GIVEN WITH THE SEED: THE CARDS: each row of YtcocblbfgjjlbaaGreatDoorRows.lean that lists a variable, with what it lists TIED to the program's text (the seventh form; the later family's looks); each row that meets fmt, with fmt's text TOLD by the authors' own Lean function (tested against real Go, not proved from fmt's source: count such statements apart). THE CARD IS WHAT COUNTS. Prove the row's statement (the work); the ties are given (YtcocblbfgjjlbaaGreatDoorTie.lean); close each card by the builder's one call (the guide's Derived/Test/ToyasCard.lean, 'card_holds'). Laid BY PROGRAM, IN A SANDBOX (cutbox-door.mjs). By AI agents, Wed Nov 11 2026. No macro, syntax, notation, axiom, sorry.
-/
import Derived.Test.YtcocblbfgjjlbaaGreatDoorRows
import GoSem.ClaimSeven
namespace Go.Proofs.YtcocblbfgjjlbaaGreatDoor
namespace Rows

/-- THE TIED CARD OF 'weirhousetop.TopClass'. -/
def topClassCard : Claim7 := { stood := { row := topClassRow, standIns := [], harness := (true, "22e969f0a37e70e0f062d6f82c9cacdc96a104776d3be6449be1e292440314fc"), looks := true }, kinds := [], alts := [], laidByText := true, laidKinds := [.data, .data, .data, .data, .sentinel, .sentinel, .pinned], laidTests := true, laidLooks := .later }
def TopClassCardSaid : Prop := Claim7.holds Tryz.pinned (.plain (OpenSpec.ofChange topClassSpec)) topClassCard

/-- THE SECOND FORM's CARD OF 'weirhousetop.TopClass'. -/
def topClassUptoCard : Claim7 := { stood := { row := topClassUptoRow, standIns := [], harness := (true, "22e969f0a37e70e0f062d6f82c9cacdc96a104776d3be6449be1e292440314fc"), looks := true }, kinds := [], alts := [], laidByText := true, laidKinds := [.data, .data, .data, .data, .sentinel, .sentinel, .pinned], laidTests := true, laidLooks := .later }
def TopClassUptoCardSaid : Prop := Claim7.holds Tryz.pinned (.plain (OpenSpec.upto topClassSpec)) topClassUptoCard
end Rows
end Go.Proofs.YtcocblbfgjjlbaaGreatDoor
