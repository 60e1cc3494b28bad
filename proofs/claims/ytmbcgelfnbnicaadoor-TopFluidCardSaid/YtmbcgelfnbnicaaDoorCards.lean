/-
  DERIVED. GIVEN WITH THE SEED: THE CARDS: each row of YtmbcgelfnbnicaaDoorRows.lean that lists a variable, with what it lists TIED to the program's text (the seventh form; the later family's looks); each row that meets fmt, with fmt's text TOLD by the authors' own Lean function (tested against real Go, not proved from fmt's source: count such statements apart). THE CARD IS WHAT COUNTS. Prove the row's statement (the work); the ties are given (YtmbcgelfnbnicaaDoorTie.lean); close each card by the builder's one call (the guide's Derived/Test/ToyasCard.lean, 'card_holds'). Laid BY PROGRAM, IN A SANDBOX (cutbox-door.mjs). By AI agents, Wed Nov 11 2026. No macro, syntax, notation, axiom, sorry.
-/
import Derived.Test.YtmbcgelfnbnicaaDoorRows
import GoSem.ClaimSeven
namespace Go.Proofs.YtmbcgelfnbnicaaDoor
namespace Rows

/-- THE TIED CARD OF 'weirhousetop.TopPaced'. -/
def topPacedCard : Claim7 := { stood := { row := topPacedRow, standIns := [], harness := (true, "8e4384ef73a2228bc6b1c90dba2c85f7c6335901e86095f1f02969e00d5bfabc"), looks := true }, kinds := [], alts := [], laidByText := true, laidKinds := [.data, .data, .data, .data, .sentinel, .sentinel, .pinned], laidTests := true, laidLooks := .later }
def TopPacedCardSaid : Prop := Claim7.holds Tryd.pinned (.plain (OpenSpec.ofChange topPacedSpec)) topPacedCard

/-- THE TIED CARD OF 'weirhousetop.TopLate'. -/
def topLateCard : Claim7 := { stood := { row := topLateRow, standIns := [], harness := (true, "8e4384ef73a2228bc6b1c90dba2c85f7c6335901e86095f1f02969e00d5bfabc"), looks := true }, kinds := [], alts := [], laidByText := true, laidKinds := [.data, .data, .data, .data, .sentinel, .sentinel, .pinned], laidTests := true, laidLooks := .later }
def TopLateCardSaid : Prop := Claim7.holds Tryd.pinned (.plain (OpenSpec.ofChange topLateSpec)) topLateCard

/-- THE TIED CARD OF 'weirhousetop.TopFluid'. -/
def topFluidCard : Claim7 := { stood := { row := topFluidRow, standIns := [], harness := (true, "8e4384ef73a2228bc6b1c90dba2c85f7c6335901e86095f1f02969e00d5bfabc"), looks := true }, kinds := [], alts := [], laidByText := true, laidKinds := [.data, .data, .data, .data, .sentinel, .sentinel, .pinned], laidTests := true, laidLooks := .later }
def TopFluidCardSaid : Prop := Claim7.holds Tryd.pinned (.plain (OpenSpec.ofChange topFluidSpec)) topFluidCard

/-- THE SECOND FORM's CARD OF 'weirhousetop.TopPaced'. -/
def topPacedUptoCard : Claim7 := { stood := { row := topPacedUptoRow, standIns := [], harness := (true, "8e4384ef73a2228bc6b1c90dba2c85f7c6335901e86095f1f02969e00d5bfabc"), looks := true }, kinds := [], alts := [], laidByText := true, laidKinds := [.data, .data, .data, .data, .sentinel, .sentinel, .pinned], laidTests := true, laidLooks := .later }
def TopPacedUptoCardSaid : Prop := Claim7.holds Tryd.pinned (.plain (OpenSpec.upto topPacedSpec)) topPacedUptoCard

/-- THE SECOND FORM's CARD OF 'weirhousetop.TopLate'. -/
def topLateUptoCard : Claim7 := { stood := { row := topLateUptoRow, standIns := [], harness := (true, "8e4384ef73a2228bc6b1c90dba2c85f7c6335901e86095f1f02969e00d5bfabc"), looks := true }, kinds := [], alts := [], laidByText := true, laidKinds := [.data, .data, .data, .data, .sentinel, .sentinel, .pinned], laidTests := true, laidLooks := .later }
def TopLateUptoCardSaid : Prop := Claim7.holds Tryd.pinned (.plain (OpenSpec.upto topLateSpec)) topLateUptoCard

/-- THE SECOND FORM's CARD OF 'weirhousetop.TopFluid'. -/
def topFluidUptoCard : Claim7 := { stood := { row := topFluidUptoRow, standIns := [], harness := (true, "8e4384ef73a2228bc6b1c90dba2c85f7c6335901e86095f1f02969e00d5bfabc"), looks := true }, kinds := [], alts := [], laidByText := true, laidKinds := [.data, .data, .data, .data, .sentinel, .sentinel, .pinned], laidTests := true, laidLooks := .later }
def TopFluidUptoCardSaid : Prop := Claim7.holds Tryd.pinned (.plain (OpenSpec.upto topFluidSpec)) topFluidUptoCard
end Rows
end Go.Proofs.YtmbcgelfnbnicaaDoor
