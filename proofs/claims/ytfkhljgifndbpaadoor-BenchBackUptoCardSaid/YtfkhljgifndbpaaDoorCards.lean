/-
  DERIVED. GIVEN WITH THE SEED: THE CARDS: each row of YtfkhljgifndbpaaDoorRows.lean that lists a variable, with what it lists TIED to the program's text (the seventh form; the later family's looks); each row that meets fmt, with fmt's text TOLD by the authors' own Lean function (tested against real Go, not proved from fmt's source: count such statements apart). THE CARD IS WHAT COUNTS. Prove the row's statement (the work); the ties are given (YtfkhljgifndbpaaDoorTie.lean); close each card by the builder's one call (the guide's Derived/Test/ToyasCard.lean, 'card_holds'). Laid BY PROGRAM, IN A SANDBOX (cutbox-door.mjs). By AI agents, Wed Nov 11 2026. No macro, syntax, notation, axiom, sorry.
-/
import Derived.Test.YtfkhljgifndbpaaDoorRows
import GoSem.ClaimSeven
namespace Go.Proofs.YtfkhljgifndbpaaDoor
namespace Rows

/-- THE TIED CARD OF 'weirhousekeep.BenchMore'. -/
def benchMoreCard : Claim7 := { stood := { row := benchMoreRow, standIns := [], harness := (true, "fd3630130cdc047bcb2b2da1649a6ad9959a0941a9567d12d76b7933c3bb7de4"), looks := true }, kinds := [], alts := [], laidByText := true, laidKinds := [.data, .data, .data, .data, .sentinel, .sentinel, .pinned], laidTests := true, laidLooks := .later }
def BenchMoreCardSaid : Prop := Claim7.holds Tryd.pinned (.plain (OpenSpec.ofChange benchMoreSpec)) benchMoreCard

/-- THE TIED CARD OF 'weirhousekeep.BenchBack'. -/
def benchBackCard : Claim7 := { stood := { row := benchBackRow, standIns := [], harness := (true, "fd3630130cdc047bcb2b2da1649a6ad9959a0941a9567d12d76b7933c3bb7de4"), looks := true }, kinds := [], alts := [], laidByText := true, laidKinds := [.data, .data, .data, .data, .sentinel, .sentinel, .pinned], laidTests := true, laidLooks := .later }
def BenchBackCardSaid : Prop := Claim7.holds Tryd.pinned (.plain (OpenSpec.ofChange benchBackSpec)) benchBackCard

/-- THE SECOND FORM's CARD OF 'weirhousekeep.BenchMore'. -/
def benchMoreUptoCard : Claim7 := { stood := { row := benchMoreUptoRow, standIns := [], harness := (true, "fd3630130cdc047bcb2b2da1649a6ad9959a0941a9567d12d76b7933c3bb7de4"), looks := true }, kinds := [], alts := [], laidByText := true, laidKinds := [.data, .data, .data, .data, .sentinel, .sentinel, .pinned], laidTests := true, laidLooks := .later }
def BenchMoreUptoCardSaid : Prop := Claim7.holds Tryd.pinned (.plain (OpenSpec.upto benchMoreSpec)) benchMoreUptoCard

/-- THE SECOND FORM's CARD OF 'weirhousekeep.BenchBack'. -/
def benchBackUptoCard : Claim7 := { stood := { row := benchBackUptoRow, standIns := [], harness := (true, "fd3630130cdc047bcb2b2da1649a6ad9959a0941a9567d12d76b7933c3bb7de4"), looks := true }, kinds := [], alts := [], laidByText := true, laidKinds := [.data, .data, .data, .data, .sentinel, .sentinel, .pinned], laidTests := true, laidLooks := .later }
def BenchBackUptoCardSaid : Prop := Claim7.holds Tryd.pinned (.plain (OpenSpec.upto benchBackSpec)) benchBackUptoCard
end Rows
end Go.Proofs.YtfkhljgifndbpaaDoor
