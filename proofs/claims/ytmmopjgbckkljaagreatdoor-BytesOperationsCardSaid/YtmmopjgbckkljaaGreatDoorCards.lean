/-
  DERIVED. GIVEN WITH THE SEED: THE CARDS: each row of YtmmopjgbckkljaaGreatDoorRows.lean that lists a variable, with what it lists TIED to the program's text (the seventh form; the later family's looks); each row that meets fmt, with fmt's text TOLD by the authors' own Lean function (tested against real Go, not proved from fmt's source: count such statements apart). THE CARD IS WHAT COUNTS. Prove the row's statement (the work); the ties are given (YtmmopjgbckkljaaGreatDoorTie.lean); close each card by the builder's one call (the guide's Derived/Test/ToyasCard.lean, 'card_holds'). Laid BY PROGRAM, IN A SANDBOX (cutbox-door.mjs). By AI agents, Wed Nov 11 2026. No macro, syntax, notation, axiom, sorry.
-/
import Derived.Test.YtmmopjgbckkljaaGreatDoorRows
import GoSem.ClaimSeven
namespace Go.Proofs.YtmmopjgbckkljaaGreatDoor
namespace Rows

/-- THE TIED CARD OF 'sorobanlaw29.BytesOperations'. -/
def bytesOperationsCard : Claim7 := { stood := { row := bytesOperationsRow, standIns := [], harness := (true, "3127d9fecd60c33b0dbd14d8231dc632320b880330bfb777a46b35187cac56b3"), looks := true }, kinds := [], alts := [], laidByText := true, laidKinds := [.data, .data, .data, .data, .sentinel, .sentinel, .mapped, .data, .widerDeep, .pinned], laidTests := true, laidLooks := .later }
def BytesOperationsCardSaid : Prop := Claim7.holds Tryz.pinned (.plain (OpenSpec.ofChange bytesOperationsSpec)) bytesOperationsCard

/-- THE TIED CARD OF 'sorobanlaw29.BytesPuts'. -/
def bytesPutsCard : Claim7 := { stood := { row := bytesPutsRow, standIns := [], harness := (true, "3127d9fecd60c33b0dbd14d8231dc632320b880330bfb777a46b35187cac56b3"), looks := true }, kinds := [], alts := [], laidByText := true, laidKinds := [.data, .data, .data, .data, .sentinel, .sentinel, .mapped, .data, .widerDeep, .pinned], laidTests := true, laidLooks := .later }
def BytesPutsCardSaid : Prop := Claim7.holds Tryz.pinned (.plain (OpenSpec.ofChange bytesPutsSpec)) bytesPutsCard

/-- THE SECOND FORM's CARD OF 'sorobanlaw29.BytesOperations'. -/
def bytesOperationsUptoCard : Claim7 := { stood := { row := bytesOperationsUptoRow, standIns := [], harness := (true, "3127d9fecd60c33b0dbd14d8231dc632320b880330bfb777a46b35187cac56b3"), looks := true }, kinds := [], alts := [], laidByText := true, laidKinds := [.data, .data, .data, .data, .sentinel, .sentinel, .mapped, .data, .widerDeep, .pinned], laidTests := true, laidLooks := .later }
def BytesOperationsUptoCardSaid : Prop := Claim7.holds Tryz.pinned (.plain (OpenSpec.upto bytesOperationsSpec)) bytesOperationsUptoCard

/-- THE SECOND FORM's CARD OF 'sorobanlaw29.BytesPuts'. -/
def bytesPutsUptoCard : Claim7 := { stood := { row := bytesPutsUptoRow, standIns := [], harness := (true, "3127d9fecd60c33b0dbd14d8231dc632320b880330bfb777a46b35187cac56b3"), looks := true }, kinds := [], alts := [], laidByText := true, laidKinds := [.data, .data, .data, .data, .sentinel, .sentinel, .mapped, .data, .widerDeep, .pinned], laidTests := true, laidLooks := .later }
def BytesPutsUptoCardSaid : Prop := Claim7.holds Tryz.pinned (.plain (OpenSpec.upto bytesPutsSpec)) bytesPutsUptoCard
end Rows
end Go.Proofs.YtmmopjgbckkljaaGreatDoor
