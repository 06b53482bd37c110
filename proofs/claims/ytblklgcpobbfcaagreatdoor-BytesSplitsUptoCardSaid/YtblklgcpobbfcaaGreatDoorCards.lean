/-
  DERIVED. GIVEN WITH THE SEED: THE CARDS: each row of YtblklgcpobbfcaaGreatDoorRows.lean that lists a variable, with what it lists TIED to the program's text (the seventh form; the later family's looks); each row that meets fmt, with fmt's text TOLD by the authors' own Lean function (tested against real Go, not proved from fmt's source: count such statements apart). THE CARD IS WHAT COUNTS. Prove the row's statement (the work); the ties are given (YtblklgcpobbfcaaGreatDoorTie.lean); close each card by the builder's one call (the guide's Derived/Test/ToyasCard.lean, 'card_holds'). Laid BY PROGRAM, IN A SANDBOX (cutbox-door.mjs). By AI agents, Wed Nov 11 2026. No macro, syntax, notation, axiom, sorry.
-/
import Derived.Test.YtblklgcpobbfcaaGreatDoorRows
import GoSem.ClaimSeven
namespace Go.Proofs.YtblklgcpobbfcaaGreatDoor
namespace Rows

/-- THE TIED CARD OF 'sorobanlaw29.BytesOperations'. -/
def bytesOperationsCard : Claim7 := { stood := { row := bytesOperationsRow, standIns := [], harness := (true, "85878616480a870c7b7320caf626279a9d689e1a497557d5e03715d10cf4f21b"), looks := true }, kinds := [], alts := [], laidByText := true, laidKinds := [.data, .data, .data, .data, .sentinel, .sentinel, .mapped, .data, .widerDeep, .pinned], laidTests := true, laidLooks := .later }
def BytesOperationsCardSaid : Prop := Claim7.holds Tryz.pinned (.plain (OpenSpec.ofChange bytesOperationsSpec)) bytesOperationsCard

/-- THE TIED CARD OF 'sorobanlaw29.BytesPuts'. -/
def bytesPutsCard : Claim7 := { stood := { row := bytesPutsRow, standIns := [], harness := (true, "85878616480a870c7b7320caf626279a9d689e1a497557d5e03715d10cf4f21b"), looks := true }, kinds := [], alts := [], laidByText := true, laidKinds := [.data, .data, .data, .data, .sentinel, .sentinel, .mapped, .data, .widerDeep, .pinned], laidTests := true, laidLooks := .later }
def BytesPutsCardSaid : Prop := Claim7.holds Tryz.pinned (.plain (OpenSpec.ofChange bytesPutsSpec)) bytesPutsCard

/-- THE TIED CARD OF 'sorobanlaw29.BytesSplits'. -/
def bytesSplitsCard : Claim7 := { stood := { row := bytesSplitsRow, standIns := [], harness := (true, "85878616480a870c7b7320caf626279a9d689e1a497557d5e03715d10cf4f21b"), looks := true }, kinds := [], alts := [], laidByText := true, laidKinds := [.data, .data, .data, .data, .sentinel, .sentinel, .mapped, .data, .widerDeep, .pinned], laidTests := true, laidLooks := .later }
def BytesSplitsCardSaid : Prop := Claim7.holds Tryz.pinned (.plain (OpenSpec.ofChange bytesSplitsSpec)) bytesSplitsCard

/-- THE TIED CARD OF 'sorobanlaw29.BytesOffsets'. -/
def bytesOffsetsCard : Claim7 := { stood := { row := bytesOffsetsRow, standIns := [], harness := (true, "85878616480a870c7b7320caf626279a9d689e1a497557d5e03715d10cf4f21b"), looks := true }, kinds := [], alts := [], laidByText := true, laidKinds := [.data, .data, .data, .data, .sentinel, .sentinel, .mapped, .data, .widerDeep, .pinned], laidTests := true, laidLooks := .later }
def BytesOffsetsCardSaid : Prop := Claim7.holds Tryz.pinned (.plain (OpenSpec.ofChange bytesOffsetsSpec)) bytesOffsetsCard

/-- THE SECOND FORM's CARD OF 'sorobanlaw29.BytesOperations'. -/
def bytesOperationsUptoCard : Claim7 := { stood := { row := bytesOperationsUptoRow, standIns := [], harness := (true, "85878616480a870c7b7320caf626279a9d689e1a497557d5e03715d10cf4f21b"), looks := true }, kinds := [], alts := [], laidByText := true, laidKinds := [.data, .data, .data, .data, .sentinel, .sentinel, .mapped, .data, .widerDeep, .pinned], laidTests := true, laidLooks := .later }
def BytesOperationsUptoCardSaid : Prop := Claim7.holds Tryz.pinned (.plain (OpenSpec.upto bytesOperationsSpec)) bytesOperationsUptoCard

/-- THE SECOND FORM's CARD OF 'sorobanlaw29.BytesPuts'. -/
def bytesPutsUptoCard : Claim7 := { stood := { row := bytesPutsUptoRow, standIns := [], harness := (true, "85878616480a870c7b7320caf626279a9d689e1a497557d5e03715d10cf4f21b"), looks := true }, kinds := [], alts := [], laidByText := true, laidKinds := [.data, .data, .data, .data, .sentinel, .sentinel, .mapped, .data, .widerDeep, .pinned], laidTests := true, laidLooks := .later }
def BytesPutsUptoCardSaid : Prop := Claim7.holds Tryz.pinned (.plain (OpenSpec.upto bytesPutsSpec)) bytesPutsUptoCard

/-- THE SECOND FORM's CARD OF 'sorobanlaw29.BytesSplits'. -/
def bytesSplitsUptoCard : Claim7 := { stood := { row := bytesSplitsUptoRow, standIns := [], harness := (true, "85878616480a870c7b7320caf626279a9d689e1a497557d5e03715d10cf4f21b"), looks := true }, kinds := [], alts := [], laidByText := true, laidKinds := [.data, .data, .data, .data, .sentinel, .sentinel, .mapped, .data, .widerDeep, .pinned], laidTests := true, laidLooks := .later }
def BytesSplitsUptoCardSaid : Prop := Claim7.holds Tryz.pinned (.plain (OpenSpec.upto bytesSplitsSpec)) bytesSplitsUptoCard

/-- THE SECOND FORM's CARD OF 'sorobanlaw29.BytesOffsets'. -/
def bytesOffsetsUptoCard : Claim7 := { stood := { row := bytesOffsetsUptoRow, standIns := [], harness := (true, "85878616480a870c7b7320caf626279a9d689e1a497557d5e03715d10cf4f21b"), looks := true }, kinds := [], alts := [], laidByText := true, laidKinds := [.data, .data, .data, .data, .sentinel, .sentinel, .mapped, .data, .widerDeep, .pinned], laidTests := true, laidLooks := .later }
def BytesOffsetsUptoCardSaid : Prop := Claim7.holds Tryz.pinned (.plain (OpenSpec.upto bytesOffsetsSpec)) bytesOffsetsUptoCard
end Rows
end Go.Proofs.YtblklgcpobbfcaaGreatDoor
