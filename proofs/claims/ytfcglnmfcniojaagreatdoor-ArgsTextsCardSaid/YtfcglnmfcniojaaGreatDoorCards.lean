/-
  DERIVED. GIVEN WITH THE SEED: THE CARDS: each row of YtfcglnmfcniojaaGreatDoorRows.lean that lists a variable, with what it lists TIED to the program's text (the seventh form; the later family's looks); each row that meets fmt, with fmt's text TOLD by the authors' own Lean function (tested against real Go, not proved from fmt's source: count such statements apart). THE CARD IS WHAT COUNTS. Prove the row's statement (the work); the ties are given (YtfcglnmfcniojaaGreatDoorTie.lean); close each card by the builder's one call (the guide's Derived/Test/ToyasCard.lean, 'card_holds'). Laid BY PROGRAM, IN A SANDBOX (cutbox-door.mjs). By AI agents, Wed Nov 11 2026. No macro, syntax, notation, axiom, sorry.
-/
import Derived.Test.YtfcglnmfcniojaaGreatDoorRows
import GoSem.ClaimSeven
namespace Go.Proofs.YtfcglnmfcniojaaGreatDoor
namespace Rows

/-- THE TIED CARD OF 'sorobanlaw22.ArgsParts'. -/
def argsPartsCard : Claim7 := { stood := { row := argsPartsRow, standIns := [], harness := (true, "c40cb8f8455ab7eae3c1ae247fb7352a700122f99db33f0ebb60b1df50f48a33"), looks := true }, kinds := [], alts := [], laidByText := true, laidKinds := [.data, .data, .data, .data, .data], laidTests := true, laidLooks := .later }
def ArgsPartsCardSaid : Prop := Claim7.holds Tryz.pinned (.plain (OpenSpec.ofChange argsPartsSpec)) argsPartsCard

/-- THE TIED CARD OF 'sorobanlaw22.ArgsNeeds'. -/
def argsNeedsCard : Claim7 := { stood := { row := argsNeedsRow, standIns := [], harness := (true, "c40cb8f8455ab7eae3c1ae247fb7352a700122f99db33f0ebb60b1df50f48a33"), looks := true }, kinds := [], alts := [], laidByText := true, laidKinds := [.data, .data, .data, .data, .data], laidTests := true, laidLooks := .later }
def ArgsNeedsCardSaid : Prop := Claim7.holds Tryz.pinned (.plain (OpenSpec.ofChange argsNeedsSpec)) argsNeedsCard

/-- THE TIED CARD OF 'sorobanlaw22.ArgsTexts'. -/
def argsTextsCard : Claim7 := { stood := { row := argsTextsRow, standIns := [], harness := (true, "c40cb8f8455ab7eae3c1ae247fb7352a700122f99db33f0ebb60b1df50f48a33"), looks := true }, kinds := [], alts := [], laidByText := true, laidKinds := [.data, .data, .data, .data, .sentinel, .sentinel, .data, .data, .pinned], laidTests := true, laidLooks := .later }
def ArgsTextsCardSaid : Prop := Claim7.holds Tryz.pinned (.plain (OpenSpec.ofChange argsTextsSpec)) argsTextsCard

/-- THE TIED CARD OF 'sorobanlaw22.ArgsBack'. -/
def argsBackCard : Claim7 := { stood := { row := argsBackRow, standIns := [], harness := (true, "c40cb8f8455ab7eae3c1ae247fb7352a700122f99db33f0ebb60b1df50f48a33"), looks := true }, kinds := [], alts := [], laidByText := true, laidKinds := [.data, .data, .data, .data, .sentinel, .sentinel, .data, .data, .pinned], laidTests := true, laidLooks := .later }
def ArgsBackCardSaid : Prop := Claim7.holds Tryz.pinned (.plain (OpenSpec.ofChange argsBackSpec)) argsBackCard

/-- THE SECOND FORM's CARD OF 'sorobanlaw22.ArgsParts'. -/
def argsPartsUptoCard : Claim7 := { stood := { row := argsPartsUptoRow, standIns := [], harness := (true, "c40cb8f8455ab7eae3c1ae247fb7352a700122f99db33f0ebb60b1df50f48a33"), looks := true }, kinds := [], alts := [], laidByText := true, laidKinds := [.data, .data, .data, .data, .data], laidTests := true, laidLooks := .later }
def ArgsPartsUptoCardSaid : Prop := Claim7.holds Tryz.pinned (.plain (OpenSpec.upto argsPartsSpec)) argsPartsUptoCard

/-- THE SECOND FORM's CARD OF 'sorobanlaw22.ArgsNeeds'. -/
def argsNeedsUptoCard : Claim7 := { stood := { row := argsNeedsUptoRow, standIns := [], harness := (true, "c40cb8f8455ab7eae3c1ae247fb7352a700122f99db33f0ebb60b1df50f48a33"), looks := true }, kinds := [], alts := [], laidByText := true, laidKinds := [.data, .data, .data, .data, .data], laidTests := true, laidLooks := .later }
def ArgsNeedsUptoCardSaid : Prop := Claim7.holds Tryz.pinned (.plain (OpenSpec.upto argsNeedsSpec)) argsNeedsUptoCard

/-- THE SECOND FORM's CARD OF 'sorobanlaw22.ArgsTexts'. -/
def argsTextsUptoCard : Claim7 := { stood := { row := argsTextsUptoRow, standIns := [], harness := (true, "c40cb8f8455ab7eae3c1ae247fb7352a700122f99db33f0ebb60b1df50f48a33"), looks := true }, kinds := [], alts := [], laidByText := true, laidKinds := [.data, .data, .data, .data, .sentinel, .sentinel, .data, .data, .pinned], laidTests := true, laidLooks := .later }
def ArgsTextsUptoCardSaid : Prop := Claim7.holds Tryz.pinned (.plain (OpenSpec.upto argsTextsSpec)) argsTextsUptoCard

/-- THE SECOND FORM's CARD OF 'sorobanlaw22.ArgsBack'. -/
def argsBackUptoCard : Claim7 := { stood := { row := argsBackUptoRow, standIns := [], harness := (true, "c40cb8f8455ab7eae3c1ae247fb7352a700122f99db33f0ebb60b1df50f48a33"), looks := true }, kinds := [], alts := [], laidByText := true, laidKinds := [.data, .data, .data, .data, .sentinel, .sentinel, .data, .data, .pinned], laidTests := true, laidLooks := .later }
def ArgsBackUptoCardSaid : Prop := Claim7.holds Tryz.pinned (.plain (OpenSpec.upto argsBackSpec)) argsBackUptoCard
end Rows
end Go.Proofs.YtfcglnmfcniojaaGreatDoor
