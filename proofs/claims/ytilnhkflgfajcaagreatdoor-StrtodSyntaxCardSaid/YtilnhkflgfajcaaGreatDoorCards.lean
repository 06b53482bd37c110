/-
  DERIVED. GIVEN WITH THE SEED: THE CARDS: each row of YtilnhkflgfajcaaGreatDoorRows.lean that lists a variable, with what it lists TIED to the program's text (the seventh form; the later family's looks); each row that meets fmt, with fmt's text TOLD by the authors' own Lean function (tested against real Go, not proved from fmt's source: count such statements apart). THE CARD IS WHAT COUNTS. Prove the row's statement (the work); the ties are given (YtilnhkflgfajcaaGreatDoorTie.lean); close each card by the builder's one call (the guide's Derived/Test/ToyasCard.lean, 'card_holds'). Laid BY PROGRAM, IN A SANDBOX (cutbox-door.mjs). By AI agents, Wed Nov 11 2026. No macro, syntax, notation, axiom, sorry.
-/
import Derived.Test.YtilnhkflgfajcaaGreatDoorRows
import GoSem.ClaimSeven
namespace Go.Proofs.YtilnhkflgfajcaaGreatDoor
namespace Rows

/-- THE TIED CARD OF 'sorobanlaw13.StrtodSplits'. -/
def strtodSplitsCard : Claim7 := { stood := { row := strtodSplitsRow, standIns := [], harness := (true, "080802a2e63d2f3975a82c86e34a5f96452d3631ed1958d89eefe6e34ae2f0cf"), looks := true }, kinds := [], alts := [], laidByText := true, laidKinds := [.data, .data, .data, .data, .sentinel, .sentinel, .pinned, .pinned], laidTests := true, laidLooks := .later }
def StrtodSplitsCardSaid : Prop := Claim7.holds Tryz.pinned (.plain (OpenSpec.ofChange strtodSplitsSpec)) strtodSplitsCard

/-- THE TIED CARD OF 'sorobanlaw13.StrtodSyntax'. -/
def strtodSyntaxCard : Claim7 := { stood := { row := strtodSyntaxRow, standIns := [], harness := (true, "080802a2e63d2f3975a82c86e34a5f96452d3631ed1958d89eefe6e34ae2f0cf"), looks := true }, kinds := [], alts := [], laidByText := true, laidKinds := [.data, .data, .data, .data, .sentinel, .sentinel, .pinned, .pinned], laidTests := true, laidLooks := .later }
def StrtodSyntaxCardSaid : Prop := Claim7.holds Tryz.pinned (.plain (OpenSpec.ofChange strtodSyntaxSpec)) strtodSyntaxCard

/-- THE SECOND FORM's CARD OF 'sorobanlaw13.StrtodSplits'. -/
def strtodSplitsUptoCard : Claim7 := { stood := { row := strtodSplitsUptoRow, standIns := [], harness := (true, "080802a2e63d2f3975a82c86e34a5f96452d3631ed1958d89eefe6e34ae2f0cf"), looks := true }, kinds := [], alts := [], laidByText := true, laidKinds := [.data, .data, .data, .data, .sentinel, .sentinel, .pinned, .pinned], laidTests := true, laidLooks := .later }
def StrtodSplitsUptoCardSaid : Prop := Claim7.holds Tryz.pinned (.plain (OpenSpec.upto strtodSplitsSpec)) strtodSplitsUptoCard

/-- THE SECOND FORM's CARD OF 'sorobanlaw13.StrtodSyntax'. -/
def strtodSyntaxUptoCard : Claim7 := { stood := { row := strtodSyntaxUptoRow, standIns := [], harness := (true, "080802a2e63d2f3975a82c86e34a5f96452d3631ed1958d89eefe6e34ae2f0cf"), looks := true }, kinds := [], alts := [], laidByText := true, laidKinds := [.data, .data, .data, .data, .sentinel, .sentinel, .pinned, .pinned], laidTests := true, laidLooks := .later }
def StrtodSyntaxUptoCardSaid : Prop := Claim7.holds Tryz.pinned (.plain (OpenSpec.upto strtodSyntaxSpec)) strtodSyntaxUptoCard
end Rows
end Go.Proofs.YtilnhkflgfajcaaGreatDoor
