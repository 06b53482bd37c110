/-
  DERIVED. GIVEN WITH THE SEED: THE CARDS: each row of YtdfdhobfodljbaaGreatDoorRows.lean that lists a variable, with what it lists TIED to the program's text (the seventh form; the later family's looks); each row that meets fmt, with fmt's text TOLD by the authors' own Lean function (tested against real Go, not proved from fmt's source: count such statements apart). THE CARD IS WHAT COUNTS. Prove the row's statement (the work); the ties are given (YtdfdhobfodljbaaGreatDoorTie.lean); close each card by the builder's one call (the guide's Derived/Test/ToyasCard.lean, 'card_holds'). Laid BY PROGRAM, IN A SANDBOX (cutbox-door.mjs). By AI agents, Wed Nov 11 2026. No macro, syntax, notation, axiom, sorry.
-/
import Derived.Test.YtdfdhobfodljbaaGreatDoorRows
import GoSem.ClaimSeven
namespace Go.Proofs.YtdfdhobfodljbaaGreatDoor
namespace Rows

/-- THE TIED CARD OF 'sorobanlaw31.VerifyUnions'. -/
def verifyUnionsCard : Claim7 := { stood := { row := verifyUnionsRow, standIns := [], harness := (true, "c657e748ced161c4e7e278f9a4a1faea66f270e012ae348c6e158a9117115e5d"), looks := true }, kinds := [], alts := [], laidByText := true, laidKinds := [.mapped, .data, .widerDeep], laidTests := true, laidLooks := .later }
def VerifyUnionsCardSaid : Prop := Claim7.holds Tryz.pinned (.plain (OpenSpec.ofChange verifyUnionsSpec)) verifyUnionsCard

/-- THE SECOND FORM's CARD OF 'sorobanlaw31.VerifyUnions'. -/
def verifyUnionsUptoCard : Claim7 := { stood := { row := verifyUnionsUptoRow, standIns := [], harness := (true, "c657e748ced161c4e7e278f9a4a1faea66f270e012ae348c6e158a9117115e5d"), looks := true }, kinds := [], alts := [], laidByText := true, laidKinds := [.mapped, .data, .widerDeep], laidTests := true, laidLooks := .later }
def VerifyUnionsUptoCardSaid : Prop := Claim7.holds Tryz.pinned (.plain (OpenSpec.upto verifyUnionsSpec)) verifyUnionsUptoCard
end Rows
end Go.Proofs.YtdfdhobfodljbaaGreatDoor
