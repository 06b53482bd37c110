/-
  DERIVED. GIVEN WITH THE SEED: THE PROGRAM's TIES (one call each: nine closed facts by the kernel) AND EACH ROW's TIE, after the 31st guide's Derived/Test/Toyas{Tie, Card}.lean. No idea stands in it: it is a product of the set-up. Laid BY PROGRAM, IN A SANDBOX (cutbox-door.mjs). By AI agents, Wed Nov 11 2026. No macro, syntax, notation, axiom, sorry.
-/
import Derived.Test.YtdfdhobfodljbaaGreatDoorRows
import Derived.LaidByTextLater
import Derived.SevenTiedAt
import Derived.LaidSub
import Derived.LaidOnce
namespace Go.Proofs.YtdfdhobfodljbaaGreatDoor
open Go
set_option maxRecDepth 100000
theorem seatTie1 : Tryz.prog.laidByTextLater [("soroban/scanspec.rows", Rows.laid_soroban_scanspec_rows), ("soroban/args.lengths", Rows.laid_soroban_args_lengths), ("soroban/bytes.operations", Rows.laid_soroban_bytes_operations)] [.mapped, .data, .widerDeep] true :=
  Program.laidByTextLater_by_one 151 8 55 (by kernel_rfl) (by kernel_rfl) (by kernel_rfl) (by kernel_rfl) (by kernel_rfl) (by kernel_rfl) (fun _ _ => by kernel_rfl)
theorem noOwnUnsafe : Tryz.pinned.checked.prog.headLifts.contains "ownunsafe" = false := by kernel_rfl
theorem tie : Tryz.prog.laidByTextLater [("soroban/scanspec.rows", Rows.laid_soroban_scanspec_rows), ("soroban/args.lengths", Rows.laid_soroban_args_lengths), ("soroban/bytes.operations", Rows.laid_soroban_bytes_operations)] [.mapped, .data, .widerDeep] true :=
  Program.laidByTextLater.sub seatTie1 ["soroban/scanspec.rows", "soroban/args.lengths", "soroban/bytes.operations"] (by kernel_rfl) (by kernel_rfl)
theorem verifyUnions_row_tie : Rows.verifyUnionsRow.laidByTextAt .later Tryz.pinned [.mapped, .data, .widerDeep] true :=
  OpenClaim.laidByTextAt_later rfl rfl tie noOwnUnsafe
theorem verifyUnionsUpto_row_tie : Rows.verifyUnionsUptoRow.laidByTextAt .later Tryz.pinned [.mapped, .data, .widerDeep] true :=
  OpenClaim.laidByTextAt_later rfl rfl tie noOwnUnsafe
end Go.Proofs.YtdfdhobfodljbaaGreatDoor
