/- Closed runs of decimalOf, the others. Conditions: none. -/
import Derived.Test.YtilnhkflgfajcaaGreatDoorKa
set_option linter.all false
namespace Go.Proofs.YtilnhkflgfajcaaGreatDoor
open Go.Eng Go.RowKit
set_option maxRecDepth 1000000
theorem run_ent1 : RunOK ent1 := fun e0 e7 t => by kernel_rfl
end Go.Proofs.YtilnhkflgfajcaaGreatDoor

namespace Go.Proofs.YtilnhkflgfajcaaGreatDoor
open Go.Eng Go.RowKit
set_option maxRecDepth 1000000
theorem run_ent2 : RunOK ent2 := fun e0 e7 t => by kernel_rfl
end Go.Proofs.YtilnhkflgfajcaaGreatDoor

namespace Go.Proofs.YtilnhkflgfajcaaGreatDoor
open Go.Eng Go.RowKit
set_option maxRecDepth 1000000
theorem run_ent3 : RunOK ent3 := fun e0 e7 t => by kernel_rfl
end Go.Proofs.YtilnhkflgfajcaaGreatDoor
