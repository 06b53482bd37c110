/- A closed run of decimalOf, the first. Conditions: none. -/
import Derived.Test.YtilnhkflgfajcaaGreatDoorKa
set_option linter.all false
namespace Go.Proofs.YtilnhkflgfajcaaGreatDoor
open Go.Eng Go.RowKit
set_option maxRecDepth 1000000
theorem run_ent0 : RunOK ent0 := fun e0 e7 t => by kernel_rfl
end Go.Proofs.YtilnhkflgfajcaaGreatDoor
