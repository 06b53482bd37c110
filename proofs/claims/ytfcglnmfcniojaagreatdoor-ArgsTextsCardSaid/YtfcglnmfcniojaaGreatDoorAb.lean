/- The examples of the chapter on arguments, run by the engine. Conditions: none. -/
import Derived.Test.YtfcglnmfcniojaaGreatDoorRows
import Derived.KernelRfl
import Derived.WalkKit
import Derived.Test.YtfcglnmfcniojaaGreatDoorEd
set_option linter.all false
namespace Go.Proofs.YtfcglnmfcniojaaGreatDoor
open Go.Eng Go.RowKit
set_option maxRecDepth 1000000

noncomputable def lenL : List AVal := (flat Tryz.prog 5 107 (Rows.laid_soroban_args_lengths (H := Unit))).getD []
theorem lenL_some : flat Tryz.prog 5 107 (Rows.laid_soroban_args_lengths (H := Unit)) = some lenL := by kernel_rfl

noncomputable def G0 (e0 : TypeId) : AHeap := ⟨Tr.put (path 0) (some (.cells lenL e0 .sh)) .leaf, 10, 10⟩
def okB (n : Nat) (r : ER) : Bool := match r with
  | .ret (.bool true) H' => Nat.ble n H'.low
  | _ => false
theorem okB_ret {n : Nat} {r : ER} (h : okB n r = true) : ∃ H', r = .ret (.bool true) H' ∧ n ≤ H'.low := by
  unfold okB at h
  split at h
  · exact ⟨_, rfl, Nat.le_of_ble_eq_true h⟩
  · cases h
theorem run_ok (e0 : TypeId) : okB 10 (topF Tryz.prog (cfun Tryz.prog 7) [] (G0 e0) (tabF Tryz.prog 200)) = true := by kernel_rfl
theorem run_ret (e0 : TypeId) : ∃ H', topE Tryz.prog (cfun Tryz.prog 7) [] (G0 e0) (tab Tryz.prog 200) = .ret (.bool true) H' ∧ 10 ≤ H'.low := by
  obtain ⟨H', h1, h2⟩ := okB_ret (run_ok e0)
  rw [topF_eq, tabF_eq] at h1
  exact ⟨H', h1, h2⟩
theorem fits : Fit Tryz.prog := fit_of (by decide +kernel)

end Go.Proofs.YtfcglnmfcniojaaGreatDoor
