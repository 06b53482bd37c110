/- The chapter's examples, run by the engine. Conditions: none. -/
import Derived.Test.YtblklgcpobbfcaaGreatDoorRows
import Derived.KernelRfl
import Derived.WalkKit
import Derived.Test.YtblklgcpobbfcaaGreatDoorEd
set_option linter.all false
namespace Go.Proofs.YtblklgcpobbfcaaGreatDoor
open Go.Eng Go.RowKit
set_option maxRecDepth 1000000

noncomputable def opsL : List AVal := (flat Tryz.prog 5 68 (Rows.laid_soroban_bytes_operations (H := Unit))).getD []
theorem opsL_some : flat Tryz.prog 5 68 (Rows.laid_soroban_bytes_operations (H := Unit)) = some opsL := by kernel_rfl

noncomputable def G0 (e0 : TypeId) : AHeap := ⟨Tr.put (path 0) (some (.cells opsL e0 .sh)) .leaf, 11, 11⟩
def okB (n : Nat) (r : ER) : Bool := match r with
  | .ret (.bool true) H' => Nat.ble n H'.low
  | _ => false
theorem okB_ret {n : Nat} {r : ER} (h : okB n r = true) : ∃ H', r = .ret (.bool true) H' ∧ n ≤ H'.low := by
  unfold okB at h
  split at h
  · exact ⟨_, rfl, Nat.le_of_ble_eq_true h⟩
  · cases h
theorem run_ok (e0 : TypeId) : okB 11 (topF Tryz.prog (cfun Tryz.prog 13) [] (G0 e0) (tabF Tryz.prog 200)) = true := by kernel_rfl
theorem run_ret (e0 : TypeId) : ∃ H', topE Tryz.prog (cfun Tryz.prog 13) [] (G0 e0) (tab Tryz.prog 200) = .ret (.bool true) H' ∧ 11 ≤ H'.low := by
  obtain ⟨H', h1, h2⟩ := okB_ret (run_ok e0)
  rw [topF_eq, tabF_eq] at h1
  exact ⟨H', h1, h2⟩
theorem fits : Fit Tryz.prog := fit_of (by decide +kernel)

end Go.Proofs.YtblklgcpobbfcaaGreatDoor
