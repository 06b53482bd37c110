/- The chapter's examples, run by the engine. Conditions: none. -/
import Derived.Test.YtdfdhobfodljbaaGreatDoorRows
import Derived.KernelRfl
import Derived.WalkKit
import Derived.Test.YtdfdhobfodljbaaGreatDoorEd
set_option linter.all false
namespace Go.Proofs.YtdfdhobfodljbaaGreatDoor
open Go.Eng Go.RowKit
set_option maxRecDepth 1000000

noncomputable def opsL : List AVal := (flat Tryz.prog 5 127 (Rows.laid_soroban_bytes_operations (H := Unit))).getD []
noncomputable def lensL : List AVal := (flat Tryz.prog 5 314 (Rows.laid_soroban_args_lengths (H := Unit))).getD []
theorem opsL_some : flat Tryz.prog 5 127 (Rows.laid_soroban_bytes_operations (H := Unit)) = some opsL := by kernel_rfl
theorem lensL_some : flat Tryz.prog 5 314 (Rows.laid_soroban_args_lengths (H := Unit)) = some lensL := by kernel_rfl

noncomputable def G0 (e0 e3 : TypeId) : AHeap := ⟨Tr.put (path 3) (some (.cells lensL e3 .sh)) (Tr.put (path 0) (some (.cells opsL e0 .sh)) .leaf), 4, 4⟩
def okB (n : Nat) (r : ER) : Bool := match r with
  | .ret (.bool true) H' => Nat.ble n H'.low
  | _ => false
theorem okB_ret {n : Nat} {r : ER} (h : okB n r = true) : ∃ H', r = .ret (.bool true) H' ∧ n ≤ H'.low := by
  unfold okB at h
  split at h
  · exact ⟨_, rfl, Nat.le_of_ble_eq_true h⟩
  · cases h
theorem run_ok (e0 e3 : TypeId) : okB 4 (topF Tryz.prog (cfun Tryz.prog 4) [] (G0 e0 e3) (tabF Tryz.prog 200)) = true := by kernel_rfl
theorem run_ret (e0 e3 : TypeId) : ∃ H', topE Tryz.prog (cfun Tryz.prog 4) [] (G0 e0 e3) (tab Tryz.prog 200) = .ret (.bool true) H' ∧ 4 ≤ H'.low := by
  obtain ⟨H', h1, h2⟩ := okB_ret (run_ok e0 e3)
  rw [topF_eq, tabF_eq] at h1
  exact ⟨H', h1, h2⟩
theorem fits : Fit Tryz.prog := fit_of (by decide +kernel)

end Go.Proofs.YtdfdhobfodljbaaGreatDoor
