/- The package-level variables that the examples of strtod read, for the engine. Conditions: none. -/
import Derived.Test.YtilnhkflgfajcaaGreatDoorRows
import Derived.KernelRfl
import Derived.WalkKit
import Derived.Test.YtilnhkflgfajcaaGreatDoorEd
set_option linter.all false
namespace Go.Proofs.YtilnhkflgfajcaaGreatDoor
open Go.Eng Go.RowKit
set_option maxRecDepth 1000000

noncomputable def brL : List AVal := (flat Tryz.prog 5 252 (Rows.laid_math_bits_deBruijn32tab (H := Unit))).getD []
theorem brL_some : flat Tryz.prog 5 252 (Rows.laid_math_bits_deBruijn32tab (H := Unit)) = some brL := by kernel_rfl
noncomputable def pwL : List AVal := (flat Tryz.prog 5 345 (Rows.laid_internal_strconv_uint64pow10 (H := Unit))).getD []
theorem pwL_some : flat Tryz.prog 5 345 (Rows.laid_internal_strconv_uint64pow10 (H := Unit)) = some pwL := by kernel_rfl

noncomputable def G0 (e0 e7 : TypeId) : AHeap := ⟨Tr.put (path 7) (some (.cells pwL e7 .sh)) (Tr.put (path 0) (some (.cells brL e0 .sh)) .leaf), 9, 9⟩
theorem fits : Fit Tryz.prog := fit_of (by decide +kernel)
end Go.Proofs.YtilnhkflgfajcaaGreatDoor

namespace Go.Proofs.YtilnhkflgfajcaaGreatDoor
open Go.Eng Go.RowKit
set_option maxRecDepth 1000000

/-- A call of decimalOf whose answer is known: the exponent, the number's two limbs, the digits, their exponent. -/
structure Ent where
  y : Int
  a : Nat
  b : Nat
  s : List UInt8
  x : Int

def ent0 : Ent := ⟨971, 0, 2097152, [49, 55, 57, 55, 54, 57, 51, 49, 51, 52, 56, 54, 50, 51, 49, 53, 57, 48, 55, 55, 50, 57, 51, 48, 53, 49, 57, 48, 55, 56, 57, 48, 50, 52, 55, 51, 51, 54, 49, 55, 57, 55, 54, 57, 55, 56, 57, 52, 50, 51, 48, 54, 53, 55, 50, 55, 51, 52, 51, 48, 48, 56, 49, 49, 53, 55, 55, 51, 50, 54, 55, 53, 56, 48, 53, 53, 48, 48, 57, 54, 51, 49, 51, 50, 55, 48, 56, 52, 55, 55, 51, 50, 50, 52, 48, 55, 53, 51, 54, 48, 50, 49, 49, 50, 48, 49, 49, 51, 56, 55, 57, 56, 55, 49, 51, 57, 51, 51, 53, 55, 54, 53, 56, 55, 56, 57, 55, 54, 56, 56, 49, 52, 52, 49, 54, 54, 50, 50, 52, 57, 50, 56, 52, 55, 52, 51, 48, 54, 51, 57, 52, 55, 52, 49, 50, 52, 51, 55, 55, 55, 54, 55, 56, 57, 51, 52, 50, 52, 56, 54, 53, 52, 56, 53, 50, 55, 54, 51, 48, 50, 50, 49, 57, 54, 48, 49, 50, 52, 54, 48, 57, 52, 49, 49, 57, 52, 53, 51, 48, 56, 50, 57, 53, 50, 48, 56, 53, 48, 48, 53, 55, 54, 56, 56, 51, 56, 49, 53, 48, 54, 56, 50, 51, 52, 50, 52, 54, 50, 56, 56, 49, 52, 55, 51, 57, 49, 51, 49, 49, 48, 53, 52, 48, 56, 50, 55, 50, 51, 55, 49, 54, 51, 51, 53, 48, 53, 49, 48, 54, 56, 52, 53, 56, 54, 50, 57, 56, 50, 51, 57, 57, 52, 55, 50, 52, 53, 57, 51, 56, 52, 55, 57, 55, 49, 54, 51, 48, 52, 56, 51, 53, 51, 53, 54, 51, 50, 57, 54, 50, 52, 50, 50, 52, 49, 51, 55, 50, 49, 54], 0⟩
def ent1 : Ent := ⟨-56, 2576980378, 1677721, [49, 48, 48, 48, 48, 48, 48, 48, 48, 48, 48, 48, 48, 48, 48, 48, 48, 53, 53, 53, 49, 49, 49, 53, 49, 50, 51, 49, 50, 53, 55, 56, 50, 55, 48, 50, 49, 49, 56, 49, 53, 56, 51, 52, 48, 52, 53, 52, 49, 48, 49, 53, 54, 50, 53, 48], -56⟩
def ent2 : Ent := ⟨-56, 2576980377, 1677721, [57, 57, 57, 57, 57, 57, 57, 57, 57, 57, 57, 57, 57, 57, 57, 57, 49, 54, 55, 51, 51, 50, 55, 51, 49, 53, 51, 49, 49, 51, 50, 53, 57, 52, 54, 56, 50, 50, 55, 54, 50, 52, 56, 57, 51, 49, 56, 56, 52, 55, 54, 53, 54, 50, 53], -56⟩
def ent3 : Ent := ⟨-57, 858993459, 3355443, [57, 57, 57, 57, 57, 57, 57, 57, 57, 57, 57, 57, 57, 57, 57, 57, 56, 54, 49, 50, 50, 50, 49, 50, 49, 57, 50, 49, 56, 53, 53, 52, 51, 50, 52, 52, 55, 48, 52, 54, 48, 52, 49, 52, 56, 56, 54, 52, 55, 52, 54, 48, 57, 51, 55, 53], -57⟩
def ents : List Ent := [ent0, ent1, ent2, ent3]
noncomputable def GS (e0 e7 t : TypeId) (a b : Nat) : AHeap := (G0 e0 e7).new (.cells [.int .u32 (.ofNat a), .int .u32 (.ofNat b)] t .sh)
def RunOK (E : Ent) : Prop := ∀ e0 e7 t, outOf 10 (topL Tryz.prog (cfun Tryz.prog 178) [.slice 9 0 2 2 1 false, .int .i64 E.y] (GS e0 e7 t E.a E.b) (tabF Tryz.prog 300)) = some (.agg [.str E.s, .int .i64 E.x], true)
end Go.Proofs.YtilnhkflgfajcaaGreatDoor
