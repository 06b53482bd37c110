/- A memory in which the listed variables lie as the text lays them; the law as the row asks for it. Conditions: none. -/
import Derived.Test.YtmmopjgbckkljaaGreatDoorCards
import Derived.Test.YtmmopjgbckkljaaGreatDoorTie
import Derived.Test.YtmmopjgbckkljaaGreatDoorBb
import Derived.ProofKit
import Derived.LaidMore
import Derived.OpenShut
import Derived.Stop.Joined
import Derived.ChangeOld
import Derived.Below
import Derived.Lib.SmallJoins
import Derived.SevenTiedAt
import Derived.Lay
set_option linter.all false
namespace Go.Proofs.YtmmopjgbckkljaaGreatDoor
open Go.ChangeShapes Go.WideShapes Go.ChangeAt Go.RowKit Go.Joins

theorem own : ownKnob Tryz.prog.godebug = none := by kernel_rfl
theorem laidOut : laidOutB Tryz.prog = true := by kernel_rfl
set_option maxRecDepth 100000 in
theorem contract (H : Type) (enc : TypeId × Value → H) (W : World) (base : Nat) (args : Array Value) (ds gs : List (DataW H)) (before : List MemPlace)
    (hval : ∀ (j : Nat) t v, Tryz.f3.params[j]? = some t → args[j]? = some v → Value.okWide Tryz.prog W .any base t v)
    (hW : DataW.Whole enc Tryz.prog Tryz.f3.params.toList Rows.bytesOperationsSpec.vars false W args.toList ds gs before) (hL : laidMetH Tryz.prog Rows.bytesOperationsRow.laid W) :
    Calls Tryz.prog 3 args W fun e W' => ∃ v, e = .returned v ∧ Rows.bytesOperationsSpec.post enc Tryz.prog Tryz.f3 false true false false W args v W' := by
  have hW' := hW
  obtain ⟨p, q, hA0, hV, rfl, hfz, hnd⟩ := hW
  have hA : DataW.TrodAll enc Tryz.prog W 0 (fun _ => true) true Tryz.f3.params.toList args.toList ds p := hA0
  rw [Tryz.params3] at hA hval
  obtain ⟨v0, vs0, d0, ds0, p0, q0, hargs, rfl, rfl, h0, r0⟩ := trodAll_cons hA
  obtain ⟨v1, vs1, d1, ds1, p1, q1, rfl, rfl, rfl, h1, r1⟩ := trodAll_cons r0
  obtain ⟨rfl, rfl, rfl⟩ := trodAll_nil r1
  obtain rfl : args = #[v0, v1] := by cases args; simp_all
  obtain ⟨rfl, rfl⟩ := trodVars_none hV
  have lt0 : ∀ x ∈ p0, x.block < W.heap.size := by obtain ⟨m, hm⟩ := h0; exact DataW.trod_lt m _ _ _ hm
  have lt1 : ∀ x ∈ p1, x.block < W.heap.size := by obtain ⟨m, hm⟩ := h1; exact DataW.trod_lt m _ _ _ hm
  obtain ⟨op, rfl⟩ := okWide_int Tryz.underlying3 (hval 0 3 v0 rfl rfl)
  obtain ⟨name, rfl⟩ := okWide_string Tryz.underlying9 (hval 1 9 v1 rfl rfl)
  clear hA0
  refine (law_any op name W (gl_of_laid hL)).mono fun e W' ⟨he, bel⟩ => ?_
  subst he
  exact ⟨_, rfl, _, _, _, [], _, [], hW', trodAll_mk1 (shut_bool Tryz.underlying4 _),
    trodAll_cons_mk (Below.trod laidOut (by kernel_rfl) (of_decide_eq_true (by kernel_rfl)) h0 bel lt0) (trodAll_cons_mk (Below.trod laidOut (by kernel_rfl) (of_decide_eq_true (by kernel_rfl)) h1 bel lt1) trodAll_mk0),
    rfl, bel.frame _, fun h => by cases h⟩
end Go.Proofs.YtmmopjgbckkljaaGreatDoor

namespace Go.Proofs.YtmmopjgbckkljaaGreatDoor
open Go.ChangeShapes Go.WideShapes Go.ChangeAt Go.RowKit

/-- The entries of the one map among the listed variables. -/
def mapEnts : List (Nat × Int) := [(65, 2), (69, 2), (70, 2), (71, 2), (88, 1), (91, 3), (97, 2), (98, 1), (99, 3), (100, 1), (101, 2), (102, 2), (103, 2), (105, 1), (110, 5), (111, 1), (112, 4), (115, 3), (117, 1), (120, 1)]
/-- A start of memory that holds the map alone. -/
noncomputable def W0 (os : Os) : World :=
  { World.holding Tryz.prog os ⟨#[], #[], []⟩ with
    heap := ((World.holding Tryz.prog os ⟨#[], #[], []⟩).heap.set! 2 (.cells #[.map (some (World.holding Tryz.prog os ⟨#[], #[], []⟩).heap.size)] 226 (0, 0))).push
      (.map (mapEnts.zipIdx.map fun x => (⟨.int .u8 x.1.1, .int .i64 x.1.2, x.2⟩ : MapEntry)).toArray 20) }
def great : List String := ["math/bits.deBruijn32tab", "math/bits.deBruijn64tab", "internal/strconv.uint64pow10", "unicode/utf8.acceptRanges", "strconv.ErrRange", "strconv.ErrSyntax", "soroban/args.lengths", "soroban/bytes.operations", "unicode/utf8.first"]
/-- The listed variables, laid. -/
noncomputable def WW (os : Os) : World := (W0 os).layVars Tryz.prog (Rows.bytesOperationsRow.laid.filter fun x => great.contains x.1)
noncomputable def mapB (os : Os) : List Nat := [2, (World.holding Tryz.prog os ⟨#[], #[], []⟩).heap.size]

theorem WW_os (os : Os) : (WW os).os = os := World.layVars_os _ _ _

set_option maxRecDepth 100000 in
theorem met1 (os : Os) : (W0 os).layFits Tryz.prog (Rows.bytesOperationsRow.laid.filter fun x => great.contains x.1) (mapB os) = true := by kernel_rfl
set_option maxRecDepth 100000 in
theorem met2 (os : Os) (args : Array Value) : (W0 os).layIfaces Tryz.prog (Rows.bytesOperationsRow.laid.filter fun x => great.contains x.1) ((WW os).forCall (fun _ _ => 0) ⟨#[], args, []⟩).memory = true := by kernel_rfl
set_option maxRecDepth 100000 in
theorem met3 (os : Os) (args : Array Value) : LaidIn Tryz.prog ((WW os).forCall (fun _ _ => 0) ⟨#[], args, []⟩).memory (Rows.bytesOperationsRow.laid.filter fun x => !great.contains x.1) (mapB os) :=
  LaidIn.of_run (mapB os) 8 (by kernel_rfl) (by kernel_rfl) (by kernel_rfl) (by kernel_rfl)

theorem door_met (os : Os) (args : Array Value) : laidMetH Tryz.prog Rows.bytesOperationsRow.laid ((WW os).forCall (fun _ _ => 0) ⟨#[], args, []⟩).memory := by
  rw [MakeChecks.laidMetH_plain _ _ _ (by kernel_rfl)]
  exact laidMet_layVars (w0 := W0 os) great (mapB os) (by simp [World.memory, World.forCall, Input.heap, WW]) (met1 os) (met2 os args) (met3 os args)

set_option maxRecDepth 100000 in
theorem shaped (os : Os) : (WW os).Shaped Tryz.prog := World.shaped_of_ZipB (by kernel_rfl) (by kernel_rfl)
end Go.Proofs.YtmmopjgbckkljaaGreatDoor
