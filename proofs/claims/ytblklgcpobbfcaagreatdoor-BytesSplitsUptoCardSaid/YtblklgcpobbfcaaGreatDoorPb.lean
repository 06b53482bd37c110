/- The leaves: bounds, within, valid and Valid. Conditions: none. -/
import Derived.Test.YtblklgcpobbfcaaGreatDoorRows
import Derived.KernelRfl
import Derived.WalkKit
import Derived.Test.YtblklgcpobbfcaaGreatDoorPa
import Derived.Lib.SlBy
import Derived.Deep.LoopGhost
import Derived.Deep.Draws
import Derived.Shelf.Abstract
import Derived.Shelf.RegionOpenPlain
import Derived.Lib.SliceRun
import Derived.Laws.Cells
import Derived.Below
import Derived.Deep.RegionHeld3
import Derived.Outline
import Derived.Lib.Hide
import Derived.BigQuiet
import Derived.Deep.QuietTactic
set_option linter.all false
namespace Go.Proofs.YtblklgcpobbfcaaGreatDoor
open Go.Eng Go.RowKit
set_option maxRecDepth 1000000

/-- The package-level variable that the code reads, as it was laid. -/
def Gl (w : World) : Prop :=
  ∃ (arr : Array Value) (e : TypeId) (lohi : Nat × Nat), w.heap[0]? = some (.cells arr e lohi) ∧ Rl opsL arr.toList

theorem gl_of_laid {W : World} (h : laidMetH Tryz.prog Rows.bytesPutsRow.laid W) : Gl W := by
  obtain ⟨ps, hl, _⟩ : laidMet Tryz.prog Rows.bytesPutsRow.laid W := h
  exact laid_at (name := "soroban/bytes.operations") hl (.tail _ (.tail _ (.tail _ (.tail _ (.tail _ (.tail _ (.tail _ (.tail _ (.head _))))))))) (by kernel_rfl) (by kernel_rfl) opsL_some

theorem Gl.below {w w' : World} (h : Gl w) (hb : Below w.heap.size w w') : Gl w' := by
  obtain ⟨a, e, l, h1, h2⟩ := h
  exact ⟨a, e, l, by rw [hb.block 0 (Array.getElem?_eq_some_iff.1 h1).1]; exact h1, h2⟩
theorem Gl.alloc {w : World} (h : Gl w) (o : Obj) : Gl (w.alloc o) := h.below ((Below.refl _ _).alloc (Nat.le_refl _) _)

theorem Gl.rel {w : World} (h : Gl w) : ∃ e0, WRel Tryz.prog (globEmb Tryz.prog) (G0 e0) w := by
  obtain ⟨a0, e0, l0, h1, h2⟩ := h
  refine ⟨e0, wrel_globals (by kernel_rfl) fun g blk hg e => ?_⟩
  have get : ∀ b, (G0 e0).get b = if b = 0 then some (.cells opsL e0 .sh) else none := by
    intro b
    show Tr.get (path b) (Tr.put (path 0) _ .leaf) = _
    by_cases h0 : b = 0
    · subst h0; rw [Go.Eng.Tr.get_put_self]; simp
    · rw [Go.Eng.Tr.get_put_ne _ _ _ _ (path_ne h0), if_neg h0, Go.Eng.Tr.get_leaf]
  rw [get] at e
  split at e
  · rename_i hg0
    subst hg0
    cases e
    exact ⟨_, _, rfl, a0, l0, h1, fun i v hv => by simpa using h2 i v hv⟩
  · cases e

theorem sane_any (w : World) (h : Gl w) : Calls Tryz.prog 13 #[] w fun e w' => e = .returned (.bool true) ∧ Below w.heap.size w w' := by
  obtain ⟨e0, hw⟩ := h.rel
  obtain ⟨H', ht, hl⟩ := run_ret e0
  refine (top_below fits (f := 13) (args' := #[]) hw .nil ht hl).mono fun e w' ⟨x, ρ', hx, he, _, hb⟩ => ?_
  cases hx
  exact ⟨he, hb⟩

/-- A closed call. -/
theorem closed {f : FuncId} {args : List AVal} {args' : Array Value} {n : Nat} {v : AVal} {y : Value} (w : World) (h : Gl w) (ha : ∀ ρ, VRels ρ args args'.toList)
    (hr : ∀ e0, outOf 11 (topF Tryz.prog (cfun Tryz.prog f) args (G0 e0) (tabF Tryz.prog n)) = some (v, true)) (hv : toVal v = some y) :
    Calls Tryz.prog f args' w fun e w' => e = .returned y ∧ Below w.heap.size w w' := by
  obtain ⟨e0, hw⟩ := h.rel
  exact call_plain fits hw (ha _) (hr e0) hv
end Go.Proofs.YtblklgcpobbfcaaGreatDoor

namespace Go.Proofs.YtblklgcpobbfcaaGreatDoor
open Go.Eng Go.RowKit
set_option maxRecDepth 1000000

/-- A text of the table. -/
noncomputable def strAt (l : List AVal) (i : Nat) : List UInt8 := match l[i]? with
  | some (.str s) => s
  | _ => []
noncomputable def nm (i : Nat) : List UInt8 := strAt opsL (2 * i)
noncomputable def kd (i : Nat) : List UInt8 := strAt opsL (2 * i + 1)
def sz (i : Nat) : Int := [1, 4, 6, 3, 3, 3, 3, 3, 5, 5, 6, 4, 4, 3, 3, 3, 3, 3, 8, 4, 2, 2, 3, 4, 1, 3, 3].getD i 0

theorem of_map {α : Type} {f g : Nat → α} {n : Nat} (h : (List.range n).map f = (List.range n).map g) {i : Nat} (hi : i < n) : f i = g i :=
  List.map_inj_left.1 h i (List.mem_range.2 hi)

theorem name_runs (e0 : TypeId) : (List.range 27).map (fun i => outOf 11 (topF Tryz.prog (cfun Tryz.prog 7) [.int .i64 (Int.ofNat i)] (G0 e0) (tabF Tryz.prog 30))) = (List.range 27).map (fun i => some (.tuple [.str (nm i), .int .i64 0], true)) := by kernel_rfl
theorem kinds_runs (e0 : TypeId) : (List.range 27).map (fun i => outOf 11 (topF Tryz.prog (cfun Tryz.prog 8) [.int .i64 (Int.ofNat i)] (G0 e0) (tabF Tryz.prog 30))) = (List.range 27).map (fun i => some (.tuple [.str (kd i), .int .i64 0], true)) := by kernel_rfl
theorem size_runs (e0 : TypeId) : (List.range 27).map (fun i => outOf 11 (topF Tryz.prog (cfun Tryz.prog 9) [.int .i64 (Int.ofNat i)] (G0 e0) (tabF Tryz.prog 100))) = (List.range 27).map (fun i => some (.tuple [.int .i64 (sz i), .int .i64 0], true)) := by kernel_rfl
theorem rsize_runs (e0 : TypeId) : (List.range 27).map (fun i => outOf 11 (topF Tryz.prog (cfun Tryz.prog 14) [.int .i64 (Int.ofNat i)] (G0 e0) (tabF Tryz.prog 100))) = (List.range 27).map (fun i => some (.int .i64 (sz i), true)) := by kernel_rfl
end Go.Proofs.YtblklgcpobbfcaaGreatDoor

namespace Go.Proofs.YtblklgcpobbfcaaGreatDoor
open Go.Eng Go.RowKit
set_option maxRecDepth 1000000

theorem in27 {op : Int} (h0 : 0 ≤ op) (h : op < 27) : ∃ i : Nat, i < 27 ∧ op = Int.ofNat i ∧ op.toNat = i := ⟨op.toNat, by omega, by simp; omega, rfl⟩

theorem toValStr (s : List UInt8) (n : Int) : toVal (.tuple [.str s, .int .i64 n]) = some (.tuple #[.string ⟨⟨s⟩⟩, .int .i64 n]) := rfl
theorem toValInt (s : Int) (n : Int) : toVal (.tuple [.int .i64 s, .int .i64 n]) = some (.tuple #[.int .i64 s, .int .i64 n]) := rfl

theorem name_yes (op : Int) (w : World) (hg : Gl w) (h0 : 0 ≤ op) (h : op < 27) :
    Calls Tryz.prog 7 #[.int .i64 op] w fun e w' => e = .returned (.tuple #[.string ⟨⟨nm op.toNat⟩⟩, .int .i64 0]) ∧ Below w.heap.size w w' := by
  obtain ⟨i, hi, rfl, e⟩ := in27 h0 h
  rw [e]
  exact closed w hg (fun ρ => .cons (.int _ _) .nil) (fun e0 => of_map (name_runs e0) hi) (toValStr _ _)
theorem kinds_yes (op : Int) (w : World) (hg : Gl w) (h0 : 0 ≤ op) (h : op < 27) :
    Calls Tryz.prog 8 #[.int .i64 op] w fun e w' => e = .returned (.tuple #[.string ⟨⟨kd op.toNat⟩⟩, .int .i64 0]) ∧ Below w.heap.size w w' := by
  obtain ⟨i, hi, rfl, e⟩ := in27 h0 h
  rw [e]
  exact closed w hg (fun ρ => .cons (.int _ _) .nil) (fun e0 => of_map (kinds_runs e0) hi) (toValStr _ _)
theorem size_yes (op : Int) (w : World) (hg : Gl w) (h0 : 0 ≤ op) (h : op < 27) :
    Calls Tryz.prog 9 #[.int .i64 op] w fun e w' => e = .returned (.tuple #[.int .i64 (sz op.toNat), .int .i64 0]) ∧ Below w.heap.size w w' := by
  obtain ⟨i, hi, rfl, e⟩ := in27 h0 h
  rw [e]
  exact closed w hg (fun ρ => .cons (.int _ _) .nil) (fun e0 => of_map (size_runs e0) hi) (toValInt _ _)
theorem rsize_yes (op : Int) (w : World) (hg : Gl w) (h0 : 0 ≤ op) (h : op < 27) :
    Calls Tryz.prog 14 #[.int .i64 op] w fun e w' => e = .returned (.int .i64 (sz op.toNat)) ∧ Below w.heap.size w w' := by
  obtain ⟨i, hi, rfl, e⟩ := in27 h0 h
  rw [e]
  exact closed w hg (fun ρ => .cons (.int _ _) .nil) (fun e0 => of_map (rsize_runs e0) hi) rfl

theorem known_no (op : Int) (w : World) (h : op < 0 ∨ 27 ≤ op) : Calls Tryz.prog 28 #[.int .i64 op] w fun e w' => e = .returned (.bool false) ∧ w' = w := by
  rcases h with h | h
  all_goals
    go_enter Tryz.func28, Tryz.ntmps28
    go_wp2
    go_ret
    exact ⟨by simp <;> omega, rfl⟩
theorem is_no (op : Int) (w : World) (h : op < 0 ∨ 27 ≤ op) : Calls Tryz.prog 12 #[.int .i64 op] w fun e w' => e = .returned (.bool false) ∧ w' = w := by
  rcases h with h | h
  all_goals
    go_enter Tryz.func12, Tryz.ntmps12
    go_wp2
    go_ret
    exact ⟨by simp <;> omega, rfl⟩
theorem is_yes (op : Int) (w : World) (h0 : 0 ≤ op) (h : op < 27) : Calls Tryz.prog 12 #[.int .i64 op] w fun e w' => e = .returned (.bool true) ∧ w' = w := by
  go_enter Tryz.func12, Tryz.ntmps12
  go_wp2
  go_ret
  exact ⟨by simp; omega, rfl⟩
theorem name_no (op : Int) (w : World) (h : op < 0 ∨ 27 ≤ op) : Calls Tryz.prog 7 #[.int .i64 op] w fun e w' => e = .returned (.tuple #[.string ByteArray.empty, .int .i64 1]) ∧ w' = w := by
  have hk := known_no op w h
  clear h
  go_enter Tryz.func7, Tryz.ntmps7
  go_wp2_with fail
  refine hk.mono ?_
  rintro e w1 ⟨rfl, rfl⟩
  go_wp2
  go_ret2
  exact ⟨rfl, rfl⟩
theorem kinds_no (op : Int) (w : World) (h : op < 0 ∨ 27 ≤ op) : Calls Tryz.prog 8 #[.int .i64 op] w fun e w' => e = .returned (.tuple #[.string ByteArray.empty, .int .i64 1]) ∧ w' = w := by
  have hk := known_no op w h
  clear h
  go_enter Tryz.func8, Tryz.ntmps8
  go_wp2_with fail
  refine hk.mono ?_
  rintro e w1 ⟨rfl, rfl⟩
  go_wp2
  go_ret2
  exact ⟨rfl, rfl⟩
theorem size_no (op : Int) (w : World) (h : op < 0 ∨ 27 ≤ op) : Calls Tryz.prog 9 #[.int .i64 op] w fun e w' => e = .returned (.tuple #[.int .i64 0, .int .i64 1]) ∧ w' = w := by
  have hk := known_no op w h
  clear h
  go_enter Tryz.func9, Tryz.ntmps9
  go_wp2_with fail
  refine hk.mono ?_
  rintro e w1 ⟨rfl, rfl⟩
  go_wp2
  go_ret2
  exact ⟨rfl, rfl⟩
end Go.Proofs.YtblklgcpobbfcaaGreatDoor

namespace Go.Proofs.YtblklgcpobbfcaaGreatDoor
open Go.Eng Go.RowKit
set_option maxRecDepth 1000000

theorem opsL_at (i : Nat) (hi : i < 54) : opsL[i]? = some (.str (strAt opsL i)) :=
  of_map (f := fun i => opsL[i]?) (g := fun i => some (.str (strAt opsL i))) (n := 54) (by kernel_rfl) hi

theorem Gl.cell {w : World} (h : Gl w) {i : Nat} (hi : i < 54) : w.cell? ⟨0, i, none⟩ = some (.string ⟨⟨strAt opsL i⟩⟩) := by
  obtain ⟨arr, e, lohi, h1, h2⟩ := h
  obtain ⟨x, h3, h4⟩ := h2 i _ (opsL_at i hi)
  cases h4
  simp only [World.cell?, h1]
  simpa using h3

theorem step {w a b : World} (h : Below w.heap.size w a) (k : Below a.heap.size a b) : Below w.heap.size w b := h.trans (k.mono h.size)

noncomputable def nS (i : Nat) : ByteArray := ⟨⟨nm i⟩⟩
noncomputable def kS (i : Nat) : ByteArray := ⟨⟨kd i⟩⟩

/-- A run that comes to a slice, with the cells of its block. -/
noncomputable def sliceOut (n : Nat) : ER → Option (AVal × List AVal × Bool)
  | .ret (.slice b o l c z x) H' => match H'.get b with
    | some (.cells cs _ _) => some (.slice b o l c z x, cs, Nat.ble n H'.low && Nat.blt b H'.next)
    | _ => none
  | _ => none

theorem sliceOut_ret {n : Nat} {r : ER} {v : AVal} {cs : List AVal} (h : sliceOut n r = some (v, cs, true)) :
    ∃ b o l c z x H' t wr, r = .ret (.slice b o l c z x) H' ∧ v = .slice b o l c z x ∧ H'.get b = some (.cells cs t wr) ∧ n ≤ H'.low ∧ b < H'.next := by
  unfold sliceOut at h
  split at h
  · rename_i b o l c z x H'
    split at h
    · rename_i cs' t wr hc
      simp only [Option.some.injEq, Prod.mk.injEq, Bool.and_eq_true] at h
      obtain ⟨rfl, rfl, h1, h2⟩ := h
      exact ⟨_, _, _, _, _, _, _, _, _, rfl, rfl, hc, Nat.le_of_ble_eq_true h1, Nat.le_of_ble_eq_true h2⟩
    · cases h
  · cases h

theorem ops_run (e0 : TypeId) : sliceOut 11 (topF Tryz.prog (cfun Tryz.prog 11) [] (G0 e0) (tabF Tryz.prog 30)) = some (.slice 11 0 27 27 2 true, opsL, true) := by kernel_rfl

/-- A block that holds the operations. -/
structure Ops (b : Nat) (w : World) : Prop where
  cell : ∀ i, i < 54 → w.cell? ⟨b, i, none⟩ = some (.string ⟨⟨strAt opsL i⟩⟩)
  sz : b < w.heap.size

theorem Ops.below {b : Nat} {w w' : World} (h : Ops b w) (hb : Below w.heap.size w w') : Ops b w' :=
  ⟨fun i hi => (hb.cell (p := ⟨b, i, none⟩) h.sz).trans (h.cell i hi), Nat.lt_of_lt_of_le h.sz hb.size⟩

theorem all_any (w : World) (hg : Gl w) : Calls Tryz.prog 11 #[] w fun e w' => ∃ b, e = .returned (.slice (some ⟨b, 0, none⟩) 27 27) ∧ Ops b w' ∧ Below w.heap.size w w' := by
  obtain ⟨e0, hw⟩ := hg.rel
  obtain ⟨b, o, l, c, z, x, H', t, wr, h1, h2, h3, h4, h5⟩ := sliceOut_ret (ops_run e0)
  cases h2
  rw [topF_eq, tabF_eq] at h1
  refine (top_below fits (f := 11) (args' := #[]) hw .nil h1 h4).mono fun e w' ⟨x, ρ', hx, he, hw', hb⟩ => ?_
  cases hx with
  | slice hp hl hc hex hr =>
    rename_i cap' p
    obtain rfl := hex rfl
    obtain ⟨p', o, hp', ho, hB⟩ := hw'.blocks 11 _ h5 h3
    rw [hp] at hp'
    cases hp'
    cases hB with
    | cells hd hc' hwr =>
      rename_i arr lo hi
      rw [hd] at he
      refine ⟨p.r, he, ⟨fun i hi => ?_, (Array.getElem?_eq_some_iff.1 ho).1⟩, hb⟩
      obtain ⟨x, e3, e4⟩ := hc' i _ (opsL_at i hi)
      cases e4
      rw [hd, Nat.zero_add] at e3
      simp only [World.cell?, ho]
      simpa using e3
end Go.Proofs.YtblklgcpobbfcaaGreatDoor

namespace Go.Proofs.YtblklgcpobbfcaaGreatDoor
open Go.Eng Go.RowKit
set_option maxRecDepth 1000000

/-- The least and the greatest operand of a kind. -/
def loK (k : Int) : Int := if k = 97 then 1 else if k = 110 then -2147483648 else 0
def hiK (k : Int) : Int := if k = 114 then 15 else if k = 108 then 63 else if k = 97 then 64 else if k = 109 then 1 else if k = 110 then 2147483647 else 65535
def okV (k v : Int) : Bool := decide (loK k ≤ v) && decide (v ≤ hiK k)
/-- The kinds that there are. -/
def Kind (k : Int) : Prop := k = 114 ∨ k = 108 ∨ k = 97 ∨ k = 109 ∨ k = 110 ∨ k = 107 ∨ k = 102 ∨ k = 103 ∨ k = 100

set_option maxHeartbeats 1000000 in
theorem bounds_any (k : Int) (w : World) (hk : Kind k) : Calls Tryz.prog 77 #[.int .i32 k] w fun e w' => e = .returned (.tuple #[.int .i64 (loK k), .int .i64 (hiK k)]) ∧ w' = w := by
  rcases hk with rfl | rfl | rfl | rfl | rfl | rfl | rfl | rfl | rfl
  all_goals
    go_enter Tryz.func77, Tryz.ntmps77
    go_wp2
    go_ret2
    exact ⟨rfl, rfl⟩

theorem okV_of {k v lo hi : Int} (h1 : loK k = lo) (h2 : hiK k = hi) : okV k v = (decide (lo ≤ v) && decide (v ≤ hi)) := by rw [okV, h1, h2]

set_option maxHeartbeats 4000000 in
theorem within_any (k v : Int) (w : World) (hk : Kind k) : Calls Tryz.prog 40 #[.int .u8 k, .int .i64 v] w fun e w' => e = .returned (.bool (okV k v)) ∧ w' = w := by
  rcases hk with rfl | rfl | rfl | rfl | rfl | rfl | rfl | rfl | rfl
  all_goals
    rw [okV_of rfl rfl]
    simp only [loK, hiK]
    go_enter Tryz.func40, Tryz.ntmps40
    go_wp2
    all_goals
      go_ret
      first | exact ⟨rfl, rfl⟩ | exact ⟨by simp <;> omega, rfl⟩
end Go.Proofs.YtblklgcpobbfcaaGreatDoor

namespace Go.Proofs.YtblklgcpobbfcaaGreatDoor
open Go.Eng Go.RowKit
set_option maxRecDepth 1000000

/-- How many bytes an operand of a kind has. -/
def wK (k : Int) : Int := if k = 107 ∨ k = 102 ∨ k = 103 ∨ k = 100 then 2 else if k = 110 then 4 else 1

set_option maxHeartbeats 1000000 in
theorem size_kind (k : Int) (w : World) (hk : Kind k) : Calls Tryz.prog 29 #[.int .i32 k] w fun e w' => e = .returned (.int .i64 (wK k)) ∧ w' = w := by
  rcases hk with rfl | rfl | rfl | rfl | rfl | rfl | rfl | rfl | rfl
  all_goals
    go_enter Tryz.func29, Tryz.ntmps29
    go_wp2
    go_ret
    exact ⟨rfl, rfl⟩

set_option maxHeartbeats 1000000 in
theorem width_kind (k : Int) (w : World) (hk : Kind k) : Calls Tryz.prog 38 #[.int .u8 k] w fun e w' => e = .returned (.int .i64 (wK k)) ∧ w' = w := by
  rcases hk with rfl | rfl | rfl | rfl | rfl | rfl | rfl | rfl | rfl
  all_goals
    go_enter Tryz.func38, Tryz.ntmps38
    go_wp2
    go_ret
    exact ⟨rfl, rfl⟩

def kindB (b : UInt8) : Bool := b = 114 || b = 108 || b = 97 || b = 109 || b = 110 || b = 107 || b = 102 || b = 103 || b = 100
theorem Kind.of {b : UInt8} (h : kindB b = true) : Kind (b.toNat : Int) := by
  simp only [kindB, Bool.or_eq_true, decide_eq_true_eq] at h
  rcases h with (((((((rfl | rfl) | rfl) | rfl) | rfl) | rfl) | rfl) | rfl) | rfl
  all_goals
    unfold Kind
    simp

/-- Each kind of the table is one of them; an operation has at most seven operands. -/
theorem kd_kinds {i : Nat} (hi : i < 27) : (kd i).all kindB = true := of_map (f := fun i => (kd i).all kindB) (g := fun _ => true) (n := 27) (by kernel_rfl) hi
theorem kd_len {i : Nat} (hi : i < 27) : (kd i).length ≤ 7 := Nat.le_of_ble_eq_true (of_map (f := fun i => Nat.ble (kd i).length 7) (g := fun _ => true) (n := 27) (by kernel_rfl) hi)
theorem kd_kind {i j : Nat} (hi : i < 27) (hj : j < (kd i).length) : Kind ((kd i)[j].toNat : Int) := Kind.of (List.all_eq_true.1 (kd_kinds hi) _ (List.getElem_mem hj))
end Go.Proofs.YtblklgcpobbfcaaGreatDoor

namespace Go.Proofs.YtblklgcpobbfcaaGreatDoor
open Go.Eng Go.RowKit
set_option maxRecDepth 1000000

/-- An instruction as a value. -/
abbrev insV (op x0 x1 x2 x3 x4 x5 x6 : Int) : Value := .agg #[.int .i64 op, .int .i64 x0, .int .i64 x1, .int .i64 x2, .int .i64 x3, .int .i64 x4, .int .i64 x5, .int .i64 x6]

set_option maxHeartbeats 2000000 in
theorem valid_no (op x0 x1 x2 x3 x4 x5 x6 : Int) (w : World) (h : op < 0 ∨ 27 ≤ op) : Calls Tryz.prog 39 #[insV op x0 x1 x2 x3 x4 x5 x6] w fun e w' => e = .returned (.bool false) ∧ Below w.heap.size w w' := by
  have hk : ∀ w, _ := fun w => known_no op w h
  clear h
  go_enter Tryz.func39, Tryz.ntmps39
  go_wp2_with fail
  refine (hk _).mono ?_
  rintro e w1 ⟨rfl, rfl⟩
  go_wp2
  go_ret
  exact ⟨rfl, (Below.refl _ _).alloc (Nat.le_refl _) _⟩

set_option maxHeartbeats 2000000 in
theorem rvalid_no (op x0 x1 x2 x3 x4 x5 x6 : Int) (w : World) (h : op < 0 ∨ 27 ≤ op) : Calls Tryz.prog 17 #[insV op x0 x1 x2 x3 x4 x5 x6] w fun e w' => e = .returned (.bool false) ∧ Below w.heap.size w w' := by
  have hk : ∀ w, _ := fun w => is_no op w h
  clear h
  go_enter Tryz.func17, Tryz.ntmps17
  go_wp2_with fail
  refine (hk _).mono ?_
  rintro e w1 ⟨rfl, rfl⟩
  go_wp2
  go_ret
  exact ⟨rfl, (Below.refl _ _).alloc (Nat.le_refl _) _⟩
end Go.Proofs.YtblklgcpobbfcaaGreatDoor

namespace Go.Proofs.YtblklgcpobbfcaaGreatDoor
open Go.Eng Go.RowKit
set_option maxRecDepth 1000000

def xAt (x0 x1 x2 x3 x4 x5 x6 : Int) (j : Nat) : Int := [x0, x1, x2, x3, x4, x5, x6].getD j 0
/-- Whether an operand is as its kind asks. -/
noncomputable def opOk (i j : Nat) (v : Int) : Bool := match (kd i)[j]? with
  | some b => okV b.toNat v
  | none => v == 0

theorem kS_get {i k : Nat} {ks : ByteArray} (e : ks = ⟨⟨kd i⟩⟩) (h : k < ks.size) : ∃ h' : k < (kd i).length, ks[k] = (kd i)[k] := by
  subst e
  exact ⟨h, rfl⟩
theorem opOk_in {i k : Nat} {ks : ByteArray} (e : ks = ⟨⟨kd i⟩⟩) (h : k < ks.size) (v : Int) : opOk i k v = okV (ks[k].toNat : Int) v := by
  obtain ⟨h', e'⟩ := kS_get e h
  rw [e', opOk, List.getElem?_eq_getElem h']
theorem opOk_out {i k : Nat} {ks : ByteArray} (e : ks = ⟨⟨kd i⟩⟩) (h : ¬ k < ks.size) (v : Int) : opOk i k v = (v == 0) := by
  have h' : ¬ k < (kd i).length := by subst e; exact h
  rw [opOk, List.getElem?_eq_none (by omega)]
theorem kS_kind {i k : Nat} {ks : ByteArray} (hi : i < 27) (e : ks = ⟨⟨kd i⟩⟩) (h : k < ks.size) : Kind (ks[k].toNat : Int) := by
  obtain ⟨h', e'⟩ := kS_get e h
  rw [e']
  exact kd_kind hi h'
theorem wrap_byte (b : UInt8) : wrap32 (b.toNat : Int) = (b.toNat : Int) := by
  have := b.toNat_lt
  simp only [wrap32]
  omega
theorem all_no {p : Nat → Bool} {k n : Nat} (hk : k < n) (h : p k = false) : (List.range n).all p = false := by
  cases e : (List.range n).all p with
  | false => rfl
  | true => have := List.all_eq_true.1 e k (List.mem_range.2 hk); rw [h] at this; cases this

theorem all_next {p : Nat → Bool} {k : Nat} (A : ∀ j, j < k → p j = true) (h : p k = true) : Aside (∀ j, j < k + 1 → p j = true) := fun j hj => by
  by_cases e : j = k
  · rw [e]; exact h
  · exact A j (by omega)

theorem known_yes (op : Int) (w : World) (h0 : 0 ≤ op) (h : op < 27) : Calls Tryz.prog 28 #[.int .i64 op] w fun e w' => e = .returned (.bool true) ∧ w' = w := by
  go_enter Tryz.func28, Tryz.ntmps28
  go_wp2
  go_ret
  exact ⟨by simp <;> omega, rfl⟩

theorem idx7 (x0 x1 x2 x3 x4 x5 x6 : Int) {k : Nat} (hk : k < 7) (w : World) :
    (Instr.index 36 (.agg #[.int .i64 x0, .int .i64 x1, .int .i64 x2, .int .i64 x3, .int .i64 x4, .int .i64 x5, .int .i64 x6]) (.int .i64 k)).run Tryz.prog w = .ok (.int .i64 (xAt x0 x1 x2 x3 x4 x5 x6 k)) w := by
  rcases (show k = 0 ∨ k = 1 ∨ k = 2 ∨ k = 3 ∨ k = 4 ∨ k = 5 ∨ k = 6 by omega) with rfl | rfl | rfl | rfl | rfl | rfl | rfl
  all_goals kernel_rfl

set_option maxHeartbeats 4000000 in
theorem valid_yes (i : Nat) (hi : i < 27) (x0 x1 x2 x3 x4 x5 x6 : Int) (w : World) (hg : Gl w) :
    Calls Tryz.prog 39 #[insV i x0 x1 x2 x3 x4 x5 x6] w fun e w' => e = .returned (.bool ((List.range 7).all fun j => opOk i j (xAt x0 x1 x2 x3 x4 x5 x6 j))) ∧ Below w.heap.size w w' := by
  have hc : ∀ o, (w.alloc o).cell? ⟨0, i * 2 + 1, none⟩ = some (.string (kS i)) := fun o => by rw [Nat.mul_comm]; exact (hg.alloc o).cell (by omega)
  have hkn : ∀ w, _ := fun w => known_yes i w (by omega) (by omega)
  have HK : Aside (kS i = ⟨⟨kd i⟩⟩) := rfl
  have HR : ∃ r, r = ((List.range 7).all fun j => opOk i j (xAt x0 x1 x2 x3 x4 x5 x6 j)) := ⟨_, rfl⟩
  obtain ⟨r, hr⟩ := HR
  rw [← hr]
  have HR : Aside (r = ((List.range 7).all fun j => opOk i j (xAt x0 x1 x2 x3 x4 x5 x6 j))) := hr
  clear hr
  generalize kS i = ks at hc HK
  go_enter Tryz.func39, Tryz.ntmps39
  go_wp2_with (go_at_call 28; refine (hkn _).mono ?_; rintro e w' ⟨rfl, rfl⟩)
  go_loop [19] (fun c => ∃ k : Nat, k ≤ 7 ∧ c = .int .i64 k ∧ Aside (∀ j, j < k → opOk i j (xAt x0 x1 x2 x3 x4 x5 x6 j) = true)) (fun c => 7 - (intOf c).toNat)
  case atStart => exact ⟨0, Nat.zero_le _, rfl, fun j hj => absurd hj (Nat.not_lt_zero _)⟩
  case round =>
    obtain ⟨k, hk, rfl, A⟩ := hrel
    by_cases hlt : k < 7
    · have hx := idx7 x0 x1 x2 x3 x4 x5 x6 hlt
      have V : Aside (xAt x0 x1 x2 x3 x4 x5 x6 k = xAt x0 x1 x2 x3 x4 x5 x6 k) := rfl
      generalize hv : xAt x0 x1 x2 x3 x4 x5 x6 k = v at hx
      have V : Aside (xAt x0 x1 x2 x3 x4 x5 x6 k = v) := hv
      clear hv
      by_cases hl : k < ks.size
      · have hb := fun w => bounds_any (ks[k].toNat : Int) w (kS_kind hi HK.out hl)
        have O : Aside (opOk i k (xAt x0 x1 x2 x3 x4 x5 x6 k) = (decide (loK (ks[k].toNat : Int) ≤ v) && decide (v ≤ hiK (ks[k].toNat : Int)))) := by rw [V.out, opOk_in HK.out hl]; exact rfl
        go_wp2_with (go_at_call 77; rw [wrap_byte]; refine (hb _).mono ?_; rintro e w' ⟨rfl, rfl⟩)
        all_goals first
          | (go_ret
             refine ⟨?_, (Below.refl _ _).alloc (Nat.le_refl _) _⟩
             rw [HR.out, all_no (k := k) hlt (by rw [O.out]; simp; omega)]
             rfl)
          | (go_round
             case rel => exact ⟨k + 1, by omega, by go_num, all_next A.out (by rw [O.out]; simp; omega)⟩
             case measure => simp [intOf]; omega)
      · have O : Aside (opOk i k (xAt x0 x1 x2 x3 x4 x5 x6 k) = (v == 0)) := by rw [V.out, opOk_out HK.out hl]; exact rfl
        go_wp2
        · go_ret
          refine ⟨?_, (Below.refl _ _).alloc (Nat.le_refl _) _⟩
          rw [HR.out, all_no (k := k) hlt (by rw [O.out]; simp_all)]
          rfl
        · go_round
          case rel => exact ⟨k + 1, by omega, by go_num, all_next A.out (by rw [O.out]; simp_all)⟩
          case measure => simp [intOf]; omega
    · have e : k = 7 := by omega
      subst e
      go_wp2
      go_ret
      refine ⟨?_, (Below.refl _ _).alloc (Nat.le_refl _) _⟩
      rw [HR.out, List.all_eq_true.2 fun j hj => A.out j (List.mem_range.1 hj)]
      rfl
end Go.Proofs.YtblklgcpobbfcaaGreatDoor

namespace Go.Proofs.YtblklgcpobbfcaaGreatDoor
open Go.Eng Go.RowKit
set_option maxRecDepth 1000000

theorem bcell {W w1 : World} (hb : Below W.heap.size W w1) : (∀ b o, b < W.heap.size → w1.cell? ⟨b, o, none⟩ = W.cell? ⟨b, o, none⟩) ∧ (∀ b o, b < W.heap.size → w1.frozen? ⟨b, o, none⟩ = W.frozen? ⟨b, o, none⟩) :=
  ⟨fun b o h => hb.cell (p := ⟨b, o, none⟩) h, fun b o h => hb.frozen (p := ⟨b, o, none⟩) h⟩
theorem Gl.drew {w : World} (h : Gl w) : Gl w.drew := h.below (Below.refl _ _).drew

theorem below_drewN {B : Nat} {a w : World} (h : Below B a w) (n : Nat) : Below B a (w.drewN n) := ⟨h.os, h.tape, h.output, h.size, h.block⟩
abbrev boxO (i x0 x1 x2 x3 x4 x5 x6 : Int) : Obj := .cells #[.int .i64 i, .int .i64 x0, .int .i64 x1, .int .i64 x2, .int .i64 x3, .int .i64 x4, .int .i64 x5, .int .i64 x6] 38
theorem boxX (i x0 x1 x2 x3 x4 x5 x6 : Int) (w w6 : World) (hbb : Below (w.alloc (boxO i x0 x1 x2 x3 x4 x5 x6)).drew.heap.size (w.alloc (boxO i x0 x1 x2 x3 x4 x5 x6)).drew w6) :
    Aside (∀ k, k < 7 → w6.cell? ⟨w.heap.size, 1 + k, none⟩ = some (.int .i64 (xAt x0 x1 x2 x3 x4 x5 x6 k))) ∧ Aside (Below w.heap.size w w6) := by
  have hb : Below w.heap.size w (w.alloc (boxO i x0 x1 x2 x3 x4 x5 x6)).drew := ((Below.refl _ _).alloc (Nat.le_refl _) _).drew
  refine ⟨fun k hk => ?_, hb.trans (hbb.mono hb.size)⟩
  rw [(bcell hbb).1 _ _ (by simp)]
  have e : (w.alloc (boxO i x0 x1 x2 x3 x4 x5 x6)).drew.cell? ⟨w.heap.size, 1 + k, none⟩ = (w.alloc (boxO i x0 x1 x2 x3 x4 x5 x6)).cell? ⟨w.heap.size, 1 + k, none⟩ := rfl
  rw [e, World.cell?_alloc_at _ _ _ _ rfl]
  rcases (show k = 0 ∨ k = 1 ∨ k = 2 ∨ k = 3 ∨ k = 4 ∨ k = 5 ∨ k = 6 by omega) with rfl | rfl | rfl | rfl | rfl | rfl | rfl <;> rfl

set_option maxHeartbeats 4000000 in
theorem rvalid_yes (i : Nat) (hi : i < 27) (x0 x1 x2 x3 x4 x5 x6 : Int) (w : World) (hg : Gl w) :
    Calls Tryz.prog 17 #[insV i x0 x1 x2 x3 x4 x5 x6] w fun e w' => e = .returned (.bool ((List.range 7).all fun j => opOk i j (xAt x0 x1 x2 x3 x4 x5 x6 j))) ∧ Below w.heap.size w w' := by
  have hkn : ∀ w, _ := fun w => is_yes i w (by omega) (by omega)
  have hg0 : Gl (w.alloc (.cells #[.int .i64 i, .int .i64 x0, .int .i64 x1, .int .i64 x2, .int .i64 x3, .int .i64 x4, .int .i64 x5, .int .i64 x6] 38)) := hg.alloc _
  have hb0 : Below w.heap.size w (w.alloc (.cells #[.int .i64 i, .int .i64 x0, .int .i64 x1, .int .i64 x2, .int .i64 x3, .int .i64 x4, .int .i64 x5, .int .i64 x6] 38)) := (Below.refl _ _).alloc (Nat.le_refl _) _
  have HR : ∃ r, r = ((List.range 7).all fun j => opOk i j (xAt x0 x1 x2 x3 x4 x5 x6 j)) := ⟨_, rfl⟩
  obtain ⟨r, hr⟩ := HR
  rw [← hr]
  have HR : Aside (r = ((List.range 7).all fun j => opOk i j (xAt x0 x1 x2 x3 x4 x5 x6 j))) := hr
  clear hr
  have HK : Aside (kS i = ⟨⟨kd i⟩⟩) := rfl
  have hi0 : (0 : Int) ≤ (i : Int) := by omega
  have hi27 : (i : Int) < 27 := by omega
  have HOPS : Hid (∀ w, Gl w → Calls Tryz.prog 11 #[] w fun e w' => ∃ b, e = .returned (.slice (some ⟨b, 0, none⟩) 27 27) ∧ w'.cell? ⟨b, i * 2 + 1, none⟩ = some (.string (kS i)) ∧ Below w.heap.size w w') := Lib.hid fun w hg => by
    refine (all_any w hg).mono ?_
    rintro e w' ⟨b, h1, h2, h3⟩
    refine ⟨b, h1, ?_, h3⟩
    rw [Nat.mul_comm]
    exact h2.cell (2 * i + 1) (by omega)
  generalize kS i = ks at HOPS HK
  go_enter Tryz.func17, Tryz.ntmps17
  go_wp2_with (go_at_call 12; refine (hkn _).mono ?_; rintro e w' ⟨rfl, rfl⟩)
  go_region_with (first | (go_at_call 11; refine (HOPS.out _ (by first | assumption | exact Gl.drew (by assumption))).mono ?_; rintro e w6 ⟨b, rfl, hk, hbb⟩; obtain ⟨hcc, _⟩ := bcell hbb; have hss := hbb.size))
  all_goals
    obtain ⟨HX, HB⟩ := boxX _ _ _ _ _ _ _ _ _ _ hbb
    clear hcc hss hbb hk HOPS hg0 hb0
    go_wp2_with fail
    go_loopw [4] (fun c wr => ∃ k : Nat, k ≤ 7 ∧ c = .int .i64 k ∧ Aside (∀ j, j < k → opOk i j (xAt x0 x1 x2 x3 x4 x5 x6 j) = true) ∧ Aside (∀ k, k < 7 → wr.cell? ⟨w.heap.size, 1 + k, none⟩ = some (.int .i64 (xAt x0 x1 x2 x3 x4 x5 x6 k))) ∧ Aside (Below w.heap.size w wr)) (fun c _ => 7 - (intOf c).toNat)
    case atStart => exact ⟨0, Nat.zero_le _, rfl, fun j hj => absurd hj (Nat.not_lt_zero _), HX, HB⟩
    case round =>
      obtain ⟨k, hk, rfl, A, X, B⟩ := hrel
      by_cases hlt : k < 7
      · have hx := X.out k hlt
        have V : Aside (xAt x0 x1 x2 x3 x4 x5 x6 k = xAt x0 x1 x2 x3 x4 x5 x6 k) := rfl
        generalize hv : xAt x0 x1 x2 x3 x4 x5 x6 k = v at hx
        have V : Aside (xAt x0 x1 x2 x3 x4 x5 x6 k = v) := hv
        clear hv
        have hk0 : (0 : Int) ≤ (k : Int) := by omega
        have hk7 : (k : Int) < 7 := by omega
        by_cases hl : k < ks.size
        · have hl1 : (k : Int) < (ks.size : Int) := by omega
          have hl2 : decide (ks.size ≤ k) = false := by simp; omega
          have hl5 : ¬ (ks.size ≤ k) := by omega
          have O : Aside (opOk i k (xAt x0 x1 x2 x3 x4 x5 x6 k) = okV (ks[k].toNat : Int) v) := by rw [V.out]; exact opOk_in HK.out hl v
          have hin := fun w => within_any (ks[k].toNat : Int) v w (kS_kind hi HK.out hl)
          cases ho : okV (ks[k].toNat : Int) v
          · rw [ho] at O
            simp only [ho] at hin
            clear ho
            go_wp2_with fail
            go_quiet ((go_at_call 40; refine Calls.quiet_of_same (hin _)))
            go_wp2
            go_ret
            exact ⟨by rw [HR.out, all_no (k := k) hlt (by rw [O.out])]; rfl, below_drewN B.out _⟩
          · rw [ho] at O
            simp only [ho] at hin
            clear ho
            go_wp2_with fail
            go_quiet ((go_at_call 40; refine Calls.quiet_of_same (hin _)))
            go_wp2
            go_roundw
            case rel => exact ⟨k + 1, by omega, by go_num, all_next A.out (by rw [O.out]), fun k hk => X.out k hk, below_drewN B.out _⟩
            case measure => simp [intOf]; omega
        · have hl1 : decide (k < ks.size) = false := by simp; omega
          have hl2 : ks.size ≤ k := by omega
          have hl4 : (ks.size : Int) ≤ (k : Int) := by omega
          have O : Aside (opOk i k (xAt x0 x1 x2 x3 x4 x5 x6 k) = (v == 0)) := by rw [V.out]; exact opOk_out HK.out hl v
          go_wp2_with fail
          go_quiet (fail)
          go_wp2
          · go_ret
            exact ⟨by rw [HR.out, all_no (k := k) hlt (by rw [O.out]; simp_all)]; rfl, below_drewN B.out _⟩
          · go_roundw
            case rel => exact ⟨k + 1, by omega, by go_num, all_next A.out (by rw [O.out]; simp_all), fun k hk => X.out k hk, below_drewN B.out _⟩
            case measure => simp [intOf]; omega
      · have e : k = 7 := by omega
        subst e
        go_wp2
        go_ret
        exact ⟨by rw [HR.out, List.all_eq_true.2 fun j hj => A.out j (List.mem_range.1 hj)]; rfl, B.out⟩
end Go.Proofs.YtblklgcpobbfcaaGreatDoor
