/- What Name, Kinds, Size, Op and the table of the reference return; the law BytesOperations returns true for every operation and every name. Conditions: none. -/
import Derived.Test.YtmmopjgbckkljaaGreatDoorRows
import Derived.KernelRfl
import Derived.WalkKit
import Derived.Test.YtmmopjgbckkljaaGreatDoorBa
import Derived.Lib.SlBy
import Derived.Deep.LoopGhost
import Derived.Deep.Draws
import Derived.Shelf.Abstract
import Derived.Shelf.RegionOpenPlain
import Derived.Lib.SliceRun
import Derived.Laws.Cells
import Derived.Below
set_option linter.all false
namespace Go.Proofs.YtmmopjgbckkljaaGreatDoor
open Go.Eng Go.RowKit
set_option maxRecDepth 1000000

/-- The package-level variable that the code reads, as it was laid. -/
def Gl (w : World) : Prop :=
  ∃ (arr : Array Value) (e : TypeId) (lohi : Nat × Nat), w.heap[0]? = some (.cells arr e lohi) ∧ Rl opsL arr.toList

theorem gl_of_laid {W : World} (h : laidMetH Tryz.prog Rows.bytesOperationsRow.laid W) : Gl W := by
  obtain ⟨ps, hl, _⟩ : laidMet Tryz.prog Rows.bytesOperationsRow.laid W := h
  exact laid_at (name := "soroban/bytes.operations") hl (.tail _ (.tail _ (.tail _ (.tail _ (.tail _ (.tail _ (.tail _ (.tail _ (.head _))))))))) (by kernel_rfl) (by kernel_rfl) opsL_some

theorem Gl.below {w w' : World} (h : Gl w) (hb : Below w.heap.size w w') : Gl w' := by
  obtain ⟨a, e, l, h1, h2⟩ := h
  exact ⟨a, e, l, by rw [hb.block 0 (Array.getElem?_eq_some_iff.1 h1).1]; exact h1, h2⟩
theorem Gl.alloc {w : World} (h : Gl w) (o : Obj) : Gl (w.alloc o) := h.below ((Below.refl _ _).alloc (Nat.le_refl _) _)

theorem Gl.rel {w : World} (h : Gl w) : ∃ e0, WRel Tryz.prog (globEmb Tryz.prog) (G0 e0) w := by
  obtain ⟨a0, e0, l0, h1, h2⟩ := h
  refine ⟨e0, wrel_globals (by kernel_rfl) fun g blk hg e => ?_⟩
  have get : ∀ b, (G0 e0).get b = if b = 0 then some (.cells opsL e0 .sh) else none := by
    intro b
    show Tr.get (path b) (Tr.put (path 0) _ .leaf) = _
    by_cases h0 : b = 0
    · subst h0; rw [Go.Eng.Tr.get_put_self]; simp
    · rw [Go.Eng.Tr.get_put_ne _ _ _ _ (path_ne h0), if_neg h0, Go.Eng.Tr.get_leaf]
  rw [get] at e
  split at e
  · rename_i hg0
    subst hg0
    cases e
    exact ⟨_, _, rfl, a0, l0, h1, fun i v hv => by simpa using h2 i v hv⟩
  · cases e

theorem sane_any (w : World) (h : Gl w) : Calls Tryz.prog 11 #[] w fun e w' => e = .returned (.bool true) ∧ Below w.heap.size w w' := by
  obtain ⟨e0, hw⟩ := h.rel
  obtain ⟨H', ht, hl⟩ := run_ret e0
  refine (top_below fits (f := 11) (args' := #[]) hw .nil ht hl).mono fun e w' ⟨x, ρ', hx, he, _, hb⟩ => ?_
  cases hx
  exact ⟨he, hb⟩

/-- A closed call. -/
theorem closed {f : FuncId} {args : List AVal} {args' : Array Value} {n : Nat} {v : AVal} {y : Value} (w : World) (h : Gl w) (ha : ∀ ρ, VRels ρ args args'.toList)
    (hr : ∀ e0, outOf 11 (topF Tryz.prog (cfun Tryz.prog f) args (G0 e0) (tabF Tryz.prog n)) = some (v, true)) (hv : toVal v = some y) :
    Calls Tryz.prog f args' w fun e w' => e = .returned y ∧ Below w.heap.size w w' := by
  obtain ⟨e0, hw⟩ := h.rel
  exact call_plain fits hw (ha _) (hr e0) hv
end Go.Proofs.YtmmopjgbckkljaaGreatDoor

namespace Go.Proofs.YtmmopjgbckkljaaGreatDoor
open Go.Eng Go.RowKit
set_option maxRecDepth 1000000

/-- A text of the table. -/
noncomputable def strAt (l : List AVal) (i : Nat) : List UInt8 := match l[i]? with
  | some (.str s) => s
  | _ => []
noncomputable def nm (i : Nat) : List UInt8 := strAt opsL (2 * i)
noncomputable def kd (i : Nat) : List UInt8 := strAt opsL (2 * i + 1)
def sz (i : Nat) : Int := [1, 4, 6, 3, 3, 3, 3, 3, 5, 5, 6, 4, 4, 3, 3, 3, 3, 3, 8, 4, 2, 2, 3, 4, 1, 3, 3].getD i 0

theorem of_map {α : Type} {f g : Nat → α} {n : Nat} (h : (List.range n).map f = (List.range n).map g) {i : Nat} (hi : i < n) : f i = g i :=
  List.map_inj_left.1 h i (List.mem_range.2 hi)

theorem name_runs (e0 : TypeId) : (List.range 27).map (fun i => outOf 11 (topF Tryz.prog (cfun Tryz.prog 5) [.int .i64 (Int.ofNat i)] (G0 e0) (tabF Tryz.prog 20))) = (List.range 27).map (fun i => some (.tuple [.str (nm i), .int .i64 0], true)) := by kernel_rfl
theorem kinds_runs (e0 : TypeId) : (List.range 27).map (fun i => outOf 11 (topF Tryz.prog (cfun Tryz.prog 6) [.int .i64 (Int.ofNat i)] (G0 e0) (tabF Tryz.prog 20))) = (List.range 27).map (fun i => some (.tuple [.str (kd i), .int .i64 0], true)) := by kernel_rfl
theorem size_runs (e0 : TypeId) : (List.range 27).map (fun i => outOf 11 (topF Tryz.prog (cfun Tryz.prog 7) [.int .i64 (Int.ofNat i)] (G0 e0) (tabF Tryz.prog 100))) = (List.range 27).map (fun i => some (.tuple [.int .i64 (sz i), .int .i64 0], true)) := by kernel_rfl
theorem rsize_runs (e0 : TypeId) : (List.range 27).map (fun i => outOf 11 (topF Tryz.prog (cfun Tryz.prog 12) [.int .i64 (Int.ofNat i)] (G0 e0) (tabF Tryz.prog 100))) = (List.range 27).map (fun i => some (.int .i64 (sz i), true)) := by kernel_rfl
end Go.Proofs.YtmmopjgbckkljaaGreatDoor

namespace Go.Proofs.YtmmopjgbckkljaaGreatDoor
open Go.Eng Go.RowKit
set_option maxRecDepth 1000000

theorem in27 {op : Int} (h0 : 0 ≤ op) (h : op < 27) : ∃ i : Nat, i < 27 ∧ op = Int.ofNat i ∧ op.toNat = i := ⟨op.toNat, by omega, by simp; omega, rfl⟩

theorem toValStr (s : List UInt8) (n : Int) : toVal (.tuple [.str s, .int .i64 n]) = some (.tuple #[.string ⟨⟨s⟩⟩, .int .i64 n]) := rfl
theorem toValInt (s : Int) (n : Int) : toVal (.tuple [.int .i64 s, .int .i64 n]) = some (.tuple #[.int .i64 s, .int .i64 n]) := rfl

theorem name_yes (op : Int) (w : World) (hg : Gl w) (h0 : 0 ≤ op) (h : op < 27) :
    Calls Tryz.prog 5 #[.int .i64 op] w fun e w' => e = .returned (.tuple #[.string ⟨⟨nm op.toNat⟩⟩, .int .i64 0]) ∧ Below w.heap.size w w' := by
  obtain ⟨i, hi, rfl, e⟩ := in27 h0 h
  rw [e]
  exact closed w hg (fun ρ => .cons (.int _ _) .nil) (fun e0 => of_map (name_runs e0) hi) (toValStr _ _)
theorem kinds_yes (op : Int) (w : World) (hg : Gl w) (h0 : 0 ≤ op) (h : op < 27) :
    Calls Tryz.prog 6 #[.int .i64 op] w fun e w' => e = .returned (.tuple #[.string ⟨⟨kd op.toNat⟩⟩, .int .i64 0]) ∧ Below w.heap.size w w' := by
  obtain ⟨i, hi, rfl, e⟩ := in27 h0 h
  rw [e]
  exact closed w hg (fun ρ => .cons (.int _ _) .nil) (fun e0 => of_map (kinds_runs e0) hi) (toValStr _ _)
theorem size_yes (op : Int) (w : World) (hg : Gl w) (h0 : 0 ≤ op) (h : op < 27) :
    Calls Tryz.prog 7 #[.int .i64 op] w fun e w' => e = .returned (.tuple #[.int .i64 (sz op.toNat), .int .i64 0]) ∧ Below w.heap.size w w' := by
  obtain ⟨i, hi, rfl, e⟩ := in27 h0 h
  rw [e]
  exact closed w hg (fun ρ => .cons (.int _ _) .nil) (fun e0 => of_map (size_runs e0) hi) (toValInt _ _)
theorem rsize_yes (op : Int) (w : World) (hg : Gl w) (h0 : 0 ≤ op) (h : op < 27) :
    Calls Tryz.prog 12 #[.int .i64 op] w fun e w' => e = .returned (.int .i64 (sz op.toNat)) ∧ Below w.heap.size w w' := by
  obtain ⟨i, hi, rfl, e⟩ := in27 h0 h
  rw [e]
  exact closed w hg (fun ρ => .cons (.int _ _) .nil) (fun e0 => of_map (rsize_runs e0) hi) rfl

theorem known_no (op : Int) (w : World) (h : op < 0 ∨ 27 ≤ op) : Calls Tryz.prog 18 #[.int .i64 op] w fun e w' => e = .returned (.bool false) ∧ w' = w := by
  rcases h with h | h
  all_goals
    go_enter Tryz.func18, Tryz.ntmps18
    go_wp2
    go_ret
    exact ⟨by simp <;> omega, rfl⟩
theorem is_no (op : Int) (w : World) (h : op < 0 ∨ 27 ≤ op) : Calls Tryz.prog 10 #[.int .i64 op] w fun e w' => e = .returned (.bool false) ∧ w' = w := by
  rcases h with h | h
  all_goals
    go_enter Tryz.func10, Tryz.ntmps10
    go_wp2
    go_ret
    exact ⟨by simp <;> omega, rfl⟩
theorem is_yes (op : Int) (w : World) (h0 : 0 ≤ op) (h : op < 27) : Calls Tryz.prog 10 #[.int .i64 op] w fun e w' => e = .returned (.bool true) ∧ w' = w := by
  go_enter Tryz.func10, Tryz.ntmps10
  go_wp2
  go_ret
  exact ⟨by simp; omega, rfl⟩
theorem name_no (op : Int) (w : World) (h : op < 0 ∨ 27 ≤ op) : Calls Tryz.prog 5 #[.int .i64 op] w fun e w' => e = .returned (.tuple #[.string ByteArray.empty, .int .i64 1]) ∧ w' = w := by
  have hk := known_no op w h
  clear h
  go_enter Tryz.func5, Tryz.ntmps5
  go_wp2_with fail
  refine hk.mono ?_
  rintro e w1 ⟨rfl, rfl⟩
  go_wp2
  go_ret2
  exact ⟨rfl, rfl⟩
theorem kinds_no (op : Int) (w : World) (h : op < 0 ∨ 27 ≤ op) : Calls Tryz.prog 6 #[.int .i64 op] w fun e w' => e = .returned (.tuple #[.string ByteArray.empty, .int .i64 1]) ∧ w' = w := by
  have hk := known_no op w h
  clear h
  go_enter Tryz.func6, Tryz.ntmps6
  go_wp2_with fail
  refine hk.mono ?_
  rintro e w1 ⟨rfl, rfl⟩
  go_wp2
  go_ret2
  exact ⟨rfl, rfl⟩
theorem size_no (op : Int) (w : World) (h : op < 0 ∨ 27 ≤ op) : Calls Tryz.prog 7 #[.int .i64 op] w fun e w' => e = .returned (.tuple #[.int .i64 0, .int .i64 1]) ∧ w' = w := by
  have hk := known_no op w h
  clear h
  go_enter Tryz.func7, Tryz.ntmps7
  go_wp2_with fail
  refine hk.mono ?_
  rintro e w1 ⟨rfl, rfl⟩
  go_wp2
  go_ret2
  exact ⟨rfl, rfl⟩
end Go.Proofs.YtmmopjgbckkljaaGreatDoor

namespace Go.Proofs.YtmmopjgbckkljaaGreatDoor
open Go.Eng Go.RowKit Go.Shelf Go.Lib
set_option maxRecDepth 1000000

theorem opsL_at (i : Nat) (hi : i < 54) : opsL[i]? = some (.str (strAt opsL i)) :=
  of_map (f := fun i => opsL[i]?) (g := fun i => some (.str (strAt opsL i))) (n := 54) (by kernel_rfl) hi

/-- The two texts of an operation. -/
noncomputable def encO (i : Nat) : List Value := [.string ⟨⟨nm i⟩⟩, .string ⟨⟨kd i⟩⟩]

theorem Gl.cell {w : World} (h : Gl w) {i : Nat} (hi : i < 54) : w.cell? ⟨0, i, none⟩ = some (.string ⟨⟨strAt opsL i⟩⟩) := by
  obtain ⟨arr, e, lohi, h1, h2⟩ := h
  obtain ⟨x, h3, h4⟩ := h2 i _ (opsL_at i hi)
  cases h4
  simp only [World.cell?, h1]
  simpa using h3

/-- A name as a list of bytes. -/
noncomputable def sB (i : Nat) : List UInt8 := (⟨⟨nm i⟩⟩ : ByteArray).toList

theorem eq21 (name a b : ByteArray) (B : Nat) (w W : World) (hB : B < w.heap.size) (hcell : w.cell? ⟨B, 0, none⟩ = some (.string name)) (hb : Below w.heap.size w W) :
    Calls Tryz.prog 21 #[.agg #[.string a, .string b], .pointer (some ⟨B, 0, none⟩)] W fun e w' => e = .returned (.bool (a.toList == name.toList)) ∧ Below w.heap.size w w' := by
  have hc : W.cell? ⟨B, 0, none⟩ = some (.string name) := (hb.cell (p := ⟨B, 0, none⟩) hB).trans hcell
  have hBW : B < W.heap.size := Nat.lt_of_lt_of_le hB hb.size
  have hne : B ≠ W.heap.size := by omega
  go_enter Tryz.func21, Tryz.ntmps21
  go_wp2
  go_ret
  exact ⟨rfl, hb.alloc hb.size _⟩

theorem enters21 : ∀ args w, (callFunc 21 args).run Tryz.prog w = .ok (.enter 21 args) w := enters_of Tryz.func21 (by kernel_rfl) rfl

theorem range_at {j : Nat} (hj : j < 27) : (List.range 27)[j]! = j := by simp [hj]

set_option maxHeartbeats 2000000 in
theorem idx_walk (name : ByteArray) (B : Nat) (w : World) (hg : Gl w) (h0 : 0 < w.heap.size) (hB : B < w.heap.size) (hcell : w.cell? ⟨B, 0, none⟩ = some (.string name)) :
    Calls Tryz.prog 20 #[.slice (some ⟨0, 0, none⟩) 27 27, .func (.func 21) #[] #[.pointer (some ⟨B, 0, none⟩)]] w fun e w' =>
      e = .returned (.int .i64 (Lib.idxBy (fun _ y => sB y == name.toList) ((List.range 27).take 27) default)) ∧ Below w.heap.size w w' := by
  have hp := fun (W : World) (a b : ByteArray) (hb : Below w.heap.size w W) => eq21 name a b B w W hB hcell hb
  have hE := enters21
  have hrow : ∀ (W : World), Below w.heap.size w W → ∀ j, j < 27 → W.cell? ⟨0, j * 2, none⟩ = some (.string ⟨⟨nm j⟩⟩) ∧ W.cell? ⟨0, j * 2 + 1, none⟩ = some (.string ⟨⟨kd j⟩⟩) := fun W hW j hj => by
    rw [hW.cell (p := ⟨0, j * 2, none⟩) h0, hW.cell (p := ⟨0, j * 2 + 1, none⟩) h0, Nat.mul_comm]
    exact ⟨hg.cell (by omega), hg.cell (by omega)⟩
  have HP : Aside (∀ (W : World) (a b : ByteArray), Below w.heap.size w W → Calls Tryz.prog 21 #[.agg #[.string a, .string b], .pointer (some ⟨B, 0, none⟩)] W fun e w' => e = .returned (.bool (a.toList == name.toList)) ∧ Below w.heap.size w w') := hp
  have HR : Aside (∀ (W : World), Below w.heap.size w W → ∀ j, j < 27 → W.cell? ⟨0, j * 2, none⟩ = some (.string ⟨⟨nm j⟩⟩) ∧ W.cell? ⟨0, j * 2 + 1, none⟩ = some (.string ⟨⟨kd j⟩⟩)) := hrow
  clear hp hrow hcell
  go_enter Tryz.func20, Tryz.ntmps20
  go_wp2
  go_loopg [5, 8] 27 (fun gg _ s8 wr => ∃ kk : Nat, kk ≤ 27 ∧ 27 - kk ≤ gg ∧ s8 = .int .i64 kk ∧ Aside (Below w.heap.size w wr) ∧ Aside (∀ j, j < kk → (sB (List.range 27)[j]! == name.toList) = false))
  case atStart => exact ⟨0, Nat.zero_le _, by omega, rfl, Below.refl _ w, fun j hj => absurd hj (Nat.not_lt_zero _)⟩
  case round =>
    obtain ⟨kk, hkk, hgg, rfl, BW, A⟩ := hrel
    by_cases hlt : kk < 27
    · have hltz : (kk : Int) < 27 := by omega
      obtain ⟨c0, c1⟩ := HR.out wr BW.out kk hlt
      have hcall := HP.out wr ⟨⟨nm kk⟩⟩ ⟨⟨kd kk⟩⟩ BW.out
      have HS : Aside (sB (List.range 27)[kk]! = (⟨⟨nm kk⟩⟩ : ByteArray).toList) := by rw [range_at hlt]; exact rfl
      generalize (⟨⟨nm kk⟩⟩ : ByteArray) = a at c0 hcall HS
      generalize (⟨⟨kd kk⟩⟩ : ByteArray) = b at c1 hcall
      cases hq : (a.toList == name.toList) with
      | true =>
        rw [hq] at hcall
        have HQ : Aside ((a.toList == name.toList) = true) := hq
        clear hq
        go_wp2_with (go_at_fn 21; refine hcall.mono ?_; rintro e w' ⟨rfl, hb'⟩)
        go_ret
        refine ⟨?_, hb'⟩
        rw [Lib.idxBy_hit (fun _ y => sB y == name.toList) (List.range 27) 27 kk default hlt (by simp) (by show (sB (List.range 27)[kk]! == name.toList) = true; rw [HS.out]; exact HQ.out) A.out]
        rfl
      | false =>
        rw [hq] at hcall
        have HQ : Aside ((a.toList == name.toList) = false) := hq
        clear hq
        go_wp2_with (go_at_fn 21; refine hcall.mono ?_; rintro e w' ⟨rfl, hb'⟩)
        go_roundg (27 - (kk + 1))
        case measure => omega
        case rel =>
          refine ⟨kk + 1, by omega, by omega, by go_num, hb', (show Aside _ from fun j hj => ?_)⟩
          by_cases e : j = kk
          · subst e
            rw [HS.out]; exact HQ.out
          · exact A.out j (by omega)
    · have : kk = 27 := by omega
      subst this
      go_wp2
      go_ret
      refine ⟨?_, BW.out⟩
      rw [Lib.idxBy_miss (fun _ y => sB y == name.toList) (List.range 27) 27 default A.out]
      rfl

theorem idx_any (name : ByteArray) (w : World) (hg : Gl w) (hs : 0 < w.heap.size) {r : Int} (hr : Lib.idxBy (fun _ y => sB y == name.toList) ((List.range 27).take 27) default = r) :
    Calls Tryz.prog 20 #[.slice (some ⟨0, 0, none⟩) 27 27, .func (.func 21) #[] #[.pointer (some ⟨w.heap.size, 0, none⟩)]] (w.alloc (.cells #[.string name] 9)) fun e w' => e = .returned (.int .i64 r) ∧ Below (w.heap.size + 1) (w.alloc (.cells #[.string name] 9)) w' := by
  subst hr
  simpa using idx_walk name w.heap.size (w.alloc (.cells #[.string name] 9)) (hg.alloc _) (by simp) (by simp) (by simp)

set_option maxHeartbeats 1000000 in
theorem op_hit (name : ByteArray) (w : World) (hg : Gl w) (hs : 0 < w.heap.size) {k : Nat} (hr : Lib.idxBy (fun _ y => sB y == name.toList) ((List.range 27).take 27) default = k) :
    Calls Tryz.prog 8 #[.string name] w fun e w' => e = .returned (.tuple #[.int .i64 k, .int .i64 0]) ∧ Below w.heap.size w w' := by
  have hcon := idx_any name w hg hs hr
  clear hr
  have hk : ¬ ((k : Int) < 0) := by omega
  go_enter Tryz.func8, Tryz.ntmps8
  go_wp2_with (go_at_call 20; refine hcon.mono ?_; rintro e w' ⟨rfl, hb'⟩)
  go_ret2
  exact ⟨rfl, ((Below.refl _ w).alloc (Nat.le_refl _) _).trans (hb'.mono (by simp))⟩

set_option maxHeartbeats 1000000 in
theorem op_miss (name : ByteArray) (w : World) (hg : Gl w) (hs : 0 < w.heap.size) (hr : Lib.idxBy (fun _ y => sB y == name.toList) ((List.range 27).take 27) default = -1) :
    Calls Tryz.prog 8 #[.string name] w fun e w' => e = .returned (.tuple #[.int .i64 0, .int .i64 1]) ∧ Below w.heap.size w w' := by
  have hcon := idx_any name w hg hs hr
  clear hr
  go_enter Tryz.func8, Tryz.ntmps8
  go_wp2_with (go_at_call 20; refine hcon.mono ?_; rintro e w' ⟨rfl, hb'⟩)
  go_ret2
  exact ⟨rfl, ((Below.refl _ w).alloc (Nat.le_refl _) _).trans (hb'.mono (by simp))⟩
end Go.Proofs.YtmmopjgbckkljaaGreatDoor

namespace Go.Proofs.YtmmopjgbckkljaaGreatDoor
open Go.Eng Go.RowKit
set_option maxRecDepth 1000000

/-- A run that comes to a slice, with the cells of its block. -/
noncomputable def sliceOut (n : Nat) : ER → Option (AVal × List AVal × Bool)
  | .ret (.slice b o l c z x) H' => match H'.get b with
    | some (.cells cs _ _) => some (.slice b o l c z x, cs, Nat.ble n H'.low && Nat.blt b H'.next)
    | _ => none
  | _ => none

theorem sliceOut_ret {n : Nat} {r : ER} {v : AVal} {cs : List AVal} (h : sliceOut n r = some (v, cs, true)) :
    ∃ b o l c z x H' t wr, r = .ret (.slice b o l c z x) H' ∧ v = .slice b o l c z x ∧ H'.get b = some (.cells cs t wr) ∧ n ≤ H'.low ∧ b < H'.next := by
  unfold sliceOut at h
  split at h
  · rename_i b o l c z x H'
    split at h
    · rename_i cs' t wr hc
      simp only [Option.some.injEq, Prod.mk.injEq, Bool.and_eq_true] at h
      obtain ⟨rfl, rfl, h1, h2⟩ := h
      exact ⟨_, _, _, _, _, _, _, _, _, rfl, rfl, hc, Nat.le_of_ble_eq_true h1, Nat.le_of_ble_eq_true h2⟩
    · cases h
  · cases h

theorem ops_run (e0 : TypeId) : sliceOut 11 (topF Tryz.prog (cfun Tryz.prog 9) [] (G0 e0) (tabF Tryz.prog 20)) = some (.slice 11 0 27 27 2 true, opsL, true) := by kernel_rfl

/-- A block that holds the operations. -/
structure Ops (b : Nat) (w : World) : Prop where
  cell : ∀ i, i < 54 → w.cell? ⟨b, i, none⟩ = some (.string ⟨⟨strAt opsL i⟩⟩)
  sz : b < w.heap.size

theorem Ops.below {b : Nat} {w w' : World} (h : Ops b w) (hb : Below w.heap.size w w') : Ops b w' :=
  ⟨fun i hi => (hb.cell (p := ⟨b, i, none⟩) h.sz).trans (h.cell i hi), Nat.lt_of_lt_of_le h.sz hb.size⟩

theorem all_any (w : World) (hg : Gl w) : Calls Tryz.prog 9 #[] w fun e w' => ∃ b, e = .returned (.slice (some ⟨b, 0, none⟩) 27 27) ∧ Ops b w' ∧ Below w.heap.size w w' := by
  obtain ⟨e0, hw⟩ := hg.rel
  obtain ⟨b, o, l, c, z, x, H', t, wr, h1, h2, h3, h4, h5⟩ := sliceOut_ret (ops_run e0)
  cases h2
  rw [topF_eq, tabF_eq] at h1
  refine (top_below fits (f := 9) (args' := #[]) hw .nil h1 h4).mono fun e w' ⟨x, ρ', hx, he, hw', hb⟩ => ?_
  cases hx with
  | slice hp hl hc hex hr =>
    rename_i cap' p
    obtain rfl := hex rfl
    obtain ⟨p', o, hp', ho, hB⟩ := hw'.blocks 11 _ h5 h3
    rw [hp] at hp'
    cases hp'
    cases hB with
    | cells hd hc' hwr =>
      rename_i arr lo hi
      rw [hd] at he
      refine ⟨p.r, he, ⟨fun i hi => ?_, (Array.getElem?_eq_some_iff.1 ho).1⟩, hb⟩
      obtain ⟨x, e3, e4⟩ := hc' i _ (opsL_at i hi)
      cases e4
      rw [hd, Nat.zero_add] at e3
      simp only [World.cell?, ho]
      simpa using e3
end Go.Proofs.YtmmopjgbckkljaaGreatDoor

namespace Go.Proofs.YtmmopjgbckkljaaGreatDoor
open Go.Eng Go.RowKit
set_option maxRecDepth 1000000

theorem step {w a b : World} (h : Below w.heap.size w a) (k : Below a.heap.size a b) : Below w.heap.size w b := h.trans (k.mono h.size)

set_option maxHeartbeats 2000000 in
theorem law_no_miss (op : Int) (name : ByteArray) (w : World) (hg : Gl w) (hs : 0 < w.heap.size) (h : op < 0 ∨ 27 ≤ op)
    (hr : Lib.idxBy (fun _ y => sB y == name.toList) ((List.range 27).take 27) default = -1) (hne : ∀ i, i < 27 → (sB i == name.toList) = false) :
    Calls Tryz.prog 3 #[.int .i64 op, .string name] w fun e w' => e = .returned (.bool true) ∧ Below w.heap.size w w' := by
  have h1 := name_no op w h
  have h2 := kinds_no op w h
  have h3 := size_no op w h
  have h4 := op_miss name w hg hs hr
  have HO : Aside (op < 0 ∨ 27 ≤ op) := h
  have HN : Aside (∀ i, i < 27 → (sB i == name.toList) = false) := hne
  clear h hr hne
  go_enter Tryz.func3, Tryz.ntmps3
  go_wp2_with (first | (go_at_call 5; refine h1.mono ?_; rintro e w' ⟨rfl, rfl⟩) | (go_at_call 6; refine h2.mono ?_; rintro e w' ⟨rfl, rfl⟩) | (go_at_call 7; refine h3.mono ?_; rintro e w' ⟨rfl, rfl⟩) | (go_at_call 8; refine h4.mono ?_; rintro e w1 ⟨rfl, hb1⟩) | (go_at_call 9; refine (all_any _ (hg.below hb1)).mono ?_; rintro e w2 ⟨b, rfl, O, hb2⟩))
  go_loop [14, 15] (fun f i => ∃ k : Nat, k ≤ 27 ∧ i = .int .i64 k ∧ f = .int .i64 (-1)) (fun _ i => 27 - (intOf i).toNat)
  case atStart => exact ⟨0, Nat.zero_le _, rfl, rfl⟩
  case round =>
    obtain ⟨k, hk, rfl, rfl⟩ := hrel
    by_cases hlt : k < 27
    · have hc : w2.cell? ⟨b, k * 2, none⟩ = some (.string ⟨⟨nm k⟩⟩) := by rw [Nat.mul_comm]; exact O.cell (2 * k) (by omega)
      have hq : ((⟨⟨nm k⟩⟩ : ByteArray).toList == name.toList) = false := HN.out k hlt
      generalize (⟨⟨nm k⟩⟩ : ByteArray) = a at hc hq
      go_wp2
      go_round
      case rel => exact ⟨k + 1, by omega, by go_num, rfl⟩
      case measure => simp [intOf]; omega
    · have e : k = 27 := by omega
      subst e
      go_wp2_with (first | (go_at_call 10; refine (is_no op _ HO.out).mono ?_; rintro e w' ⟨rfl, rfl⟩) | (go_at_call 11; refine (sane_any _ ((hg.below hb1).below hb2)).mono ?_; rintro e w3 ⟨rfl, hb3⟩))
      go_ret
      exact ⟨rfl, step (step hb1 hb2) hb3⟩

theorem vstep_eq {k q : Nat} (h : k = q) : Aside ((k : Int) = if q < k + 1 then (q : Int) else -1) := by
  show (k : Int) = _
  rw [if_pos (by omega), h]
theorem vstep_ne {k q : Nat} {v : Int} (h : k ≠ q) (V : v = if q < k then (q : Int) else -1) : Aside (v = if q < k + 1 then (q : Int) else -1) := by
  show v = _
  rw [V]
  by_cases h' : q < k
  · rw [if_pos h', if_pos (by omega)]
  · rw [if_neg h', if_neg (by omega)]

set_option maxHeartbeats 2000000 in
theorem law_no_hit (op : Int) (name : ByteArray) (w : World) (hg : Gl w) (hs : 0 < w.heap.size) (h : op < 0 ∨ 27 ≤ op) (q : Nat) (hq : q < 27)
    (hr : Lib.idxBy (fun _ y => sB y == name.toList) ((List.range 27).take 27) default = q) (hne : ∀ i, i < 27 → (sB i == name.toList) = decide (i = q)) :
    Calls Tryz.prog 3 #[.int .i64 op, .string name] w fun e w' => e = .returned (.bool true) ∧ Below w.heap.size w w' := by
  have h1 := name_no op w h
  have h2 := kinds_no op w h
  have h3 := size_no op w h
  have h4 := op_hit name w hg hs hr
  have HO : Aside (op < 0 ∨ 27 ≤ op) := h
  have HN : Aside (∀ i, i < 27 → (sB i == name.toList) = decide (i = q)) := hne
  clear h hr hne
  go_enter Tryz.func3, Tryz.ntmps3
  go_wp2_with (first | (go_at_call 5; refine h1.mono ?_; rintro e w' ⟨rfl, rfl⟩) | (go_at_call 6; refine h2.mono ?_; rintro e w' ⟨rfl, rfl⟩) | (go_at_call 7; refine h3.mono ?_; rintro e w' ⟨rfl, rfl⟩) | (go_at_call 8; refine h4.mono ?_; rintro e w1 ⟨rfl, hb1⟩) | (go_at_call 9; refine (all_any _ (hg.below hb1)).mono ?_; rintro e w2 ⟨b, rfl, O, hb2⟩))
  go_loop [14, 15] (fun f i => ∃ (k : Nat) (v : Int), k ≤ 27 ∧ i = .int .i64 k ∧ f = .int .i64 v ∧ Aside (v = if q < k then (q : Int) else -1)) (fun _ i => 27 - (intOf i).toNat)
  case atStart => exact ⟨0, -1, Nat.zero_le _, rfl, rfl, by rw [if_neg (by omega)]; exact rfl⟩
  case round =>
    obtain ⟨k, v, hk, rfl, rfl, V⟩ := hrel
    by_cases hlt : k < 27
    · have hc : w2.cell? ⟨b, k * 2, none⟩ = some (.string ⟨⟨nm k⟩⟩) := by rw [Nat.mul_comm]; exact O.cell (2 * k) (by omega)
      by_cases e : k = q
      · have hq : ((⟨⟨nm k⟩⟩ : ByteArray).toList == name.toList) = true := (HN.out k hlt).trans (decide_eq_true e)
        have E : Aside (k = q) := e
        clear e
        generalize (⟨⟨nm k⟩⟩ : ByteArray) = a at hc hq
        go_wp2
        go_round
        case rel => exact ⟨k + 1, k, by omega, by go_num, rfl, vstep_eq E.out⟩
        case measure => simp [intOf]; omega
      · have hq : ((⟨⟨nm k⟩⟩ : ByteArray).toList == name.toList) = false := (HN.out k hlt).trans (decide_eq_false e)
        have E : Aside (k ≠ q) := e
        clear e
        generalize (⟨⟨nm k⟩⟩ : ByteArray) = a at hc hq
        go_wp2
        go_round
        case rel => exact ⟨k + 1, v, by omega, by go_num, rfl, vstep_ne E.out V.out⟩
        case measure => simp [intOf]; omega
    · have e : k = 27 := by omega
      subst e
      obtain rfl : v = q := by rw [V.out, if_pos hq]
      clear V
      have hq0 : ¬ ((q : Int) < 0) := by omega
      go_wp2_with (first | (go_at_call 10; refine (is_no op _ HO.out).mono ?_; rintro e w' ⟨rfl, rfl⟩) | (go_at_call 11; refine (sane_any _ ((hg.below hb1).below hb2)).mono ?_; rintro e w3 ⟨rfl, hb3⟩))
      go_ret
      exact ⟨rfl, step (step hb1 hb2) hb3⟩
end Go.Proofs.YtmmopjgbckkljaaGreatDoor

namespace Go.Proofs.YtmmopjgbckkljaaGreatDoor
open Go.Eng Go.RowKit
set_option maxRecDepth 1000000

/-- The texts of an operation, and what is known of them by name alone. -/
noncomputable def nS (i : Nat) : ByteArray := ⟨⟨nm i⟩⟩
noncomputable def kS (i : Nat) : ByteArray := ⟨⟨kd i⟩⟩

set_option maxHeartbeats 2000000 in
theorem law_yes_miss (i : Nat) (hi : i < 27) (name : ByteArray) (w : World) (hg : Gl w) (hs : 0 < w.heap.size) 
    (hr : Lib.idxBy (fun _ y => sB y == name.toList) ((List.range 27).take 27) default = -1) (hne : ∀ j, j < 27 → (sB j == name.toList) = false) :
    Calls Tryz.prog 3 #[.int .i64 (i : Int), .string name] w fun e w' => e = .returned (.bool true) ∧ Below w.heap.size w w' := by
  have h1 : ∀ w : World, Gl w → Calls Tryz.prog 5 #[.int .i64 (i : Int)] w fun e w' => e = .returned (.tuple #[.string (nS i), .int .i64 0]) ∧ Below w.heap.size w w' := fun w h => name_yes i w h (by omega) (by omega)
  have h2 : ∀ w : World, Gl w → Calls Tryz.prog 6 #[.int .i64 (i : Int)] w fun e w' => e = .returned (.tuple #[.string (kS i), .int .i64 0]) ∧ Below w.heap.size w w' := fun w h => kinds_yes i w h (by omega) (by omega)
  have h3 : ∀ w : World, Gl w → Calls Tryz.prog 7 #[.int .i64 (i : Int)] w fun e w' => e = .returned (.tuple #[.int .i64 (sz i), .int .i64 0]) ∧ Below w.heap.size w w' := fun w h => size_yes i w h (by omega) (by omega)
  have h5 : ∀ w : World, Gl w → Calls Tryz.prog 12 #[.int .i64 (i : Int)] w fun e w' => e = .returned (.int .i64 (sz i)) ∧ Below w.heap.size w w' := fun w h => rsize_yes i w h (by omega) (by omega)
  have h4 := fun (w : World) (hg : Gl w) (hs : 0 < w.heap.size) => op_miss name w hg hs hr
  have HI : Aside (i < 27) := hi
  have HN : Aside (∀ j, j < 27 → (sB j == name.toList) = false) := hne
  clear hr hne
  go_enter Tryz.func3, Tryz.ntmps3
  go_wp2_with (first | (go_at_call 5; refine (h1 _ hg).mono ?_; rintro e w1 ⟨rfl, hb1⟩; have hg1 := hg.below hb1) | (go_at_call 6; refine (h2 _ hg1).mono ?_; rintro e w2 ⟨rfl, hb2⟩; have hg2 := hg1.below hb2) | (go_at_call 7; refine (h3 _ hg2).mono ?_; rintro e w3 ⟨rfl, hb3⟩; have hg3 := hg2.below hb3) | (go_at_call 8; refine (h4 _ hg3 (Nat.lt_of_lt_of_le hs (Nat.le_trans hb1.size (Nat.le_trans hb2.size hb3.size)))).mono ?_; rintro e w4 ⟨rfl, hb4⟩; have hg4 := hg3.below hb4) | (go_at_call 9; refine (all_any _ hg4).mono ?_; rintro e w5 ⟨b, rfl, O, hb5⟩; have hg5 := hg4.below hb5))
  go_loop [14, 15] (fun f i => ∃ k : Nat, k ≤ 27 ∧ i = .int .i64 k ∧ f = .int .i64 (-1)) (fun _ i => 27 - (intOf i).toNat)
  case atStart => exact ⟨0, Nat.zero_le _, rfl, rfl⟩
  case round =>
    obtain ⟨k, hk, rfl, rfl⟩ := hrel
    by_cases hlt : k < 27
    · have hc : w5.cell? ⟨b, k * 2, none⟩ = some (.string ⟨⟨nm k⟩⟩) := by rw [Nat.mul_comm]; exact O.cell (2 * k) (by omega)
      have hq : ((⟨⟨nm k⟩⟩ : ByteArray).toList == name.toList) = false := HN.out k hlt
      generalize (⟨⟨nm k⟩⟩ : ByteArray) = a at hc hq
      go_wp2
      go_round
      case rel => exact ⟨k + 1, by omega, by go_num, rfl⟩
      case measure => simp [intOf]; omega
    · have e : k = 27 := by omega
      subst e
      have hc0 : w5.cell? ⟨b, i * 2, none⟩ = some (.string (nS i)) := by rw [Nat.mul_comm]; exact O.cell (2 * i) (by omega)
      have hc1 : w5.cell? ⟨b, i * 2 + 1, none⟩ = some (.string (kS i)) := by rw [Nat.mul_comm]; exact O.cell (2 * i + 1) (by omega)
      go_wp2_with (first | (go_at_call 10; refine (is_yes _ _ (by omega) (by omega)).mono ?_; rintro e w' ⟨rfl, rfl⟩))
      refine (sane_any _ hg5).mono ?_
      rintro e w6 ⟨rfl, hb6⟩
      have hd0 := (hb6.cell (p := ⟨b, i * 2, none⟩) O.sz).trans hc0
      have hd1 := (hb6.cell (p := ⟨b, i * 2 + 1, none⟩) O.sz).trans hc1
      go_wp2_with fail
      refine (h5 _ (hg5.below hb6)).mono ?_
      rintro e w7 ⟨rfl, hb7⟩
      go_wp2
      go_ret
      exact ⟨by simp, step (step (step (step (step (step hb1 hb2) hb3) hb4) hb5) hb6) hb7⟩
set_option maxHeartbeats 2000000 in
theorem law_yes_hit (i : Nat) (hi : i < 27) (name : ByteArray) (w : World) (hg : Gl w) (hs : 0 < w.heap.size)  (q : Nat) (hq : q < 27)
    (hr : Lib.idxBy (fun _ y => sB y == name.toList) ((List.range 27).take 27) default = q) (hne : ∀ j, j < 27 → (sB j == name.toList) = decide (j = q)) :
    Calls Tryz.prog 3 #[.int .i64 (i : Int), .string name] w fun e w' => e = .returned (.bool true) ∧ Below w.heap.size w w' := by
  have h1 : ∀ w : World, Gl w → Calls Tryz.prog 5 #[.int .i64 (i : Int)] w fun e w' => e = .returned (.tuple #[.string (nS i), .int .i64 0]) ∧ Below w.heap.size w w' := fun w h => name_yes i w h (by omega) (by omega)
  have h2 : ∀ w : World, Gl w → Calls Tryz.prog 6 #[.int .i64 (i : Int)] w fun e w' => e = .returned (.tuple #[.string (kS i), .int .i64 0]) ∧ Below w.heap.size w w' := fun w h => kinds_yes i w h (by omega) (by omega)
  have h3 : ∀ w : World, Gl w → Calls Tryz.prog 7 #[.int .i64 (i : Int)] w fun e w' => e = .returned (.tuple #[.int .i64 (sz i), .int .i64 0]) ∧ Below w.heap.size w w' := fun w h => size_yes i w h (by omega) (by omega)
  have h5 : ∀ w : World, Gl w → Calls Tryz.prog 12 #[.int .i64 (i : Int)] w fun e w' => e = .returned (.int .i64 (sz i)) ∧ Below w.heap.size w w' := fun w h => rsize_yes i w h (by omega) (by omega)
  have h4 := fun (w : World) (hg : Gl w) (hs : 0 < w.heap.size) => op_hit name w hg hs hr
  have HI : Aside (i < 27) := hi
  have HN : Aside (∀ j, j < 27 → (sB j == name.toList) = decide (j = q)) := hne
  clear hr hne
  go_enter Tryz.func3, Tryz.ntmps3
  go_wp2_with (first | (go_at_call 5; refine (h1 _ hg).mono ?_; rintro e w1 ⟨rfl, hb1⟩; have hg1 := hg.below hb1) | (go_at_call 6; refine (h2 _ hg1).mono ?_; rintro e w2 ⟨rfl, hb2⟩; have hg2 := hg1.below hb2) | (go_at_call 7; refine (h3 _ hg2).mono ?_; rintro e w3 ⟨rfl, hb3⟩; have hg3 := hg2.below hb3) | (go_at_call 8; refine (h4 _ hg3 (Nat.lt_of_lt_of_le hs (Nat.le_trans hb1.size (Nat.le_trans hb2.size hb3.size)))).mono ?_; rintro e w4 ⟨rfl, hb4⟩; have hg4 := hg3.below hb4) | (go_at_call 9; refine (all_any _ hg4).mono ?_; rintro e w5 ⟨b, rfl, O, hb5⟩; have hg5 := hg4.below hb5))
  go_loop [14, 15] (fun f i => ∃ (k : Nat) (v : Int), k ≤ 27 ∧ i = .int .i64 k ∧ f = .int .i64 v ∧ Aside (v = if q < k then (q : Int) else -1)) (fun _ i => 27 - (intOf i).toNat)
  case atStart => exact ⟨0, -1, Nat.zero_le _, rfl, rfl, by rw [if_neg (by omega)]; exact rfl⟩
  case round =>
    obtain ⟨k, v, hk, rfl, rfl, V⟩ := hrel
    by_cases hlt : k < 27
    · have hc : w5.cell? ⟨b, k * 2, none⟩ = some (.string ⟨⟨nm k⟩⟩) := by rw [Nat.mul_comm]; exact O.cell (2 * k) (by omega)
      by_cases e : k = q
      · have hq : ((⟨⟨nm k⟩⟩ : ByteArray).toList == name.toList) = true := (HN.out k hlt).trans (decide_eq_true e)
        have E : Aside (k = q) := e
        clear e
        generalize (⟨⟨nm k⟩⟩ : ByteArray) = a at hc hq
        go_wp2
        go_round
        case rel => exact ⟨k + 1, k, by omega, by go_num, rfl, vstep_eq E.out⟩
        case measure => simp [intOf]; omega
      · have hq : ((⟨⟨nm k⟩⟩ : ByteArray).toList == name.toList) = false := (HN.out k hlt).trans (decide_eq_false e)
        have E : Aside (k ≠ q) := e
        clear e
        generalize (⟨⟨nm k⟩⟩ : ByteArray) = a at hc hq
        go_wp2
        go_round
        case rel => exact ⟨k + 1, v, by omega, by go_num, rfl, vstep_ne E.out V.out⟩
        case measure => simp [intOf]; omega
    · have e : k = 27 := by omega
      subst e
      obtain rfl : v = q := by rw [V.out, if_pos hq]
      clear V
      have hq0 : ¬ ((q : Int) < 0) := by omega
      have hc0 : w5.cell? ⟨b, i * 2, none⟩ = some (.string (nS i)) := by rw [Nat.mul_comm]; exact O.cell (2 * i) (by omega)
      have hc1 : w5.cell? ⟨b, i * 2 + 1, none⟩ = some (.string (kS i)) := by rw [Nat.mul_comm]; exact O.cell (2 * i + 1) (by omega)
      go_wp2_with (first | (go_at_call 10; refine (is_yes _ _ (by omega) (by omega)).mono ?_; rintro e w' ⟨rfl, rfl⟩))
      refine (sane_any _ hg5).mono ?_
      rintro e w6 ⟨rfl, hb6⟩
      have hd0 := (hb6.cell (p := ⟨b, i * 2, none⟩) O.sz).trans hc0
      have hd1 := (hb6.cell (p := ⟨b, i * 2 + 1, none⟩) O.sz).trans hc1
      go_wp2_with fail
      refine (h5 _ (hg5.below hb6)).mono ?_
      rintro e w7 ⟨rfl, hb7⟩
      go_wp2
      go_ret
      exact ⟨by simp, step (step (step (step (step (step hb1 hb2) hb3) hb4) hb5) hb6) hb7⟩
end Go.Proofs.YtmmopjgbckkljaaGreatDoor

namespace Go.Proofs.YtmmopjgbckkljaaGreatDoor
open Go.Eng Go.RowKit
set_option maxRecDepth 1000000

theorem nm_beq {i j : Nat} (hi : i < 27) (hj : j < 27) : (nm i == nm j) = decide (i = j) :=
  of_map (f := fun j => nm i == nm j) (g := fun j => decide (i = j)) (n := 27)
    (of_map (f := fun i => (List.range 27).map fun j => nm i == nm j) (g := fun i => (List.range 27).map fun j => decide (i = j)) (n := 27) (by kernel_rfl) hi) hj

theorem sB_nm (i : Nat) : sB i = nm i := data_toList _

theorem law_any (op : Int) (name : ByteArray) (w : World) (hg : Gl w) :
    Calls Tryz.prog 3 #[.int .i64 op, .string name] w fun e w' => e = .returned (.bool true) ∧ Below w.heap.size w w' := by
  have hs : 0 < w.heap.size := by
    obtain ⟨arr, e, lohi, h1, _⟩ := hg
    exact (Array.getElem?_eq_some_iff.1 h1).1
  have ho : (op < 0 ∨ 27 ≤ op) ∨ ∃ i : Nat, i < 27 ∧ op = (i : Int) := by
    by_cases h : op < 0 ∨ 27 ≤ op
    · exact .inl h
    · exact .inr ⟨op.toNat, by omega, by omega⟩
  by_cases hq : ∃ q, q < 27 ∧ name.toList = nm q
  · obtain ⟨q, hq, e⟩ := hq
    have hne : ∀ i, i < 27 → (sB i == name.toList) = decide (i = q) := fun i hi => by rw [sB_nm, e]; exact nm_beq hi hq
    have hr : Lib.idxBy (fun _ y => sB y == name.toList) ((List.range 27).take 27) default = q :=
      Lib.idxBy_hit (fun _ y => sB y == name.toList) (List.range 27) 27 q default hq (by simp)
        (by show (sB (List.range 27)[q]! == name.toList) = true; rw [range_at hq, hne q hq]; simp)
        (fun j hj => by show (sB (List.range 27)[j]! == name.toList) = false; rw [range_at (by omega), hne j (by omega)]; exact decide_eq_false (by omega))
    rcases ho with h | ⟨i, hi, rfl⟩
    · exact law_no_hit op name w hg hs h q hq hr hne
    · exact law_yes_hit i hi name w hg hs q hq hr hne
  · have hne : ∀ i, i < 27 → (sB i == name.toList) = false := fun i hi => by
      rw [sB_nm]
      cases h : (nm i == name.toList) with
      | false => rfl
      | true => exact absurd ⟨i, hi, (by simpa using h : nm i = name.toList).symm⟩ hq
    have hr : Lib.idxBy (fun _ y => sB y == name.toList) ((List.range 27).take 27) default = -1 :=
      Lib.idxBy_miss (fun _ y => sB y == name.toList) (List.range 27) 27 default
        (fun j hj => by show (sB (List.range 27)[j]! == name.toList) = false; rw [range_at hj]; exact hne j hj)
    rcases ho with h | ⟨i, hi, rfl⟩
    · exact law_no_miss op name w hg hs h hr hne
    · exact law_yes_miss i hi name w hg hs hr hne
end Go.Proofs.YtmmopjgbckkljaaGreatDoor
