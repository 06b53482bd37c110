/- What the reader of instructions reads. Conditions: none. -/
import Derived.Test.YtblklgcpobbfcaaGreatDoorOa
import Derived.Deep.RegionHeld3
import Derived.Outline
import Derived.Lib.Hide
import Derived.Lib.OthersKept
import Derived.BigQuiet
import Derived.Deep.QuietTactic
set_option linter.all false
namespace Go.Proofs.YtblklgcpobbfcaaGreatDoor
open Go.Eng Go.RowKit
set_option maxRecDepth 1000000

/-- What n bytes read. -/
def rdv (C : Nat → Int) (p : Nat) : Nat → Int
  | 0 => 0
  | n + 1 => rdv C p n * 256 + C (p + n)
def wB (k : UInt8) : Nat := (wK k.toNat).toNat
/-- An operand of a kind, read at a place. -/
def valK (C : Nat → Int) (k : UInt8) (p : Nat) : Int := if k = 110 then wrap32 (rdv C p (wB k)) else rdv C p (wB k)
def opsOf (C : Nat → Int) : List UInt8 → Nat → List Int
  | [], _ => []
  | k :: ks, p => valK C k p :: opsOf C ks (p + wB k)
def endOf : List UInt8 → Nat → Nat
  | [], p => p
  | k :: ks, p => endOf ks (p + wB k)

theorem opsOf_snoc (C : Nat → Int) (k : UInt8) : ∀ (l : List UInt8) (p : Nat), opsOf C (l ++ [k]) p = opsOf C l p ++ [valK C k (endOf l p)]
  | [], p => rfl
  | a :: l, p => by simp only [List.cons_append, opsOf, endOf, opsOf_snoc C k l]
theorem endOf_snoc (k : UInt8) : ∀ (l : List UInt8) (p : Nat), endOf (l ++ [k]) p = endOf l p + wB k
  | [], p => rfl
  | a :: l, p => by simp only [List.cons_append, endOf, endOf_snoc k l]
theorem opsOf_len (C : Nat → Int) : ∀ (l : List UInt8) (p : Nat), (opsOf C l p).length = l.length
  | [], _ => rfl
  | a :: l, p => by simp only [opsOf, List.length_cons, opsOf_len C l]
theorem endOf_app : ∀ (l m : List UInt8) (p : Nat), endOf (l ++ m) p = endOf m (endOf l p)
  | [], m, p => rfl
  | a :: l, m, p => by simp only [List.cons_append, endOf, endOf_app l]
theorem endOf_ge : ∀ (l : List UInt8) (p : Nat), p ≤ endOf l p
  | [], p => Nat.le_refl _
  | a :: l, p => Nat.le_trans (Nat.le_add_right _ _) (endOf_ge l _)
theorem endOf_shift : ∀ (l : List UInt8) (p q : Nat), endOf l (p + q) = endOf l p + q
  | [], p, q => rfl
  | a :: l, p, q => by rw [endOf, show p + q + wB a = p + wB a + q by omega, endOf_shift l]; rfl
theorem kd_end {i : Nat} (hi : i < 27) (p : Nat) : (endOf (kd i) (p + 1) : Int) = p + sz i := by
  have h : (endOf (kd i) 1 : Int) = sz i := of_map (f := fun i => (endOf (kd i) 1 : Int)) (g := fun i => sz i) (n := 27) (by kernel_rfl) hi
  rw [Nat.add_comm p 1, endOf_shift]
  omega
theorem rdv_lt {C : Nat → Int} {p : Nat} (hC : ∀ j, 0 ≤ C j ∧ C j < 256) : ∀ n, 0 ≤ rdv C p n ∧ rdv C p n < 256 ^ n
  | 0 => by simp [rdv]
  | n + 1 => by
    have h1 := rdv_lt (p := p) hC n
    have h2 := hC (p + n)
    have e : (256 : Int) ^ (n + 1) = 256 ^ n * 256 := Int.pow_succ _ _
    rw [e, rdv]
    omega

/-- The cells of an instruction. -/
abbrev ar (op : Int) (L : List Int) : Array Value := #[.int .i64 op, .int .i64 (L.getD 0 0), .int .i64 (L.getD 1 0), .int .i64 (L.getD 2 0), .int .i64 (L.getD 3 0), .int .i64 (L.getD 4 0), .int .i64 (L.getD 5 0), .int .i64 (L.getD 6 0)]
theorem ar_set (op v : Int) (L : List Int) (h : L.length < 7) : (ar op L).setIfInBounds (1 + L.length) (.int .i64 v) = ar op (L ++ [v]) := by
  rcases L with _ | ⟨a0, _ | ⟨a1, _ | ⟨a2, _ | ⟨a3, _ | ⟨a4, _ | ⟨a5, _ | ⟨a6, L⟩⟩⟩⟩⟩⟩⟩
  all_goals first
    | rfl
    | (simp at h; omega)

/-- A code lies in memory. -/
structure CodeAt (w : World) (g off n : Nat) (C : Nat → Int) : Prop where
  cell : ∀ j, j < n → w.cell? ⟨g, off + j, none⟩ = some (.int .u8 (C j))
  lt : g < w.heap.size
  byte : ∀ j, 0 ≤ C j ∧ C j < 256
theorem CodeAt.below {w w' : World} {g off n : Nat} {C : Nat → Int} (h : CodeAt w g off n C) {B : Nat} (hb : Below B w w') (hB : g < B) : CodeAt w' g off n C :=
  ⟨fun j hj => (hb.cell (p := ⟨g, off + j, none⟩) hB).trans (h.cell j hj), Nat.lt_of_lt_of_le h.lt hb.size, h.byte⟩
/-- A reader: its code, its place, what is next. -/
structure RdAt (w : World) (R : Nat) (g off n cap at' : Nat) (nx : Int) : Prop where
  box : w.heap[R]? = some (.cells #[.slice (some ⟨g, off, none⟩) n cap, .int .i64 at', .int .i64 nx] 93 (0, 0))
theorem RdAt.cells {w : World} {R g off n cap at' : Nat} {nx : Int} (h : RdAt w R g off n cap at' nx) :
    w.cell? ⟨R, 0, none⟩ = some (.slice (some ⟨g, off, none⟩) n cap) ∧ w.cell? ⟨R, 1, none⟩ = some (.int .i64 at') ∧ w.cell? ⟨R, 2, none⟩ = some (.int .i64 nx) ∧ w.frozen? ⟨R, 2, none⟩ = false := by
  have e := h.box
  refine ⟨?_, ?_, ?_, ?_⟩
  all_goals first
    | (simp only [World.cell?, e]; rfl)
    | (simp only [World.frozen?, e]; rfl)
theorem RdAt.lt {w : World} {R g off n cap at' : Nat} {nx : Int} (h : RdAt w R g off n cap at' nx) : R < w.heap.size := (Array.getElem?_eq_some_iff.1 h.box).1
theorem RdAt.below {w w' : World} {R g off n cap at' : Nat} {nx : Int} (h : RdAt w R g off n cap at' nx) {B : Nat} (hb : Below B w w') (hB : R < B) : RdAt w' R g off n cap at' nx := ⟨(hb.block R hB).trans h.box⟩
end Go.Proofs.YtblklgcpobbfcaaGreatDoor

namespace Go.Proofs.YtblklgcpobbfcaaGreatDoor
open Go.Eng Go.RowKit
set_option maxRecDepth 1000000

abbrev zb (w : World) : World := w.alloc (.cells #[.int .i64 0, .int .i64 0, .int .i64 0, .int .i64 0, .int .i64 0, .int .i64 0, .int .i64 0, .int .i64 0] 38)
abbrev xb (w : World) (o : Nat) : World := (zb w).alloc (.cells #[.int .i64 o, .int .i64 0, .int .i64 0, .int .i64 0, .int .i64 0, .int .i64 0, .int .i64 0, .int .i64 0] 38)
theorem xb_below (w : World) (o : Nat) : Below (zb w).heap.size (zb w) (xb w o) := (Below.refl _ _).alloc (Nat.le_refl _) _
theorem wrap8 {o : Nat} (h : (o : Int) < 256) : IntKind.i64.wrap (o : Int) = (o : Int) := by
  rw [IntKind.wrap_i64]
  omega
theorem rest_any (g off n cap at' : Nat) (w : World) : Calls Tryz.prog 78 #[.agg #[.slice (some ⟨g, off, none⟩) n cap, .int .i64 at']] w fun e w' => e = .returned (.int .i64 (wrap64 ((n : Int) - at'))) ∧ Below w.heap.size w w' := by
  go_enter Tryz.func78, Tryz.ntmps78
  go_wp2
  go_ret
  exact ⟨rfl, (Below.refl _ _).alloc (Nat.le_refl _) _⟩
theorem wrap_rest {n at' : Nat} (hn : n < 9223372036854775808) (h : at' < n) : wrap64 ((n : Int) - at') = (n : Int) - at' := by
  have e : ((n : Int) - at') = ((n - at' : Nat) : Int) := by omega
  rw [e]
  unfold wrap64
  omega
theorem zb_size (w : World) : (zb w).heap.size = w.heap.size + 1 := by show (w.heap.push _).size = _; rw [Array.size_push]
theorem zb_below (w : World) : Below w.heap.size w (zb w) := (Below.refl _ _).alloc (Nat.le_refl _) _

/-- A box of an instruction in memory. -/
structure B8 (W : World) (B : Nat) (x0 x1 x2 x3 x4 x5 x6 x7 : Int) : Prop where
  box : W.heap[B]? = some (.cells #[.int .i64 x0, .int .i64 x1, .int .i64 x2, .int .i64 x3, .int .i64 x4, .int .i64 x5, .int .i64 x6, .int .i64 x7] 38 (0, 0))
theorem B8.below {W W' : World} {B : Nat} {x0 x1 x2 x3 x4 x5 x6 x7 : Int} (h : B8 W B x0 x1 x2 x3 x4 x5 x6 x7) {K : Nat} (hb : Below K W W') (hk : B < K) : B8 W' B x0 x1 x2 x3 x4 x5 x6 x7 := ⟨(hb.block B hk).trans h.box⟩
theorem B8.lt {W : World} {B : Nat} {x0 x1 x2 x3 x4 x5 x6 x7 : Int} (h : B8 W B x0 x1 x2 x3 x4 x5 x6 x7) : B < W.heap.size := (Array.getElem?_eq_some_iff.1 h.box).1
theorem B8.cells {W : World} {B : Nat} {x0 x1 x2 x3 x4 x5 x6 x7 : Int} (h : B8 W B x0 x1 x2 x3 x4 x5 x6 x7) :
    W.cell? ⟨B, 0, none⟩ = some (.int .i64 x0) ∧ W.cell? ⟨B, 1, none⟩ = some (.int .i64 x1) ∧ W.cell? ⟨B, 2, none⟩ = some (.int .i64 x2) ∧ W.cell? ⟨B, 3, none⟩ = some (.int .i64 x3) ∧ W.cell? ⟨B, 4, none⟩ = some (.int .i64 x4) ∧ W.cell? ⟨B, 5, none⟩ = some (.int .i64 x5) ∧ W.cell? ⟨B, 6, none⟩ = some (.int .i64 x6) ∧ W.cell? ⟨B, 7, none⟩ = some (.int .i64 x7) := by
  have e := h.box
  refine ⟨?_, ?_, ?_, ?_, ?_, ?_, ?_, ?_⟩
  all_goals (simp only [World.cell?, e]; rfl)
theorem B8.free {W : World} {B : Nat} {x0 x1 x2 x3 x4 x5 x6 x7 : Int} (h : B8 W B x0 x1 x2 x3 x4 x5 x6 x7) (j : Nat) : W.frozen? ⟨B, j, none⟩ = false := by
  have e := h.box
  simp only [World.frozen?, e]
  simp
abbrev put8 (W : World) (B : Nat) (x0 x1 x2 x3 x4 x5 x6 x7 : Int) : World := (((((((W.setCell ⟨B, 0, none⟩ (.int .i64 x0)).setCell ⟨B, 1, none⟩ (.int .i64 x1)).setCell ⟨B, 2, none⟩ (.int .i64 x2)).setCell ⟨B, 3, none⟩ (.int .i64 x3)).setCell ⟨B, 4, none⟩ (.int .i64 x4)).setCell ⟨B, 5, none⟩ (.int .i64 x5)).setCell ⟨B, 6, none⟩ (.int .i64 x6)).setCell ⟨B, 7, none⟩ (.int .i64 x7)
theorem B8.put {W : World} {B : Nat} {y0 y1 y2 y3 y4 y5 y6 y7 : Int} (h : B8 W B y0 y1 y2 y3 y4 y5 y6 y7) (x0 x1 x2 x3 x4 x5 x6 x7 : Int) : B8 (put8 W B x0 x1 x2 x3 x4 x5 x6 x7) B x0 x1 x2 x3 x4 x5 x6 x7 := by
  refine ⟨?_⟩
  simp [put8, World.setCell, Array.getElem?_modify, h.box]
theorem put8_below {W0 W : World} {B : Nat} (h : Below B W0 W) (x0 x1 x2 x3 x4 x5 x6 x7 : Int) : Below B W0 (put8 W B x0 x1 x2 x3 x4 x5 x6 x7) :=
  ((((((((h.setCell (p := ⟨B, 0, none⟩) (Nat.le_refl _) _).setCell (p := ⟨B, 1, none⟩) (Nat.le_refl _) _).setCell (p := ⟨B, 2, none⟩) (Nat.le_refl _) _).setCell (p := ⟨B, 3, none⟩) (Nat.le_refl _) _).setCell (p := ⟨B, 4, none⟩) (Nat.le_refl _) _).setCell (p := ⟨B, 5, none⟩) (Nat.le_refl _) _).setCell (p := ⟨B, 6, none⟩) (Nat.le_refl _) _).setCell (p := ⟨B, 7, none⟩) (Nat.le_refl _) _)
theorem zb_ib {w W : World} {K : Nat} (h : Below K (zb w) W) (hk : w.heap.size < K) : B8 W w.heap.size 0 0 0 0 0 0 0 0 := by
  refine ⟨?_⟩
  rw [h.block _ hk]
  show (w.heap.push _)[w.heap.size]? = _
  rw [Array.getElem?_push, if_pos rfl]
theorem xb_ib {w W : World} {o K : Nat} (h : Below K (xb w o) W) (hk : w.heap.size + 1 < K) : B8 W (w.heap.size + 1) o 0 0 0 0 0 0 0 := by
  refine ⟨?_⟩
  rw [h.block _ hk]
  show ((zb w).heap.push _)[w.heap.size + 1]? = _
  rw [Array.getElem?_push, if_pos (zb_size w).symm]
theorem ret41 {R : Ending → World → Prop} {tmps : Array Value} {W : World} {B : Nat} {x0 x1 x2 x3 x4 x5 x6 x7 : Int} {r : Bool} (h2 : tmps[2]? = some (.pointer (some ⟨B, 0, none⟩))) (h3 : tmps[3]? = some (.bool r))
    (hb : B8 W B x0 x1 x2 x3 x4 x5 x6 x7) (hR : R (.returned (.tuple #[insV x0 x1 x2 x3 x4 x5 x6 x7, .bool r])) W) : bodyPost Tryz.prog Tryz.f41 R .ret { tmps := tmps, defers := [] } W := by
  obtain ⟨c0, c1, c2, c3, c4, c5, c6, c7⟩ := hb.cells
  refine ⟨rfl, _, ?_, hR⟩
  simp [results, Tryz.results41, go_sem, h2, h3, c0, c1, c2, c3, c4, c5, c6, c7]

set_option maxHeartbeats 8000000 in
theorem ins_none (R g off n cap at' : Nat) (nx : Int) (C : Nat → Int) (o : Nat) (w : World) (hg : Gl w) (hr : RdAt w R g off n cap at' nx) (hc : CodeAt w g off n C) (hn : n < 9223372036854775808) (hat : at' < n) (ho : C at' = (o : Int)) (h27 : 27 ≤ o) :
    Calls Tryz.prog 41 #[.pointer (some ⟨R, 0, none⟩)] w fun e w' => e = .returned (.tuple #[insV 0 0 0 0 0 0 0 0, .bool false]) ∧ Below w.heap.size w w' := by
  have HG : Aside (Gl w) := hg
  have HRD : Aside (RdAt w R g off n cap at' nx) := hr
  have HC : Aside (CodeAt w g off n C) := hc
  have HRZ : Aside (RdAt (zb w) R g off n cap at' nx) := hr.below (zb_below w) hr.lt
  have HCZ : Aside (CodeAt (zb w) g off n C) := hc.below (zb_below w) hc.lt
  have h8 : (o : Int) < 256 := ho ▸ (hc.byte at').2
  obtain ⟨r0, r1, r2, r3⟩ := HRZ.out.cells
  have hc0 := HCZ.out.cell at' hat
  rw [ho] at hc0
  have ha0 : (0 : Int) ≤ (at' : Int) := by omega
  have ha1 : (at' : Int) < (n : Int) := by omega
  have ho0 : (0 : Int) ≤ (o : Int) := by omega
  have hwo : IntKind.i64.wrap (o : Int) = (o : Int) := wrap8 h8
  have HS1 : Hid (∀ W, Below (zb w).heap.size (zb w) W → (W.cell? ⟨R, 0, none⟩ = some (.slice (some ⟨g, off, none⟩) n cap) ∧ W.cell? ⟨R, 1, none⟩ = some (.int .i64 at') ∧ W.cell? ⟨g, off + at', none⟩ = some (.int .u8 (o : Int)))) := Lib.hid fun W hW => by
    obtain ⟨q0, q1, _, _⟩ := (HRZ.out.below hW HRZ.out.lt).cells
    have qc := (HCZ.out.below hW HCZ.out.lt).cell at' hat
    rw [ho] at qc
    exact ⟨q0, q1, qc⟩
  have hwr := wrap_rest hn hat
  have HRST := Lib.hid fun W => rest_any g off n cap at' W
  have HB1 : Aside (Below (zb w).heap.size (zb w) (xb w o).drew) := (xb_below w o).drew
  have HG1 : Aside (Gl (xb w o).drew) := ((hg.below (zb_below w)).below (xb_below w o)).drew
  have HSZ := Lib.hid fun W => size_no (o : Int) W (.inr (by omega))
  clear hg hr hc
  go_enter Tryz.func41, Tryz.ntmps41
  go_wp2
  refine wp_region_held_drew (S := fun W => W.cell? ⟨R, 0, none⟩ = some (.slice (some ⟨g, off, none⟩) n cap) ∧ W.cell? ⟨R, 1, none⟩ = some (.int .i64 at') ∧ W.cell? ⟨g, off + at', none⟩ = some (.int .u8 (o : Int))) (by kernel_rfl) ⟨r0, r1, hc0⟩ (fun hHeld => ?_)
  refine wpAnyH_take (i := 0) (v := (.pointer (some ⟨R, 0, none⟩))) rfl (by kernel_rfl) (by kernel_rfl) (by kernel_rfl) (fun _ _ _ h => h) (Or.inl ⟨by rfl, fun wS hSw => ?_⟩) hHeld ?_
  · obtain ⟨g0, g1, g2⟩ := hSw
    first | rfl | (go_simp; done) | (go_simp; with_reducible rfl)
  try simp only [Act.put, List.getElem_toArray, List.getElem_cons_zero, List.getElem_cons_succ, List.setIfInBounds_toArray, List.set_cons_zero, List.set_cons_succ]
  refine wpAnyH_take (i := 1) (v := (.pointer (some ⟨R, 0, none⟩))) rfl (by kernel_rfl) (by kernel_rfl) (by kernel_rfl) (fun _ _ _ h => h) (Or.inl ⟨by rfl, fun wS hSw => ?_⟩) hHeld ?_
  · obtain ⟨g0, g1, g2⟩ := hSw
    first | rfl | (go_simp; done) | (go_simp; with_reducible rfl)
  try simp only [Act.put, List.getElem_toArray, List.getElem_cons_zero, List.getElem_cons_succ, List.setIfInBounds_toArray, List.set_cons_zero, List.set_cons_succ]
  refine wpAnyH_take (i := 2) (v := (.pointer (some ⟨R, 0, none⟩))) rfl (by kernel_rfl) (by kernel_rfl) (by kernel_rfl) (fun _ _ _ h => h) (Or.inl ⟨by rfl, fun wS hSw => ?_⟩) hHeld ?_
  · obtain ⟨g0, g1, g2⟩ := hSw
    first | rfl | (go_simp; done) | (go_simp; with_reducible rfl)
  try simp only [Act.put, List.getElem_toArray, List.getElem_cons_zero, List.getElem_cons_succ, List.setIfInBounds_toArray, List.set_cons_zero, List.set_cons_succ]
  refine wpAnyH_take (i := 3) (v := (.pointer (some ⟨R, 0, none⟩))) rfl (by kernel_rfl) (by kernel_rfl) (by kernel_rfl) (fun _ _ _ h => h) (Or.inl ⟨by rfl, fun wS hSw => ?_⟩) hHeld ?_
  · obtain ⟨g0, g1, g2⟩ := hSw
    first | rfl | (go_simp; done) | (go_simp; with_reducible rfl)
  try simp only [Act.put, List.getElem_toArray, List.getElem_cons_zero, List.getElem_cons_succ, List.setIfInBounds_toArray, List.set_cons_zero, List.set_cons_succ]
  refine wpAnyH_take (i := 4) (v := (.slice (some ⟨g, off, none⟩) n cap)) rfl (by kernel_rfl) (by kernel_rfl) (by kernel_rfl) (fun _ _ _ h => h) (Or.inl ⟨by rfl, fun wS hSw => ?_⟩) hHeld ?_
  · obtain ⟨g0, g1, g2⟩ := hSw
    first | rfl | (go_simp; done) | (go_simp; with_reducible rfl)
  try simp only [Act.put, List.getElem_toArray, List.getElem_cons_zero, List.getElem_cons_succ, List.setIfInBounds_toArray, List.set_cons_zero, List.set_cons_succ]
  refine wpAnyH_take (i := 5) (v := (.pointer (some ⟨R, 0, none⟩))) rfl (by kernel_rfl) (by kernel_rfl) (by kernel_rfl) (fun _ _ _ h => h) (Or.inl ⟨by rfl, fun wS hSw => ?_⟩) hHeld ?_
  · obtain ⟨g0, g1, g2⟩ := hSw
    first | rfl | (go_simp; done) | (go_simp; with_reducible rfl)
  try simp only [Act.put, List.getElem_toArray, List.getElem_cons_zero, List.getElem_cons_succ, List.setIfInBounds_toArray, List.set_cons_zero, List.set_cons_succ]
  refine wpAnyH_take (i := 6) (v := (.pointer (some ⟨R, 0, none⟩))) rfl (by kernel_rfl) (by kernel_rfl) (by kernel_rfl) (fun _ _ _ h => h) (Or.inl ⟨by rfl, fun wS hSw => ?_⟩) hHeld ?_
  · obtain ⟨g0, g1, g2⟩ := hSw
    first | rfl | (go_simp; done) | (go_simp; with_reducible rfl)
  try simp only [Act.put, List.getElem_toArray, List.getElem_cons_zero, List.getElem_cons_succ, List.setIfInBounds_toArray, List.set_cons_zero, List.set_cons_succ]
  refine wpAnyH_take (i := 7) (v := (.pointer (some ⟨R, 0, none⟩))) rfl (by kernel_rfl) (by kernel_rfl) (by kernel_rfl) (fun _ _ _ h => h) (Or.inl ⟨by rfl, fun wS hSw => ?_⟩) hHeld ?_
  · obtain ⟨g0, g1, g2⟩ := hSw
    first | rfl | (go_simp; done) | (go_simp; with_reducible rfl)
  try simp only [Act.put, List.getElem_toArray, List.getElem_cons_zero, List.getElem_cons_succ, List.setIfInBounds_toArray, List.set_cons_zero, List.set_cons_succ]
  refine wpAnyH_take (i := 8) (v := (.pointer (some ⟨R, 1, none⟩))) rfl (by kernel_rfl) (by kernel_rfl) (by kernel_rfl) (fun _ _ _ h => h) (Or.inl ⟨by rfl, fun wS hSw => ?_⟩) hHeld ?_
  · obtain ⟨g0, g1, g2⟩ := hSw
    first | rfl | (go_simp; done) | (go_simp; with_reducible rfl)
  try simp only [Act.put, List.getElem_toArray, List.getElem_cons_zero, List.getElem_cons_succ, List.setIfInBounds_toArray, List.set_cons_zero, List.set_cons_succ]
  refine wpAnyH_take (i := 9) (v := (.int .i64 at')) rfl (by kernel_rfl) (by kernel_rfl) (by kernel_rfl) (fun _ _ _ h => h) (Or.inl ⟨by rfl, fun wS hSw => ?_⟩) hHeld ?_
  · obtain ⟨g0, g1, g2⟩ := hSw
    first | rfl | (go_simp; done) | (go_simp; with_reducible rfl)
  try simp only [Act.put, List.getElem_toArray, List.getElem_cons_zero, List.getElem_cons_succ, List.setIfInBounds_toArray, List.set_cons_zero, List.set_cons_succ]
  refine wpAnyH_take (i := 10) (v := (.pointer (some ⟨g, off + at', none⟩))) rfl (by kernel_rfl) (by kernel_rfl) (by kernel_rfl) (fun _ _ _ h => h) (Or.inl ⟨by rfl, fun wS hSw => ?_⟩) hHeld ?_
  · obtain ⟨g0, g1, g2⟩ := hSw
    first | rfl | (go_simp; done) | (go_simp; with_reducible rfl)
  try simp only [Act.put, List.getElem_toArray, List.getElem_cons_zero, List.getElem_cons_succ, List.setIfInBounds_toArray, List.set_cons_zero, List.set_cons_succ]
  refine wpAnyH_take (i := 11) (v := (.int .u8 (o : Int))) rfl (by kernel_rfl) (by kernel_rfl) (by kernel_rfl) (fun _ _ _ h => h) (Or.inl ⟨by rfl, fun wS hSw => ?_⟩) hHeld ?_
  · obtain ⟨g0, g1, g2⟩ := hSw
    first | rfl | (go_simp; done) | (go_simp; with_reducible rfl)
  try simp only [Act.put, List.getElem_toArray, List.getElem_cons_zero, List.getElem_cons_succ, List.setIfInBounds_toArray, List.set_cons_zero, List.set_cons_succ]
  refine wpAnyH_take (i := 12) (v := (.int .i64 (o : Int))) rfl (by kernel_rfl) (by kernel_rfl) (by kernel_rfl) (fun _ _ _ h => h) (Or.inl ⟨by rfl, fun wS hSw => ?_⟩) hHeld ?_
  · obtain ⟨g0, g1, g2⟩ := hSw
    first | rfl | (go_simp; done) | (go_simp; with_reducible rfl)
  try simp only [Act.put, List.getElem_toArray, List.getElem_cons_zero, List.getElem_cons_succ, List.setIfInBounds_toArray, List.set_cons_zero, List.set_cons_succ]
  refine wpAnyH_take (i := 13) (v := (insV o 0 0 0 0 0 0 0)) rfl (by kernel_rfl) (by kernel_rfl) (by kernel_rfl) (fun _ _ _ h => h) (Or.inl ⟨by rfl, fun wS hSw => ?_⟩) hHeld ?_
  · obtain ⟨g0, g1, g2⟩ := hSw
    first | rfl | (go_simp; done) | (go_simp; with_reducible rfl)
  try simp only [Act.put, List.getElem_toArray, List.getElem_cons_zero, List.getElem_cons_succ, List.setIfInBounds_toArray, List.set_cons_zero, List.set_cons_succ]
  refine wpAnyH_ready (rs := [14]) (by kernel_rfl) (by simp) ?_
  refine AllReadyH.cons rfl (fun KC hC => ?_) AllReadyH.nil
  go_simp
  refine hC.out _ _ (HS1.out _ (((Below.refl _ _).alloc (Nat.le_refl _) _).drew)) (fun hHeld => ?_)
  clear hC KC
  try simp only [Act.put, List.getElem_toArray, List.getElem_cons_zero, List.getElem_cons_succ, List.setIfInBounds_toArray, List.set_cons_zero, List.set_cons_succ]
  refine wpAnyH_ready (rs := [15]) (by kernel_rfl) (by simp) ?_
  refine AllReadyH.cons rfl (fun KC hC => ?_) AllReadyH.nil
  go_simp
  refine hC.out _ _ (HS1.out _ (xb_below w o).drew) (fun hHeld => ?_)
  clear hC KC
  try simp only [Act.put, List.getElem_toArray, List.getElem_cons_zero, List.getElem_cons_succ, List.setIfInBounds_toArray, List.set_cons_zero, List.set_cons_succ]
  refine wpAnyH_done (by kernel_rfl) ?_ _
  clear hHeld
  go_wp2_with (go_at_call 9; refine (HSZ.out _).mono ?_; rintro e w2 ⟨rfl, rfl⟩; have HB2 : Aside (Below (zb w).heap.size (zb w) (xb w o).drew) := HB1; obtain ⟨z0, z1, z2, z3, z4, z5, z6, z7⟩ := (zb_ib HB2.out (by rw [zb_size]; omega)).cells; have fz := (zb_ib HB2.out (by rw [zb_size]; omega)).free; have fz0 := fz 0; have fz1 := fz 1; have fz2 := fz 2; have fz3 := fz 3; have fz4 := fz 4; have fz5 := fz 5; have fz6 := fz 6; have fz7 := fz 7; clear fz)
  have HZB := zb_ib HB2.out (by rw [zb_size]; omega)
  have HBW := (zb_below w).trans (HB2.out.mono (by rw [zb_size]; omega))
  refine ret41 (B := w.heap.size) (r := false) ?_ ?_ HZB ?_
  · kernel_rfl
  · kernel_rfl
  · exact ⟨rfl, HBW⟩

set_option maxHeartbeats 8000000 in
theorem ins_short (R g off n cap at' : Nat) (nx : Int) (C : Nat → Int) (o : Nat) (w : World) (hg : Gl w) (hr : RdAt w R g off n cap at' nx) (hc : CodeAt w g off n C) (hn : n < 9223372036854775808) (hat : at' < n) (ho : C at' = (o : Int)) (h27 : o < 27) (hfit : (n : Int) - at' < sz o) :
    Calls Tryz.prog 41 #[.pointer (some ⟨R, 0, none⟩)] w fun e w' => e = .returned (.tuple #[insV 0 0 0 0 0 0 0 0, .bool false]) ∧ Below w.heap.size w w' := by
  have HG : Aside (Gl w) := hg
  have HRD : Aside (RdAt w R g off n cap at' nx) := hr
  have HC : Aside (CodeAt w g off n C) := hc
  have HRZ : Aside (RdAt (zb w) R g off n cap at' nx) := hr.below (zb_below w) hr.lt
  have HCZ : Aside (CodeAt (zb w) g off n C) := hc.below (zb_below w) hc.lt
  have h8 : (o : Int) < 256 := ho ▸ (hc.byte at').2
  obtain ⟨r0, r1, r2, r3⟩ := HRZ.out.cells
  have hc0 := HCZ.out.cell at' hat
  rw [ho] at hc0
  have ha0 : (0 : Int) ≤ (at' : Int) := by omega
  have ha1 : (at' : Int) < (n : Int) := by omega
  have ho0 : (0 : Int) ≤ (o : Int) := by omega
  have hwo : IntKind.i64.wrap (o : Int) = (o : Int) := wrap8 h8
  have HS1 : Hid (∀ W, Below (zb w).heap.size (zb w) W → (W.cell? ⟨R, 0, none⟩ = some (.slice (some ⟨g, off, none⟩) n cap) ∧ W.cell? ⟨R, 1, none⟩ = some (.int .i64 at') ∧ W.cell? ⟨g, off + at', none⟩ = some (.int .u8 (o : Int)))) := Lib.hid fun W hW => by
    obtain ⟨q0, q1, _, _⟩ := (HRZ.out.below hW HRZ.out.lt).cells
    have qc := (HCZ.out.below hW HCZ.out.lt).cell at' hat
    rw [ho] at qc
    exact ⟨q0, q1, qc⟩
  have hwr := wrap_rest hn hat
  have HRST := Lib.hid fun W => rest_any g off n cap at' W
  have HB1 : Aside (Below (zb w).heap.size (zb w) (xb w o).drew) := (xb_below w o).drew
  have HG1 : Aside (Gl (xb w o).drew) := ((hg.below (zb_below w)).below (xb_below w o)).drew
  have HSZ := Lib.hid fun W hg => size_yes (o : Int) W hg (by omega) (by omega)
  have hf : (n : Int) - at' < sz o := hfit
  generalize sz o = so at hf HSZ
  clear hg hr hc
  go_enter Tryz.func41, Tryz.ntmps41
  go_wp2
  refine wp_region_held_drew (S := fun W => W.cell? ⟨R, 0, none⟩ = some (.slice (some ⟨g, off, none⟩) n cap) ∧ W.cell? ⟨R, 1, none⟩ = some (.int .i64 at') ∧ W.cell? ⟨g, off + at', none⟩ = some (.int .u8 (o : Int))) (by kernel_rfl) ⟨r0, r1, hc0⟩ (fun hHeld => ?_)
  refine wpAnyH_take (i := 0) (v := (.pointer (some ⟨R, 0, none⟩))) rfl (by kernel_rfl) (by kernel_rfl) (by kernel_rfl) (fun _ _ _ h => h) (Or.inl ⟨by rfl, fun wS hSw => ?_⟩) hHeld ?_
  · obtain ⟨g0, g1, g2⟩ := hSw
    first | rfl | (go_simp; done) | (go_simp; with_reducible rfl)
  try simp only [Act.put, List.getElem_toArray, List.getElem_cons_zero, List.getElem_cons_succ, List.setIfInBounds_toArray, List.set_cons_zero, List.set_cons_succ]
  refine wpAnyH_take (i := 1) (v := (.pointer (some ⟨R, 0, none⟩))) rfl (by kernel_rfl) (by kernel_rfl) (by kernel_rfl) (fun _ _ _ h => h) (Or.inl ⟨by rfl, fun wS hSw => ?_⟩) hHeld ?_
  · obtain ⟨g0, g1, g2⟩ := hSw
    first | rfl | (go_simp; done) | (go_simp; with_reducible rfl)
  try simp only [Act.put, List.getElem_toArray, List.getElem_cons_zero, List.getElem_cons_succ, List.setIfInBounds_toArray, List.set_cons_zero, List.set_cons_succ]
  refine wpAnyH_take (i := 2) (v := (.pointer (some ⟨R, 0, none⟩))) rfl (by kernel_rfl) (by kernel_rfl) (by kernel_rfl) (fun _ _ _ h => h) (Or.inl ⟨by rfl, fun wS hSw => ?_⟩) hHeld ?_
  · obtain ⟨g0, g1, g2⟩ := hSw
    first | rfl | (go_simp; done) | (go_simp; with_reducible rfl)
  try simp only [Act.put, List.getElem_toArray, List.getElem_cons_zero, List.getElem_cons_succ, List.setIfInBounds_toArray, List.set_cons_zero, List.set_cons_succ]
  refine wpAnyH_take (i := 3) (v := (.pointer (some ⟨R, 0, none⟩))) rfl (by kernel_rfl) (by kernel_rfl) (by kernel_rfl) (fun _ _ _ h => h) (Or.inl ⟨by rfl, fun wS hSw => ?_⟩) hHeld ?_
  · obtain ⟨g0, g1, g2⟩ := hSw
    first | rfl | (go_simp; done) | (go_simp; with_reducible rfl)
  try simp only [Act.put, List.getElem_toArray, List.getElem_cons_zero, List.getElem_cons_succ, List.setIfInBounds_toArray, List.set_cons_zero, List.set_cons_succ]
  refine wpAnyH_take (i := 4) (v := (.slice (some ⟨g, off, none⟩) n cap)) rfl (by kernel_rfl) (by kernel_rfl) (by kernel_rfl) (fun _ _ _ h => h) (Or.inl ⟨by rfl, fun wS hSw => ?_⟩) hHeld ?_
  · obtain ⟨g0, g1, g2⟩ := hSw
    first | rfl | (go_simp; done) | (go_simp; with_reducible rfl)
  try simp only [Act.put, List.getElem_toArray, List.getElem_cons_zero, List.getElem_cons_succ, List.setIfInBounds_toArray, List.set_cons_zero, List.set_cons_succ]
  refine wpAnyH_take (i := 5) (v := (.pointer (some ⟨R, 0, none⟩))) rfl (by kernel_rfl) (by kernel_rfl) (by kernel_rfl) (fun _ _ _ h => h) (Or.inl ⟨by rfl, fun wS hSw => ?_⟩) hHeld ?_
  · obtain ⟨g0, g1, g2⟩ := hSw
    first | rfl | (go_simp; done) | (go_simp; with_reducible rfl)
  try simp only [Act.put, List.getElem_toArray, List.getElem_cons_zero, List.getElem_cons_succ, List.setIfInBounds_toArray, List.set_cons_zero, List.set_cons_succ]
  refine wpAnyH_take (i := 6) (v := (.pointer (some ⟨R, 0, none⟩))) rfl (by kernel_rfl) (by kernel_rfl) (by kernel_rfl) (fun _ _ _ h => h) (Or.inl ⟨by rfl, fun wS hSw => ?_⟩) hHeld ?_
  · obtain ⟨g0, g1, g2⟩ := hSw
    first | rfl | (go_simp; done) | (go_simp; with_reducible rfl)
  try simp only [Act.put, List.getElem_toArray, List.getElem_cons_zero, List.getElem_cons_succ, List.setIfInBounds_toArray, List.set_cons_zero, List.set_cons_succ]
  refine wpAnyH_take (i := 7) (v := (.pointer (some ⟨R, 0, none⟩))) rfl (by kernel_rfl) (by kernel_rfl) (by kernel_rfl) (fun _ _ _ h => h) (Or.inl ⟨by rfl, fun wS hSw => ?_⟩) hHeld ?_
  · obtain ⟨g0, g1, g2⟩ := hSw
    first | rfl | (go_simp; done) | (go_simp; with_reducible rfl)
  try simp only [Act.put, List.getElem_toArray, List.getElem_cons_zero, List.getElem_cons_succ, List.setIfInBounds_toArray, List.set_cons_zero, List.set_cons_succ]
  refine wpAnyH_take (i := 8) (v := (.pointer (some ⟨R, 1, none⟩))) rfl (by kernel_rfl) (by kernel_rfl) (by kernel_rfl) (fun _ _ _ h => h) (Or.inl ⟨by rfl, fun wS hSw => ?_⟩) hHeld ?_
  · obtain ⟨g0, g1, g2⟩ := hSw
    first | rfl | (go_simp; done) | (go_simp; with_reducible rfl)
  try simp only [Act.put, List.getElem_toArray, List.getElem_cons_zero, List.getElem_cons_succ, List.setIfInBounds_toArray, List.set_cons_zero, List.set_cons_succ]
  refine wpAnyH_take (i := 9) (v := (.int .i64 at')) rfl (by kernel_rfl) (by kernel_rfl) (by kernel_rfl) (fun _ _ _ h => h) (Or.inl ⟨by rfl, fun wS hSw => ?_⟩) hHeld ?_
  · obtain ⟨g0, g1, g2⟩ := hSw
    first | rfl | (go_simp; done) | (go_simp; with_reducible rfl)
  try simp only [Act.put, List.getElem_toArray, List.getElem_cons_zero, List.getElem_cons_succ, List.setIfInBounds_toArray, List.set_cons_zero, List.set_cons_succ]
  refine wpAnyH_take (i := 10) (v := (.pointer (some ⟨g, off + at', none⟩))) rfl (by kernel_rfl) (by kernel_rfl) (by kernel_rfl) (fun _ _ _ h => h) (Or.inl ⟨by rfl, fun wS hSw => ?_⟩) hHeld ?_
  · obtain ⟨g0, g1, g2⟩ := hSw
    first | rfl | (go_simp; done) | (go_simp; with_reducible rfl)
  try simp only [Act.put, List.getElem_toArray, List.getElem_cons_zero, List.getElem_cons_succ, List.setIfInBounds_toArray, List.set_cons_zero, List.set_cons_succ]
  refine wpAnyH_take (i := 11) (v := (.int .u8 (o : Int))) rfl (by kernel_rfl) (by kernel_rfl) (by kernel_rfl) (fun _ _ _ h => h) (Or.inl ⟨by rfl, fun wS hSw => ?_⟩) hHeld ?_
  · obtain ⟨g0, g1, g2⟩ := hSw
    first | rfl | (go_simp; done) | (go_simp; with_reducible rfl)
  try simp only [Act.put, List.getElem_toArray, List.getElem_cons_zero, List.getElem_cons_succ, List.setIfInBounds_toArray, List.set_cons_zero, List.set_cons_succ]
  refine wpAnyH_take (i := 12) (v := (.int .i64 (o : Int))) rfl (by kernel_rfl) (by kernel_rfl) (by kernel_rfl) (fun _ _ _ h => h) (Or.inl ⟨by rfl, fun wS hSw => ?_⟩) hHeld ?_
  · obtain ⟨g0, g1, g2⟩ := hSw
    first | rfl | (go_simp; done) | (go_simp; with_reducible rfl)
  try simp only [Act.put, List.getElem_toArray, List.getElem_cons_zero, List.getElem_cons_succ, List.setIfInBounds_toArray, List.set_cons_zero, List.set_cons_succ]
  refine wpAnyH_take (i := 13) (v := (insV o 0 0 0 0 0 0 0)) rfl (by kernel_rfl) (by kernel_rfl) (by kernel_rfl) (fun _ _ _ h => h) (Or.inl ⟨by rfl, fun wS hSw => ?_⟩) hHeld ?_
  · obtain ⟨g0, g1, g2⟩ := hSw
    first | rfl | (go_simp; done) | (go_simp; with_reducible rfl)
  try simp only [Act.put, List.getElem_toArray, List.getElem_cons_zero, List.getElem_cons_succ, List.setIfInBounds_toArray, List.set_cons_zero, List.set_cons_succ]
  refine wpAnyH_ready (rs := [14]) (by kernel_rfl) (by simp) ?_
  refine AllReadyH.cons rfl (fun KC hC => ?_) AllReadyH.nil
  go_simp
  refine hC.out _ _ (HS1.out _ (((Below.refl _ _).alloc (Nat.le_refl _) _).drew)) (fun hHeld => ?_)
  clear hC KC
  try simp only [Act.put, List.getElem_toArray, List.getElem_cons_zero, List.getElem_cons_succ, List.setIfInBounds_toArray, List.set_cons_zero, List.set_cons_succ]
  refine wpAnyH_ready (rs := [15]) (by kernel_rfl) (by simp) ?_
  refine AllReadyH.cons rfl (fun KC hC => ?_) AllReadyH.nil
  go_simp
  refine hC.out _ _ (HS1.out _ (xb_below w o).drew) (fun hHeld => ?_)
  clear hC KC
  try simp only [Act.put, List.getElem_toArray, List.getElem_cons_zero, List.getElem_cons_succ, List.setIfInBounds_toArray, List.set_cons_zero, List.set_cons_succ]
  refine wpAnyH_done (by kernel_rfl) ?_ _
  clear hHeld
  go_wp2_with (first
    | (go_at_call 9; refine (HSZ.out _ HG1.out).mono ?_; rintro e w2 ⟨rfl, hB⟩; have HB2' : Aside (Below (zb w).heap.size (zb w) w2) := HB1.out.trans (hB.mono HB1.out.size); obtain ⟨q0, q1, q2⟩ := HS1.out _ HB2'.out; clear hB)
    | (go_at_call 78; refine (HRST.out _).mono ?_; rintro e w3 ⟨rfl, hB⟩; have HB2 : Aside (Below (zb w).heap.size (zb w) w3) := HB2'.out.trans (hB.mono HB2'.out.size); obtain ⟨z0, z1, z2, z3, z4, z5, z6, z7⟩ := (zb_ib HB2.out (by rw [zb_size]; omega)).cells; have fz := (zb_ib HB2.out (by rw [zb_size]; omega)).free; have fz0 := fz 0; have fz1 := fz 1; have fz2 := fz 2; have fz3 := fz 3; have fz4 := fz 4; have fz5 := fz 5; have fz6 := fz 6; have fz7 := fz 7; clear fz))
  have HZB := (zb_ib HB2.out (by rw [zb_size]; omega)).put 0 0 0 0 0 0 0 0
  have HBW := put8_below ((zb_below w).trans (HB2.out.mono (by rw [zb_size]; omega))) 0 0 0 0 0 0 0 0
  refine ret41 (B := w.heap.size) (r := false) ?_ ?_ HZB ?_
  · kernel_rfl
  · kernel_rfl
  · exact ⟨rfl, HBW⟩

end Go.Proofs.YtblklgcpobbfcaaGreatDoor

namespace Go.Proofs.YtblklgcpobbfcaaGreatDoor
open Go.Eng Go.RowKit
set_option maxRecDepth 1000000

/-- While the operands are read: the box of the instruction, the iterator of the kinds. -/
structure Ro (w : World) (o IT : Nat) (ks : ByteArray) (L : List Int) (j : Nat) (W : World) : Prop where
  it : W.heap[IT]? = some (.stringIter ks j)
  bx : W.heap[w.heap.size + 1]? = some (.cells (ar o L) 38 (0, 0))
  bel : Below (zb w).heap.size (zb w) W
  ne : w.heap.size + 1 < IT
theorem Ro.next {w : World} {o IT : Nat} {ks : ByteArray} {L : List Int} {j : Nat} {W : World} (h : Ro w o IT ks L j W) : Ro w o IT ks L (j + 1) (W.iterAt IT ks (j + 1)) := by
  have hs := zb_size w
  have hne := h.ne
  have e : ∀ k, k ≠ IT → (W.iterAt IT ks (j + 1)).heap[k]? = W.heap[k]? := fun k hk => by
    simp only [World.iterAt, Array.getElem?_setIfInBounds]
    rw [if_neg (fun e => hk e.symm)]
  refine ⟨Lib.iterAt_heap W IT ks j (j + 1) h.it, (e _ (by omega)).trans h.bx, ⟨h.bel.os, h.bel.tape, h.bel.output, ?_, fun k hk => (e k (by omega)).trans (h.bel.block k hk)⟩, h.ne⟩
  have := h.bel.size
  simpa [World.iterAt] using this
theorem Ro.put {w : World} {o IT : Nat} {ks : ByteArray} {L : List Int} {j : Nat} {W : World} (h : Ro w o IT ks L j W) (h7 : L.length < 7) (v : Int) : Ro w o IT ks (L ++ [v]) j (W.setCell ⟨w.heap.size + 1, 1 + L.length, none⟩ (.int .i64 v)) := by
  have hs := zb_size w
  have hne := h.ne
  refine ⟨?_, ?_, h.bel.setCell (p := ⟨w.heap.size + 1, 1 + L.length, none⟩) (by simp [hs]) _, h.ne⟩
  · simp only [World.setCell, Array.getElem?_modify]
    rw [if_neg (by omega)]
    exact h.it
  · simp only [World.setCell, Array.getElem?_modify, h.bx, if_true, Option.map_some]
    rw [← ar_set o v L h7]
    rfl
theorem Ro.cells {w : World} {o IT : Nat} {ks : ByteArray} {L : List Int} {j : Nat} {W : World} (h : Ro w o IT ks L j W) : B8 W (w.heap.size + 1) o (L.getD 0 0) (L.getD 1 0) (L.getD 2 0) (L.getD 3 0) (L.getD 4 0) (L.getD 5 0) (L.getD 6 0) := ⟨h.bx⟩
theorem Ro.old {w : World} {o IT : Nat} {ks : ByteArray} {L : List Int} {j : Nat} {W : World} (h : Ro w o IT ks L j W) (h7 : L.length < 7) : ∃ v, W.cell? ⟨w.heap.size + 1, 1 + L.length, none⟩ = some v ∧ W.frozen? ⟨w.heap.size + 1, 1 + L.length, none⟩ = false := by
  refine ⟨.int .i64 0, ?_, h.cells.free _⟩
  have e := h.bx
  rcases L with _ | ⟨a0, _ | ⟨a1, _ | ⟨a2, _ | ⟨a3, _ | ⟨a4, _ | ⟨a5, _ | ⟨a6, L⟩⟩⟩⟩⟩⟩⟩
  all_goals first
    | (simp only [World.cell?, e]; rfl)
    | (simp at h7; omega)
theorem put8_far {W : World} {B B' : Nat} {x0 x1 x2 x3 x4 x5 x6 x7 : Int} (h : B8 W B x0 x1 x2 x3 x4 x5 x6 x7) (hne : B ≠ B') (y0 y1 y2 y3 y4 y5 y6 y7 : Int) : B8 (put8 W B' y0 y1 y2 y3 y4 y5 y6 y7) B x0 x1 x2 x3 x4 x5 x6 x7 := by
  refine ⟨?_⟩
  have hne' : B' ≠ B := fun e => hne e.symm
  simp only [put8, World.setCell, Array.getElem?_modify, if_neg hne', h.box]
theorem or_byte (N c : Nat) (hN : N < 16777216) (hc : c < 256) : bits .or .i64 (wrap64 ((N : Int) * 256)) (wrap64 (c : Int)) = (N : Int) * 256 + c := by
  have h1 : wrap64 ((N : Int) * 256) = ((N * 256 : Nat) : Int) := by unfold wrap64; omega
  have h2 : wrap64 (c : Int) = (c : Int) := by unfold wrap64; omega
  have e : (BitVec.ofInt 64 ((N * 256 : Nat) : Int) ||| BitVec.ofInt 64 (c : Int)).toNat = N * 256 + c := by
    rw [BitVec.ofInt_natCast, BitVec.ofInt_natCast, BitVec.toNat_or, BitVec.toNat_ofNat, BitVec.toNat_ofNat, Nat.mod_eq_of_lt (by omega), Nat.mod_eq_of_lt (by omega)]
    have := Nat.two_pow_add_eq_or_of_lt (i := 8) (b := c) (by omega) N
    rw [show N * 256 = 2 ^ 8 * N by omega, ← this]
  rw [h1, h2]
  show IntKind.i64.wrap (((BitVec.ofInt 64 ((N * 256 : Nat) : Int) ||| BitVec.ofInt 64 (c : Int)).toNat : Nat) : Int) = _
  rw [e, IntKind.wrap_i64]
  omega
theorem wB_le (k : UInt8) : wB k ≤ 4 := by
  unfold wB wK
  split
  · omega
  · split <;> omega
theorem wB_pos (k : UInt8) : 0 < wB k := by
  unfold wB wK
  split
  · omega
  · split <;> omega
theorem or_next {C : Nat → Int} {P q m : Nat} {v c : Int} (hC : ∀ j, 0 ≤ C j ∧ C j < 256) (hm : m = P + q) (hv : v = rdv C P q) (hc : c = C m) (hq : q < 4) : bits .or .i64 (wrap64 (v * 256)) (wrap64 c) = rdv C P (q + 1) := by
  obtain ⟨h1, h2⟩ := rdv_lt (p := P) hC q
  obtain ⟨h3, h4⟩ := hC m
  have h5 : (256 : Int) ^ q ≤ 16777216 := by
    rcases (show q = 0 ∨ q = 1 ∨ q = 2 ∨ q = 3 by omega) with rfl | rfl | rfl | rfl <;> decide
  obtain ⟨N, hN⟩ : ∃ N : Nat, v = N := ⟨v.toNat, by omega⟩
  obtain ⟨c', hc'⟩ : ∃ c' : Nat, c = c' := ⟨c.toNat, by omega⟩
  rw [rdv, ← hv, ← hm, ← hc, hN, hc']
  exact or_byte N c' (by omega) (by omega)
theorem wrap6432 (x : Int) : wrap64 (wrap32 x) = wrap32 x := by unfold wrap64 wrap32; omega
theorem valK_n {C : Nat → Int} {k : UInt8} {P : Nat} (h : ((k.toNat : Int) == 110) = true) : wrap64 (wrap32 (rdv C P (wB k))) = valK C k P := by
  have : k = 110 := by
    apply UInt8.toNat_inj.1
    have h1 : (k.toNat : Int) = 110 := by simpa using h
    show k.toNat = 110
    omega
  rw [wrap6432, valK, if_pos this]
theorem valK_o {C : Nat → Int} {k : UInt8} {P : Nat} (h : ((k.toNat : Int) == 110) = false) : rdv C P (wB k) = valK C k P := by
  have : k ≠ 110 := fun e => by subst e; revert h; decide
  rw [valK, if_neg this]
theorem wK_wB (k : UInt8) : wK (k.toNat : Int) = (wB k : Int) := by
  have h : 0 ≤ wK (k.toNat : Int) := by
    unfold wK
    split
    · omega
    · split <;> omega
  unfold wB
  omega
theorem xb_size (w : World) (o : Nat) : w.heap.size + 1 < (xb w o).heap.size := by
  show _ < ((zb w).heap.push _).size
  rw [Array.size_push, zb_size]
  omega

set_option maxHeartbeats 8000000 in
theorem ins_ok (R g off n cap at' : Nat) (nx : Int) (C : Nat → Int) (o : Nat) (w : World) (hg : Gl w) (hr : RdAt w R g off n cap at' nx) (hc : CodeAt w g off n C) (hn : n < 9223372036854775808) (hat : at' < n) (ho : C at' = (o : Int)) (h27 : o < 27) (hfit : (at' : Int) + sz o ≤ n) (hR : 0 < R) (L : List Int) (hL : L = opsOf C (kd o) (at' + 1)) (x0 x1 x2 x3 x4 x5 x6 : Int) (hx : L.getD 0 0 = x0 ∧ L.getD 1 0 = x1 ∧ L.getD 2 0 = x2 ∧ L.getD 3 0 = x3 ∧ L.getD 4 0 = x4 ∧ L.getD 5 0 = x5 ∧ L.getD 6 0 = x6) :
    Calls Tryz.prog 41 #[.pointer (some ⟨R, 0, none⟩)] w fun e w' => e = .returned (.tuple #[insV o x0 x1 x2 x3 x4 x5 x6, .bool (okX o x0 x1 x2 x3 x4 x5 x6)]) ∧ Below w.heap.size (w.setCell ⟨R, 2, none⟩ (.int .i64 (at' + sz o))) w' := by
  have HG : Aside (Gl w) := hg
  have HRD : Aside (RdAt w R g off n cap at' nx) := hr
  have HC : Aside (CodeAt w g off n C) := hc
  have HRZ : Aside (RdAt (zb w) R g off n cap at' nx) := hr.below (zb_below w) hr.lt
  have HCZ : Aside (CodeAt (zb w) g off n C) := hc.below (zb_below w) hc.lt
  have h8 : (o : Int) < 256 := ho ▸ (hc.byte at').2
  obtain ⟨r0, r1, r2, r3⟩ := HRZ.out.cells
  have hc0 := HCZ.out.cell at' hat
  rw [ho] at hc0
  have ha0 : (0 : Int) ≤ (at' : Int) := by omega
  have ha1 : (at' : Int) < (n : Int) := by omega
  have ho0 : (0 : Int) ≤ (o : Int) := by omega
  have hwo : IntKind.i64.wrap (o : Int) = (o : Int) := wrap8 h8
  have HS1 : Hid (∀ W, Below (zb w).heap.size (zb w) W → (W.cell? ⟨R, 0, none⟩ = some (.slice (some ⟨g, off, none⟩) n cap) ∧ W.cell? ⟨R, 1, none⟩ = some (.int .i64 at') ∧ W.cell? ⟨g, off + at', none⟩ = some (.int .u8 (o : Int)))) := Lib.hid fun W hW => by
    obtain ⟨q0, q1, _, _⟩ := (HRZ.out.below hW HRZ.out.lt).cells
    have qc := (HCZ.out.below hW HCZ.out.lt).cell at' hat
    rw [ho] at qc
    exact ⟨q0, q1, qc⟩
  have hwr := wrap_rest hn hat
  have HRST := Lib.hid fun W => rest_any g off n cap at' W
  have HB1 : Aside (Below (zb w).heap.size (zb w) (xb w o).drew) := (xb_below w o).drew
  have HG1 : Aside (Gl (xb w o).drew) := ((hg.below (zb_below w)).below (xb_below w o)).drew
  have HSZ := Lib.hid fun W hg => size_yes (o : Int) W hg (by omega) (by omega)
  have hf : ¬ (n : Int) - at' < sz o := by omega
  have HEND : Aside ((endOf (kd o) (at' + 1) : Int) = at' + sz o) := kd_end h27 at'
  have HVAL := Lib.hid fun x0 x1 x2 x3 x4 x5 x6 W hg => valid_any o x0 x1 x2 x3 x4 x5 x6 W hg
  have HK : Aside (kS o = ⟨⟨kd o⟩⟩) := rfl
  have HKI := Lib.hid fun (ks : ByteArray) (e : ks = ⟨⟨kd o⟩⟩) j (h : j < ks.size) => kS_kind h27 e h
  have HKL : Aside ((kd o).length ≤ 7) := kd_len h27
  have HLX : Aside (L = opsOf C (kd o) (at' + 1) ∧ L.getD 0 0 = x0 ∧ L.getD 1 0 = x1 ∧ L.getD 2 0 = x2 ∧ L.getD 3 0 = x3 ∧ L.getD 4 0 = x4 ∧ L.getD 5 0 = x5 ∧ L.getD 6 0 = x6) := ⟨hL, hx⟩
  have HR0 : Aside (0 < R) := hR
  clear hL hx hR
  have HGC : Hid (∀ W, Gl W → W.cell? ⟨0, o * 2 + 1, none⟩ = some (.string (kS o))) := Lib.hid fun W hg => by rw [Nat.mul_comm]; exact hg.cell (by omega)
  have hat1 : wrap64 ((at' : Int) + 1) = (at' : Int) + 1 := by unfold wrap64; omega
  clear hg hr hc
  go_enter Tryz.func41, Tryz.ntmps41
  go_wp2
  refine wp_region_held_drew (S := fun W => W.cell? ⟨R, 0, none⟩ = some (.slice (some ⟨g, off, none⟩) n cap) ∧ W.cell? ⟨R, 1, none⟩ = some (.int .i64 at') ∧ W.cell? ⟨g, off + at', none⟩ = some (.int .u8 (o : Int))) (by kernel_rfl) ⟨r0, r1, hc0⟩ (fun hHeld => ?_)
  refine wpAnyH_take (i := 0) (v := (.pointer (some ⟨R, 0, none⟩))) rfl (by kernel_rfl) (by kernel_rfl) (by kernel_rfl) (fun _ _ _ h => h) (Or.inl ⟨by rfl, fun wS hSw => ?_⟩) hHeld ?_
  · obtain ⟨g0, g1, g2⟩ := hSw
    first | rfl | (go_simp; done) | (go_simp; with_reducible rfl)
  try simp only [Act.put, List.getElem_toArray, List.getElem_cons_zero, List.getElem_cons_succ, List.setIfInBounds_toArray, List.set_cons_zero, List.set_cons_succ]
  refine wpAnyH_take (i := 1) (v := (.pointer (some ⟨R, 0, none⟩))) rfl (by kernel_rfl) (by kernel_rfl) (by kernel_rfl) (fun _ _ _ h => h) (Or.inl ⟨by rfl, fun wS hSw => ?_⟩) hHeld ?_
  · obtain ⟨g0, g1, g2⟩ := hSw
    first | rfl | (go_simp; done) | (go_simp; with_reducible rfl)
  try simp only [Act.put, List.getElem_toArray, List.getElem_cons_zero, List.getElem_cons_succ, List.setIfInBounds_toArray, List.set_cons_zero, List.set_cons_succ]
  refine wpAnyH_take (i := 2) (v := (.pointer (some ⟨R, 0, none⟩))) rfl (by kernel_rfl) (by kernel_rfl) (by kernel_rfl) (fun _ _ _ h => h) (Or.inl ⟨by rfl, fun wS hSw => ?_⟩) hHeld ?_
  · obtain ⟨g0, g1, g2⟩ := hSw
    first | rfl | (go_simp; done) | (go_simp; with_reducible rfl)
  try simp only [Act.put, List.getElem_toArray, List.getElem_cons_zero, List.getElem_cons_succ, List.setIfInBounds_toArray, List.set_cons_zero, List.set_cons_succ]
  refine wpAnyH_take (i := 3) (v := (.pointer (some ⟨R, 0, none⟩))) rfl (by kernel_rfl) (by kernel_rfl) (by kernel_rfl) (fun _ _ _ h => h) (Or.inl ⟨by rfl, fun wS hSw => ?_⟩) hHeld ?_
  · obtain ⟨g0, g1, g2⟩ := hSw
    first | rfl | (go_simp; done) | (go_simp; with_reducible rfl)
  try simp only [Act.put, List.getElem_toArray, List.getElem_cons_zero, List.getElem_cons_succ, List.setIfInBounds_toArray, List.set_cons_zero, List.set_cons_succ]
  refine wpAnyH_take (i := 4) (v := (.slice (some ⟨g, off, none⟩) n cap)) rfl (by kernel_rfl) (by kernel_rfl) (by kernel_rfl) (fun _ _ _ h => h) (Or.inl ⟨by rfl, fun wS hSw => ?_⟩) hHeld ?_
  · obtain ⟨g0, g1, g2⟩ := hSw
    first | rfl | (go_simp; done) | (go_simp; with_reducible rfl)
  try simp only [Act.put, List.getElem_toArray, List.getElem_cons_zero, List.getElem_cons_succ, List.setIfInBounds_toArray, List.set_cons_zero, List.set_cons_succ]
  refine wpAnyH_take (i := 5) (v := (.pointer (some ⟨R, 0, none⟩))) rfl (by kernel_rfl) (by kernel_rfl) (by kernel_rfl) (fun _ _ _ h => h) (Or.inl ⟨by rfl, fun wS hSw => ?_⟩) hHeld ?_
  · obtain ⟨g0, g1, g2⟩ := hSw
    first | rfl | (go_simp; done) | (go_simp; with_reducible rfl)
  try simp only [Act.put, List.getElem_toArray, List.getElem_cons_zero, List.getElem_cons_succ, List.setIfInBounds_toArray, List.set_cons_zero, List.set_cons_succ]
  refine wpAnyH_take (i := 6) (v := (.pointer (some ⟨R, 0, none⟩))) rfl (by kernel_rfl) (by kernel_rfl) (by kernel_rfl) (fun _ _ _ h => h) (Or.inl ⟨by rfl, fun wS hSw => ?_⟩) hHeld ?_
  · obtain ⟨g0, g1, g2⟩ := hSw
    first | rfl | (go_simp; done) | (go_simp; with_reducible rfl)
  try simp only [Act.put, List.getElem_toArray, List.getElem_cons_zero, List.getElem_cons_succ, List.setIfInBounds_toArray, List.set_cons_zero, List.set_cons_succ]
  refine wpAnyH_take (i := 7) (v := (.pointer (some ⟨R, 0, none⟩))) rfl (by kernel_rfl) (by kernel_rfl) (by kernel_rfl) (fun _ _ _ h => h) (Or.inl ⟨by rfl, fun wS hSw => ?_⟩) hHeld ?_
  · obtain ⟨g0, g1, g2⟩ := hSw
    first | rfl | (go_simp; done) | (go_simp; with_reducible rfl)
  try simp only [Act.put, List.getElem_toArray, List.getElem_cons_zero, List.getElem_cons_succ, List.setIfInBounds_toArray, List.set_cons_zero, List.set_cons_succ]
  refine wpAnyH_take (i := 8) (v := (.pointer (some ⟨R, 1, none⟩))) rfl (by kernel_rfl) (by kernel_rfl) (by kernel_rfl) (fun _ _ _ h => h) (Or.inl ⟨by rfl, fun wS hSw => ?_⟩) hHeld ?_
  · obtain ⟨g0, g1, g2⟩ := hSw
    first | rfl | (go_simp; done) | (go_simp; with_reducible rfl)
  try simp only [Act.put, List.getElem_toArray, List.getElem_cons_zero, List.getElem_cons_succ, List.setIfInBounds_toArray, List.set_cons_zero, List.set_cons_succ]
  refine wpAnyH_take (i := 9) (v := (.int .i64 at')) rfl (by kernel_rfl) (by kernel_rfl) (by kernel_rfl) (fun _ _ _ h => h) (Or.inl ⟨by rfl, fun wS hSw => ?_⟩) hHeld ?_
  · obtain ⟨g0, g1, g2⟩ := hSw
    first | rfl | (go_simp; done) | (go_simp; with_reducible rfl)
  try simp only [Act.put, List.getElem_toArray, List.getElem_cons_zero, List.getElem_cons_succ, List.setIfInBounds_toArray, List.set_cons_zero, List.set_cons_succ]
  refine wpAnyH_take (i := 10) (v := (.pointer (some ⟨g, off + at', none⟩))) rfl (by kernel_rfl) (by kernel_rfl) (by kernel_rfl) (fun _ _ _ h => h) (Or.inl ⟨by rfl, fun wS hSw => ?_⟩) hHeld ?_
  · obtain ⟨g0, g1, g2⟩ := hSw
    first | rfl | (go_simp; done) | (go_simp; with_reducible rfl)
  try simp only [Act.put, List.getElem_toArray, List.getElem_cons_zero, List.getElem_cons_succ, List.setIfInBounds_toArray, List.set_cons_zero, List.set_cons_succ]
  refine wpAnyH_take (i := 11) (v := (.int .u8 (o : Int))) rfl (by kernel_rfl) (by kernel_rfl) (by kernel_rfl) (fun _ _ _ h => h) (Or.inl ⟨by rfl, fun wS hSw => ?_⟩) hHeld ?_
  · obtain ⟨g0, g1, g2⟩ := hSw
    first | rfl | (go_simp; done) | (go_simp; with_reducible rfl)
  try simp only [Act.put, List.getElem_toArray, List.getElem_cons_zero, List.getElem_cons_succ, List.setIfInBounds_toArray, List.set_cons_zero, List.set_cons_succ]
  refine wpAnyH_take (i := 12) (v := (.int .i64 (o : Int))) rfl (by kernel_rfl) (by kernel_rfl) (by kernel_rfl) (fun _ _ _ h => h) (Or.inl ⟨by rfl, fun wS hSw => ?_⟩) hHeld ?_
  · obtain ⟨g0, g1, g2⟩ := hSw
    first | rfl | (go_simp; done) | (go_simp; with_reducible rfl)
  try simp only [Act.put, List.getElem_toArray, List.getElem_cons_zero, List.getElem_cons_succ, List.setIfInBounds_toArray, List.set_cons_zero, List.set_cons_succ]
  refine wpAnyH_take (i := 13) (v := (insV o 0 0 0 0 0 0 0)) rfl (by kernel_rfl) (by kernel_rfl) (by kernel_rfl) (fun _ _ _ h => h) (Or.inl ⟨by rfl, fun wS hSw => ?_⟩) hHeld ?_
  · obtain ⟨g0, g1, g2⟩ := hSw
    first | rfl | (go_simp; done) | (go_simp; with_reducible rfl)
  try simp only [Act.put, List.getElem_toArray, List.getElem_cons_zero, List.getElem_cons_succ, List.setIfInBounds_toArray, List.set_cons_zero, List.set_cons_succ]
  refine wpAnyH_ready (rs := [14]) (by kernel_rfl) (by simp) ?_
  refine AllReadyH.cons rfl (fun KC hC => ?_) AllReadyH.nil
  go_simp
  refine hC.out _ _ (HS1.out _ (((Below.refl _ _).alloc (Nat.le_refl _) _).drew)) (fun hHeld => ?_)
  clear hC KC
  try simp only [Act.put, List.getElem_toArray, List.getElem_cons_zero, List.getElem_cons_succ, List.setIfInBounds_toArray, List.set_cons_zero, List.set_cons_succ]
  refine wpAnyH_ready (rs := [15]) (by kernel_rfl) (by simp) ?_
  refine AllReadyH.cons rfl (fun KC hC => ?_) AllReadyH.nil
  go_simp
  refine hC.out _ _ (HS1.out _ (xb_below w o).drew) (fun hHeld => ?_)
  clear hC KC
  try simp only [Act.put, List.getElem_toArray, List.getElem_cons_zero, List.getElem_cons_succ, List.setIfInBounds_toArray, List.set_cons_zero, List.set_cons_succ]
  refine wpAnyH_done (by kernel_rfl) ?_ _
  clear hHeld
  go_wp2_with (first
    | (go_at_call 9; refine (HSZ.out _ HG1.out).mono ?_; rintro e w2 ⟨rfl, hB⟩; have HB2 : Aside (Below (zb w).heap.size (zb w) w2) := HB1.out.trans (hB.mono HB1.out.size); have HX2 : Aside (Below (xb w o).heap.size (xb w o) w2) := ((Below.refl _ _).drew).trans hB; obtain ⟨q0, q1, q2⟩ := HS1.out _ HB2.out; have HG2 : Aside (Gl w2) := HG1.out.below hB; clear hB)
    | (go_at_call 78; refine (HRST.out _).mono ?_; rintro e w3 ⟨rfl, hB⟩; have HB3 : Aside (Below (zb w).heap.size (zb w) w3) := HB2.out.trans (hB.mono HB2.out.size); have HX3 : Aside (Below (xb w o).heap.size (xb w o) w3) := HX2.out.trans (hB.mono HX2.out.size); obtain ⟨q0, q1, q2⟩ := HS1.out _ HB3.out; have HG3 : Aside (Gl w3) := HG2.out.below hB; have qk := HGC.out _ HG3.out; obtain ⟨k0, _⟩ := (xb_ib HX3.out (xb_size w o)).cells; clear hB))
  obtain ⟨ks, hks⟩ : ∃ ks, ks = kS o := ⟨_, rfl⟩
  rw [← hks] at HK
  have HKS : Aside (ks = ⟨⟨kd o⟩⟩) := HK
  have hksz : Aside (ks.size = (kd o).length) := by rw [HKS.out]; rfl
  have hget : Hid (∀ j (h : j < ks.size), (kd o)[j]? = some ks[j] ∧ Kind (ks[j].toNat : Int)) := Lib.hid fun j h => by
    obtain ⟨h', e⟩ := kS_get HKS.out h
    exact ⟨by rw [e, List.getElem?_eq_getElem h'], HKI.out ks HKS.out j h⟩
  have hR0 : Aside (Ro w o w3.heap.size ks [] 0 (w3.iter ks 0)) := by
    have hs3 := HX3.out.size
    have hsx := xb_size w o
    have hpush : Below w3.heap.size w3 (w3.iter ks 0) := (Below.refl _ _).alloc (Nat.le_refl _) _
    exact ⟨World.iter_heap _ _ _, ((xb_ib HX3.out hsx).below hpush (by omega)).box, HB3.out.trans (hpush.mono HB3.out.size), by omega⟩
  rw [← hks]
  clear HK HKI hks
  go_loopw [7] (fun a wr => ∃ j : Nat, j ≤ ks.size ∧ a = .int .i64 ((endOf ((kd o).take j) (at' + 1) : Nat) : Int) ∧ Aside (Ro w o w3.heap.size ks (opsOf C ((kd o).take j) (at' + 1)) j wr)) (fun a _ => n - (intOf a).toNat)
  case atStart => exact ⟨0, Nat.zero_le _, by rw [List.take_zero]; go_num, by rw [List.take_zero]; exact hR0.out⟩
  case round =>
    obtain ⟨j, hj, rfl, hro⟩ := hrel
    by_cases hlt : j < ks.size
    · obtain ⟨hkj, hkind⟩ := hget.out j hlt
      have hascii : ks[j].toNat < 128 := by unfold Kind at hkind; omega
      have hnx := fun ty => Lib.run_next_ascii_at (P := Tryz.prog) wr w3.heap.size ks j ty hro.out.it hlt hascii
      have hrn := hro.out.next
      have HRN : Aside (Ro w o w3.heap.size ks (opsOf C ((kd o).take j) (at' + 1)) (j + 1) (wr.iterAt w3.heap.size ks (j + 1))) := hrn
      have HKJ : Aside ((kd o)[j]? = some ks[j]) := hkj
      obtain ⟨P, hP⟩ : ∃ P, P = endOf ((kd o).take j) (at' + 1) := ⟨_, rfl⟩
      have HP : Aside (P = endOf ((kd o).take j) (at' + 1)) := hP
      have hwb := wK_wB ks[j]
      have hle : P + wB ks[j] ≤ n := by
        have h1 := HEND.out
        have h2 := endOf_app ((kd o).take (j + 1)) ((kd o).drop (j + 1)) (at' + 1)
        rw [List.take_append_drop] at h2
        have h3 := endOf_ge ((kd o).drop (j + 1)) (endOf ((kd o).take (j + 1)) (at' + 1))
        have h4 : endOf ((kd o).take (j + 1)) (at' + 1) = P + wB ks[j] := by rw [List.take_add_one, hkj, Option.toList_some, endOf_snoc, ← hP]
        omega
      have HCW : Aside (CodeAt (wr.iterAt w3.heap.size ks (j + 1)) g off n C) := HCZ.out.below hrn.bel HCZ.out.lt
      obtain ⟨s0, s1, _⟩ := HS1.out _ hrn.bel
      rw [← hP]
      clear hkj hP hrn hro
      have HKD := Lib.hid fun W => size_kind (ks[j].toNat : Int) W hkind
      generalize wr.iterAt w3.heap.size ks (j + 1) = wi at *
      go_wp2_with (go_at_call 29; refine (HKD.out _).mono ?_; rintro e w5 ⟨rfl, rfl⟩)
      go_loopw [7, 10, 61] (fun a v t W => ∃ q : Nat, q ≤ wB ks[j] ∧ a = .int .i64 ((P + q : Nat) : Int) ∧ v = .int .i64 (rdv C P q) ∧ t = .int .i64 q ∧ W = w5) (fun _ _ t _ => wB ks[j] - (intOf t).toNat)
      case atStart => exact ⟨0, Nat.zero_le _, rfl, rfl, rfl, rfl⟩
      case round =>
        obtain ⟨q, hq, rfl, rfl, rfl, rfl⟩ := hrel
        by_cases hqt : q < wB ks[j]
        · obtain ⟨m, hm⟩ : ∃ m, m = P + q := ⟨_, rfl⟩
          have HM : Aside (m = P + q) := hm
          have hcm := HCW.out.cell m (by omega)
          obtain ⟨c, hcv⟩ : ∃ c, c = C m := ⟨_, rfl⟩
          have hm0 : (0 : Int) ≤ (m : Int) := by omega
          have hm1 : (m : Int) < (n : Int) := by omega
          have hq1 : (q : Int) < wK (ks[j].toNat : Int) := by rw [hwb]; omega
          rw [← hcv] at hcm
          rw [← hm]
          clear hm
          have HCV : Aside (c = C m) := hcv
          clear hcv
          go_wp2
          have hmm := HM.out
          refine ⟨⟨q + 1, by omega, by rw [hmm]; go_num, ?_, by go_num, trivial⟩, ?_⟩
          · rw [← or_next HC.out.byte HM.out rfl HCV.out (by have := wB_le ks[j]; omega)]
          · simp [intOf]; omega
        · have e : q = wB ks[j] := by omega
          subst e
          have hq1 : ¬ ((wB ks[j] : Nat) : Int) < wK (ks[j].toNat : Int) := by rw [hwb]; omega
          have HLJ : Aside ((opsOf C ((kd o).take j) (at' + 1)).length = j) := by rw [opsOf_len, List.length_take]; have := hksz.out; show min j (kd o).length = j; omega
          have hj7 : (j : Int) < 7 := by have := hksz.out; have := HKL.out; omega
          have hj0 : (0 : Int) ≤ (j : Int) := by omega
          obtain ⟨old, hold, hfree⟩ := HRN.out.old (by rw [HLJ.out]; omega)
          rw [HLJ.out] at hold hfree
          have HNX : Hid (∀ x, x = valK C ks[j] P → Ro w o w3.heap.size ks (opsOf C ((kd o).take (j + 1)) (at' + 1)) (j + 1) (wr.setCell ⟨w.heap.size + 1, 1 + j, none⟩ (.int .i64 x))) := Lib.hid fun x hx => by
            have h1 := HRN.out.put (by rw [HLJ.out]; omega) x
            rw [HLJ.out] at h1
            rw [List.take_add_one, HKJ.out, Option.toList_some, opsOf_snoc, ← HP.out, ← hx]
            exact h1
          have HPN : Aside (P + wB ks[j] = endOf ((kd o).take (j + 1)) (at' + 1)) := by
            show P + wB ks[j] = endOf ((kd o).take (j + 1)) (at' + 1)
            rw [List.take_add_one, HKJ.out, Option.toList_some, endOf_snoc, ← HP.out]
          have hw1 := wB_pos ks[j]
          cases hn : ((ks[j].toNat : Int) == 110) with
          | true =>
            go_wp2
            exact ⟨⟨j + 1, by omega, by rw [HPN.out], HNX.out _ (valK_n hn)⟩, by simp [intOf]; omega⟩
          | false =>
            go_wp2
            exact ⟨⟨j + 1, by omega, by rw [HPN.out], HNX.out _ (valK_o hn)⟩, by simp [intOf]; omega⟩
    · have e : j = ks.size := by omega
      subst e
      have hT : (kd o).take ks.size = kd o := by rw [hksz.out, List.take_length]
      rw [hT] at hro ⊢
      have hnx := fun ty => Lib.run_next_end_at (P := Tryz.prog) wr w3.heap.size ks ks.size ty hro.out.it (by omega)
      obtain ⟨t0, t1, t2, t3⟩ := (HRZ.out.below hro.out.bel HRZ.out.lt).cells
      obtain ⟨E, hE⟩ : ∃ E, E = endOf (kd o) (at' + 1) := ⟨_, rfl⟩
      rw [← hE]
      have HE : Aside ((E : Int) = at' + sz o) := by rw [hE]; exact HEND.out
      have HRO : Aside (Ro w o w3.heap.size ks L ks.size wr) := by rw [HLX.out.1]; exact hro
      have HXB : Hid (∀ W, (W.heap[w.heap.size + 1]? = wr.heap[w.heap.size + 1]?) → B8 W (w.heap.size + 1) o x0 x1 x2 x3 x4 x5 x6) := Lib.hid fun W h => by
        obtain ⟨_, h0, h1, h2, h3, h4, h5, h6⟩ := HLX.out
        rw [← h0, ← h1, ← h2, ← h3, ← h4, ← h5, ← h6]
        exact ⟨h.trans HRO.out.bx⟩
      clear hro hT hE
      go_wp2
      have hRlt := HRD.out.lt
      have hns : (wr.setCell ⟨R, 2, none⟩ (.int .i64 E)).heap.size = wr.heap.size := by simp [World.setCell]
      have hxlt : w.heap.size + 1 < wr.heap.size := HRO.out.cells.lt
      have HFAR : Hid (∀ k, k ≠ R → (wr.setCell ⟨R, 2, none⟩ (.int .i64 E)).heap[k]? = wr.heap[k]?) := Lib.hid fun k hk => by
        simp only [World.setCell, Array.getElem?_modify]
        rw [if_neg (fun e => hk e.symm)]
      have HX1 : B8 (wr.setCell ⟨R, 2, none⟩ (.int .i64 E)) (w.heap.size + 1) o x0 x1 x2 x3 x4 x5 x6 := HXB.out _ (HFAR.out _ (by omega))
      have HZ1 : Aside (B8 (wr.setCell ⟨R, 2, none⟩ (.int .i64 E)) w.heap.size 0 0 0 0 0 0 0 0) := ⟨(HFAR.out _ (by omega)).trans (zb_ib HRO.out.bel (by rw [zb_size]; omega)).box⟩
      have HGW : Aside (Gl (wr.setCell ⟨R, 2, none⟩ (.int .i64 E)).drew) := by
        obtain ⟨arr, e, l, h1, h2⟩ := (HG.out.below (zb_below w)).below HRO.out.bel
        exact Gl.drew ⟨arr, e, l, (HFAR.out 0 (by have := HR0.out; omega)).trans h1, h2⟩
      have HBW : Aside (Below w.heap.size (w.setCell ⟨R, 2, none⟩ (.int .i64 (at' + sz o))) (wr.setCell ⟨R, 2, none⟩ (.int .i64 E))) := by
        have hb := (zb_below w).trans (HRO.out.bel.mono (by rw [zb_size]; omega))
        rw [← HE.out]
        refine ⟨hb.os, hb.tape, hb.output, ?_, fun k hk => ?_⟩
        · have h1 : (w.setCell ⟨R, 2, none⟩ (.int .i64 E)).heap.size = w.heap.size := by simp [World.setCell]
          rw [h1, hns]; exact hb.size
        · simp only [World.setCell, Array.getElem?_modify, hb.block k hk]
      have hHeld0 : Below w.heap.size (wr.setCell ⟨R, 2, none⟩ (.int .i64 E)) (wr.setCell ⟨R, 2, none⟩ (.int .i64 E)).drew ∧ B8 (wr.setCell ⟨R, 2, none⟩ (.int .i64 E)).drew (w.heap.size + 1) o x0 x1 x2 x3 x4 x5 x6 := ⟨(Below.refl _ _).drew, ⟨HX1.box⟩⟩
      refine wp_region_held_drew (S := fun W => Below w.heap.size (wr.setCell ⟨R, 2, none⟩ (.int .i64 E)) W ∧ B8 W (w.heap.size + 1) o x0 x1 x2 x3 x4 x5 x6) (by kernel_rfl) hHeld0 (fun hHeld => ?_)
      refine wpAnyH_take (i := 0) (v := (insV o x0 x1 x2 x3 x4 x5 x6)) rfl (by kernel_rfl) (by kernel_rfl) (by kernel_rfl) (fun _ _ _ h => h) (Or.inl ⟨by rfl, fun wS hSw => ?_⟩) hHeld ?_
      · obtain ⟨g0, g1, g2, g3, g4, g5, g6, g7⟩ := hSw.2.cells
        first | rfl | (go_simp; done) | (go_simp; with_reducible rfl)
      try simp only [Act.put, List.getElem_toArray, List.getElem_cons_zero, List.getElem_cons_succ, List.setIfInBounds_toArray, List.set_cons_zero, List.set_cons_succ]
      refine wpAnyH_take (i := 1) (v := (insV o x0 x1 x2 x3 x4 x5 x6)) rfl (by kernel_rfl) (by kernel_rfl) (by kernel_rfl) (fun _ _ _ h => h) (Or.inl ⟨by rfl, fun wS hSw => ?_⟩) hHeld ?_
      · obtain ⟨g0, g1, g2, g3, g4, g5, g6, g7⟩ := hSw.2.cells
        first | rfl | (go_simp; done) | (go_simp; with_reducible rfl)
      try simp only [Act.put, List.getElem_toArray, List.getElem_cons_zero, List.getElem_cons_succ, List.setIfInBounds_toArray, List.set_cons_zero, List.set_cons_succ]
      refine wpAnyH_ready (rs := [2]) (by kernel_rfl) (by simp) ?_
      refine AllReadyH.cons rfl (fun KC hC => ?_) AllReadyH.nil
      go_simp
      go_at_call 39; refine (HVAL.out x0 x1 x2 x3 x4 x5 x6 _ HGW.out).mono ?_; rintro e w6 ⟨rfl, hb6⟩
      have HZ6 : Aside (B8 w6 w.heap.size 0 0 0 0 0 0 0 0) := (B8.below (W := (wr.setCell ⟨R, 2, none⟩ (.int .i64 E)).drew) ⟨HZ1.out.box⟩ hb6 (by have : (wr.setCell ⟨R, 2, none⟩ (.int .i64 E)).drew.heap.size = (wr.setCell ⟨R, 2, none⟩ (.int .i64 E)).heap.size := rfl; omega))
      have hH6 : Below w.heap.size (wr.setCell ⟨R, 2, none⟩ (.int .i64 E)) w6 ∧ B8 w6 (w.heap.size + 1) o x0 x1 x2 x3 x4 x5 x6 := ⟨hHeld.1.trans (hb6.mono (by have : (wr.setCell ⟨R, 2, none⟩ (.int .i64 E)).drew.heap.size = (wr.setCell ⟨R, 2, none⟩ (.int .i64 E)).heap.size := rfl; omega)), hHeld.2.below hb6 (by have : (wr.setCell ⟨R, 2, none⟩ (.int .i64 E)).drew.heap.size = (wr.setCell ⟨R, 2, none⟩ (.int .i64 E)).heap.size := rfl; omega)⟩
      refine hC.out _ _ hH6 (fun hHeld => ?_)
      clear hC KC
      try simp only [Act.put, List.getElem_toArray, List.getElem_cons_zero, List.getElem_cons_succ, List.setIfInBounds_toArray, List.set_cons_zero, List.set_cons_succ]
      obtain ⟨z0, z1, z2, z3, z4, z5, z6, z7⟩ := HZ6.out.cells
      have f0 := HZ6.out.free 0; have f1 := HZ6.out.free 1; have f2 := HZ6.out.free 2; have f3 := HZ6.out.free 3; have f4 := HZ6.out.free 4; have f5 := HZ6.out.free 5; have f6 := HZ6.out.free 6; have f7 := HZ6.out.free 7
      refine wpAnyH_ready (rs := [3]) (by kernel_rfl) (by simp) ?_
      refine AllReadyH.cons rfl (fun KC hC => ?_) AllReadyH.nil
      go_simp
      refine hC.out _ _ ⟨put8_below hHeld.1 o x0 x1 x2 x3 x4 x5 x6, put8_far hHeld.2 (by omega) o x0 x1 x2 x3 x4 x5 x6⟩ (fun hHeld => ?_)
      clear hC KC
      try simp only [Act.put, List.getElem_toArray, List.getElem_cons_zero, List.getElem_cons_succ, List.setIfInBounds_toArray, List.set_cons_zero, List.set_cons_succ]
      refine wpAnyH_take (i := 4) (v := (.bool (okX o x0 x1 x2 x3 x4 x5 x6))) rfl (by kernel_rfl) (by kernel_rfl) (by kernel_rfl) (fun _ _ _ h => h) (Or.inl ⟨by rfl, fun wS hSw => ?_⟩) hHeld ?_
      · skip
        first | rfl | (go_simp; done) | (go_simp; with_reducible rfl)
      try simp only [Act.put, List.getElem_toArray, List.getElem_cons_zero, List.getElem_cons_succ, List.setIfInBounds_toArray, List.set_cons_zero, List.set_cons_succ]
      refine wpAnyH_done (by kernel_rfl) ?_ _
      go_wp2
      refine ret41 (B := w.heap.size) (r := okX o x0 x1 x2 x3 x4 x5 x6) ?_ ?_ (HZ6.out.put o x0 x1 x2 x3 x4 x5 x6) ?_
      · kernel_rfl
      · kernel_rfl
      · exact ⟨rfl, HBW.out.trans hHeld.1⟩
end Go.Proofs.YtblklgcpobbfcaaGreatDoor
