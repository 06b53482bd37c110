/- The reference's At and Split. Conditions: none. -/
import Derived.Test.YtblklgcpobbfcaaGreatDoorOc
import Derived.RangeFuncOwn
import Derived.Test.YtblklgcpobbfcaaGreatDoorOg
set_option linter.all false
namespace Go.Proofs.YtblklgcpobbfcaaGreatDoor
open Go.Eng Go.RowKit
set_option maxRecDepth 1000000

/-! The reference's At. -/
abbrev rz (w : World) : World := w.alloc (.cells #[.int .i64 0, .int .i64 0, .int .i64 0, .int .i64 0, .int .i64 0, .int .i64 0, .int .i64 0, .int .i64 0, .int .i64 0, .bool false] 56)
theorem rz_size (w : World) : (rz w).heap.size = w.heap.size + 1 := by show (w.heap.push _).size = _; rw [Array.size_push]
theorem rz_below (w : World) : Below w.heap.size w (rz w) := (Below.refl _ _).alloc (Nat.le_refl _) _
/-- A Read in memory. -/
structure B10 (W : World) (B : Nat) (x0 x1 x2 x3 x4 x5 x6 x7 nx : Int) (ok : Bool) : Prop where
  box : W.heap[B]? = some (.cells #[.int .i64 x0, .int .i64 x1, .int .i64 x2, .int .i64 x3, .int .i64 x4, .int .i64 x5, .int .i64 x6, .int .i64 x7, .int .i64 nx, .bool ok] 56 (0, 0))
theorem rz_b10 {w W : World} {K : Nat} (h : Below K (rz w) W) (hk : w.heap.size < K) : B10 W w.heap.size 0 0 0 0 0 0 0 0 0 false := by
  refine ⟨?_⟩
  rw [h.block _ hk]
  show (w.heap.push _)[w.heap.size]? = _
  rw [Array.getElem?_push, if_pos rfl]
section
variable {W : World} {B : Nat} {x0 x1 x2 x3 x4 x5 x6 x7 nx : Int} {ok : Bool}
theorem B10.cells (h : B10 W B x0 x1 x2 x3 x4 x5 x6 x7 nx ok) :
    (W.cell? ⟨B, 0, none⟩ = some (.int .i64 x0) ∧ W.cell? ⟨B, 1, none⟩ = some (.int .i64 x1) ∧ W.cell? ⟨B, 2, none⟩ = some (.int .i64 x2) ∧ W.cell? ⟨B, 3, none⟩ = some (.int .i64 x3) ∧ W.cell? ⟨B, 4, none⟩ = some (.int .i64 x4)) ∧ W.cell? ⟨B, 5, none⟩ = some (.int .i64 x5) ∧ W.cell? ⟨B, 6, none⟩ = some (.int .i64 x6) ∧ W.cell? ⟨B, 7, none⟩ = some (.int .i64 x7) ∧ W.cell? ⟨B, 8, none⟩ = some (.int .i64 nx) ∧ W.cell? ⟨B, 9, none⟩ = some (.bool ok) := by
  have e := h.box
  refine ⟨⟨?_, ?_, ?_, ?_, ?_⟩, ?_, ?_, ?_, ?_, ?_⟩
  all_goals (simp only [World.cell?, e]; rfl)
theorem B10.free (h : B10 W B x0 x1 x2 x3 x4 x5 x6 x7 nx ok) (j : Nat) : W.frozen? ⟨B, j, none⟩ = false := by
  have e := h.box
  simp only [World.frozen?, e]
  simp
abbrev put10 (W : World) (B : Nat) (x0 x1 x2 x3 x4 x5 x6 x7 nx : Int) (ok : Bool) : World := (((((((((W.setCell ⟨B, 0, none⟩ (.int .i64 x0)).setCell ⟨B, 1, none⟩ (.int .i64 x1)).setCell ⟨B, 2, none⟩ (.int .i64 x2)).setCell ⟨B, 3, none⟩ (.int .i64 x3)).setCell ⟨B, 4, none⟩ (.int .i64 x4)).setCell ⟨B, 5, none⟩ (.int .i64 x5)).setCell ⟨B, 6, none⟩ (.int .i64 x6)).setCell ⟨B, 7, none⟩ (.int .i64 x7)).setCell ⟨B, 8, none⟩ (.int .i64 nx)).setCell ⟨B, 9, none⟩ (.bool ok)
theorem B10.put {y0 y1 y2 y3 y4 y5 y6 y7 ny : Int} {b : Bool} (h : B10 W B y0 y1 y2 y3 y4 y5 y6 y7 ny b) (x0 x1 x2 x3 x4 x5 x6 x7 nx : Int) (ok : Bool) : B10 (put10 W B x0 x1 x2 x3 x4 x5 x6 x7 nx ok) B x0 x1 x2 x3 x4 x5 x6 x7 nx ok := by
  refine ⟨?_⟩
  simp [put10, World.setCell, Array.getElem?_modify, h.box]
theorem put10_below {W0 : World} (h : Below B W0 W) (x0 x1 x2 x3 x4 x5 x6 x7 nx : Int) (ok : Bool) : Below B W0 (put10 W B x0 x1 x2 x3 x4 x5 x6 x7 nx ok) :=
  (((((((((h.setCell (p := ⟨B, 0, none⟩) (Nat.le_refl _) _).setCell (p := ⟨B, 1, none⟩) (Nat.le_refl _) _).setCell (p := ⟨B, 2, none⟩) (Nat.le_refl _) _).setCell (p := ⟨B, 3, none⟩) (Nat.le_refl _) _).setCell (p := ⟨B, 4, none⟩) (Nat.le_refl _) _).setCell (p := ⟨B, 5, none⟩) (Nat.le_refl _) _).setCell (p := ⟨B, 6, none⟩) (Nat.le_refl _) _).setCell (p := ⟨B, 7, none⟩) (Nat.le_refl _) _).setCell (p := ⟨B, 8, none⟩) (Nat.le_refl _) _).setCell (p := ⟨B, 9, none⟩) (Nat.le_refl _) _
/-- What the reference's At hands back. -/
abbrev rdV (x0 x1 x2 x3 x4 x5 x6 x7 nx : Int) (ok : Bool) : Value := .agg #[.int .i64 x0, .int .i64 x1, .int .i64 x2, .int .i64 x3, .int .i64 x4, .int .i64 x5, .int .i64 x6, .int .i64 x7, .int .i64 nx, .bool ok]
theorem ret23 {R : Ending → World → Prop} {tmps : Array Value} (h2 : tmps[4]? = some (.pointer (some ⟨B, 0, none⟩)))
    (hb : B10 W B x0 x1 x2 x3 x4 x5 x6 x7 nx ok) (hR : R (.returned (rdV x0 x1 x2 x3 x4 x5 x6 x7 nx ok)) W) : bodyPost Tryz.prog Tryz.f23 R .ret { tmps := tmps, defers := [] } W := by
  obtain ⟨⟨c0, c1, c2, c3, c4⟩, c5, c6, c7, c8, c9⟩ := hb.cells
  refine ⟨rfl, _, ?_, hR⟩
  simp [results, Tryz.results23, go_sem, h2, c0, c1, c2, c3, c4, c5, c6, c7, c8, c9]
end

theorem sz_le {i : Nat} (hi : i < 27) : sz i ≤ 8 := by
  have h := of_map (f := fun i => decide (sz i ≤ 8)) (g := fun _ => true) (n := 27) (by kernel_rfl) hi
  exact of_decide_eq_true h
set_option maxHeartbeats 4000000 in
theorem rat_none (g off n cap a : Nat) (C : Nat → Int) (o : Nat) (w : World) (hc : CodeAt w g off n C) (ha : a < n) (hn : n ≤ 4611686018427387904) (ho : C a = (o : Int)) (h27 : 27 ≤ o) :
    Calls Tryz.prog 23 #[.slice (some ⟨g, off, none⟩) n cap, .int .i64 a] w fun e w' => e = .returned (rdV 0 0 0 0 0 0 0 0 0 false) ∧ Below w.heap.size w w' := by
  have h8 : (o : Int) < 256 := ho ▸ (hc.byte a).2
  have ha0 : (0 : Int) ≤ (a : Int) := by omega
  have ha1 : (a : Int) < (n : Int) := by omega
  have hwo : IntKind.i64.wrap (o : Int) = (o : Int) := wrap8 h8
  have hc0 := (hc.below (rz_below w) hc.lt).cell a ha
  rw [ho] at hc0
  have HIS := Lib.hid fun W => is_no (o : Int) W (.inr (by omega))
  have HZ : Aside (B10 (rz w) w.heap.size 0 0 0 0 0 0 0 0 0 false) := rz_b10 (Below.refl (w.heap.size + 1) _) (by omega)
  have HBZ : Aside (Below w.heap.size w (rz w)) := rz_below w
  clear hc
  go_enter Tryz.func23, Tryz.ntmps23
  go_wp2_with (go_at_call 12; refine (HIS.out _).mono ?_; rintro e w2 ⟨rfl, hw2⟩; replace HZ : Aside (B10 w2 w.heap.size 0 0 0 0 0 0 0 0 0 false) := (by rw [hw2]; exact HZ); replace HBZ : Aside (Below w.heap.size w w2) := (by rw [hw2]; exact HBZ); clear hw2; obtain ⟨⟨z0, z1, z2, z3, z4⟩, z5, z6, z7, z8, z9⟩ := HZ.out.cells; have f0 := HZ.out.free 0; have f1 := HZ.out.free 1; have f2 := HZ.out.free 2; have f3 := HZ.out.free 3; have f4 := HZ.out.free 4; have f5 := HZ.out.free 5; have f6 := HZ.out.free 6; have f7 := HZ.out.free 7; have f8 := HZ.out.free 8; have f9 := HZ.out.free 9)
  exact ret23 (B := w.heap.size) (by kernel_rfl) (HZ.out.put 0 0 0 0 0 0 0 0 0 false) ⟨rfl, put10_below HBZ.out _ _ _ _ _ _ _ _ _ _⟩

set_option maxHeartbeats 4000000 in
theorem rat_short (g off n cap a : Nat) (C : Nat → Int) (o : Nat) (w : World) (hg : Gl w) (hc : CodeAt w g off n C) (ha : a < n) (hn : n ≤ 4611686018427387904) (ho : C a = (o : Int)) (h27 : o < 27) (hfit : (n : Int) < a + sz o) :
    Calls Tryz.prog 23 #[.slice (some ⟨g, off, none⟩) n cap, .int .i64 a] w fun e w' => e = .returned (rdV 0 0 0 0 0 0 0 0 0 false) ∧ Below w.heap.size w w' := by
  have h8 : (o : Int) < 256 := ho ▸ (hc.byte a).2
  have ha0 : (0 : Int) ≤ (a : Int) := by omega
  have ha1 : (a : Int) < (n : Int) := by omega
  have hwo : IntKind.i64.wrap (o : Int) = (o : Int) := wrap8 h8
  have hc0 := (hc.below (rz_below w) hc.lt).cell a ha
  rw [ho] at hc0
  have HIS := Lib.hid fun W => is_yes (o : Int) W (by omega) (by omega)
  have HSZ := Lib.hid (rsize_yes (o : Int) (rz w) (hg.below (rz_below w)) (by omega) (by omega))
  have hsz := sz_pos h27
  have hsz8 := sz_le h27
  have hws : wrap64 ((a : Int) + sz o) = (a : Int) + sz o := by unfold wrap64; omega
  have HR : Aside (Below w.heap.size w (rz w)) := rz_below w
  clear hc
  go_enter Tryz.func23, Tryz.ntmps23
  go_wp2_with (first
    | (go_at_call 12; refine (HIS.out _).mono ?_; rintro e w2 ⟨rfl, rfl⟩)
    | (go_at_call 14; refine HSZ.out.mono ?_; rintro e w2 ⟨he, hb2⟩; rw [Int.toNat_natCast] at he; subst he; have HB2 : Aside (Below (rz w).heap.size (rz w) w2) := hb2; have HZ : Aside (B10 w2 w.heap.size 0 0 0 0 0 0 0 0 0 false) := rz_b10 hb2 (by rw [rz_size]; omega); obtain ⟨⟨z0, z1, z2, z3, z4⟩, z5, z6, z7, z8, z9⟩ := HZ.out.cells; have f0 := HZ.out.free 0; have f1 := HZ.out.free 1; have f2 := HZ.out.free 2; have f3 := HZ.out.free 3; have f4 := HZ.out.free 4; have f5 := HZ.out.free 5; have f6 := HZ.out.free 6; have f7 := HZ.out.free 7; have f8 := HZ.out.free 8; have f9 := HZ.out.free 9; clear hb2))
  refine ret23 (B := w.heap.size) (by kernel_rfl) (HZ.out.put 0 0 0 0 0 0 0 0 0 false) ⟨rfl, put10_below (HR.out.trans (HB2.out.mono (by rw [rz_size]; omega))) _ _ _ _ _ _ _ _ _ _⟩
end Go.Proofs.YtblklgcpobbfcaaGreatDoor

namespace Go.Proofs.YtblklgcpobbfcaaGreatDoor
open Go.Eng Go.RowKit
set_option maxRecDepth 1000000

/-- While the reference's At reads the operands. -/
structure Rr (w : World) (o X : Nat) (L : List Int) (W : World) : Prop where
  bx : W.heap[X]? = some (.cells (ar o L) 38 (0, 0))
  bel : Below (w.heap.size + 1) (rz w) W
  lo : w.heap.size + 1 ≤ X
theorem Rr.put {w : World} {o X : Nat} {L : List Int} {W : World} (h : Rr w o X L W) (h7 : L.length < 7) (v : Int) : Rr w o X (L ++ [v]) (W.setCell ⟨X, 1 + L.length, none⟩ (.int .i64 v)) := by
  refine ⟨?_, h.bel.setCell (p := ⟨X, 1 + L.length, none⟩) h.lo _, h.lo⟩
  simp only [World.setCell, Array.getElem?_modify, h.bx, if_true, Option.map_some]
  rw [← ar_set o v L h7]
  rfl
theorem Rr.cells {w : World} {o X : Nat} {L : List Int} {W : World} (h : Rr w o X L W) : B8 W X o (L.getD 0 0) (L.getD 1 0) (L.getD 2 0) (L.getD 3 0) (L.getD 4 0) (L.getD 5 0) (L.getD 6 0) := ⟨h.bx⟩
theorem Rr.old {w : World} {o X : Nat} {L : List Int} {W : World} (h : Rr w o X L W) (h7 : L.length < 7) : ∃ v, W.cell? ⟨X, 1 + L.length, none⟩ = some v ∧ W.frozen? ⟨X, 1 + L.length, none⟩ = false := by
  refine ⟨.int .i64 0, ?_, h.cells.free _⟩
  have e := h.bx
  rcases L with _ | ⟨a0, _ | ⟨a1, _ | ⟨a2, _ | ⟨a3, _ | ⟨a4, _ | ⟨a5, _ | ⟨a6, L⟩⟩⟩⟩⟩⟩⟩
  all_goals first
    | (simp only [World.cell?, e]; rfl)
    | (simp at h7; omega)
theorem isN {k : UInt8} (h : ((k.toNat : Int) == 110) = true) : k = 110 := by
  apply UInt8.toNat_inj.1
  have h1 : (k.toNat : Int) = 110 := by simpa using h
  show k.toNat = 110
  omega
theorem rdv_n {C : Nat → Int} {k : UInt8} {P : Nat} (hC : ∀ j, 0 ≤ C j ∧ C j < 256) (h : ((k.toNat : Int) == 110) = true) : 0 ≤ rdv C P (wB k) ∧ rdv C P (wB k) < 4294967296 := by
  obtain rfl := isN h
  have := rdv_lt (p := P) hC 4
  have e : wB 110 = 4 := by decide
  rw [e]
  exact ⟨this.1, by have := this.2; have e2 : (256 : Int) ^ 4 = 4294967296 := by decide
                    omega⟩
theorem valK_hi {C : Nat → Int} {k : UInt8} {P : Nat} (hC : ∀ j, 0 ≤ C j ∧ C j < 256) (h : ((k.toNat : Int) == 110) = true) (h2 : 2147483648 ≤ rdv C P (wB k)) : rdv C P (wB k) - 4294967296 = valK C k P := by
  have hb := rdv_n (P := P) hC h
  rw [valK, if_pos (isN h)]
  unfold wrap32
  omega
theorem valK_lo {C : Nat → Int} {k : UInt8} {P : Nat} (hC : ∀ j, 0 ≤ C j ∧ C j < 256) (h : ((k.toNat : Int) == 110) = true) (h2 : rdv C P (wB k) < 2147483648) : rdv C P (wB k) = valK C k P := by
  have hb := rdv_n (P := P) hC h
  rw [valK, if_pos (isN h)]
  unfold wrap32
  omega
theorem rdv_step {C : Nat → Int} {P q : Nat} (hC : ∀ j, 0 ≤ C j ∧ C j < 256) (hq : q < 4) : 0 ≤ rdv C P q ∧ rdv C P q < 16777216 := by
  obtain ⟨h1, h2⟩ := rdv_lt (p := P) hC q
  have h5 : (256 : Int) ^ q ≤ 16777216 := by
    rcases (show q = 0 ∨ q = 1 ∨ q = 2 ∨ q = 3 by omega) with rfl | rfl | rfl | rfl <;> decide
  exact ⟨h1, by omega⟩

set_option maxHeartbeats 8000000 in
theorem rat_ok (g off n cap a : Nat) (C : Nat → Int) (o : Nat) (w : World) (hg : Gl w) (hc : CodeAt w g off n C) (ha : a < n) (hn : n ≤ 4611686018427387904) (ho : C a = (o : Int)) (h27 : o < 27) (hfit : (a : Int) + sz o ≤ n)
    (L : List Int) (hL : L = opsOf C (kd o) (a + 1)) (x0 x1 x2 x3 x4 x5 x6 : Int) (hx : L.getD 0 0 = x0 ∧ L.getD 1 0 = x1 ∧ L.getD 2 0 = x2 ∧ L.getD 3 0 = x3 ∧ L.getD 4 0 = x4 ∧ L.getD 5 0 = x5 ∧ L.getD 6 0 = x6) :
    Calls Tryz.prog 23 #[.slice (some ⟨g, off, none⟩) n cap, .int .i64 a] w fun e w' => e = .returned (bif okX o x0 x1 x2 x3 x4 x5 x6 then rdV o x0 x1 x2 x3 x4 x5 x6 (a + sz o) true else rdV 0 0 0 0 0 0 0 0 0 false) ∧ Below w.heap.size w w' := by
  have h8 : (o : Int) < 256 := ho ▸ (hc.byte a).2
  have ha0 : (0 : Int) ≤ (a : Int) := by omega
  have ha1 : (a : Int) < (n : Int) := by omega
  have ho0 : (0 : Int) ≤ (o : Int) := by omega
  have ho1 : (o : Int) < 27 := by omega
  have hwo : IntKind.i64.wrap (o : Int) = (o : Int) := wrap8 h8
  have HC : Aside (CodeAt w g off n C) := hc
  have hcz := hc.below (rz_below w) hc.lt
  have hc0 := hcz.cell a ha
  rw [ho] at hc0
  have HIS := Lib.hid fun W => is_yes (o : Int) W (by omega) (by omega)
  have HSZ := Lib.hid (rsize_yes (o : Int) (rz w) (hg.below (rz_below w)) (by omega) (by omega))
  have hsz := sz_pos h27
  have HG : Aside (Gl w) := hg
  have HEND : Aside ((endOf (kd o) (a + 1) : Int) = a + sz o) := kd_end h27 a
  have HVAL := Lib.hid fun x0 x1 x2 x3 x4 x5 x6 W hg => rvalid_any o x0 x1 x2 x3 x4 x5 x6 W hg
  have HK : Aside (kS o = ⟨⟨kd o⟩⟩) := rfl
  have HKI := Lib.hid fun (ks : ByteArray) (e : ks = ⟨⟨kd o⟩⟩) j (h : j < ks.size) => kS_kind h27 e h
  have HKL : Aside ((kd o).length ≤ 7) := kd_len h27
  have HLX : Aside (L = opsOf C (kd o) (a + 1) ∧ L.getD 0 0 = x0 ∧ L.getD 1 0 = x1 ∧ L.getD 2 0 = x2 ∧ L.getD 3 0 = x3 ∧ L.getD 4 0 = x4 ∧ L.getD 5 0 = x5 ∧ L.getD 6 0 = x6) := ⟨hL, hx⟩
  have hf : ¬ (n : Int) < (a : Int) + sz o := by omega
  have hsz8 := sz_le h27
  have hws : wrap64 ((a : Int) + sz o) = (a : Int) + sz o := by unfold wrap64; omega
  clear hL hx hg hc hcz
  go_enter Tryz.func23, Tryz.ntmps23
  go_wp2_with (first
    | (go_at_call 12; refine (HIS.out _).mono ?_; rintro e w2 ⟨rfl, rfl⟩)
    | (go_at_call 14; refine HSZ.out.mono ?_; rintro e w2 ⟨he, hb2⟩; rw [Int.toNat_natCast] at he; subst he; have HB2 : Aside (Below (rz w).heap.size (rz w) w2) := hb2; have HG2 : Aside (Gl w2) := (HG.out.below (rz_below w)).below hb2; have HALL := Lib.hid (all_any (w2.alloc (.cells (ar o []) 38)) (HG2.out.alloc _)); clear hb2)
    | (go_at_call 11; refine HALL.out.mono ?_; rintro e w3 ⟨b, rfl, hops, hb3⟩; have qk : w3.cell? ⟨b, o * 2 + 1, none⟩ = some (.string (kS o)) := (by rw [Nat.mul_comm]; exact hops.cell (2 * o + 1) (by omega)); have HB3 : Aside (Below (w2.alloc (.cells (ar o []) 38)).heap.size (w2.alloc (.cells (ar o []) 38)) w3) := hb3; clear hb3 hops HALL HSZ))
  have HRZ : Aside (Below w.heap.size w (rz w)) := rz_below w
  have hs2 : w.heap.size + 1 ≤ w2.heap.size := by have := HB2.out.size; rwa [rz_size] at this
  have HR0 : Aside (Rr w o w2.heap.size [] w3) := by
    have hb : Below w2.heap.size w2 (w2.alloc (.cells (ar o []) 38)) := (Below.refl _ _).alloc (Nat.le_refl _) _
    refine ⟨(HB3.out.block w2.heap.size (by simp)).trans (World.alloc_heap_new w2 _), ?_, hs2⟩
    exact ((HB2.out.mono (by rw [rz_size]; omega)).trans (hb.mono hs2)).trans (HB3.out.mono (by simp; omega))
  obtain ⟨ks, hks⟩ : ∃ ks, ks = kS o := ⟨_, rfl⟩
  rw [← hks] at HK
  have HKS : Aside (ks = ⟨⟨kd o⟩⟩) := HK
  have hksz : Aside (ks.size = (kd o).length) := by rw [HKS.out]; rfl
  have hget : Hid (∀ j (h : j < ks.size), (kd o)[j]? = some ks[j] ∧ Kind (ks[j].toNat : Int)) := Lib.hid fun j h => by
    obtain ⟨h', e⟩ := kS_get HKS.out h
    exact ⟨by rw [e, List.getElem?_eq_getElem h'], HKI.out ks HKS.out j h⟩
  rw [← hks]
  clear HK HKI hks qk HB3 HB2
  go_loopw [8, 9] (fun nx i wr => ∃ j : Nat, j ≤ ks.size ∧ i = .int .i64 j ∧ nx = .int .i64 ((endOf ((kd o).take j) (a + 1) : Nat) : Int) ∧ Aside (Rr w o w2.heap.size (opsOf C ((kd o).take j) (a + 1)) wr)) (fun _ i _ => ks.size - (intOf i).toNat)
  case atStart => exact ⟨0, Nat.zero_le _, rfl, by rw [List.take_zero]; go_num, by rw [List.take_zero]; exact HR0.out⟩
  case round =>
    obtain ⟨j, hj, rfl, rfl, hro⟩ := hrel
    by_cases hlt : j < ks.size
    · obtain ⟨hkj, hkind⟩ := hget.out j hlt
      have HKJ : Aside ((kd o)[j]? = some ks[j]) := hkj
      obtain ⟨P, hP⟩ : ∃ P, P = endOf ((kd o).take j) (a + 1) := ⟨_, rfl⟩
      have HP : Aside (P = endOf ((kd o).take j) (a + 1)) := hP
      have hwb := wK_wB ks[j]
      have hle : P + wB ks[j] ≤ n := by
        have h1 := HEND.out
        have h2 := endOf_app ((kd o).take (j + 1)) ((kd o).drop (j + 1)) (a + 1)
        rw [List.take_append_drop] at h2
        have h3 := endOf_ge ((kd o).drop (j + 1)) (endOf ((kd o).take (j + 1)) (a + 1))
        have h4 : endOf ((kd o).take (j + 1)) (a + 1) = P + wB ks[j] := by rw [List.take_add_one, hkj, Option.toList_some, endOf_snoc, ← hP]
        omega
      have HCW : Aside (CodeAt wr g off n C) := (HC.out.below HRZ.out HC.out.lt).below hro.out.bel (Nat.lt_succ_of_lt HC.out.lt)
      rw [← hP]
      have hj0 : (0 : Int) ≤ (j : Int) := by omega
      have hj1 : (j : Int) < (ks.size : Int) := by omega
      have HKD := Lib.hid fun W => width_kind (ks[j].toNat : Int) W hkind
      have HWB : Aside (wK (ks[j].toNat : Int) = (wB ks[j] : Int)) := hwb
      have hwb4 := wB_le ks[j]
      have hw1 := wB_pos ks[j]
      clear hkj hP hkind hwb
      go_wp2_with (go_at_call 38; refine (HKD.out _).mono ?_; rintro e w5 ⟨rfl, rfl⟩)
      rw [HWB.out]
      go_loopw [11, 12] (fun v t W => ∃ q : Nat, q ≤ wB ks[j] ∧ v = .int .i64 (rdv C P q) ∧ t = .int .i64 q ∧ W = w5) (fun _ t _ => wB ks[j] - (intOf t).toNat)
      case atStart => exact ⟨0, Nat.zero_le _, rfl, rfl, rfl⟩
      case round =>
        obtain ⟨q, hq, rfl, rfl, rfl⟩ := hrel
        by_cases hqt : q < wB ks[j]
        · obtain ⟨m, hm⟩ : ∃ m, m = P + q := ⟨_, rfl⟩
          have HM : Aside (m = P + q) := hm
          have hcm := HCW.out.cell m (by omega)
          obtain ⟨c, hcv⟩ : ∃ c, c = C m := ⟨_, rfl⟩
          have hcb := HC.out.byte m
          rw [← hcv] at hcm hcb
          obtain ⟨hcb0, hcb1⟩ := hcb
          obtain ⟨v, hv⟩ : ∃ v, v = rdv C P q := ⟨_, rfl⟩
          obtain ⟨hv0, hv1⟩ : 0 ≤ v ∧ v < 16777216 := by rw [hv]; exact rdv_step HC.out.byte (by omega)
          have HV : Aside (v = rdv C P q) := hv
          have HCV : Aside (c = C m) := hcv
          have hpq : (P : Int) + (q : Int) = (m : Int) := by omega
          have hm0 : (0 : Int) ≤ (m : Int) := by omega
          have hm1 : (m : Int) < (n : Int) := by omega
          have hq1 : (q : Int) < (wB ks[j] : Int) := by omega
          have hwc : IntKind.i64.wrap c = c := by rw [IntKind.wrap_i64]; omega
          rw [← hv]
          clear hm hv hcv
          go_wp2
          refine ⟨⟨q + 1, by omega, ?_, by go_num, trivial⟩, ?_⟩
          · rw [rdv, ← HV.out, ← HM.out, ← HCV.out]
          · simp [intOf]; omega
        · have e : q = wB ks[j] := by omega
          subst e
          have hq1 : ¬ ((wB ks[j] : Nat) : Int) < (wB ks[j] : Int) := by omega
          have HLJ : Aside ((opsOf C ((kd o).take j) (a + 1)).length = j) := by show _ = _; rw [opsOf_len, List.length_take]; have := hksz.out; omega
          have hj7 : (j : Int) < 7 := by have := hksz.out; have := HKL.out; omega
          obtain ⟨old, hold, hfree⟩ := hro.out.old (by rw [HLJ.out]; omega)
          rw [HLJ.out] at hold hfree
          have HNX : Hid (∀ x, x = valK C ks[j] P → Rr w o w2.heap.size (opsOf C ((kd o).take (j + 1)) (a + 1)) (wr.setCell ⟨w2.heap.size, 1 + j, none⟩ (.int .i64 x))) := Lib.hid fun x hx => by
            have h1 := hro.out.put (by rw [HLJ.out]; omega) x
            rw [HLJ.out] at h1
            rw [List.take_add_one, HKJ.out, Option.toList_some, opsOf_snoc, ← HP.out, ← hx]
            exact h1
          have HPN : Aside (P + wB ks[j] = endOf ((kd o).take (j + 1)) (a + 1)) := by
            show P + wB ks[j] = endOf ((kd o).take (j + 1)) (a + 1)
            rw [List.take_add_one, HKJ.out, Option.toList_some, endOf_snoc, ← HP.out]
          obtain ⟨v, hv⟩ : ∃ v, v = rdv C P (wB ks[j]) := ⟨_, rfl⟩
          have HV : Aside (v = rdv C P (wB ks[j])) := hv
          rw [← hv]
          clear hro
          have hud : (undef : Value) = .tuple #[] := rfl
          cases hn1 : ((ks[j].toNat : Int) == 110) with
          | true =>
            have hvb := rdv_n (P := P) HC.out.byte hn1
            rw [← hv] at hvb
            obtain ⟨hv0, hv1⟩ := hvb
            have HN1 : Aside (((ks[j].toNat : Int) == 110) = true) := hn1
            by_cases hge : 2147483648 ≤ v
            · have HGE : Aside (2147483648 ≤ v) := hge
              clear hv
              go_wp2
              refine ⟨⟨j + 1, by omega, by go_num, ?_, HNX.out _ (by rw [HV.out]; exact valK_hi HC.out.byte HN1.out (by rw [← HV.out]; exact HGE.out))⟩, by simp [intOf]; omega⟩
              rw [← HPN.out]
              go_num
            · have hge' : ¬ (2147483648 : Int) ≤ v := hge
              have HGE : Aside (¬ 2147483648 ≤ v) := hge
              clear hv
              go_wp2
              refine ⟨⟨j + 1, by omega, by go_num, ?_, HNX.out _ (by rw [HV.out]; exact valK_lo HC.out.byte HN1.out (by rw [← HV.out]; have := HGE.out; omega))⟩, by simp [intOf]; omega⟩
              rw [← HPN.out]
              go_num
          | false =>
            have HN1 : Aside (((ks[j].toNat : Int) == 110) = false) := hn1
            clear hv
            go_wp2
            refine ⟨⟨j + 1, by omega, by go_num, ?_, HNX.out _ (by rw [HV.out]; exact valK_o HN1.out)⟩, by simp [intOf]; omega⟩
            rw [← HPN.out]
            go_num
    · have e : j = ks.size := by omega
      subst e
      have hT : (kd o).take ks.size = kd o := by rw [hksz.out, List.take_length]
      rw [hT] at hro ⊢
      obtain ⟨E, hE⟩ : ∃ E, E = endOf (kd o) (a + 1) := ⟨_, rfl⟩
      have HE : Aside ((E : Int) = a + sz o) := by rw [hE]; exact HEND.out
      rw [← hE]
      have HX8 : B8 wr w2.heap.size o x0 x1 x2 x3 x4 x5 x6 := by
        obtain ⟨hL, h0, h1, h2, h3, h4, h5, h6⟩ := HLX.out
        rw [← h0, ← h1, ← h2, ← h3, ← h4, ← h5, ← h6, hL]
        exact ⟨hro.out.bx⟩
      have HX : Aside (B8 wr w2.heap.size o x0 x1 x2 x3 x4 x5 x6) := HX8
      have HBL : Aside (Below (w.heap.size + 1) (rz w) wr) := hro.out.bel
      have HGW : Aside (Gl wr) := (HG.out.below HRZ.out).below (hro.out.bel.mono (by rw [rz_size]; exact Nat.le_refl _))
      obtain ⟨d0, d1, d2, d3, d4, d5, d6, d7⟩ := HX8.cells
      have hszr : w2.heap.size < wr.heap.size := HX8.lt
      have HVL := Lib.hid (HVAL.out x0 x1 x2 x3 x4 x5 x6 wr HGW.out)
      clear hro hT hE HX8
      cases hok : okX o x0 x1 x2 x3 x4 x5 x6 with
      | true =>
        rw [hok] at HVL
        have HOK := Lib.hid hok
        clear hok
        go_wp2_with (go_at_call 17; refine HVL.out.mono ?_; rintro e w6 ⟨rfl, hb6⟩; have HB6 : Aside (Below (w.heap.size + 1) (rz w) w6) := HBL.out.trans (hb6.mono (by omega)); have HZ : Aside (B10 w6 w.heap.size 0 0 0 0 0 0 0 0 0 false) := rz_b10 HB6.out (by omega); obtain ⟨⟨z0, z1, z2, z3, z4⟩, z5, z6, z7, z8, z9⟩ := HZ.out.cells; have f0 := HZ.out.free 0; have f1 := HZ.out.free 1; have f2 := HZ.out.free 2; have f3 := HZ.out.free 3; have f4 := HZ.out.free 4; have f5 := HZ.out.free 5; have f6 := HZ.out.free 6; have f7 := HZ.out.free 7; have f8 := HZ.out.free 8; have f9 := HZ.out.free 9; obtain ⟨e0, e1, e2, e3, e4, e5, e6, e7⟩ := (HX.out.below hb6 hszr).cells; clear hb6 d0 d1 d2 d3 d4 d5 d6 d7)
        rw [← HE.out]
        refine ret23 (B := w.heap.size) ?_ (HZ.out.put o x0 x1 x2 x3 x4 x5 x6 E true) ⟨by rw [HOK.out]; rfl, put10_below (HRZ.out.trans (HB6.out.mono (by omega))) _ _ _ _ _ _ _ _ _ _⟩
        kernel_rfl
      | false =>
        rw [hok] at HVL
        have HOK := Lib.hid hok
        clear hok
        go_wp2_with (go_at_call 17; refine HVL.out.mono ?_; rintro e w6 ⟨rfl, hb6⟩; have HB6 : Aside (Below (w.heap.size + 1) (rz w) w6) := HBL.out.trans (hb6.mono (by omega)); have HZ : Aside (B10 w6 w.heap.size 0 0 0 0 0 0 0 0 0 false) := rz_b10 HB6.out (by omega); obtain ⟨⟨z0, z1, z2, z3, z4⟩, z5, z6, z7, z8, z9⟩ := HZ.out.cells; have f0 := HZ.out.free 0; have f1 := HZ.out.free 1; have f2 := HZ.out.free 2; have f3 := HZ.out.free 3; have f4 := HZ.out.free 4; have f5 := HZ.out.free 5; have f6 := HZ.out.free 6; have f7 := HZ.out.free 7; have f8 := HZ.out.free 8; have f9 := HZ.out.free 9; clear hb6 d0 d1 d2 d3 d4 d5 d6 d7)
        refine ret23 (B := w.heap.size) ?_ (HZ.out.put 0 0 0 0 0 0 0 0 0 false) ⟨by rw [HOK.out]; rfl, put10_below (HRZ.out.trans (HB6.out.mono (by omega))) _ _ _ _ _ _ _ _ _ _⟩
        kernel_rfl
end Go.Proofs.YtblklgcpobbfcaaGreatDoor

namespace Go.Proofs.YtblklgcpobbfcaaGreatDoor
open Go.Eng Go.RowKit
set_option maxRecDepth 1000000

theorem rat_yes (g off n cap a : Nat) (C : Nat → Int) (w : World) (hg : Gl w) (hc : CodeAt w g off n C) (hn : n ≤ 4611686018427387904) (ha : a < n) (hd : Dec C n a) :
    Calls Tryz.prog 23 #[.slice (some ⟨g, off, none⟩) n cap, .int .i64 a] w fun e w' => e = .returned (rdV (opA C a) (xA C a 0) (xA C a 1) (xA C a 2) (xA C a 3) (xA C a 4) (xA C a 5) (xA C a 6) (a + sz (opA C a)) true) ∧ Below w.heap.size w w' := by
  obtain ⟨h1, h2, h3⟩ := hd
  refine (rat_ok g off n cap a C (opA C a) w hg hc ha hn (opA_eq hc a) h1 h2 _ rfl _ _ _ _ _ _ _ ⟨rfl, rfl, rfl, rfl, rfl, rfl, rfl⟩).mono ?_
  rintro e w' ⟨rfl, hb⟩
  refine ⟨?_, hb⟩
  have h3' : okX (opA C a) ((opsOf C (kd (opA C a)) (a + 1)).getD 0 0) ((opsOf C (kd (opA C a)) (a + 1)).getD 1 0) ((opsOf C (kd (opA C a)) (a + 1)).getD 2 0) ((opsOf C (kd (opA C a)) (a + 1)).getD 3 0) ((opsOf C (kd (opA C a)) (a + 1)).getD 4 0) ((opsOf C (kd (opA C a)) (a + 1)).getD 5 0) ((opsOf C (kd (opA C a)) (a + 1)).getD 6 0) = true := h3
  rw [h3']
  rfl
theorem rat_no (g off n cap a : Nat) (C : Nat → Int) (w : World) (hg : Gl w) (hc : CodeAt w g off n C) (hn : n ≤ 4611686018427387904) (ha : a < n) (hd : ¬ Dec C n a) :
    Calls Tryz.prog 23 #[.slice (some ⟨g, off, none⟩) n cap, .int .i64 a] w fun e w' => e = .returned (rdV 0 0 0 0 0 0 0 0 0 false) ∧ Below w.heap.size w w' := by
  by_cases h1 : opA C a < 27
  · by_cases h2 : (a : Int) + sz (opA C a) ≤ n
    · refine (rat_ok g off n cap a C (opA C a) w hg hc ha hn (opA_eq hc a) h1 h2 _ rfl _ _ _ _ _ _ _ ⟨rfl, rfl, rfl, rfl, rfl, rfl, rfl⟩).mono ?_
      rintro e w' ⟨rfl, hb⟩
      refine ⟨?_, hb⟩
      have h3' : okX (opA C a) ((opsOf C (kd (opA C a)) (a + 1)).getD 0 0) ((opsOf C (kd (opA C a)) (a + 1)).getD 1 0) ((opsOf C (kd (opA C a)) (a + 1)).getD 2 0) ((opsOf C (kd (opA C a)) (a + 1)).getD 3 0) ((opsOf C (kd (opA C a)) (a + 1)).getD 4 0) ((opsOf C (kd (opA C a)) (a + 1)).getD 5 0) ((opsOf C (kd (opA C a)) (a + 1)).getD 6 0) = false := by
        cases e : okX (opA C a) ((opsOf C (kd (opA C a)) (a + 1)).getD 0 0) ((opsOf C (kd (opA C a)) (a + 1)).getD 1 0) ((opsOf C (kd (opA C a)) (a + 1)).getD 2 0) ((opsOf C (kd (opA C a)) (a + 1)).getD 3 0) ((opsOf C (kd (opA C a)) (a + 1)).getD 4 0) ((opsOf C (kd (opA C a)) (a + 1)).getD 5 0) ((opsOf C (kd (opA C a)) (a + 1)).getD 6 0) with
        | false => rfl
        | true => exact absurd ⟨h1, h2, e⟩ hd
      rw [h3']
      rfl
    · exact rat_short g off n cap a C (opA C a) w hg hc ha hn (opA_eq hc a) h1 (by omega)
  · exact rat_none g off n cap a C (opA C a) w hc ha hn (opA_eq hc a) (by omega)

/-- One instruction more. -/
theorem append39_one {w : World} {ops : Array Oper} {rest : List Oper} {o : Oper} {a : Act} {Q : Exit → Act → World → Prop} (hw : Region.wanted o (yielded ops a.tmps) = true) (s x : Operand)
    (ho : o.op = .call { callee := .builtin .append, args := #[s, x], argTypes := #[39, 39] }) (base : Nat) (v : Value) (C : Nat → Int) (L : List Nat) (hs : a.eval s = v) (hown : OwnI w base v C L)
    (p b : Nat) (fr : Nat × Nat) (hx : a.eval x = .slice (some ⟨p, 0, none⟩) 1 1) (hp : w.heap[p]? = some (.cells #[.int .i64 (opA C b), .int .i64 (xA C b 0), .int .i64 (xA C b 1), .int .i64 (xA C b 2), .int .i64 (xA C b 3), .int .i64 (xA C b 4), .int .i64 (xA C b 5), .int .i64 (xA C b 6)] 38 fr)) (hl : L.length < 60000) (hbase : base ≤ w.heap.size)
    (h : ∀ v' w', OwnI w' base v' C (L ++ [b]) → w.grownBy w' v.ownBlock → wpList Tryz.prog ops Q rest (a.put o.dst v') w') : wpList Tryz.prog ops Q (o :: rest) a w := by
  obtain ⟨i5, hi5, hz5, hs5, hb5⟩ := info_parts info38
  refine wpList_append_src hw s x 39 ho base 38 i5 (.agg #[.int .i64 0, .int .i64 0, .int .i64 0, .int .i64 0, .int .i64 0, .int .i64 0, .int .i64 0, .int .i64 0]) 8 64 Tryz.underlying39 hi5 hz5 hs5 hb5 rfl (by decide) v L.length _ hs hown _ 1 ((iI C b).map (Value.int .i64)) hx (.inr ⟨_, _, rfl, by simp [iI], World.news_of_block hp⟩) (ints_one _) (by unfold maxLen; omega) (by omega) hbase ?_
  intro v' w' h1 h2
  refine h v' w' ?_ h2
  show World.ownsRow _ _ _ _ _ _ _
  rw [II_snoc, List.map_append, List.length_append]
  exact h1
/-- One number more. -/
theorem append50_one {w : World} {ops : Array Oper} {rest : List Oper} {o : Oper} {a : Act} {Q : Exit → Act → World → Prop} (hw : Region.wanted o (yielded ops a.tmps) = true) (s x : Operand)
    (ho : o.op = .call { callee := .builtin .append, args := #[s, x], argTypes := #[50, 50] }) (base : Nat) (v : Value) (zs : List Int) (hs : a.eval s = v) (hown : w.ownsRow base 3 1 v zs.length (zs.map (Value.int .i64)))
    (p : Nat) (z : Int) (fr : Nat × Nat) (hx : a.eval x = .slice (some ⟨p, 0, none⟩) 1 1) (hp : w.heap[p]? = some (.cells #[.int .i64 z] 3 fr)) (hl : zs.length < 1000000) (hbase : base ≤ w.heap.size)
    (h : ∀ v' w', w'.ownsRow base 3 1 v' (zs ++ [z]).length ((zs ++ [z]).map (Value.int .i64)) → w.grownBy w' v.ownBlock → wpList Tryz.prog ops Q rest (a.put o.dst v') w') : wpList Tryz.prog ops Q (o :: rest) a w := by
  obtain ⟨i5, hi5, hz5, hs5, hb5⟩ := info_parts info3
  refine wpList_append_src hw s x 50 ho base 3 i5 (.int .i64 0) 1 8 Tryz.underlying50 hi5 hz5 hs5 hb5 rfl (by decide) v zs.length _ hs hown _ 1 [.int .i64 z] hx (.inr ⟨_, _, rfl, rfl, World.news_of_block hp⟩) (ints_one [z]) (by unfold maxLen; omega) (by omega) hbase ?_
  intro v' w' h1 h2
  refine h v' w' ?_ h2
  rw [List.map_append, List.length_append]
  exact h1
/-- Places as numbers. -/
def toZ (L : List Nat) : List Int := L.map fun (a : Nat) => (a : Int)
theorem toZ_len (L : List Nat) : (toZ L).length = L.length := by simp [toZ]
theorem ownN_iff {w : World} {base : Nat} {v : Value} {L : List Nat} : OwnN w base v L ↔ w.ownsRow base 3 1 v (toZ L).length ((toZ L).map (Value.int .i64)) := by
  show World.ownsRow _ _ _ _ _ _ _ ↔ _
  rw [toZ_len, toZ, List.map_map]
  rfl

theorem own_form1 {w : World} {base : Nat} {e : TypeId} {size : Nat} {v : Value} {xs : List Value} {L : List Nat} {b : Nat} (h : w.ownsRow base e size v (L ++ [b]).length xs) : ∃ a c, v = .slice a (L.length + 1) c := by
  obtain ⟨a, c, rfl⟩ := own_form h
  exact ⟨a, c, by simp⟩

/-! The reference's Split. -/
/-- The boxes of the reference's Split. -/
structure Bs (w : World) (vl va : Value) (W : World) : Prop where
  z : W.heap[w.heap.size]? = some (.cells #[.slice none 0 0, .slice none 0 0, .int .i64 0] 59 (0, 0))
  o : W.heap[w.heap.size + 1]? = some (.cells #[vl, va, .int .i64 (-1)] 59 (0, 0))
  bel : Below w.heap.size w W
abbrev sb (w : World) : World := (w.alloc (.cells #[.slice none 0 0, .slice none 0 0, .int .i64 0] 59)).alloc (.cells #[.slice none 0 0, .slice none 0 0, .int .i64 (-1)] 59)
theorem sb_size (w : World) : (sb w).heap.size = w.heap.size + 2 := by simp
theorem sb_bs (w : World) : Bs w (.slice none 0 0) (.slice none 0 0) (sb w) := by
  refine ⟨?_, ?_, ((Below.refl _ _).alloc (Nat.le_refl _) _).alloc (by simp) _⟩
  · exact (Below.heap_alloc _ _ _ (by simp)).trans (World.alloc_heap_new w _)
  · have := World.alloc_heap_new (w.alloc (.cells #[.slice none 0 0, .slice none 0 0, .int .i64 0] 59)) (.cells #[.slice none 0 0, .slice none 0 0, .int .i64 (-1)] 59)
    rwa [World.size_alloc] at this
section
variable {w : World} {vl va : Value} {W W' : World}
theorem Bs.sz (h : Bs w vl va W) : w.heap.size + 2 ≤ W.heap.size := (Array.getElem?_eq_some_iff.1 h.o).1
theorem Bs.grown {r : Option Nat} (h : Bs w vl va W) (hg : W.grownBy W' r) (hr : ∀ k, r = some k → w.heap.size + 2 ≤ k) : Bs w vl va W' := by
  have hz := h.sz
  exact ⟨(hg.block _ (by omega) (fun e => by have := hr _ e.symm; omega)).trans h.z, (hg.block _ (by omega) (fun e => by have := hr _ e.symm; omega)).trans h.o, below_stepG h.bel hg (fun k e => by have := hr k e; omega)⟩
theorem Bs.setl (h : Bs w vl va W) (v : Value) : Bs w v va (W.setCell ⟨w.heap.size + 1, 0, none⟩ v) := by
  refine ⟨(Below.heap_setCell W ⟨w.heap.size + 1, 0, none⟩ v _ (by show _ ≠ w.heap.size + 1; omega)).trans h.z, ?_, h.bel.setCell (p := ⟨w.heap.size + 1, 0, none⟩) (Nat.le_succ _) _⟩
  simp only [World.setCell, Array.getElem?_modify, h.o]
  rfl
theorem Bs.seta (h : Bs w vl va W) (v : Value) : Bs w vl v (W.setCell ⟨w.heap.size + 1, 1, none⟩ v) := by
  refine ⟨(Below.heap_setCell W ⟨w.heap.size + 1, 1, none⟩ v _ (by show _ ≠ w.heap.size + 1; omega)).trans h.z, ?_, h.bel.setCell (p := ⟨w.heap.size + 1, 1, none⟩) (Nat.le_succ _) _⟩
  simp only [World.setCell, Array.getElem?_modify, h.o]
  rfl
theorem Bs.cells (h : Bs w vl va W) : (W.cell? ⟨w.heap.size, 0, none⟩ = some (.slice none 0 0) ∧ W.cell? ⟨w.heap.size, 1, none⟩ = some (.slice none 0 0) ∧ W.cell? ⟨w.heap.size, 2, none⟩ = some (.int .i64 0)) ∧
    (W.cell? ⟨w.heap.size + 1, 0, none⟩ = some vl ∧ W.cell? ⟨w.heap.size + 1, 1, none⟩ = some va ∧ W.cell? ⟨w.heap.size + 1, 2, none⟩ = some (.int .i64 (-1))) ∧ (∀ j, W.frozen? ⟨w.heap.size, j, none⟩ = false) ∧ ∀ j, W.frozen? ⟨w.heap.size + 1, j, none⟩ = false := by
  have e1 := h.z
  have e2 := h.o
  refine ⟨⟨?_, ?_, ?_⟩, ⟨?_, ?_, ?_⟩, fun j => ?_, fun j => ?_⟩
  · simp only [World.cell?, e1]; rfl
  · simp only [World.cell?, e1]; rfl
  · simp only [World.cell?, e1]; rfl
  · simp only [World.cell?, e2]; rfl
  · simp only [World.cell?, e2]; rfl
  · simp only [World.cell?, e2]; rfl
  · simp only [World.frozen?, e1]; simp
  · simp only [World.frozen?, e2]; simp
end
/-- The result's box, written. -/
abbrev put3 (W : World) (B : Nat) (v1 v2 : Value) (n : Int) : World := ((W.setCell ⟨B, 0, none⟩ v1).setCell ⟨B, 1, none⟩ v2).setCell ⟨B, 2, none⟩ (.int .i64 n)
theorem put3_box {w : World} {vl va : Value} {W : World} (h : Bs w vl va W) (v1 v2 : Value) (n : Int) : (put3 W w.heap.size v1 v2 n).heap[w.heap.size]? = some (.cells #[v1, v2, .int .i64 n] 59 (0, 0)) ∧ Below w.heap.size w (put3 W w.heap.size v1 v2 n) := by
  refine ⟨?_, ((h.bel.setCell (p := ⟨w.heap.size, 0, none⟩) (Nat.le_refl _) _).setCell (p := ⟨w.heap.size, 1, none⟩) (Nat.le_refl _) _).setCell (p := ⟨w.heap.size, 2, none⟩) (Nat.le_refl _) _⟩
  simp [put3, World.setCell, Array.getElem?_modify, h.z]
theorem put3_far {W : World} {B k : Nat} (hk : k ≠ B) (v1 v2 : Value) (n : Int) : (put3 W B v1 v2 n).heap[k]? = W.heap[k]? :=
  (Below.heap_setCell _ ⟨B, 2, none⟩ _ k hk).trans ((Below.heap_setCell _ ⟨B, 1, none⟩ _ k hk).trans (Below.heap_setCell _ ⟨B, 0, none⟩ _ k hk))
theorem ret24 {R : Ending → World → Prop} {tmps : Array Value} {W : World} {B : Nat} {v1 v2 : Value} {n : Int} (h2 : tmps[2]? = some (.pointer (some ⟨B, 0, none⟩))) (hb : W.heap[B]? = some (.cells #[v1, v2, .int .i64 n] 59 (0, 0))) (hv1 : v1.oneCell' = true) (hv2 : v2.oneCell' = true)
    (hR : R (.returned (.agg #[v1, v2, .int .i64 n])) W) : bodyPost Tryz.prog Tryz.f24 R .ret { tmps := tmps, defers := [] } W := by
  have c0 : W.cell? ⟨B, 0, none⟩ = some v1 := by simp only [World.cell?, hb]; rfl
  have c1 : W.cell? ⟨B, 1, none⟩ = some v2 := by simp only [World.cell?, hb]; rfl
  have c2 : W.cell? ⟨B, 2, none⟩ = some (.int .i64 n) := by simp only [World.cell?, hb]; rfl
  refine ⟨rfl, _, ?_, hR⟩
  simp [results, Tryz.results24, go_sem, h2, c0, c1, c2]

set_option maxHeartbeats 8000000 in
theorem rsplit_any (ad : Option Addr) (n cap : Nat) (C : Nat → Int) (w : World) (hg : Gl w) (hc : n = 0 ∨ ∃ g off, ad = some ⟨g, off, none⟩ ∧ CodeAt w g off n C) (hn : n ≤ 3000) :
    Calls Tryz.prog 24 #[.slice ad n cap] w fun e w' => Below w.heap.size w w' ∧
      ((∃ L vl va, Good C n L ∧ e = .returned (.agg #[vl, va, .int .i64 (-1)]) ∧ OwnI w' w.heap.size vl C L ∧ OwnN w' w.heap.size va L) ∨
       (∃ (L : List Nat) (b : Nat), Fails C n L b ∧ e = .returned (.agg #[.slice none 0 0, .slice none 0 0, .int .i64 b]))) := by
  have HG : Aside (Gl w) := hg
  have HC := Lib.hid hc
  have HB0 : Aside (Bs w (.slice none 0 0) (.slice none 0 0) (sb w)) := sb_bs w
  clear hg hc
  go_enter Tryz.func24, Tryz.ntmps24
  go_wp2
  go_loopw [4] (fun v wr => ∃ (pre : List Nat) (b : Nat) (vl va : Value), v = .int .i64 b ∧ Aside (Seg C n 0 pre b) ∧ b ≤ n ∧ Aside (Bs w vl va wr) ∧ Aside (OwnI wr (w.heap.size + 2) vl C pre) ∧ Aside (OwnN wr (w.heap.size + 2) va pre)) (fun v _ => n - (intOf v).toNat)
  case atStart => exact ⟨[], 0, _, _, rfl, .nil _, Nat.zero_le _, HB0.out, World.ownsRow_nil _ _ _ _, World.ownsRow_nil _ _ _ _⟩
  case round =>
    obtain ⟨pre, b, vl, va, rfl, hseg, hbn, hbs, hol, hoa⟩ := hrel
    obtain ⟨al, cl, rfl⟩ := own_form hol.out
    obtain ⟨aa, ca, rfl⟩ := own_form hoa.out
    have hszr := hbs.out.sz
    have hpl := hseg.out.len
    by_cases hlt : b < n
    · obtain ⟨g, off, rfl, hc⟩ := HC.out.resolve_left (by omega)
      have HCW : Aside (CodeAt wr g off n C) := hc.below hbs.out.bel hc.lt
      have HGW : Aside (Gl wr) := HG.out.below hbs.out.bel
      have hb0 : (0 : Int) ≤ (b : Int) := by omega
      have hb1 : (b : Int) < (n : Int) := by omega
      clear hc
      by_cases hd : Dec C n b
      · have HR := Lib.hid (rat_yes g off n cap b C wr HGW.out HCW.out (by omega) hlt hd)
        obtain ⟨s1, s2, s3⟩ := lnA_eq hd
        have HD : Aside (Dec C n b) := hd
        clear hd
        go_wp2_with (first
          | (go_at_call 23; refine HR.out.mono ?_; clear HR; rintro e w1 ⟨rfl, hb1⟩; have HBS1 : Aside (Bs w (.slice al pre.length cl) (.slice aa pre.length ca) w1) := hbs.out.grown (grown_below hb1 none) (fun k e => by cases e); have HL1 : Aside (OwnI w1 (w.heap.size + 2) (.slice al pre.length cl) C pre) := own_at hol.out (fun k _ h => hb1.block k h); have HN1 : Aside (OwnN w1 (w.heap.size + 2) (.slice aa pre.length ca) pre) := own_at hoa.out (fun k _ h => hb1.block k h); have hsz1 : w.heap.size + 2 ≤ w1.heap.size := HBS1.out.sz; have q0 : ∀ o, (w1.alloc o).cell? ⟨w.heap.size + 1, 0, none⟩ = some (.slice al pre.length cl) := (fun o => (HBS1.out.grown (World.grownBy_alloc w1 o none) (fun k e => by cases e)).cells.2.1.1); clear hb1)
          | (at_builtin; refine append39_one (by rfl) _ _ rfl (w.heap.size + 2) (.slice al pre.length cl) C pre rfl ((HL1.out.alloc _).alloc _) (w1.heap.size + 1) b (0, 0) rfl (by have := World.alloc_heap_new (w1.alloc (.cells #[.int .i64 (opA C b), .int .i64 (xA C b 0), .int .i64 (xA C b 1), .int .i64 (xA C b 2), .int .i64 (xA C b 3), .int .i64 (xA C b 4), .int .i64 (xA C b 5), .int .i64 (xA C b 6), .int .i64 (b + sz (opA C b)), .bool true] 56)) (.cells #[.int .i64 (opA C b), .int .i64 (xA C b 0), .int .i64 (xA C b 1), .int .i64 (xA C b 2), .int .i64 (xA C b 3), .int .i64 (xA C b 4), .int .i64 (xA C b 5), .int .i64 (xA C b 6)] 38); rwa [World.size_alloc] at this) (by omega) (by simp; omega) ?_; intro v5 w5 ho5 hg5; obtain ⟨a5, c5, rfl⟩ := own_form1 ho5; have hR0 : ((w1.alloc (.cells #[.int .i64 (opA C b), .int .i64 (xA C b 0), .int .i64 (xA C b 1), .int .i64 (xA C b 2), .int .i64 (xA C b 3), .int .i64 (xA C b 4), .int .i64 (xA C b 5), .int .i64 (xA C b 6), .int .i64 (b + sz (opA C b)), .bool true] 56)).alloc (.cells #[.int .i64 (opA C b), .int .i64 (xA C b 0), .int .i64 (xA C b 1), .int .i64 (xA C b 2), .int .i64 (xA C b 3), .int .i64 (xA C b 4), .int .i64 (xA C b 5), .int .i64 (xA C b 6)] 38)).heap[w1.heap.size]? = some (.cells #[.int .i64 (opA C b), .int .i64 (xA C b 0), .int .i64 (xA C b 1), .int .i64 (xA C b 2), .int .i64 (xA C b 3), .int .i64 (xA C b 4), .int .i64 (xA C b 5), .int .i64 (xA C b 6), .int .i64 (b + sz (opA C b)), .bool true] 56 (0, 0)) := ((Below.heap_alloc _ _ _ (by simp)).trans (World.alloc_heap_new w1 _)); have HR5 : Aside (w5.heap[w1.heap.size]? = some (.cells #[.int .i64 (opA C b), .int .i64 (xA C b 0), .int .i64 (xA C b 1), .int .i64 (xA C b 2), .int .i64 (xA C b 3), .int .i64 (xA C b 4), .int .i64 (xA C b 5), .int .i64 (xA C b 6), .int .i64 (b + sz (opA C b)), .bool true] 56 (0, 0))) := ((hg5.block _ (by simp; omega) (fun e => own_ne ((HL1.out.alloc (.cells #[.int .i64 (opA C b), .int .i64 (xA C b 0), .int .i64 (xA C b 1), .int .i64 (xA C b 2), .int .i64 (xA C b 3), .int .i64 (xA C b 4), .int .i64 (xA C b 5), .int .i64 (xA C b 6), .int .i64 (b + sz (opA C b)), .bool true] 56)).alloc (.cells #[.int .i64 (opA C b), .int .i64 (xA C b 0), .int .i64 (xA C b 1), .int .i64 (xA C b 2), .int .i64 (xA C b 3), .int .i64 (xA C b 4), .int .i64 (xA C b 5), .int .i64 (xA C b 6)] 38)) hR0 (by decide) e.symm)).trans hR0); have HBS5 : Aside (Bs w (.slice al pre.length cl) (.slice aa pre.length ca) w5) := (((HBS1.out.grown (World.grownBy_alloc w1 (.cells #[.int .i64 (opA C b), .int .i64 (xA C b 0), .int .i64 (xA C b 1), .int .i64 (xA C b 2), .int .i64 (xA C b 3), .int .i64 (xA C b 4), .int .i64 (xA C b 5), .int .i64 (xA C b 6), .int .i64 (b + sz (opA C b)), .bool true] 56) none) (fun k e => by cases e)).grown (World.grownBy_alloc _ (.cells #[.int .i64 (opA C b), .int .i64 (xA C b 0), .int .i64 (xA C b 1), .int .i64 (xA C b 2), .int .i64 (xA C b 3), .int .i64 (xA C b 4), .int .i64 (xA C b 5), .int .i64 (xA C b 6)] 38) none) (fun k e => by cases e)).grown hg5 (own_lowest HL1.out)); have HL5 : Aside (OwnI w5 (w.heap.size + 2) (.slice a5 (pre.length + 1) c5) C (pre ++ [b])) := ho5; have HN5 : Aside (OwnN w5 (w.heap.size + 2) (.slice aa pre.length ca) pre) := (((HN1.out.alloc (.cells #[.int .i64 (opA C b), .int .i64 (xA C b 0), .int .i64 (xA C b 1), .int .i64 (xA C b 2), .int .i64 (xA C b 3), .int .i64 (xA C b 4), .int .i64 (xA C b 5), .int .i64 (xA C b 6), .int .i64 (b + sz (opA C b)), .bool true] 56)).alloc (.cells #[.int .i64 (opA C b), .int .i64 (xA C b 0), .int .i64 (xA C b 1), .int .i64 (xA C b 2), .int .i64 (xA C b 3), .int .i64 (xA C b 4), .int .i64 (xA C b 5), .int .i64 (xA C b 6)] 38)).kept hg5 (own_apart ((HL1.out.alloc (.cells #[.int .i64 (opA C b), .int .i64 (xA C b 0), .int .i64 (xA C b 1), .int .i64 (xA C b 2), .int .i64 (xA C b 3), .int .i64 (xA C b 4), .int .i64 (xA C b 5), .int .i64 (xA C b 6), .int .i64 (b + sz (opA C b)), .bool true] 56)).alloc (.cells #[.int .i64 (opA C b), .int .i64 (xA C b 0), .int .i64 (xA C b 1), .int .i64 (xA C b 2), .int .i64 (xA C b 3), .int .i64 (xA C b 4), .int .i64 (xA C b 5), .int .i64 (xA C b 6)] 38)) ((HN1.out.alloc (.cells #[.int .i64 (opA C b), .int .i64 (xA C b 0), .int .i64 (xA C b 1), .int .i64 (xA C b 2), .int .i64 (xA C b 3), .int .i64 (xA C b 4), .int .i64 (xA C b 5), .int .i64 (xA C b 6), .int .i64 (b + sz (opA C b)), .bool true] 56)).alloc (.cells #[.int .i64 (opA C b), .int .i64 (xA C b 0), .int .i64 (xA C b 1), .int .i64 (xA C b 2), .int .i64 (xA C b 3), .int .i64 (xA C b 4), .int .i64 (xA C b 5), .int .i64 (xA C b 6)] 38)) (by decide))); have hsz5 : w.heap.size + 2 ≤ w5.heap.size := HBS5.out.sz; have c50 := HBS5.out.cells.2.1.1; have f50 := HBS5.out.cells.2.2.2 0; have HBQ : Aside (Bs w (.slice a5 (pre.length + 1) c5) (.slice aa pre.length ca) (w5.setCell ⟨w.heap.size + 1, 0, none⟩ (.slice a5 (pre.length + 1) c5))) := HBS5.out.setl _; have q6 := HBQ.out.cells.2.1.2.1; have HN6 : Aside (OwnN (w5.setCell ⟨w.heap.size + 1, 0, none⟩ (.slice a5 (pre.length + 1) c5)) (w.heap.size + 2) (.slice aa pre.length ca) pre) := (HN5.out.kept (grown_set _ _ _ _) (.inr (own_high HN5.out (by omega)))); have HL6 : Aside (OwnI (w5.setCell ⟨w.heap.size + 1, 0, none⟩ (.slice a5 (pre.length + 1) c5)) (w.heap.size + 2) (.slice a5 (pre.length + 1) c5) C (pre ++ [b])) := (HL5.out.kept (grown_set _ _ _ _) (.inr (own_high HL5.out (by omega)))); have HR6 : Aside ((w5.setCell ⟨w.heap.size + 1, 0, none⟩ (.slice a5 (pre.length + 1) c5)).heap[w1.heap.size]? = some (.cells #[.int .i64 (opA C b), .int .i64 (xA C b 0), .int .i64 (xA C b 1), .int .i64 (xA C b 2), .int .i64 (xA C b 3), .int .i64 (xA C b 4), .int .i64 (xA C b 5), .int .i64 (xA C b 6), .int .i64 (b + sz (opA C b)), .bool true] 56 (0, 0))) := ((Below.heap_setCell _ _ _ _ (by show _ ≠ w.heap.size + 1; omega)).trans HR5.out); clear ho5 hg5 hR0 q0 HL1 HN1 HBS1 HL5 HN5 HR5)
          | (at_builtin; refine append50_one (by rfl) _ _ rfl (w.heap.size + 2) (.slice aa pre.length ca) (toZ pre) rfl (ownN_iff.1 (HN6.out.alloc _)) w5.heap.size b (0, 0) rfl (by have := World.alloc_heap_new (w5.setCell ⟨w.heap.size + 1, 0, none⟩ (.slice a5 (pre.length + 1) c5)) (.cells #[.int .i64 b] 3); rwa [show ((w5.setCell ⟨w.heap.size + 1, 0, none⟩ (.slice a5 (pre.length + 1) c5))).heap.size = w5.heap.size by simp [World.setCell]] at this) (by rw [toZ_len]; omega) (by simp; omega) ?_; intro v7 w7 ho7 hg7; have HNA : Aside (OwnN ((w5.setCell ⟨w.heap.size + 1, 0, none⟩ (.slice a5 (pre.length + 1) c5)).alloc (.cells #[.int .i64 b] 3)) (w.heap.size + 2) (.slice aa pre.length ca) pre) := HN6.out.alloc _; have HLA : Aside (OwnI ((w5.setCell ⟨w.heap.size + 1, 0, none⟩ (.slice a5 (pre.length + 1) c5)).alloc (.cells #[.int .i64 b] 3)) (w.heap.size + 2) (.slice a5 (pre.length + 1) c5) C (pre ++ [b])) := HL6.out.alloc _; have ho7' : OwnN w7 (w.heap.size + 2) v7 (pre ++ [b]) := ownN_iff.2 (by simpa [toZ] using ho7); obtain ⟨a7, c7, rfl⟩ := own_form1 ho7'; have hR0 : ((w5.setCell ⟨w.heap.size + 1, 0, none⟩ (.slice a5 (pre.length + 1) c5)).alloc (.cells #[.int .i64 b] 3)).heap[w1.heap.size]? = some (.cells #[.int .i64 (opA C b), .int .i64 (xA C b 0), .int .i64 (xA C b 1), .int .i64 (xA C b 2), .int .i64 (xA C b 3), .int .i64 (xA C b 4), .int .i64 (xA C b 5), .int .i64 (xA C b 6), .int .i64 (b + sz (opA C b)), .bool true] 56 (0, 0)) := ((Below.heap_alloc _ _ _ (Array.getElem?_eq_some_iff.1 HR6.out).1).trans HR6.out); have HR7 : Aside (w7.heap[w1.heap.size]? = some (.cells #[.int .i64 (opA C b), .int .i64 (xA C b 0), .int .i64 (xA C b 1), .int .i64 (xA C b 2), .int .i64 (xA C b 3), .int .i64 (xA C b 4), .int .i64 (xA C b 5), .int .i64 (xA C b 6), .int .i64 (b + sz (opA C b)), .bool true] 56 (0, 0))) := ((hg7.block _ (Array.getElem?_eq_some_iff.1 hR0).1 (fun e => own_ne HNA.out hR0 (by decide) e.symm)).trans hR0); have HBS7 : Aside (Bs w (.slice a5 (pre.length + 1) c5) (.slice aa pre.length ca) w7) := ((HBQ.out.grown (World.grownBy_alloc (w5.setCell ⟨w.heap.size + 1, 0, none⟩ (.slice a5 (pre.length + 1) c5)) (.cells #[.int .i64 b] 3) none) (fun k e => by cases e)).grown hg7 (own_lowest HNA.out)); have HL7 : Aside (OwnI w7 (w.heap.size + 2) (.slice a5 (pre.length + 1) c5) C (pre ++ [b])) := (HLA.out.kept hg7 (own_apart HNA.out HLA.out (by decide))); have HN7 : Aside (OwnN w7 (w.heap.size + 2) (.slice a7 (pre.length + 1) c7) (pre ++ [b])) := ho7'; have c71 := HBS7.out.cells.2.1.2.1; have f71 := HBS7.out.cells.2.2.2 1; have hR8 : (w7.setCell ⟨w.heap.size + 1, 1, none⟩ (.slice a7 (pre.length + 1) c7)).heap[w1.heap.size]? = some (.cells #[.int .i64 (opA C b), .int .i64 (xA C b 0), .int .i64 (xA C b 1), .int .i64 (xA C b 2), .int .i64 (xA C b 3), .int .i64 (xA C b 4), .int .i64 (xA C b 5), .int .i64 (xA C b 6), .int .i64 (b + sz (opA C b)), .bool true] 56 (0, 0)) := ((Below.heap_setCell _ _ _ _ (by show _ ≠ w.heap.size + 1; omega)).trans HR7.out); have q8 : (w7.setCell ⟨w.heap.size + 1, 1, none⟩ (.slice a7 (pre.length + 1) c7)).cell? ⟨w1.heap.size, 8, none⟩ = some (.int .i64 (b + sz (opA C b))) := (by simp only [World.cell?, hR8]; rfl); clear ho7 ho7' hg7 hR0 hR8 HR6 HR7 q6 c50 f50 HN6 HL6 HBQ HNA HLA))
        have hint : (b : Int) + sz (opA C b) = ((b + lnA C b : Nat) : Int) := by omega
        rw [hint]
        refine ⟨⟨pre ++ [b], b + lnA C b, _, _, rfl, hseg.out.snoc hlt HD.out, by omega, HBS7.out.seta _, HL7.out.kept (grown_set _ _ _ _) (.inr (own_high HL7.out (by omega))), HN7.out.kept (grown_set _ _ _ _) (.inr (own_high HN7.out (by omega)))⟩, ?_⟩
        simp [intOf]
        omega
      · have HR := Lib.hid (rat_no g off n cap b C wr HGW.out HCW.out (by omega) hlt hd)
        have HD : Aside (¬ Dec C n b) := hd
        clear hd
        go_wp2_with (go_at_call 23; refine HR.out.mono ?_; clear HR; rintro e w1 ⟨rfl, hb1⟩; have HBS1 : Aside (Bs w (.slice al pre.length cl) (.slice aa pre.length ca) (w1.alloc (.cells #[.int .i64 0, .int .i64 0, .int .i64 0, .int .i64 0, .int .i64 0, .int .i64 0, .int .i64 0, .int .i64 0, .int .i64 0, .bool false] 56))) := (hbs.out.grown (grown_below hb1 none) (fun k e => by cases e)).grown (World.grownBy_alloc _ _ none) (fun k e => by cases e); obtain ⟨⟨z0, z1, z2⟩, _, zf, _⟩ := HBS1.out.cells; have zf0 := zf 0; have zf1 := zf 1; have zf2 := zf 2; clear hb1 zf)
        obtain ⟨p1, p2⟩ := put3_box HBS1.out (.slice none 0 0) (.slice none 0 0) b
        exact ret24 (B := w.heap.size) (by kernel_rfl) p1 rfl rfl ⟨p2, .inr ⟨pre, b, ⟨hseg.out, hlt, HD.out⟩, rfl⟩⟩
    · have e : b = n := by omega
      subst e
      obtain ⟨⟨z0, z1, z2⟩, ⟨o0, o1, o2⟩, zf, _⟩ := hbs.out.cells
      have zf0 := zf 0
      have zf1 := zf 1
      have zf2 := zf 2
      clear zf
      go_wp2
      obtain ⟨p1, p2⟩ := put3_box hbs.out (.slice al pre.length cl) (.slice aa pre.length ca) (-1)
      refine ret24 (B := w.heap.size) (by kernel_rfl) p1 rfl rfl ⟨p2, .inl ⟨pre, _, _, hseg.out, rfl, own_base (own_at hol.out (fun k h _ => put3_far (by omega) _ _ _)) (by omega), own_base (own_at hoa.out (fun k h _ => put3_far (by omega) _ _ _)) (by omega)⟩⟩
end Go.Proofs.YtblklgcpobbfcaaGreatDoor
