/- Instructions at their places: what At, want, instructions and codes return; instructions one behind the other. Conditions: none. -/
import Derived.Test.YtblklgcpobbfcaaGreatDoorOb
import Derived.WalkLawsBesides
import Derived.Test.YtblklgcpobbfcaaGreatDoorOa
import Derived.Deep.QuietTactic
import Derived.BigQuiet
set_option linter.all false
namespace Go.Proofs.YtblklgcpobbfcaaGreatDoor
open Go.Eng Go.RowKit
set_option maxRecDepth 1000000

noncomputable def opA (C : Nat → Int) (a : Nat) : Nat := (C a).toNat
noncomputable def xA (C : Nat → Int) (a i : Nat) : Int := (opsOf C (kd (opA C a)) (a + 1)).getD i 0
/-- An instruction is read at a place. -/
noncomputable def Dec (C : Nat → Int) (n a : Nat) : Prop := opA C a < 27 ∧ (a : Int) + sz (opA C a) ≤ n ∧ okX (opA C a) (xA C a 0) (xA C a 1) (xA C a 2) (xA C a 3) (xA C a 4) (xA C a 5) (xA C a 6) = true
noncomputable abbrev insA' (C : Nat → Int) (a : Nat) : Value := insV (opA C a) (xA C a 0) (xA C a 1) (xA C a 2) (xA C a 3) (xA C a 4) (xA C a 5) (xA C a 6)
theorem opA_eq {w : World} {g off n : Nat} {C : Nat → Int} (hc : CodeAt w g off n C) (a : Nat) : C a = (opA C a : Int) := by
  have := hc.byte a
  unfold opA
  omega
theorem set_same {w w' : World} {R g off n cap at' : Nat} {nx : Int} (h : RdAt w R g off n cap at' nx) (hb : Below w.heap.size w w') : Below w.heap.size (w.setCell ⟨R, 2, none⟩ (.int .i64 nx)) w' := by
  have hs : (w.setCell ⟨R, 2, none⟩ (.int .i64 nx)).heap.size = w.heap.size := by simp [World.setCell]
  refine ⟨hb.os, hb.tape, hb.output, by rw [hs]; exact hb.size, fun k hk => ?_⟩
  rw [hb.block k hk]
  simp only [World.setCell, Array.getElem?_modify]
  split
  · rename_i e
    subst e
    rw [h.box]
    rfl
  · rfl

theorem ins_yes (R g off n cap at' : Nat) (nx : Int) (C : Nat → Int) (w : World) (hg : Gl w) (hr : RdAt w R g off n cap at' nx) (hc : CodeAt w g off n C) (hn : n < 9223372036854775808) (hat : at' < n) (hR : 0 < R) (hd : Dec C n at') :
    Calls Tryz.prog 41 #[.pointer (some ⟨R, 0, none⟩)] w fun e w' => e = .returned (.tuple #[insA' C at', .bool true]) ∧ Below w.heap.size (w.setCell ⟨R, 2, none⟩ (.int .i64 (at' + sz (opA C at')))) w' := by
  obtain ⟨h1, h2, h3⟩ := hd
  have := ins_ok R g off n cap at' nx C (opA C at') w hg hr hc hn hat (opA_eq hc at') h1 h2 hR _ rfl _ _ _ _ _ _ _ ⟨rfl, rfl, rfl, rfl, rfl, rfl, rfl⟩
  refine this.mono ?_
  rintro e w' ⟨rfl, hb⟩
  exact ⟨by rw [← h3]; rfl, hb⟩
theorem ins_no (R g off n cap at' : Nat) (nx : Int) (C : Nat → Int) (w : World) (hg : Gl w) (hr : RdAt w R g off n cap at' nx) (hc : CodeAt w g off n C) (hn : n < 9223372036854775808) (hat : at' < n) (hR : 0 < R) (hd : ¬ Dec C n at') :
    Calls Tryz.prog 41 #[.pointer (some ⟨R, 0, none⟩)] w fun e w' => ∃ op x0 x1 x2 x3 x4 x5 x6 v, e = .returned (.tuple #[insV op x0 x1 x2 x3 x4 x5 x6, .bool false]) ∧ Below w.heap.size (w.setCell ⟨R, 2, none⟩ (.int .i64 v)) w' := by
  by_cases h1 : opA C at' < 27
  · by_cases h2 : (at' : Int) + sz (opA C at') ≤ n
    · have h3 : okX (opA C at') (xA C at' 0) (xA C at' 1) (xA C at' 2) (xA C at' 3) (xA C at' 4) (xA C at' 5) (xA C at' 6) = false := by
        cases e : okX (opA C at') (xA C at' 0) (xA C at' 1) (xA C at' 2) (xA C at' 3) (xA C at' 4) (xA C at' 5) (xA C at' 6) with
        | false => rfl
        | true => exact absurd ⟨h1, h2, e⟩ hd
      have := ins_ok R g off n cap at' nx C (opA C at') w hg hr hc hn hat (opA_eq hc at') h1 h2 hR _ rfl _ _ _ _ _ _ _ ⟨rfl, rfl, rfl, rfl, rfl, rfl, rfl⟩
      refine this.mono ?_
      rintro e w' ⟨rfl, hb⟩
      exact ⟨_, _, _, _, _, _, _, _, _, by rw [← h3]; rfl, hb⟩
    · refine (ins_short R g off n cap at' nx C (opA C at') w hg hr hc hn hat (opA_eq hc at') h1 (by omega)).mono ?_
      rintro e w' ⟨rfl, hb⟩
      exact ⟨_, _, _, _, _, _, _, _, _, rfl, set_same hr hb⟩
  · refine (ins_none R g off n cap at' nx C (opA C at') w hg hr hc hn hat (opA_eq hc at') (by omega)).mono ?_
    rintro e w' ⟨rfl, hb⟩
    exact ⟨_, _, _, _, _, _, _, _, _, rfl, set_same hr hb⟩
end Go.Proofs.YtblklgcpobbfcaaGreatDoor

namespace Go.Proofs.YtblklgcpobbfcaaGreatDoor
open Go.Eng Go.RowKit
set_option maxRecDepth 1000000

theorem ret20 {R : Ending → World → Prop} {tmps : Array Value} {W : World} {B : Nat} {x0 x1 x2 x3 x4 x5 x6 x7 nx e : Int} (h2 : tmps[4]? = some (.pointer (some ⟨B, 0, none⟩))) (h3 : tmps[5]? = some (.int .i64 nx)) (h4 : tmps[6]? = some (.int .i64 e))
    (hb : B8 W B x0 x1 x2 x3 x4 x5 x6 x7) (hR : R (.returned (.tuple #[insV x0 x1 x2 x3 x4 x5 x6 x7, .int .i64 nx, .int .i64 e])) W) : bodyPost Tryz.prog Tryz.f20 R .ret { tmps := tmps, defers := [] } W := by
  obtain ⟨c0, c1, c2, c3, c4, c5, c6, c7⟩ := hb.cells
  refine ⟨rfl, _, ?_, hR⟩
  simp [results, Tryz.results20, go_sem, h2, h3, h4, c0, c1, c2, c3, c4, c5, c6, c7]

set_option maxHeartbeats 4000000 in
theorem at_neg (a : Option Addr) (n cap : Nat) (i : Int) (w : World) (hi : i < 0) :
    Calls Tryz.prog 20 #[.slice a n cap, .int .i64 i] w fun e w' => e = .returned (.tuple #[insV 0 0 0 0 0 0 0 0, .int .i64 0, .int .i64 3]) ∧ Below w.heap.size w w' := by
  go_enter Tryz.func20, Tryz.ntmps20
  go_wp2
  refine ret20 (B := w.heap.size) (nx := 0) (e := 3) ?_ ?_ ?_ (zb_ib (Below.refl (w.heap.size + 1) _) (by omega)) ?_
  · kernel_rfl
  · kernel_rfl
  · kernel_rfl
  · exact ⟨rfl, zb_below w⟩
set_option maxHeartbeats 4000000 in
theorem at_past (a : Option Addr) (n cap : Nat) (i : Int) (w : World) (hi0 : ¬ i < 0) (hi : (n : Int) ≤ i) :
    Calls Tryz.prog 20 #[.slice a n cap, .int .i64 i] w fun e w' => e = .returned (.tuple #[insV 0 0 0 0 0 0 0 0, .int .i64 0, .int .i64 3]) ∧ Below w.heap.size w w' := by
  go_enter Tryz.func20, Tryz.ntmps20
  go_wp2
  refine ret20 (B := w.heap.size) (nx := 0) (e := 3) ?_ ?_ ?_ (zb_ib (Below.refl (w.heap.size + 1) _) (by omega)) ?_
  · kernel_rfl
  · kernel_rfl
  · kernel_rfl
  · exact ⟨rfl, zb_below w⟩

/-- The reader of At. -/
abbrev rd0 (w : World) (g off n cap i : Nat) : World := (zb w).alloc (.cells #[.slice (some ⟨g, off, none⟩) n cap, .int .i64 i, .int .i64 0] 93)
theorem rd0_at (w : World) (g off n cap i : Nat) : RdAt (rd0 w g off n cap i) (w.heap.size + 1) g off n cap i 0 := by
  refine ⟨?_⟩
  show ((zb w).heap.push _)[w.heap.size + 1]? = _
  rw [Array.getElem?_push, if_pos (zb_size w).symm]
theorem rd0_below (w : World) (g off n cap i : Nat) : Below (zb w).heap.size (zb w) (rd0 w g off n cap i) := (Below.refl _ _).alloc (Nat.le_refl _) _
theorem rd0_size (w : World) (g off n cap i : Nat) : (rd0 w g off n cap i).heap.size = w.heap.size + 2 := by
  show ((zb w).heap.push _).size = _
  rw [Array.size_push, zb_size]
theorem set2_below {w W W' : World} {R B : Nat} {v : Value} (h : Below W.heap.size (W.setCell ⟨R, 2, none⟩ v) W') (h0 : Below B w W) (hB : B ≤ R) (hB2 : B ≤ W.heap.size) : Below B w W' :=
  (h0.setCell (p := ⟨R, 2, none⟩) hB v).trans (h.mono hB2)

theorem nx_cell {W w2 : World} {R : Nat} {nx : Int} {a b c : Value} {e : TypeId} (h : Below W.heap.size (W.setCell ⟨R, 2, none⟩ (.int .i64 nx)) w2) (hr : W.heap[R]? = some (.cells #[a, b, c] e (0, 0))) : w2.cell? ⟨R, 2, none⟩ = some (.int .i64 nx) := by
  have hlt : R < W.heap.size := (Array.getElem?_eq_some_iff.1 hr).1
  have e : w2.heap[R]? = some (.cells #[a, b, .int .i64 nx] e (0, 0)) := by
    rw [h.block R hlt]
    simp only [World.setCell, Array.getElem?_modify, hr]
    rfl
  simp only [World.cell?, e]
  rfl

set_option maxHeartbeats 8000000 in
theorem at_no (g off n cap i : Nat) (C : Nat → Int) (w : World) (hg : Gl w) (hc : CodeAt w g off n C) (hn : n < 9223372036854775808) (hi : i < n) (hd : ¬ Dec C n i) :
    Calls Tryz.prog 20 #[.slice (some ⟨g, off, none⟩) n cap, .int .i64 i] w fun e w' => e = .returned (.tuple #[insV 0 0 0 0 0 0 0 0, .int .i64 0, .int .i64 6]) ∧ Below w.heap.size w w' := by
  have hb0 : Below w.heap.size w (rd0 w g off n cap i) := (zb_below w).trans ((rd0_below w g off n cap i).mono (by rw [zb_size]; omega))
  have HIN := Lib.hid (ins_no (w.heap.size + 1) g off n cap i 0 C (rd0 w g off n cap i) (hg.below hb0) (rd0_at w g off n cap i) (hc.below hb0 hc.lt) hn hi (by omega) hd)
  have i0 : ¬ (i : Int) < 0 := by omega
  have i1 : ¬ (n : Int) ≤ (i : Int) := by omega
  clear hg hc hb0 hd
  go_enter Tryz.func20, Tryz.ntmps20
  go_wp2_with (go_at_call 41; refine HIN.out.mono ?_; rintro e w2 ⟨op, x0, x1, x2, x3, x4, x5, x6, v, rfl, hb⟩; have HB2 : Aside (Below (zb w).heap.size (zb w) w2) := set2_below hb (rd0_below w g off n cap i) (Nat.le_of_eq (zb_size w)) (by rw [rd0_size, zb_size]; omega); have HZ : Aside (B8 (w2.alloc (.cells #[.int .i64 op, .int .i64 x0, .int .i64 x1, .int .i64 x2, .int .i64 x3, .int .i64 x4, .int .i64 x5, .int .i64 x6] 38)) w.heap.size 0 0 0 0 0 0 0 0) := (zb_ib HB2.out (by rw [zb_size]; omega)).below ((Below.refl _ _).alloc (Nat.le_refl _) _) (zb_ib HB2.out (by rw [zb_size]; omega)).lt; obtain ⟨z0, z1, z2, z3, z4, z5, z6, z7⟩ := HZ.out.cells; have f0 := HZ.out.free 0; have f1 := HZ.out.free 1; have f2 := HZ.out.free 2; have f3 := HZ.out.free 3; have f4 := HZ.out.free 4; have f5 := HZ.out.free 5; have f6 := HZ.out.free 6; have f7 := HZ.out.free 7; clear hb)
  refine ret20 (B := w.heap.size) (nx := 0) (e := 6) ?_ ?_ ?_ (HZ.out.put 0 0 0 0 0 0 0 0) ?_
  · kernel_rfl
  · kernel_rfl
  · kernel_rfl
  · exact ⟨rfl, put8_below ((zb_below w).trans ((HB2.out.mono (by rw [zb_size]; omega)).trans ((Below.refl _ _).alloc (by have := (zb_ib HB2.out (by rw [zb_size]; omega)).lt; omega) _))) 0 0 0 0 0 0 0 0⟩

end Go.Proofs.YtblklgcpobbfcaaGreatDoor

namespace Go.Proofs.YtblklgcpobbfcaaGreatDoor
open Go.Eng Go.RowKit
set_option maxRecDepth 1000000

theorem put8_cell_far {W : World} {B R : Nat} (hne : R ≠ B) (y0 y1 y2 y3 y4 y5 y6 y7 : Int) : (put8 W B y0 y1 y2 y3 y4 y5 y6 y7).cell? ⟨R, 2, none⟩ = W.cell? ⟨R, 2, none⟩ := by
  have hne' : B ≠ R := fun e => hne e.symm
  simp only [World.cell?, put8, World.setCell, Array.getElem?_modify, if_neg hne']

set_option maxHeartbeats 2000000 in
theorem at_go (g off n cap i : Nat) (o x0 x1 x2 x3 x4 x5 x6 nx : Int) (w : World) (hi : i < n)
    (HI : Calls Tryz.prog 41 #[.pointer (some ⟨w.heap.size + 1, 0, none⟩)] (rd0 w g off n cap i) fun e w' => e = .returned (.tuple #[insV o x0 x1 x2 x3 x4 x5 x6, .bool true]) ∧ Below (rd0 w g off n cap i).heap.size ((rd0 w g off n cap i).setCell ⟨w.heap.size + 1, 2, none⟩ (.int .i64 nx)) w') :
    Calls Tryz.prog 20 #[.slice (some ⟨g, off, none⟩) n cap, .int .i64 i] w fun e w' => e = .returned (.tuple #[insV o x0 x1 x2 x3 x4 x5 x6, .int .i64 nx, .int .i64 0]) ∧ Below w.heap.size w w' := by
  have HIN := Lib.hid HI
  have i0 : ¬ (i : Int) < 0 := by omega
  have i1 : ¬ (n : Int) ≤ (i : Int) := by omega
  clear HI
  go_enter Tryz.func20, Tryz.ntmps20
  go_wp2_with (go_at_call 41; refine HIN.out.mono ?_; rintro e w2 ⟨rfl, hb⟩; have HB2 : Aside (Below (zb w).heap.size (zb w) w2) := set2_below hb (rd0_below w g off n cap i) (Nat.le_of_eq (zb_size w)) (by rw [rd0_size, zb_size]; omega); have HR2 : Aside (w2.cell? ⟨w.heap.size + 1, 2, none⟩ = some (.int .i64 nx)) := nx_cell hb (rd0_at w g off n cap i).box; clear hb)
  have hlt0 := (zb_ib HB2.out (by rw [zb_size]; omega)).lt
  have hlt1 : w.heap.size + 1 < w2.heap.size := World.block_lt_of_cell? w2 ⟨w.heap.size + 1, 2, none⟩ HR2.out
  have HZ : Aside (B8 (w2.alloc (.cells #[.int .i64 o, .int .i64 x0, .int .i64 x1, .int .i64 x2, .int .i64 x3, .int .i64 x4, .int .i64 x5, .int .i64 x6] 38)) w.heap.size 0 0 0 0 0 0 0 0) := (zb_ib HB2.out (by rw [zb_size]; omega)).below ((Below.refl _ _).alloc (Nat.le_refl _) _) hlt0
  have HX3 : Aside (B8 (w2.alloc (.cells #[.int .i64 o, .int .i64 x0, .int .i64 x1, .int .i64 x2, .int .i64 x3, .int .i64 x4, .int .i64 x5, .int .i64 x6] 38)) w2.heap.size o x0 x1 x2 x3 x4 x5 x6) := ⟨by show (w2.heap.push _)[w2.heap.size]? = _; rw [Array.getElem?_push, if_pos rfl]⟩
  have HN3 : Aside ((w2.alloc (.cells #[.int .i64 o, .int .i64 x0, .int .i64 x1, .int .i64 x2, .int .i64 x3, .int .i64 x4, .int .i64 x5, .int .i64 x6] 38)).cell? ⟨w.heap.size + 1, 2, none⟩ = some (.int .i64 nx)) := (World.cell?_alloc_some _ _ _ (by rw [HR2.out]; rfl)).trans HR2.out
  have HB3 : Aside (Below w.heap.size w (w2.alloc (.cells #[.int .i64 o, .int .i64 x0, .int .i64 x1, .int .i64 x2, .int .i64 x3, .int .i64 x4, .int .i64 x5, .int .i64 x6] 38))) := (zb_below w).trans ((HB2.out.mono (by rw [zb_size]; omega)).trans ((Below.refl _ _).alloc (by omega) _))
  generalize w2.alloc (.cells #[.int .i64 o, .int .i64 x0, .int .i64 x1, .int .i64 x2, .int .i64 x3, .int .i64 x4, .int .i64 x5, .int .i64 x6] 38) = w3 at *
  obtain ⟨z0, z1, z2, z3, z4, z5, z6, z7⟩ := HZ.out.cells
  have f0 := HZ.out.free 0
  have f1 := HZ.out.free 1
  have f2 := HZ.out.free 2
  have f3 := HZ.out.free 3
  have f4 := HZ.out.free 4
  have f5 := HZ.out.free 5
  have f6 := HZ.out.free 6
  have f7 := HZ.out.free 7
  obtain ⟨g0, g1, g2, g3, g4, g5, g6, g7⟩ := HX3.out.cells
  refine wp_region_held_drew (S := fun W => Below w.heap.size w W ∧ B8 W w2.heap.size o x0 x1 x2 x3 x4 x5 x6 ∧ W.cell? ⟨w.heap.size + 1, 2, none⟩ = some (.int .i64 nx)) (by kernel_rfl) ⟨HB3.out.drew, ⟨HX3.out.box⟩, HN3.out⟩ (fun hHeld => ?_)
  refine wpAnyH_take (i := 0) (v := (insV o x0 x1 x2 x3 x4 x5 x6)) rfl (by kernel_rfl) (by kernel_rfl) (by kernel_rfl) (fun _ _ _ h => h) (Or.inl ⟨by rfl, fun wS hSw => ?_⟩) hHeld ?_
  · obtain ⟨g0, g1, g2, g3, g4, g5, g6, g7⟩ := hSw.2.1.cells; have gn := hSw.2.2
    first | rfl | (go_simp; done) | (go_simp; with_reducible rfl)
  try simp only [Act.put, List.getElem_toArray, List.getElem_cons_zero, List.getElem_cons_succ, List.setIfInBounds_toArray, List.set_cons_zero, List.set_cons_succ]
  refine wpAnyH_take (i := 1) (v := (.pointer (some ⟨w.heap.size + 1, 2, none⟩))) rfl (by kernel_rfl) (by kernel_rfl) (by kernel_rfl) (fun _ _ _ h => h) (Or.inl ⟨by rfl, fun wS hSw => ?_⟩) hHeld ?_
  · obtain ⟨g0, g1, g2, g3, g4, g5, g6, g7⟩ := hSw.2.1.cells; have gn := hSw.2.2
    first | rfl | (go_simp; done) | (go_simp; with_reducible rfl)
  try simp only [Act.put, List.getElem_toArray, List.getElem_cons_zero, List.getElem_cons_succ, List.setIfInBounds_toArray, List.set_cons_zero, List.set_cons_succ]
  refine wpAnyH_take (i := 2) (v := (.int .i64 nx)) rfl (by kernel_rfl) (by kernel_rfl) (by kernel_rfl) (fun _ _ _ h => h) (Or.inl ⟨by rfl, fun wS hSw => ?_⟩) hHeld ?_
  · obtain ⟨g0, g1, g2, g3, g4, g5, g6, g7⟩ := hSw.2.1.cells; have gn := hSw.2.2
    first | rfl | (go_simp; done) | (go_simp; with_reducible rfl)
  try simp only [Act.put, List.getElem_toArray, List.getElem_cons_zero, List.getElem_cons_succ, List.setIfInBounds_toArray, List.set_cons_zero, List.set_cons_succ]
  have HZ4 : B8 w3.drew w.heap.size 0 0 0 0 0 0 0 0 := ⟨HZ.out.box⟩
  have HN4 : Aside (w3.drew.cell? ⟨w.heap.size + 1, 2, none⟩ = some (.int .i64 nx)) := HN3.out
  clear z0 z1 z2 z3 z4 z5 z6 z7 f0 f1 f2 f3 f4 f5 f6 f7 HZ HN3 HX3 HB3 g0 g1 g2 g3 g4 g5 g6 g7
  generalize w3.drew = w4 at *
  obtain ⟨z0, z1, z2, z3, z4, z5, z6, z7⟩ := HZ4.cells
  have f0 := HZ4.free 0
  have f1 := HZ4.free 1
  have f2 := HZ4.free 2
  have f3 := HZ4.free 3
  have f4 := HZ4.free 4
  have f5 := HZ4.free 5
  have f6 := HZ4.free 6
  have f7 := HZ4.free 7
  refine wpAnyH_ready (rs := [3]) (by kernel_rfl) (by simp) ?_
  refine AllReadyH.cons rfl (fun KC hC => ?_) AllReadyH.nil
  go_simp
  refine hC.out _ _ ⟨put8_below hHeld.1 o x0 x1 x2 x3 x4 x5 x6, put8_far hHeld.2.1 (by omega) o x0 x1 x2 x3 x4 x5 x6, ?_⟩ (fun hHeld => ?_)
  · exact (put8_cell_far (by omega) _ _ _ _ _ _ _ _).trans HN4.out
  clear hC KC
  try simp only [Act.put, List.getElem_toArray, List.getElem_cons_zero, List.getElem_cons_succ, List.setIfInBounds_toArray, List.set_cons_zero, List.set_cons_succ]
  refine wpAnyH_take (i := 4) (v := (.int .i64 nx)) rfl (by kernel_rfl) (by kernel_rfl) (by kernel_rfl) (fun _ _ _ h => h) (Or.inl ⟨by rfl, fun wS hSw => ?_⟩) hHeld ?_
  · skip
    first | rfl | (go_simp; done) | (go_simp; with_reducible rfl)
  try simp only [Act.put, List.getElem_toArray, List.getElem_cons_zero, List.getElem_cons_succ, List.setIfInBounds_toArray, List.set_cons_zero, List.set_cons_succ]
  refine wpAnyH_take (i := 5) (v := (.int .i64 0)) rfl (by kernel_rfl) (by kernel_rfl) (by kernel_rfl) (fun _ _ _ h => h) (Or.inl ⟨by rfl, fun wS hSw => ?_⟩) hHeld ?_
  · skip
    first | rfl | (go_simp; done) | (go_simp; with_reducible rfl)
  try simp only [Act.put, List.getElem_toArray, List.getElem_cons_zero, List.getElem_cons_succ, List.setIfInBounds_toArray, List.set_cons_zero, List.set_cons_succ]
  refine wpAnyH_done (by kernel_rfl) ?_ _
  go_wp2
  refine ret20 (B := w.heap.size) (nx := nx) (e := 0) ?_ ?_ ?_ (HZ4.put o x0 x1 x2 x3 x4 x5 x6) ?_
  · kernel_rfl
  · kernel_rfl
  · kernel_rfl
  · exact ⟨rfl, hHeld.1⟩

theorem at_yes (g off n cap i : Nat) (C : Nat → Int) (w : World) (hg : Gl w) (hc : CodeAt w g off n C) (hn : n < 9223372036854775808) (hi : i < n) (hd : Dec C n i) :
    Calls Tryz.prog 20 #[.slice (some ⟨g, off, none⟩) n cap, .int .i64 i] w fun e w' => e = .returned (.tuple #[insA' C i, .int .i64 (i + sz (opA C i)), .int .i64 0]) ∧ Below w.heap.size w w' := by
  have hb0 : Below w.heap.size w (rd0 w g off n cap i) := (zb_below w).trans ((rd0_below w g off n cap i).mono (by rw [zb_size]; omega))
  exact at_go g off n cap i _ _ _ _ _ _ _ _ _ w hi (ins_yes (w.heap.size + 1) g off n cap i 0 C (rd0 w g off n cap i) (hg.below hb0) (rd0_at w g off n cap i) (hc.below hb0 hc.lt) hn hi (by omega) hd)
end Go.Proofs.YtblklgcpobbfcaaGreatDoor

namespace Go.Proofs.YtblklgcpobbfcaaGreatDoor
open Go.Eng Go.RowKit
set_option maxRecDepth 1000000

/-- What want panics with. -/
abbrev failV (e a : Int) : Value := .iface 171 (.agg #[.int .i64 e, .int .i64 a])

theorem want_ok (e a : Int) (w : World) : Calls Tryz.prog 59 #[.bool true, .int .i64 e, .int .i64 a] w fun r w' => r = .returned (.tuple #[]) ∧ w' = w := by
  go_enter Tryz.func59, Tryz.ntmps59
  go_wp2
  go_end0
  exact ⟨rfl, rfl⟩
theorem want_no (e a : Int) (w : World) : Calls Tryz.prog 59 #[.bool false, .int .i64 e, .int .i64 a] w fun r w' => r = .panicked [{ v := failV e a, recovered := false }] ∧ w' = w := by
  go_enter Tryz.func59, Tryz.ntmps59
  go_wp2
  exact ⟨rfl, rfl, rfl⟩

/-- The deferred closure that empties the lists: nothing to do. -/
theorem clean_ok (E L A : Nat) (w : World) (h : w.cell? ⟨E, 0, none⟩ = some (.int .i64 0)) : Calls Tryz.prog 79 #[.pointer (some ⟨E, 0, none⟩), .pointer (some ⟨L, 0, none⟩), .pointer (some ⟨A, 0, none⟩)] w fun r w' => r = .returned (.tuple #[]) ∧ w' = w := by
  go_enter Tryz.func79, Tryz.ntmps79
  go_wp2
  go_end0
  exact ⟨rfl, rfl⟩
theorem clean_no (E L A : Nat) (e : Int) (v1 v2 : Value) (w : World) (h : w.cell? ⟨E, 0, none⟩ = some (.int .i64 e)) (he : e ≠ 0) (h1 : w.cell? ⟨L, 0, none⟩ = some v1) (h2 : w.cell? ⟨A, 0, none⟩ = some v2) (f1 : w.frozen? ⟨L, 0, none⟩ = false) (f2 : w.frozen? ⟨A, 0, none⟩ = false) (hla : (⟨L, 0, none⟩ : Addr) ≠ ⟨A, 0, none⟩) :
    Calls Tryz.prog 79 #[.pointer (some ⟨E, 0, none⟩), .pointer (some ⟨L, 0, none⟩), .pointer (some ⟨A, 0, none⟩)] w fun r w' => r = .returned (.tuple #[]) ∧ w' = (w.setCell ⟨L, 0, none⟩ (.slice none 0 0)).setCell ⟨A, 0, none⟩ (.slice none 0 0) := by
  have hx1 : ¬ e = 0 := he
  have hx2 : (e != 0) = true := by simpa using he
  have h3 : (w.setCell ⟨L, 0, none⟩ (.slice none 0 0)).cell? ⟨A, 0, none⟩ = some v2 := (World.cell?_setCell_other _ _ _ _ (fun e => hla (by rw [e]))).trans h2
  go_enter Tryz.func79, Tryz.ntmps79
  go_wp2
  go_end0
  exact ⟨rfl, rfl⟩
end Go.Proofs.YtblklgcpobbfcaaGreatDoor

namespace Go.Proofs.YtblklgcpobbfcaaGreatDoor
open Go.Eng Go.RowKit
set_option maxRecDepth 1000000

/-- The iterator over a code: the closure 93 with the code's box. -/
abbrev itV (B : Nat) : Value := .func (.func 93) #[] #[.pointer (some ⟨B, 0, none⟩)]
theorem instr_any (a : Option Addr) (n c : Nat) (w : World) : Calls Tryz.prog 52 #[.slice a n c] w fun e w' => e = .returned (itV w.heap.size) ∧ w' = w.alloc (.cells #[.slice a n c] 40) := by
  go_enter Tryz.func52, Tryz.ntmps52
  go_wp2
  go_ret
  exact ⟨rfl, rfl⟩
end Go.Proofs.YtblklgcpobbfcaaGreatDoor

namespace Go.Proofs.YtblklgcpobbfcaaGreatDoor
open Go.Eng Go.RowKit
set_option maxRecDepth 1000000

/-! What an instruction hangs on: the bytes from its place to its end. -/
theorem rdv_congr {C C' : Nat → Int} {p : Nat} : ∀ n, (∀ j, p ≤ j → j < p + n → C j = C' j) → rdv C p n = rdv C' p n
  | 0, _ => rfl
  | n + 1, h => by
    rw [rdv, rdv, rdv_congr n (fun j h1 h2 => h j h1 (by omega)), h (p + n) (by omega) (by omega)]
theorem valK_congr {C C' : Nat → Int} {k : UInt8} {p : Nat} (h : ∀ j, p ≤ j → j < p + wB k → C j = C' j) : valK C k p = valK C' k p := by
  unfold valK
  rw [rdv_congr (wB k) h]
theorem opsOf_congr {C C' : Nat → Int} : ∀ (l : List UInt8) (p : Nat), (∀ j, p ≤ j → j < endOf l p → C j = C' j) → opsOf C l p = opsOf C' l p
  | [], p, _ => rfl
  | k :: l, p, h => by
    have hge := endOf_ge l (p + wB k)
    rw [opsOf, opsOf, valK_congr (fun j h1 h2 => h j h1 (by rw [endOf]; omega)), opsOf_congr l (p + wB k) (fun j h1 h2 => h j (by omega) h2)]
theorem rdv_shift (C : Nat → Int) (m p : Nat) : ∀ n, rdv (fun j => C (j + m)) p n = rdv C (p + m) n
  | 0 => rfl
  | n + 1 => by rw [rdv, rdv, rdv_shift C m p n, show p + m + n = p + n + m by omega]
theorem opsOf_shift (C : Nat → Int) (m : Nat) : ∀ (l : List UInt8) (p : Nat), opsOf (fun j => C (j + m)) l p = opsOf C l (p + m)
  | [], p => rfl
  | k :: l, p => by rw [opsOf, opsOf, opsOf_shift C m l, valK, valK, rdv_shift, show p + wB k + m = p + m + wB k by omega]

theorem sz_pos {i : Nat} (hi : i < 27) : 0 < sz i := by
  have h := of_map (f := fun i => decide (0 < sz i)) (g := fun _ => true) (n := 27) (by kernel_rfl) hi
  exact of_decide_eq_true h
theorem opA_congr {C C' : Nat → Int} {a : Nat} (h : C a = C' a) : opA C a = opA C' a := by unfold opA; rw [h]
/-- The same bytes: the same instruction. -/
theorem xA_congr {C C' : Nat → Int} {a : Nat} (h27 : opA C a < 27) (h : ∀ j, a ≤ j → (j : Int) < a + sz (opA C a) → C j = C' j) (i : Nat) : xA C a i = xA C' a i := by
  have hp := sz_pos h27
  have h0 := opA_congr (h a (Nat.le_refl _) (by omega))
  unfold xA
  rw [← h0, opsOf_congr (kd (opA C a)) (a + 1) (fun j h1 h2 => h j (by omega) (by have := kd_end h27 a; omega))]
theorem ins_congr {C C' : Nat → Int} {a : Nat} (h27 : opA C a < 27) (h : ∀ j, a ≤ j → (j : Int) < a + sz (opA C a) → C j = C' j) : insA' C a = insA' C' a := by
  have hp := sz_pos h27
  have h0 := opA_congr (h a (Nat.le_refl _) (by omega))
  unfold insA'
  rw [← h0]
  simp only [xA_congr h27 h]
theorem Dec.congr {C C' : Nat → Int} {n n' a : Nat} (hd : Dec C n a) (h : ∀ j, a ≤ j → (j : Int) < a + sz (opA C a) → C j = C' j) (hn : (a : Int) + sz (opA C a) ≤ n') : Dec C' n' a := by
  obtain ⟨h1, h2, h3⟩ := hd
  have hp := sz_pos h1
  have h0 := opA_congr (h a (Nat.le_refl _) (by omega))
  refine ⟨by rw [← h0]; exact h1, by rw [← h0]; exact hn, ?_⟩
  simp only [← xA_congr h1 h, ← h0]
  exact h3
end Go.Proofs.YtblklgcpobbfcaaGreatDoor

namespace Go.Proofs.YtblklgcpobbfcaaGreatDoor
open Go.Eng Go.RowKit
set_option maxRecDepth 1000000

/-- How long an instruction is. -/
noncomputable def lnA (C : Nat → Int) (a : Nat) : Nat := (sz (opA C a)).toNat
theorem lnA_eq {C : Nat → Int} {n a : Nat} (h : Dec C n a) : (lnA C a : Int) = sz (opA C a) ∧ 0 < lnA C a ∧ a + lnA C a ≤ n := by
  obtain ⟨h1, h2, _⟩ := h
  have := sz_pos h1
  unfold lnA
  omega
/-- Instructions one behind the other, from a place to another one: where they begin. -/
inductive Seg (C : Nat → Int) (n : Nat) : Nat → List Nat → Nat → Prop
  | nil (a : Nat) : Seg C n a [] a
  | cons {a b : Nat} {l : List Nat} (h : a < n) (hd : Dec C n a) (hs : Seg C n (a + lnA C a) l b) : Seg C n a (a :: l) b

theorem Seg.snoc {C : Nat → Int} {n a b : Nat} {l : List Nat} (h : Seg C n a l b) (hb : b < n) (hd : Dec C n b) : Seg C n a (l ++ [b]) (b + lnA C b) := by
  induction h with
  | nil a => exact .cons hb hd (.nil _)
  | cons h hd' _ ih => exact .cons h hd' (ih hb hd)
theorem Seg.app {C : Nat → Int} {n a b c : Nat} {l m : List Nat} (h : Seg C n a l b) (k : Seg C n b m c) : Seg C n a (l ++ m) c := by
  induction h with
  | nil a => exact k
  | cons h hd _ ih => exact .cons h hd (ih k)
theorem Seg.le {C : Nat → Int} {n a b : Nat} {l : List Nat} (h : Seg C n a l b) : a ≤ b := by
  induction h with
  | nil a => exact Nat.le_refl _
  | cons h hd _ ih => omega
theorem Seg.len {C : Nat → Int} {n a b : Nat} {l : List Nat} (h : Seg C n a l b) : l.length + a ≤ b := by
  induction h with
  | nil a => simp
  | cons h hd _ ih =>
    have := (lnA_eq hd).2.1
    rw [List.length_cons]
    omega
theorem Seg.end_le {C : Nat → Int} {n a b : Nat} {l : List Nat} (h : Seg C n a l b) (ha : a ≤ n) : b ≤ n := by
  induction h with
  | nil a => exact ha
  | cons h hd _ ih => exact ih (lnA_eq hd).2.2
/-- Two ways from one place: one goes on where the other one has ended. -/
theorem Seg.uniq' {C : Nat → Int} {n a b c : Nat} {l m : List Nat} (h : Seg C n a l b) (hb : n ≤ b) (k : Seg C n a m c) (hc : n ≤ c) : l = m := by
  induction h generalizing m with
  | nil a => cases k with
    | nil => rfl
    | cons h hd hs => omega
  | cons h hd _ ih => cases k with
    | nil => omega
    | cons h' hd' hs' => rw [ih hb hs']
theorem Seg.reach' {C : Nat → Int} {n a b c : Nat} {l m : List Nat} (h : Seg C n a l c) (hc : n ≤ c) (k : Seg C n a m b) (hb : b < n) : Dec C n b := by
  induction k generalizing l with
  | nil a => cases h with
    | nil => omega
    | cons h hd hs => exact hd
  | cons h' hd' _ ih => cases h with
    | nil => omega
    | cons h hd hs => exact ih hs hb
theorem Seg.first {C : Nat → Int} {n a b : Nat} {l : List Nat} (h : Seg C n a l b) : (l ++ [b])[0]? = some a := by
  cases h <;> rfl
/-- Each begins where the one before ends; the last one ends at the end. -/
theorem Seg.next {C : Nat → Int} {n a b : Nat} {l : List Nat} (h : Seg C n a l b) : ∀ (i c : Nat), l[i]? = some c → c < n ∧ Dec C n c ∧ (l ++ [b])[i + 1]? = some (c + lnA C c) := by
  induction h with
  | nil a => intro i c h; simp at h
  | cons h hd hs ih =>
    intro i c hc
    cases i with
    | zero =>
      simp at hc
      subst hc
      exact ⟨h, hd, by simpa using hs.first⟩
    | succ i =>
      obtain ⟨h1, h2, h3⟩ := ih i c (by simpa using hc)
      exact ⟨h1, h2, by simpa using h3⟩
/-- The same bytes, a longer code. -/
theorem Seg.congr {C C' : Nat → Int} {n n' a b : Nat} {l : List Nat} (h : Seg C n a l b) (hn : n ≤ n') (hC : ∀ j, j < n → C j = C' j) : Seg C' n' a l b := by
  induction h with
  | nil a => exact .nil _
  | cons h hd hs ih =>
    rename_i a b l
    obtain ⟨h1, h2, h3⟩ := lnA_eq hd
    have e : lnA C a = lnA C' a := by unfold lnA; rw [opA_congr (hC a h)]
    refine .cons (by omega) (hd.congr (fun j _ hj => hC j (by omega)) (by omega)) ?_
    rw [← e]
    exact ih
theorem lnA_shift (C : Nat → Int) (m a : Nat) : lnA (fun j => C (j + m)) a = lnA C (a + m) := rfl
theorem xA_shift (C : Nat → Int) (m a i : Nat) : xA (fun j => C (j + m)) a i = xA C (a + m) i := by
  unfold xA
  rw [opsOf_shift, show a + 1 + m = a + m + 1 by omega]
  rfl
theorem Dec.shift {C : Nat → Int} {m n a : Nat} : Dec (fun j => C (j + m)) n a ↔ Dec C (n + m) (a + m) := by
  unfold Dec
  simp only [xA_shift]
  have e : opA (fun j => C (j + m)) a = opA C (a + m) := rfl
  rw [e]
  refine ⟨fun ⟨h1, h2, h3⟩ => ⟨h1, by omega, h3⟩, fun ⟨h1, h2, h3⟩ => ⟨h1, by omega, h3⟩⟩
theorem Seg.shift {C : Nat → Int} {m n a b : Nat} {l : List Nat} (h : Seg (fun j => C (j + m)) n a l b) : Seg C (n + m) (a + m) (l.map (· + m)) (b + m) := by
  induction h with
  | nil a => exact .nil _
  | cons h hd _ ih =>
    refine .cons (by omega) (Dec.shift.1 hd) ?_
    rw [lnA_shift] at ih
    rw [show ∀ x y : Nat, x + m + y = x + y + m from fun x y => by omega]
    exact ih
end Go.Proofs.YtblklgcpobbfcaaGreatDoor

namespace Go.Proofs.YtblklgcpobbfcaaGreatDoor
open Go.Eng Go.RowKit
set_option maxRecDepth 1000000

theorem codes_nil (a a' : Option Addr) (c c' : Nat) (w : World) : Calls Tryz.prog 25 #[.slice a 0 c, .slice a' 0 c'] w fun e w' => e = .returned (.bool true) ∧ w' = w := by
  go_enter Tryz.func25, Tryz.ntmps25
  go_wp2
  refine wp_loop_rounds 1 ?_
  rw [rounds_succ]
  go_wp2
  go_ret
  exact ⟨rfl, rfl⟩

/-- The same operands are equal. -/
theorem eq36 (x1 x2 x3 x4 x5 x6 x7 : Int) (w : World) : Sem.run Tryz.prog (Op.equalIn 9999 36 (.agg #[.int .i64 x1, .int .i64 x2, .int .i64 x3, .int .i64 x4, .int .i64 x5, .int .i64 x6, .int .i64 x7]) (.agg #[.int .i64 x1, .int .i64 x2, .int .i64 x3, .int .i64 x4, .int .i64 x5, .int .i64 x6, .int .i64 x7])) w = .ok true w := by
  unfold Op.equalIn
  simp [go_sem]
  have hr : List.range' 0 7 = [0, 1, 2, 3, 4, 5, 6] := rfl
  rw [hr]
  simp [go_sem]
attribute [local go_sem] eq36

set_option maxHeartbeats 4000000 in
theorem codes_some (g o c g' o' c' n : Nat) (X : Nat → Int) (hn : n < 9223372036854775807) (w : World) (h1 : Lies w g o n X) (h2 : Lies w g' o' n X) :
    Calls Tryz.prog 25 #[.slice (some ⟨g, o, none⟩) n c, .slice (some ⟨g', o', none⟩) n c'] w fun e w' => e = .returned (.bool true) ∧ Below w.heap.size w w' := by
  have hg := h1.1
  have hg' := h2.1
  have HA := Lib.hid h1
  have HB := Lib.hid h2
  clear h1 h2
  go_enter Tryz.func25, Tryz.ntmps25
  go_wp2
  go_loopw [5] (fun i wr => ∃ k : Nat, k ≤ n ∧ i = .int .i64 k ∧ Aside (Below w.heap.size w wr)) (fun i _ => n - (intOf i).toNat)
  case atStart => exact ⟨0, Nat.zero_le _, rfl, Below.refl _ _⟩
  case round =>
    obtain ⟨k, hk, rfl, hB⟩ := hrel
    by_cases hlt : k < n
    · have ha : ∀ j, j < 8 → w.cell? ⟨g, o + k * 8 + j, none⟩ = some (.int .i64 (X (k * 8 + j))) := fun j hj => by
        have := HA.out.2 (k * 8 + j) (by omega)
        rwa [← Nat.add_assoc] at this
      have hb : ∀ j, j < 8 → w.cell? ⟨g', o' + k * 8 + j, none⟩ = some (.int .i64 (X (k * 8 + j))) := fun j hj => by
        have := HB.out.2 (k * 8 + j) (by omega)
        rwa [← Nat.add_assoc] at this
      have c0 := (hB.out.cell (p := ⟨g, o + k * 8, none⟩) hg).trans (ha 0 (by omega))
      have d0 := (hB.out.cell (p := ⟨g', o' + k * 8, none⟩) hg').trans (hb 0 (by omega))
      have c1 := (hB.out.cell (p := ⟨g, o + k * 8 + 1, none⟩) hg).trans (ha 1 (by omega))
      have d1 := (hB.out.cell (p := ⟨g', o' + k * 8 + 1, none⟩) hg').trans (hb 1 (by omega))
      have c2 := (hB.out.cell (p := ⟨g, o + k * 8 + 2, none⟩) hg).trans (ha 2 (by omega))
      have d2 := (hB.out.cell (p := ⟨g', o' + k * 8 + 2, none⟩) hg').trans (hb 2 (by omega))
      have c3 := (hB.out.cell (p := ⟨g, o + k * 8 + 3, none⟩) hg).trans (ha 3 (by omega))
      have d3 := (hB.out.cell (p := ⟨g', o' + k * 8 + 3, none⟩) hg').trans (hb 3 (by omega))
      have c4 := (hB.out.cell (p := ⟨g, o + k * 8 + 4, none⟩) hg).trans (ha 4 (by omega))
      have d4 := (hB.out.cell (p := ⟨g', o' + k * 8 + 4, none⟩) hg').trans (hb 4 (by omega))
      have c5 := (hB.out.cell (p := ⟨g, o + k * 8 + 5, none⟩) hg).trans (ha 5 (by omega))
      have d5 := (hB.out.cell (p := ⟨g', o' + k * 8 + 5, none⟩) hg').trans (hb 5 (by omega))
      have c6 := (hB.out.cell (p := ⟨g, o + k * 8 + 6, none⟩) hg).trans (ha 6 (by omega))
      have d6 := (hB.out.cell (p := ⟨g', o' + k * 8 + 6, none⟩) hg').trans (hb 6 (by omega))
      have c7 := (hB.out.cell (p := ⟨g, o + k * 8 + 7, none⟩) hg).trans (ha 7 (by omega))
      have d7 := (hB.out.cell (p := ⟨g', o' + k * 8 + 7, none⟩) hg').trans (hb 7 (by omega))
      clear ha hb
      have hk0 : (0 : Int) ≤ (k : Int) := by omega
      have hk1 : (k : Int) < (n : Int) := by omega
      go_wp2_with fail
      go_quiet (fail)
      go_wp2
      go_roundw
      case rel => exact ⟨k + 1, by omega, by go_num, below_drewN hB.out _⟩
      case measure => simp [intOf]; omega
    · have e : k = n := by omega
      subst e
      go_wp2
      go_ret
      exact ⟨rfl, hB.out⟩
end Go.Proofs.YtblklgcpobbfcaaGreatDoor
