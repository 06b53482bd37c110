/- The law BytesSplits, case by case. Conditions: none. -/
import Derived.Test.YtblklgcpobbfcaaGreatDoorSd
set_option linter.all false
namespace Go.Proofs.YtblklgcpobbfcaaGreatDoor
open Go.Eng Go.RowKit
attribute [local go_sem] eq36
set_option maxRecDepth 1000000

theorem rsplit_good {v : Value} {n : Nat} {C : Nat → Int} {w : World} {L : List Nat} (hg : Gl w) (hc : CodeArg w v n C) (hn : n ≤ 3000) (h : Good C n L) :
    Calls Tryz.prog 24 #[v] w fun e w' => ∃ vl va, e = .returned (.agg #[vl, va, .int .i64 (-1)]) ∧ OwnI w' w.heap.size vl C L ∧ OwnN w' w.heap.size va L ∧ Below w.heap.size w w' := by
  obtain ⟨ad, cap, rfl, hc'⟩ := hc.form
  refine (rsplit_any ad n cap C w hg hc' hn).mono ?_
  rintro e w' ⟨hb, (⟨L', vl, va, h1, rfl, h2, h3⟩ | ⟨L', b, h1, _⟩)⟩
  · obtain rfl := h.uniq h1
    exact ⟨vl, va, rfl, h2, h3, hb⟩
  · exact (h.not h1).elim
theorem rsplit_bad {v : Value} {n : Nat} {C : Nat → Int} {w : World} {L : List Nat} {b : Nat} (hg : Gl w) (hc : CodeArg w v n C) (hn : n ≤ 3000) (h : Fails C n L b) :
    Calls Tryz.prog 24 #[v] w fun e w' => ∃ b : Nat, e = .returned (.agg #[.slice none 0 0, .slice none 0 0, .int .i64 b]) ∧ Below w.heap.size w w' := by
  obtain ⟨ad, cap, rfl, hc'⟩ := hc.form
  refine (rsplit_any ad n cap C w hg hc' hn).mono ?_
  rintro e w' ⟨hb, (⟨L', vl, va, h1, rfl, h2, h3⟩ | ⟨L', b, h1, rfl⟩)⟩
  · exact (h1.not h).elim
  · exact ⟨b, rfl, hb⟩
theorem slaw_mid (a : Option Addr) (n c : Nat) (i : Int) (w : World) (hg : Gl w) (hn : 3000 < n) (hn2 : n ≤ 60000) :
    Calls Tryz.prog 5 #[.slice a n c, .int .i64 i] w fun e w' => e = .returned (.bool true) ∧ Below w.heap.size w w' := by
  have hn' : (3000 : Int) < (n : Int) := by omega
  have hn'' : (n : Int) ≤ 60000 := by omega
  have HS := Lib.hid (sane_any w hg)
  clear hg
  go_enter Tryz.func5, Tryz.ntmps5
  go_wp2_with (go_at_call 13; refine HS.out.mono ?_; rintro e w1 ⟨rfl, hb⟩)
  go_ret
  exact ⟨rfl, hb⟩
theorem three_cells {W : World} {B : Nat} {v1 v2 : Value} {z : Int} (h : W.heap[B]? = some (.cells #[v1, v2, .int .i64 z] 59 (0, 0))) : W.cell? ⟨B, 0, none⟩ = some v1 ∧ W.cell? ⟨B, 1, none⟩ = some v2 ∧ W.cell? ⟨B, 2, none⟩ = some (.int .i64 z) := by
  refine ⟨?_, ?_, ?_⟩
  all_goals (simp only [World.cell?, h]; rfl)

set_option maxHeartbeats 8000000 in
theorem slaw_out1_L (v1 : Value) (n : Nat) (C : Nat → Int) (i : Int) (w : World) (hg : Gl w) (h1 : CodeArg w v1 n C) (hn : 60000 < n) (hi : i < 0)
    (hat : Calls Tryz.prog 20 #[v1, .int .i64 i] w fun e w' => e = .returned (.tuple #[insV 0 0 0 0 0 0 0 0, .int .i64 0, .int .i64 3]) ∧ Below w.heap.size w w') :
    Calls Tryz.prog 5 #[v1, .int .i64 i] w fun e w' => e = .returned (.bool true) ∧ Below w.heap.size w w' := by
  obtain ⟨a1, c1, e1, _⟩ := h1.form
  subst e1
  have hud : (undef : Value) = .tuple #[] := rfl
  have hn1 : (3000 : Int) < (n : Int) := by omega
  have hn2 : ¬ (n : Int) ≤ 60000 := by omega
  have hn3 : (60000 : Int) < (n : Int) := by omega
  have HAT := Lib.hid hat
  have HG : Aside (Gl w) := hg
  have HA1 : Aside (CodeArg w (.slice a1 n c1) n C) := h1
  have HS := Lib.hid fun W (hW : Below w.heap.size w W) => sane_any W (hg.below hW)
  have H2 := Lib.hid fun W => split_long a1 n c1 W hn
  have H3 := Lib.hid fun W => targets_long a1 n c1 W hn
  clear hat hg h1
  go_enter Tryz.func5, Tryz.ntmps5
  go_wp2_with (first
    | (go_at_call 20; refine HAT.out.mono ?_; clear HAT; rintro e w1 ⟨rfl, hb1⟩; have HB1 : Aside (Below w.heap.size w w1) := hb1; clear hb1)
    | (go_at_call 21; refine (H2.out _).mono ?_; clear H2; rintro e w2 ⟨rfl, hw2⟩; have HB2 : Aside (Below w.heap.size w w2) := (by rw [hw2]; exact HB1.out.alloc HB1.out.size _); have HX2 : Aside (w2.heap[w1.heap.size]? = some (.cells #[.int .i64 0, .int .i64 0, .int .i64 0, .int .i64 0, .int .i64 0, .int .i64 0, .int .i64 0, .int .i64 0] 38 (0, 0))) := (by rw [hw2]; exact World.alloc_heap_new w1 _); clear hw2)
    | (go_at_call 22; refine (H3.out _).mono ?_; clear H3; rintro e w3 ⟨rfl, rfl⟩; have HB3 : Aside (Below w.heap.size w w3) := HB2.out; have HX3 : Aside (B8 w3 w1.heap.size 0 0 0 0 0 0 0 0) := ⟨HX2.out⟩; obtain ⟨p0, p1, p2, p3, p4, p5, p6, p7⟩ := HX3.out.cells)
    | (go_at_call 13; refine (HS.out _ HB3.out).mono ?_; rintro e w6 ⟨rfl, hb6⟩; have HB6 : Aside (Below w.heap.size w w6) := step HB3.out hb6))
  go_ret
  exact ⟨rfl, HB6.out⟩

set_option maxHeartbeats 8000000 in
theorem slaw_out1_B (v1 : Value) (n : Nat) (C : Nat → Int) (i : Int) (w : World) (hg : Gl w) (h1 : CodeArg w v1 n C) (hn : n ≤ 3000) (L : List Nat) (b : Nat) (hL : Fails C n L b) (hi : i < 0)
    (hat : Calls Tryz.prog 20 #[v1, .int .i64 i] w fun e w' => e = .returned (.tuple #[insV 0 0 0 0 0 0 0 0, .int .i64 0, .int .i64 3]) ∧ Below w.heap.size w w') :
    Calls Tryz.prog 5 #[v1, .int .i64 i] w fun e w' => e = .returned (.bool true) ∧ Below w.heap.size w w' := by
  obtain ⟨a1, c1, e1, _⟩ := h1.form
  subst e1
  have hud : (undef : Value) = .tuple #[] := rfl
  have hn1 : ¬ (3000 : Int) < (n : Int) := by omega
  have hn3 : ¬ (60000 : Int) < (n : Int) := by omega
  have HAT := Lib.hid hat
  have HG : Aside (Gl w) := hg
  have HA1 : Aside (CodeArg w (.slice a1 n c1) n C) := h1
  have HS := Lib.hid fun W (hW : Below w.heap.size w W) => sane_any W (hg.below hW)
  have H2 := Lib.hid fun W (hW : Below w.heap.size w W) => split_bad (hg.below hW) (h1.below hW rfl) (by omega) hL
  have H3 := Lib.hid fun W (hW : Below w.heap.size w W) => targets_bad (hg.below hW) (h1.below hW rfl) (by omega) hL
  have H4 := Lib.hid fun W (hW : Below w.heap.size w W) => rsplit_bad (hg.below hW) (h1.below hW rfl) hn hL
  clear hat hg h1 hL
  go_enter Tryz.func5, Tryz.ntmps5
  go_wp2_with (first
    | (go_at_call 20; refine HAT.out.mono ?_; clear HAT; rintro e w1 ⟨rfl, hb1⟩; have HB1 : Aside (Below w.heap.size w w1) := hb1; clear hb1)
    | (go_at_call 21; refine (H2.out _ (HB1.out.alloc HB1.out.size _)).mono ?_; clear H2; rintro e w2 ⟨rfl, hb2⟩; have HB2 : Aside (Below w.heap.size w w2) := (HB1.out.alloc HB1.out.size _).trans (hb2.mono (by have := HB1.out.size; simp; omega)); have HX2 : Aside (w2.heap[w1.heap.size]? = some (.cells #[.int .i64 0, .int .i64 0, .int .i64 0, .int .i64 0, .int .i64 0, .int .i64 0, .int .i64 0, .int .i64 0] 38 (0, 0))) := (hb2.block _ (by simp)).trans (World.alloc_heap_new w1 _); clear hb2)
    | (go_at_call 22; refine (H3.out _ HB2.out).mono ?_; clear H3; rintro e w3 ⟨rfl, hb3⟩; have HB3 : Aside (Below w.heap.size w w3) := step HB2.out hb3; have HX3 : Aside (B8 w3 w1.heap.size 0 0 0 0 0 0 0 0) := ⟨(hb3.block _ (Array.getElem?_eq_some_iff.1 HX2.out).1).trans HX2.out⟩; obtain ⟨p0, p1, p2, p3, p4, p5, p6, p7⟩ := HX3.out.cells; clear hb3)
    | (go_at_call 24; refine (H4.out _ HB3.out).mono ?_; clear H4; rintro e w5 ⟨b5, rfl, hb5⟩; have HB5 : Aside (Below w.heap.size w w5) := step HB3.out hb5; have hb50 : (0 : Int) ≤ (b5 : Int) := (by omega); clear hb5)
    | (go_at_call 13; refine (HS.out _ (HB5.out.alloc HB5.out.size _)).mono ?_; rintro e w6 ⟨rfl, hb6⟩; have HB6 : Aside (Below w.heap.size w w6) := step (HB5.out.alloc HB5.out.size _) hb6))
  go_ret
  exact ⟨rfl, HB6.out⟩

set_option maxHeartbeats 8000000 in
theorem slaw_out1_G (v1 : Value) (n : Nat) (C : Nat → Int) (i : Int) (w : World) (hg : Gl w) (h1 : CodeArg w v1 n C) (hn : n ≤ 3000) (L : List Nat) (hL : Good C n L) (hi : i < 0)
    (hat : Calls Tryz.prog 20 #[v1, .int .i64 i] w fun e w' => e = .returned (.tuple #[insV 0 0 0 0 0 0 0 0, .int .i64 0, .int .i64 3]) ∧ Below w.heap.size w w') :
    Calls Tryz.prog 5 #[v1, .int .i64 i] w fun e w' => e = .returned (.bool true) ∧ Below w.heap.size w w' := by
  obtain ⟨a1, c1, e1, _⟩ := h1.form
  subst e1
  have hud : (undef : Value) = .tuple #[] := rfl
  have hn1 : ¬ (3000 : Int) < (n : Int) := by omega
  have hn3 : ¬ (60000 : Int) < (n : Int) := by omega
  have HAT := Lib.hid hat
  have HG : Aside (Gl w) := hg
  have HA1 : Aside (CodeArg w (.slice a1 n c1) n C) := h1
  have HS := Lib.hid fun W (hW : Below w.heap.size w W) => sane_any W (hg.below hW)
  have hlen := hL.len
  have H2 := Lib.hid fun W (hW : Below w.heap.size w W) => split_good (hg.below hW) (h1.below hW rfl) (by omega) hL
  have H3 := Lib.hid fun W (hW : Below w.heap.size w W) => targets_good (hg.below hW) (h1.below hW rfl) (by omega) hL
  have H4 := Lib.hid fun W (hW : Below w.heap.size w W) => rsplit_good (hg.below hW) (h1.below hW rfl) hn hL
  have HGOOD : Aside (Good C n L) := hL
  have HSL : Aside ((sc (tgs C L)).length ≤ 60000) := by show (sc (tgs C L)).length ≤ 60000; have a1 := Lib.compact_length_le ((tgs C L).mergeSort fun x y => decide (x ≤ y)); rw [List.length_mergeSort] at a1; have a2 := tgs_len C L; unfold sc; omega
  clear hat hg h1 hL
  go_enter Tryz.func5, Tryz.ntmps5
  go_wp2_with (first
    | (go_at_call 20; refine HAT.out.mono ?_; clear HAT; rintro e w1 ⟨rfl, hb1⟩; have HB1 : Aside (Below w.heap.size w w1) := hb1; clear hb1)
    | (go_at_call 21; refine (H2.out _ (HB1.out.alloc HB1.out.size _)).mono ?_; clear H2; rintro e w2 ⟨vl, va, rfl, hl2, ha2, hb2⟩; have HB2 : Aside (Below w.heap.size w w2) := (HB1.out.alloc HB1.out.size _).trans (hb2.mono (by have := HB1.out.size; simp; omega)); have HX2 : Aside (w2.heap[w1.heap.size]? = some (.cells #[.int .i64 0, .int .i64 0, .int .i64 0, .int .i64 0, .int .i64 0, .int .i64 0, .int .i64 0, .int .i64 0] 38 (0, 0))) := (hb2.block _ (by simp)).trans (World.alloc_heap_new w1 _); obtain ⟨al, cl, rfl⟩ := own_form hl2; obtain ⟨aa, ca, rfl⟩ := own_form ha2; have HL2 : Aside (OwnI w2 w.heap.size (.slice al L.length cl) C L) := own_base hl2 (by have := HB1.out.size; simp; omega); have HN2 : Aside (OwnN w2 w.heap.size (.slice aa L.length ca) L) := own_base ha2 (by have := HB1.out.size; simp; omega); clear hl2 ha2; clear hb2)
    | (go_at_call 22; refine (H3.out _ HB2.out).mono ?_; clear H3; rintro e w3 ⟨vt, rfl, hz3, hb3⟩; have HB3 : Aside (Below w.heap.size w w3) := step HB2.out hb3; have HX3 : Aside (B8 w3 w1.heap.size 0 0 0 0 0 0 0 0) := ⟨(hb3.block _ (Array.getElem?_eq_some_iff.1 HX2.out).1).trans HX2.out⟩; obtain ⟨p0, p1, p2, p3, p4, p5, p6, p7⟩ := HX3.out.cells; have HL3 : Aside (OwnI w3 w.heap.size (.slice al L.length cl) C L) := own_at HL2.out (fun k _ h => hb3.block k h); have HN3 : Aside (OwnN w3 w.heap.size (.slice aa L.length ca) L) := own_at HN2.out (fun k _ h => hb3.block k h); have HZ3 : Aside (OwnZ w3 w.heap.size vt (sc (tgs C L))) := own_base hz3 HB2.out.size; clear hz3 HL2 HN2; clear hb3)
    | (go_at_call 24; refine (H4.out _ HB3.out).mono ?_; clear H4; rintro e w5 ⟨ul, ua, rfl, hl5, ha5, hb5⟩; obtain ⟨bl, dl, rfl⟩ := own_form hl5; obtain ⟨ba, da, rfl⟩ := own_form ha5; have HB5 : Aside (Below w.heap.size w w5) := step HB3.out hb5; have HL5 : Aside (OwnI w5 w.heap.size (.slice al L.length cl) C L) := own_at (HL3.out) (fun k _ h => hb5.block k h); have HN5 : Aside (OwnN w5 w.heap.size (.slice aa L.length ca) L) := own_at (HN3.out) (fun k _ h => hb5.block k h); have HZ5 : Aside (OwnZ w5 w.heap.size vt (sc (tgs C L))) := own_at (HZ3.out) (fun k _ h => hb5.block k h); have HP5 : Aside (OwnI w5 w.heap.size (.slice bl L.length dl) C L) := own_base hl5 HB3.out.size; have HQ5 : Aside (OwnN w5 w.heap.size (.slice ba L.length da) L) := own_base ha5 HB3.out.size; clear hl5 ha5 hb5 HL3 HN3 HZ3)
    | (go_at_call 13; refine (HS.out _ (HB5.out.alloc HB5.out.size _)).mono ?_; rintro e w6 ⟨rfl, hb6⟩; have HL6 : Aside (OwnI w6 w.heap.size (.slice al L.length cl) C L) := own_at (HL5.out.alloc _) (fun k _ h => hb6.block k h); have HN6 : Aside (OwnN w6 w.heap.size (.slice aa L.length ca) L) := own_at (HN5.out.alloc _) (fun k _ h => hb6.block k h); have HZ6 : Aside (OwnZ w6 w.heap.size vt (sc (tgs C L))) := own_at (HZ5.out.alloc _) (fun k _ h => hb6.block k h); have HP6 : Aside (OwnI w6 w.heap.size (.slice bl L.length dl) C L) := own_at (HP5.out.alloc _) (fun k _ h => hb6.block k h); have HQ6 : Aside (OwnN w6 w.heap.size (.slice ba L.length da) L) := own_at (HQ5.out.alloc _) (fun k _ h => hb6.block k h); have HB6 : Aside (Below w.heap.size w w6) := step (HB5.out.alloc HB5.out.size _) hb6; have HC6 : Aside (w6.heap[w5.heap.size]? = some (.cells #[.slice bl L.length dl, .slice ba L.length da, .int .i64 (-1)] 59 (0, 0))) := (hb6.block _ (by simp)).trans (World.alloc_heap_new w5 _); obtain ⟨k0, k1, k2⟩ := three_cells HC6.out; have HE := Lib.hid (codes_eq HL6.out HP6.out (by omega)); clear hb6 HL5 HN5 HZ5 HP5 HQ5)
    | (go_at_call 25; refine HE.out.mono ?_; clear HE; rintro e w7 ⟨rfl, hb7⟩; clear k0 k1 k2; have HL7 : Aside (OwnI w7 w.heap.size (.slice al L.length cl) C L) := own_at (HL6.out) (fun k _ h => hb7.block k h); have HN7 : Aside (OwnN w7 w.heap.size (.slice aa L.length ca) L) := own_at (HN6.out) (fun k _ h => hb7.block k h); have HZ7 : Aside (OwnZ w7 w.heap.size vt (sc (tgs C L))) := own_at (HZ6.out) (fun k _ h => hb7.block k h); have HP7 : Aside (OwnI w7 w.heap.size (.slice bl L.length dl) C L) := own_at (HP6.out) (fun k _ h => hb7.block k h); have HQ7 : Aside (OwnN w7 w.heap.size (.slice ba L.length da) L) := own_at (HQ6.out) (fun k _ h => hb7.block k h); have HB7 : Aside (Below w.heap.size w w7) := step HB6.out hb7; have HC7 : Aside (w7.heap[w5.heap.size]? = some (.cells #[.slice bl L.length dl, .slice ba L.length da, .int .i64 (-1)] 59 (0, 0))) := (hb7.block _ (Array.getElem?_eq_some_iff.1 HC6.out).1).trans HC6.out; obtain ⟨k0, k1, k2⟩ := three_cells HC7.out; have HI1 := Lib.hid (ints_eq (ownN_iff.1 HN7.out) (ownN_iff.1 HQ7.out) (by rw [toZ_len]; omega)); clear hb7 HL6 HN6 HZ6 HP6 HQ6)
    | (go_at_call 26; refine HI1.out.mono ?_; clear HI1; rintro e w8 ⟨rfl, hb8⟩; clear k0 k1 k2; have HL8 : Aside (OwnI w8 w.heap.size (.slice al L.length cl) C L) := own_at (HL7.out) (fun k _ h => hb8.block k h); have HN8 : Aside (OwnN w8 w.heap.size (.slice aa L.length ca) L) := own_at (HN7.out) (fun k _ h => hb8.block k h); have HZ8 : Aside (OwnZ w8 w.heap.size vt (sc (tgs C L))) := own_at (HZ7.out) (fun k _ h => hb8.block k h); have HP8 : Aside (OwnI w8 w.heap.size (.slice bl L.length dl) C L) := own_at (HP7.out) (fun k _ h => hb8.block k h); have HQ8 : Aside (OwnN w8 w.heap.size (.slice ba L.length da) L) := own_at (HQ7.out) (fun k _ h => hb8.block k h); have HB8 : Aside (Below w.heap.size w w8) := step HB7.out hb8; have HC8 : Aside (w8.heap[w5.heap.size]? = some (.cells #[.slice bl L.length dl, .slice ba L.length da, .int .i64 (-1)] 59 (0, 0))) := (hb8.block _ (Array.getElem?_eq_some_iff.1 HC7.out).1).trans HC7.out; obtain ⟨k0, k1, k2⟩ := three_cells HC8.out; have HTG := Lib.hid (rtargets (HG.out.below HB8.out) HP8.out HQ8.out hn HGOOD.out); clear hb8 HL7 HN7 HZ7 HP7 HQ7)
    | (go_at_call 27; refine HTG.out.mono ?_; clear HTG; rintro e w9 ⟨vz, rfl, hz9, hb9⟩; have HB9 : Aside (Below w.heap.size w w9) := step HB8.out hb9; have HI2 := Lib.hid (ints_eq (own_at HZ8.out (fun k _ h => hb9.block k h)) hz9 HSL.out); clear hz9 hb9)
    | (go_at_call 26; refine HI2.out.mono ?_; clear HI2; rintro e w10 ⟨rfl, hb10⟩; have HB6x : Aside (Below w.heap.size w w10) := step HB9.out hb10))
  go_ret
  exact ⟨rfl, HB6x.out⟩

set_option maxHeartbeats 8000000 in
theorem slaw_out2_L (v1 : Value) (n : Nat) (C : Nat → Int) (i : Int) (w : World) (hg : Gl w) (h1 : CodeArg w v1 n C) (hn : 60000 < n) (hi0 : ¬ i < 0) (hi : (n : Int) ≤ i)
    (hat : Calls Tryz.prog 20 #[v1, .int .i64 i] w fun e w' => e = .returned (.tuple #[insV 0 0 0 0 0 0 0 0, .int .i64 0, .int .i64 3]) ∧ Below w.heap.size w w') :
    Calls Tryz.prog 5 #[v1, .int .i64 i] w fun e w' => e = .returned (.bool true) ∧ Below w.heap.size w w' := by
  obtain ⟨a1, c1, e1, _⟩ := h1.form
  subst e1
  have hud : (undef : Value) = .tuple #[] := rfl
  have hn1 : (3000 : Int) < (n : Int) := by omega
  have hn2 : ¬ (n : Int) ≤ 60000 := by omega
  have hn3 : (60000 : Int) < (n : Int) := by omega
  have HAT := Lib.hid hat
  have HG : Aside (Gl w) := hg
  have HA1 : Aside (CodeArg w (.slice a1 n c1) n C) := h1
  have HS := Lib.hid fun W (hW : Below w.heap.size w W) => sane_any W (hg.below hW)
  have H2 := Lib.hid fun W => split_long a1 n c1 W hn
  have H3 := Lib.hid fun W => targets_long a1 n c1 W hn
  clear hat hg h1
  go_enter Tryz.func5, Tryz.ntmps5
  go_wp2_with (first
    | (go_at_call 20; refine HAT.out.mono ?_; clear HAT; rintro e w1 ⟨rfl, hb1⟩; have HB1 : Aside (Below w.heap.size w w1) := hb1; clear hb1)
    | (go_at_call 21; refine (H2.out _).mono ?_; clear H2; rintro e w2 ⟨rfl, hw2⟩; have HB2 : Aside (Below w.heap.size w w2) := (by rw [hw2]; exact HB1.out.alloc HB1.out.size _); have HX2 : Aside (w2.heap[w1.heap.size]? = some (.cells #[.int .i64 0, .int .i64 0, .int .i64 0, .int .i64 0, .int .i64 0, .int .i64 0, .int .i64 0, .int .i64 0] 38 (0, 0))) := (by rw [hw2]; exact World.alloc_heap_new w1 _); clear hw2)
    | (go_at_call 22; refine (H3.out _).mono ?_; clear H3; rintro e w3 ⟨rfl, rfl⟩; have HB3 : Aside (Below w.heap.size w w3) := HB2.out; have HX3 : Aside (B8 w3 w1.heap.size 0 0 0 0 0 0 0 0) := ⟨HX2.out⟩; obtain ⟨p0, p1, p2, p3, p4, p5, p6, p7⟩ := HX3.out.cells)
    | (go_at_call 13; refine (HS.out _ HB3.out).mono ?_; rintro e w6 ⟨rfl, hb6⟩; have HB6 : Aside (Below w.heap.size w w6) := step HB3.out hb6))
  go_ret
  exact ⟨rfl, HB6.out⟩

set_option maxHeartbeats 8000000 in
theorem slaw_out2_B (v1 : Value) (n : Nat) (C : Nat → Int) (i : Int) (w : World) (hg : Gl w) (h1 : CodeArg w v1 n C) (hn : n ≤ 3000) (L : List Nat) (b : Nat) (hL : Fails C n L b) (hi0 : ¬ i < 0) (hi : (n : Int) ≤ i)
    (hat : Calls Tryz.prog 20 #[v1, .int .i64 i] w fun e w' => e = .returned (.tuple #[insV 0 0 0 0 0 0 0 0, .int .i64 0, .int .i64 3]) ∧ Below w.heap.size w w') :
    Calls Tryz.prog 5 #[v1, .int .i64 i] w fun e w' => e = .returned (.bool true) ∧ Below w.heap.size w w' := by
  obtain ⟨a1, c1, e1, _⟩ := h1.form
  subst e1
  have hud : (undef : Value) = .tuple #[] := rfl
  have hn1 : ¬ (3000 : Int) < (n : Int) := by omega
  have hn3 : ¬ (60000 : Int) < (n : Int) := by omega
  have HAT := Lib.hid hat
  have HG : Aside (Gl w) := hg
  have HA1 : Aside (CodeArg w (.slice a1 n c1) n C) := h1
  have HS := Lib.hid fun W (hW : Below w.heap.size w W) => sane_any W (hg.below hW)
  have H2 := Lib.hid fun W (hW : Below w.heap.size w W) => split_bad (hg.below hW) (h1.below hW rfl) (by omega) hL
  have H3 := Lib.hid fun W (hW : Below w.heap.size w W) => targets_bad (hg.below hW) (h1.below hW rfl) (by omega) hL
  have H4 := Lib.hid fun W (hW : Below w.heap.size w W) => rsplit_bad (hg.below hW) (h1.below hW rfl) hn hL
  clear hat hg h1 hL
  go_enter Tryz.func5, Tryz.ntmps5
  go_wp2_with (first
    | (go_at_call 20; refine HAT.out.mono ?_; clear HAT; rintro e w1 ⟨rfl, hb1⟩; have HB1 : Aside (Below w.heap.size w w1) := hb1; clear hb1)
    | (go_at_call 21; refine (H2.out _ (HB1.out.alloc HB1.out.size _)).mono ?_; clear H2; rintro e w2 ⟨rfl, hb2⟩; have HB2 : Aside (Below w.heap.size w w2) := (HB1.out.alloc HB1.out.size _).trans (hb2.mono (by have := HB1.out.size; simp; omega)); have HX2 : Aside (w2.heap[w1.heap.size]? = some (.cells #[.int .i64 0, .int .i64 0, .int .i64 0, .int .i64 0, .int .i64 0, .int .i64 0, .int .i64 0, .int .i64 0] 38 (0, 0))) := (hb2.block _ (by simp)).trans (World.alloc_heap_new w1 _); clear hb2)
    | (go_at_call 22; refine (H3.out _ HB2.out).mono ?_; clear H3; rintro e w3 ⟨rfl, hb3⟩; have HB3 : Aside (Below w.heap.size w w3) := step HB2.out hb3; have HX3 : Aside (B8 w3 w1.heap.size 0 0 0 0 0 0 0 0) := ⟨(hb3.block _ (Array.getElem?_eq_some_iff.1 HX2.out).1).trans HX2.out⟩; obtain ⟨p0, p1, p2, p3, p4, p5, p6, p7⟩ := HX3.out.cells; clear hb3)
    | (go_at_call 24; refine (H4.out _ HB3.out).mono ?_; clear H4; rintro e w5 ⟨b5, rfl, hb5⟩; have HB5 : Aside (Below w.heap.size w w5) := step HB3.out hb5; have hb50 : (0 : Int) ≤ (b5 : Int) := (by omega); clear hb5)
    | (go_at_call 13; refine (HS.out _ (HB5.out.alloc HB5.out.size _)).mono ?_; rintro e w6 ⟨rfl, hb6⟩; have HB6 : Aside (Below w.heap.size w w6) := step (HB5.out.alloc HB5.out.size _) hb6))
  go_ret
  exact ⟨rfl, HB6.out⟩

set_option maxHeartbeats 8000000 in
theorem slaw_out2_G (v1 : Value) (n : Nat) (C : Nat → Int) (i : Int) (w : World) (hg : Gl w) (h1 : CodeArg w v1 n C) (hn : n ≤ 3000) (L : List Nat) (hL : Good C n L) (hi0 : ¬ i < 0) (hi : (n : Int) ≤ i)
    (hat : Calls Tryz.prog 20 #[v1, .int .i64 i] w fun e w' => e = .returned (.tuple #[insV 0 0 0 0 0 0 0 0, .int .i64 0, .int .i64 3]) ∧ Below w.heap.size w w') :
    Calls Tryz.prog 5 #[v1, .int .i64 i] w fun e w' => e = .returned (.bool true) ∧ Below w.heap.size w w' := by
  obtain ⟨a1, c1, e1, _⟩ := h1.form
  subst e1
  have hud : (undef : Value) = .tuple #[] := rfl
  have hn1 : ¬ (3000 : Int) < (n : Int) := by omega
  have hn3 : ¬ (60000 : Int) < (n : Int) := by omega
  have HAT := Lib.hid hat
  have HG : Aside (Gl w) := hg
  have HA1 : Aside (CodeArg w (.slice a1 n c1) n C) := h1
  have HS := Lib.hid fun W (hW : Below w.heap.size w W) => sane_any W (hg.below hW)
  have hlen := hL.len
  have H2 := Lib.hid fun W (hW : Below w.heap.size w W) => split_good (hg.below hW) (h1.below hW rfl) (by omega) hL
  have H3 := Lib.hid fun W (hW : Below w.heap.size w W) => targets_good (hg.below hW) (h1.below hW rfl) (by omega) hL
  have H4 := Lib.hid fun W (hW : Below w.heap.size w W) => rsplit_good (hg.below hW) (h1.below hW rfl) hn hL
  have HGOOD : Aside (Good C n L) := hL
  have HSL : Aside ((sc (tgs C L)).length ≤ 60000) := by show (sc (tgs C L)).length ≤ 60000; have a1 := Lib.compact_length_le ((tgs C L).mergeSort fun x y => decide (x ≤ y)); rw [List.length_mergeSort] at a1; have a2 := tgs_len C L; unfold sc; omega
  clear hat hg h1 hL
  go_enter Tryz.func5, Tryz.ntmps5
  go_wp2_with (first
    | (go_at_call 20; refine HAT.out.mono ?_; clear HAT; rintro e w1 ⟨rfl, hb1⟩; have HB1 : Aside (Below w.heap.size w w1) := hb1; clear hb1)
    | (go_at_call 21; refine (H2.out _ (HB1.out.alloc HB1.out.size _)).mono ?_; clear H2; rintro e w2 ⟨vl, va, rfl, hl2, ha2, hb2⟩; have HB2 : Aside (Below w.heap.size w w2) := (HB1.out.alloc HB1.out.size _).trans (hb2.mono (by have := HB1.out.size; simp; omega)); have HX2 : Aside (w2.heap[w1.heap.size]? = some (.cells #[.int .i64 0, .int .i64 0, .int .i64 0, .int .i64 0, .int .i64 0, .int .i64 0, .int .i64 0, .int .i64 0] 38 (0, 0))) := (hb2.block _ (by simp)).trans (World.alloc_heap_new w1 _); obtain ⟨al, cl, rfl⟩ := own_form hl2; obtain ⟨aa, ca, rfl⟩ := own_form ha2; have HL2 : Aside (OwnI w2 w.heap.size (.slice al L.length cl) C L) := own_base hl2 (by have := HB1.out.size; simp; omega); have HN2 : Aside (OwnN w2 w.heap.size (.slice aa L.length ca) L) := own_base ha2 (by have := HB1.out.size; simp; omega); clear hl2 ha2; clear hb2)
    | (go_at_call 22; refine (H3.out _ HB2.out).mono ?_; clear H3; rintro e w3 ⟨vt, rfl, hz3, hb3⟩; have HB3 : Aside (Below w.heap.size w w3) := step HB2.out hb3; have HX3 : Aside (B8 w3 w1.heap.size 0 0 0 0 0 0 0 0) := ⟨(hb3.block _ (Array.getElem?_eq_some_iff.1 HX2.out).1).trans HX2.out⟩; obtain ⟨p0, p1, p2, p3, p4, p5, p6, p7⟩ := HX3.out.cells; have HL3 : Aside (OwnI w3 w.heap.size (.slice al L.length cl) C L) := own_at HL2.out (fun k _ h => hb3.block k h); have HN3 : Aside (OwnN w3 w.heap.size (.slice aa L.length ca) L) := own_at HN2.out (fun k _ h => hb3.block k h); have HZ3 : Aside (OwnZ w3 w.heap.size vt (sc (tgs C L))) := own_base hz3 HB2.out.size; clear hz3 HL2 HN2; clear hb3)
    | (go_at_call 24; refine (H4.out _ HB3.out).mono ?_; clear H4; rintro e w5 ⟨ul, ua, rfl, hl5, ha5, hb5⟩; obtain ⟨bl, dl, rfl⟩ := own_form hl5; obtain ⟨ba, da, rfl⟩ := own_form ha5; have HB5 : Aside (Below w.heap.size w w5) := step HB3.out hb5; have HL5 : Aside (OwnI w5 w.heap.size (.slice al L.length cl) C L) := own_at (HL3.out) (fun k _ h => hb5.block k h); have HN5 : Aside (OwnN w5 w.heap.size (.slice aa L.length ca) L) := own_at (HN3.out) (fun k _ h => hb5.block k h); have HZ5 : Aside (OwnZ w5 w.heap.size vt (sc (tgs C L))) := own_at (HZ3.out) (fun k _ h => hb5.block k h); have HP5 : Aside (OwnI w5 w.heap.size (.slice bl L.length dl) C L) := own_base hl5 HB3.out.size; have HQ5 : Aside (OwnN w5 w.heap.size (.slice ba L.length da) L) := own_base ha5 HB3.out.size; clear hl5 ha5 hb5 HL3 HN3 HZ3)
    | (go_at_call 13; refine (HS.out _ (HB5.out.alloc HB5.out.size _)).mono ?_; rintro e w6 ⟨rfl, hb6⟩; have HL6 : Aside (OwnI w6 w.heap.size (.slice al L.length cl) C L) := own_at (HL5.out.alloc _) (fun k _ h => hb6.block k h); have HN6 : Aside (OwnN w6 w.heap.size (.slice aa L.length ca) L) := own_at (HN5.out.alloc _) (fun k _ h => hb6.block k h); have HZ6 : Aside (OwnZ w6 w.heap.size vt (sc (tgs C L))) := own_at (HZ5.out.alloc _) (fun k _ h => hb6.block k h); have HP6 : Aside (OwnI w6 w.heap.size (.slice bl L.length dl) C L) := own_at (HP5.out.alloc _) (fun k _ h => hb6.block k h); have HQ6 : Aside (OwnN w6 w.heap.size (.slice ba L.length da) L) := own_at (HQ5.out.alloc _) (fun k _ h => hb6.block k h); have HB6 : Aside (Below w.heap.size w w6) := step (HB5.out.alloc HB5.out.size _) hb6; have HC6 : Aside (w6.heap[w5.heap.size]? = some (.cells #[.slice bl L.length dl, .slice ba L.length da, .int .i64 (-1)] 59 (0, 0))) := (hb6.block _ (by simp)).trans (World.alloc_heap_new w5 _); obtain ⟨k0, k1, k2⟩ := three_cells HC6.out; have HE := Lib.hid (codes_eq HL6.out HP6.out (by omega)); clear hb6 HL5 HN5 HZ5 HP5 HQ5)
    | (go_at_call 25; refine HE.out.mono ?_; clear HE; rintro e w7 ⟨rfl, hb7⟩; clear k0 k1 k2; have HL7 : Aside (OwnI w7 w.heap.size (.slice al L.length cl) C L) := own_at (HL6.out) (fun k _ h => hb7.block k h); have HN7 : Aside (OwnN w7 w.heap.size (.slice aa L.length ca) L) := own_at (HN6.out) (fun k _ h => hb7.block k h); have HZ7 : Aside (OwnZ w7 w.heap.size vt (sc (tgs C L))) := own_at (HZ6.out) (fun k _ h => hb7.block k h); have HP7 : Aside (OwnI w7 w.heap.size (.slice bl L.length dl) C L) := own_at (HP6.out) (fun k _ h => hb7.block k h); have HQ7 : Aside (OwnN w7 w.heap.size (.slice ba L.length da) L) := own_at (HQ6.out) (fun k _ h => hb7.block k h); have HB7 : Aside (Below w.heap.size w w7) := step HB6.out hb7; have HC7 : Aside (w7.heap[w5.heap.size]? = some (.cells #[.slice bl L.length dl, .slice ba L.length da, .int .i64 (-1)] 59 (0, 0))) := (hb7.block _ (Array.getElem?_eq_some_iff.1 HC6.out).1).trans HC6.out; obtain ⟨k0, k1, k2⟩ := three_cells HC7.out; have HI1 := Lib.hid (ints_eq (ownN_iff.1 HN7.out) (ownN_iff.1 HQ7.out) (by rw [toZ_len]; omega)); clear hb7 HL6 HN6 HZ6 HP6 HQ6)
    | (go_at_call 26; refine HI1.out.mono ?_; clear HI1; rintro e w8 ⟨rfl, hb8⟩; clear k0 k1 k2; have HL8 : Aside (OwnI w8 w.heap.size (.slice al L.length cl) C L) := own_at (HL7.out) (fun k _ h => hb8.block k h); have HN8 : Aside (OwnN w8 w.heap.size (.slice aa L.length ca) L) := own_at (HN7.out) (fun k _ h => hb8.block k h); have HZ8 : Aside (OwnZ w8 w.heap.size vt (sc (tgs C L))) := own_at (HZ7.out) (fun k _ h => hb8.block k h); have HP8 : Aside (OwnI w8 w.heap.size (.slice bl L.length dl) C L) := own_at (HP7.out) (fun k _ h => hb8.block k h); have HQ8 : Aside (OwnN w8 w.heap.size (.slice ba L.length da) L) := own_at (HQ7.out) (fun k _ h => hb8.block k h); have HB8 : Aside (Below w.heap.size w w8) := step HB7.out hb8; have HC8 : Aside (w8.heap[w5.heap.size]? = some (.cells #[.slice bl L.length dl, .slice ba L.length da, .int .i64 (-1)] 59 (0, 0))) := (hb8.block _ (Array.getElem?_eq_some_iff.1 HC7.out).1).trans HC7.out; obtain ⟨k0, k1, k2⟩ := three_cells HC8.out; have HTG := Lib.hid (rtargets (HG.out.below HB8.out) HP8.out HQ8.out hn HGOOD.out); clear hb8 HL7 HN7 HZ7 HP7 HQ7)
    | (go_at_call 27; refine HTG.out.mono ?_; clear HTG; rintro e w9 ⟨vz, rfl, hz9, hb9⟩; have HB9 : Aside (Below w.heap.size w w9) := step HB8.out hb9; have HI2 := Lib.hid (ints_eq (own_at HZ8.out (fun k _ h => hb9.block k h)) hz9 HSL.out); clear hz9 hb9)
    | (go_at_call 26; refine HI2.out.mono ?_; clear HI2; rintro e w10 ⟨rfl, hb10⟩; have HB6x : Aside (Below w.heap.size w w10) := step HB9.out hb10))
  go_ret
  exact ⟨rfl, HB6x.out⟩

set_option maxHeartbeats 8000000 in
theorem slaw_inY_L (v1 : Value) (n : Nat) (C : Nat → Int) (i : Int) (w : World) (hg : Gl w) (h1 : CodeArg w v1 n C) (hn : 60000 < n) (y0 y1 y2 y3 y4 y5 y6 y7 nx : Int) (hi0 : ¬ i < 0) (hi : ¬ (n : Int) ≤ i)
    (hat : Calls Tryz.prog 20 #[v1, .int .i64 i] w fun e w' => e = .returned (.tuple #[insV y0 y1 y2 y3 y4 y5 y6 y7, .int .i64 nx, .int .i64 0]) ∧ Below w.heap.size w w') (hrt : ∀ W, Below w.heap.size w W → Calls Tryz.prog 23 #[v1, .int .i64 i] W fun e w' => e = .returned (rdV y0 y1 y2 y3 y4 y5 y6 y7 nx true) ∧ Below W.heap.size W w') :
    Calls Tryz.prog 5 #[v1, .int .i64 i] w fun e w' => e = .returned (.bool true) ∧ Below w.heap.size w w' := by
  obtain ⟨a1, c1, e1, _⟩ := h1.form
  subst e1
  have hud : (undef : Value) = .tuple #[] := rfl
  have hn1 : (3000 : Int) < (n : Int) := by omega
  have hn2 : ¬ (n : Int) ≤ 60000 := by omega
  have hn3 : (60000 : Int) < (n : Int) := by omega
  have HAT := Lib.hid hat
  have HRT := Lib.hid hrt
  have HG : Aside (Gl w) := hg
  have HA1 : Aside (CodeArg w (.slice a1 n c1) n C) := h1
  have HS := Lib.hid fun W (hW : Below w.heap.size w W) => sane_any W (hg.below hW)
  have H2 := Lib.hid fun W => split_long a1 n c1 W hn
  have H3 := Lib.hid fun W => targets_long a1 n c1 W hn
  clear hat hg h1 hrt
  go_enter Tryz.func5, Tryz.ntmps5
  go_wp2_with (first
    | (go_at_call 20; refine HAT.out.mono ?_; clear HAT; rintro e w1 ⟨rfl, hb1⟩; have HB1 : Aside (Below w.heap.size w w1) := hb1; clear hb1)
    | (go_at_call 21; refine (H2.out _).mono ?_; clear H2; rintro e w2 ⟨rfl, hw2⟩; have HB2 : Aside (Below w.heap.size w w2) := (by rw [hw2]; exact HB1.out.alloc HB1.out.size _); have HX2 : Aside (w2.heap[w1.heap.size]? = some (.cells #[.int .i64 y0, .int .i64 y1, .int .i64 y2, .int .i64 y3, .int .i64 y4, .int .i64 y5, .int .i64 y6, .int .i64 y7] 38 (0, 0))) := (by rw [hw2]; exact World.alloc_heap_new w1 _); clear hw2)
    | (go_at_call 22; refine (H3.out _).mono ?_; clear H3; rintro e w3 ⟨rfl, rfl⟩; have HB3 : Aside (Below w.heap.size w w3) := HB2.out; have HX3 : Aside (B8 w3 w1.heap.size y0 y1 y2 y3 y4 y5 y6 y7) := ⟨HX2.out⟩; obtain ⟨p0, p1, p2, p3, p4, p5, p6, p7⟩ := HX3.out.cells)
    | (go_at_call 23; refine (HRT.out _ HB3.out).mono ?_; clear HRT; rintro e w4 ⟨rfl, hb4⟩; have HB4 : Aside (Below w.heap.size w w4) := step HB3.out hb4; have HX4 : B8 w4 w1.heap.size y0 y1 y2 y3 y4 y5 y6 y7 := HX3.out.below hb4 HX3.out.lt; obtain ⟨r0, r1, r2, r3, r4, r5, r6, r7⟩ := HX4.cells; have hx4 : w1.heap.size < w4.heap.size := HX4.lt; have q0 : ∀ o, (w4.alloc o).cell? ⟨w1.heap.size, 0, none⟩ = some (.int .i64 y0) := (fun o => ((Below.refl _ w4).alloc (Nat.le_refl _) o).cell (p := ⟨w1.heap.size, 0, none⟩) hx4 |>.trans r0); have q1 : ∀ o, (w4.alloc o).cell? ⟨w1.heap.size, 1, none⟩ = some (.int .i64 y1) := (fun o => ((Below.refl _ w4).alloc (Nat.le_refl _) o).cell (p := ⟨w1.heap.size, 1, none⟩) hx4 |>.trans r1); have q2 : ∀ o, (w4.alloc o).cell? ⟨w1.heap.size, 2, none⟩ = some (.int .i64 y2) := (fun o => ((Below.refl _ w4).alloc (Nat.le_refl _) o).cell (p := ⟨w1.heap.size, 2, none⟩) hx4 |>.trans r2); have q3 : ∀ o, (w4.alloc o).cell? ⟨w1.heap.size, 3, none⟩ = some (.int .i64 y3) := (fun o => ((Below.refl _ w4).alloc (Nat.le_refl _) o).cell (p := ⟨w1.heap.size, 3, none⟩) hx4 |>.trans r3); have q4 : ∀ o, (w4.alloc o).cell? ⟨w1.heap.size, 4, none⟩ = some (.int .i64 y4) := (fun o => ((Below.refl _ w4).alloc (Nat.le_refl _) o).cell (p := ⟨w1.heap.size, 4, none⟩) hx4 |>.trans r4); have q5 : ∀ o, (w4.alloc o).cell? ⟨w1.heap.size, 5, none⟩ = some (.int .i64 y5) := (fun o => ((Below.refl _ w4).alloc (Nat.le_refl _) o).cell (p := ⟨w1.heap.size, 5, none⟩) hx4 |>.trans r5); have q6 : ∀ o, (w4.alloc o).cell? ⟨w1.heap.size, 6, none⟩ = some (.int .i64 y6) := (fun o => ((Below.refl _ w4).alloc (Nat.le_refl _) o).cell (p := ⟨w1.heap.size, 6, none⟩) hx4 |>.trans r6); have q7 : ∀ o, (w4.alloc o).cell? ⟨w1.heap.size, 7, none⟩ = some (.int .i64 y7) := (fun o => ((Below.refl _ w4).alloc (Nat.le_refl _) o).cell (p := ⟨w1.heap.size, 7, none⟩) hx4 |>.trans r7); clear hb4 p0 p1 p2 p3 p4 p5 p6 p7 r0 r1 r2 r3 r4 r5 r6 r7 HX4)
    | (go_at_call 13; refine (HS.out _ (HB4.out.alloc HB4.out.size _)).mono ?_; rintro e w6 ⟨rfl, hb6⟩; have HB6 : Aside (Below w.heap.size w w6) := step (HB4.out.alloc HB4.out.size _) hb6))
  go_ret
  exact ⟨rfl, HB6.out⟩

set_option maxHeartbeats 8000000 in
theorem slaw_inY_B (v1 : Value) (n : Nat) (C : Nat → Int) (i : Int) (w : World) (hg : Gl w) (h1 : CodeArg w v1 n C) (hn : n ≤ 3000) (L : List Nat) (b : Nat) (hL : Fails C n L b) (y0 y1 y2 y3 y4 y5 y6 y7 nx : Int) (hi0 : ¬ i < 0) (hi : ¬ (n : Int) ≤ i)
    (hat : Calls Tryz.prog 20 #[v1, .int .i64 i] w fun e w' => e = .returned (.tuple #[insV y0 y1 y2 y3 y4 y5 y6 y7, .int .i64 nx, .int .i64 0]) ∧ Below w.heap.size w w') (hrt : ∀ W, Below w.heap.size w W → Calls Tryz.prog 23 #[v1, .int .i64 i] W fun e w' => e = .returned (rdV y0 y1 y2 y3 y4 y5 y6 y7 nx true) ∧ Below W.heap.size W w') :
    Calls Tryz.prog 5 #[v1, .int .i64 i] w fun e w' => e = .returned (.bool true) ∧ Below w.heap.size w w' := by
  obtain ⟨a1, c1, e1, _⟩ := h1.form
  subst e1
  have hud : (undef : Value) = .tuple #[] := rfl
  have hn1 : ¬ (3000 : Int) < (n : Int) := by omega
  have hn3 : ¬ (60000 : Int) < (n : Int) := by omega
  have HAT := Lib.hid hat
  have HRT := Lib.hid hrt
  have HG : Aside (Gl w) := hg
  have HA1 : Aside (CodeArg w (.slice a1 n c1) n C) := h1
  have HS := Lib.hid fun W (hW : Below w.heap.size w W) => sane_any W (hg.below hW)
  have H2 := Lib.hid fun W (hW : Below w.heap.size w W) => split_bad (hg.below hW) (h1.below hW rfl) (by omega) hL
  have H3 := Lib.hid fun W (hW : Below w.heap.size w W) => targets_bad (hg.below hW) (h1.below hW rfl) (by omega) hL
  have H4 := Lib.hid fun W (hW : Below w.heap.size w W) => rsplit_bad (hg.below hW) (h1.below hW rfl) hn hL
  clear hat hg h1 hrt hL
  go_enter Tryz.func5, Tryz.ntmps5
  go_wp2_with (first
    | (go_at_call 20; refine HAT.out.mono ?_; clear HAT; rintro e w1 ⟨rfl, hb1⟩; have HB1 : Aside (Below w.heap.size w w1) := hb1; clear hb1)
    | (go_at_call 21; refine (H2.out _ (HB1.out.alloc HB1.out.size _)).mono ?_; clear H2; rintro e w2 ⟨rfl, hb2⟩; have HB2 : Aside (Below w.heap.size w w2) := (HB1.out.alloc HB1.out.size _).trans (hb2.mono (by have := HB1.out.size; simp; omega)); have HX2 : Aside (w2.heap[w1.heap.size]? = some (.cells #[.int .i64 y0, .int .i64 y1, .int .i64 y2, .int .i64 y3, .int .i64 y4, .int .i64 y5, .int .i64 y6, .int .i64 y7] 38 (0, 0))) := (hb2.block _ (by simp)).trans (World.alloc_heap_new w1 _); clear hb2)
    | (go_at_call 22; refine (H3.out _ HB2.out).mono ?_; clear H3; rintro e w3 ⟨rfl, hb3⟩; have HB3 : Aside (Below w.heap.size w w3) := step HB2.out hb3; have HX3 : Aside (B8 w3 w1.heap.size y0 y1 y2 y3 y4 y5 y6 y7) := ⟨(hb3.block _ (Array.getElem?_eq_some_iff.1 HX2.out).1).trans HX2.out⟩; obtain ⟨p0, p1, p2, p3, p4, p5, p6, p7⟩ := HX3.out.cells; clear hb3)
    | (go_at_call 23; refine (HRT.out _ HB3.out).mono ?_; clear HRT; rintro e w4 ⟨rfl, hb4⟩; have HB4 : Aside (Below w.heap.size w w4) := step HB3.out hb4; have HX4 : B8 w4 w1.heap.size y0 y1 y2 y3 y4 y5 y6 y7 := HX3.out.below hb4 HX3.out.lt; obtain ⟨r0, r1, r2, r3, r4, r5, r6, r7⟩ := HX4.cells; have hx4 : w1.heap.size < w4.heap.size := HX4.lt; have q0 : ∀ o, (w4.alloc o).cell? ⟨w1.heap.size, 0, none⟩ = some (.int .i64 y0) := (fun o => ((Below.refl _ w4).alloc (Nat.le_refl _) o).cell (p := ⟨w1.heap.size, 0, none⟩) hx4 |>.trans r0); have q1 : ∀ o, (w4.alloc o).cell? ⟨w1.heap.size, 1, none⟩ = some (.int .i64 y1) := (fun o => ((Below.refl _ w4).alloc (Nat.le_refl _) o).cell (p := ⟨w1.heap.size, 1, none⟩) hx4 |>.trans r1); have q2 : ∀ o, (w4.alloc o).cell? ⟨w1.heap.size, 2, none⟩ = some (.int .i64 y2) := (fun o => ((Below.refl _ w4).alloc (Nat.le_refl _) o).cell (p := ⟨w1.heap.size, 2, none⟩) hx4 |>.trans r2); have q3 : ∀ o, (w4.alloc o).cell? ⟨w1.heap.size, 3, none⟩ = some (.int .i64 y3) := (fun o => ((Below.refl _ w4).alloc (Nat.le_refl _) o).cell (p := ⟨w1.heap.size, 3, none⟩) hx4 |>.trans r3); have q4 : ∀ o, (w4.alloc o).cell? ⟨w1.heap.size, 4, none⟩ = some (.int .i64 y4) := (fun o => ((Below.refl _ w4).alloc (Nat.le_refl _) o).cell (p := ⟨w1.heap.size, 4, none⟩) hx4 |>.trans r4); have q5 : ∀ o, (w4.alloc o).cell? ⟨w1.heap.size, 5, none⟩ = some (.int .i64 y5) := (fun o => ((Below.refl _ w4).alloc (Nat.le_refl _) o).cell (p := ⟨w1.heap.size, 5, none⟩) hx4 |>.trans r5); have q6 : ∀ o, (w4.alloc o).cell? ⟨w1.heap.size, 6, none⟩ = some (.int .i64 y6) := (fun o => ((Below.refl _ w4).alloc (Nat.le_refl _) o).cell (p := ⟨w1.heap.size, 6, none⟩) hx4 |>.trans r6); have q7 : ∀ o, (w4.alloc o).cell? ⟨w1.heap.size, 7, none⟩ = some (.int .i64 y7) := (fun o => ((Below.refl _ w4).alloc (Nat.le_refl _) o).cell (p := ⟨w1.heap.size, 7, none⟩) hx4 |>.trans r7); clear hb4 p0 p1 p2 p3 p4 p5 p6 p7 r0 r1 r2 r3 r4 r5 r6 r7 HX4)
    | (go_at_call 24; refine (H4.out _ (HB4.out.alloc HB4.out.size _)).mono ?_; clear H4; rintro e w5 ⟨b5, rfl, hb5⟩; have HB5 : Aside (Below w.heap.size w w5) := step (HB4.out.alloc HB4.out.size _) hb5; have hb50 : (0 : Int) ≤ (b5 : Int) := (by omega); clear hb5)
    | (go_at_call 13; refine (HS.out _ (HB5.out.alloc HB5.out.size _)).mono ?_; rintro e w6 ⟨rfl, hb6⟩; have HB6 : Aside (Below w.heap.size w w6) := step (HB5.out.alloc HB5.out.size _) hb6))
  go_ret
  exact ⟨rfl, HB6.out⟩

set_option maxHeartbeats 8000000 in
theorem slaw_inY_G (v1 : Value) (n : Nat) (C : Nat → Int) (i : Int) (w : World) (hg : Gl w) (h1 : CodeArg w v1 n C) (hn : n ≤ 3000) (L : List Nat) (hL : Good C n L) (y0 y1 y2 y3 y4 y5 y6 y7 nx : Int) (hi0 : ¬ i < 0) (hi : ¬ (n : Int) ≤ i)
    (hat : Calls Tryz.prog 20 #[v1, .int .i64 i] w fun e w' => e = .returned (.tuple #[insV y0 y1 y2 y3 y4 y5 y6 y7, .int .i64 nx, .int .i64 0]) ∧ Below w.heap.size w w') (hrt : ∀ W, Below w.heap.size w W → Calls Tryz.prog 23 #[v1, .int .i64 i] W fun e w' => e = .returned (rdV y0 y1 y2 y3 y4 y5 y6 y7 nx true) ∧ Below W.heap.size W w') :
    Calls Tryz.prog 5 #[v1, .int .i64 i] w fun e w' => e = .returned (.bool true) ∧ Below w.heap.size w w' := by
  obtain ⟨a1, c1, e1, _⟩ := h1.form
  subst e1
  have hud : (undef : Value) = .tuple #[] := rfl
  have hn1 : ¬ (3000 : Int) < (n : Int) := by omega
  have hn3 : ¬ (60000 : Int) < (n : Int) := by omega
  have HAT := Lib.hid hat
  have HRT := Lib.hid hrt
  have HG : Aside (Gl w) := hg
  have HA1 : Aside (CodeArg w (.slice a1 n c1) n C) := h1
  have HS := Lib.hid fun W (hW : Below w.heap.size w W) => sane_any W (hg.below hW)
  have hlen := hL.len
  have H2 := Lib.hid fun W (hW : Below w.heap.size w W) => split_good (hg.below hW) (h1.below hW rfl) (by omega) hL
  have H3 := Lib.hid fun W (hW : Below w.heap.size w W) => targets_good (hg.below hW) (h1.below hW rfl) (by omega) hL
  have H4 := Lib.hid fun W (hW : Below w.heap.size w W) => rsplit_good (hg.below hW) (h1.below hW rfl) hn hL
  have HGOOD : Aside (Good C n L) := hL
  have HSL : Aside ((sc (tgs C L)).length ≤ 60000) := by show (sc (tgs C L)).length ≤ 60000; have a1 := Lib.compact_length_le ((tgs C L).mergeSort fun x y => decide (x ≤ y)); rw [List.length_mergeSort] at a1; have a2 := tgs_len C L; unfold sc; omega
  clear hat hg h1 hrt hL
  go_enter Tryz.func5, Tryz.ntmps5
  go_wp2_with (first
    | (go_at_call 20; refine HAT.out.mono ?_; clear HAT; rintro e w1 ⟨rfl, hb1⟩; have HB1 : Aside (Below w.heap.size w w1) := hb1; clear hb1)
    | (go_at_call 21; refine (H2.out _ (HB1.out.alloc HB1.out.size _)).mono ?_; clear H2; rintro e w2 ⟨vl, va, rfl, hl2, ha2, hb2⟩; have HB2 : Aside (Below w.heap.size w w2) := (HB1.out.alloc HB1.out.size _).trans (hb2.mono (by have := HB1.out.size; simp; omega)); have HX2 : Aside (w2.heap[w1.heap.size]? = some (.cells #[.int .i64 y0, .int .i64 y1, .int .i64 y2, .int .i64 y3, .int .i64 y4, .int .i64 y5, .int .i64 y6, .int .i64 y7] 38 (0, 0))) := (hb2.block _ (by simp)).trans (World.alloc_heap_new w1 _); obtain ⟨al, cl, rfl⟩ := own_form hl2; obtain ⟨aa, ca, rfl⟩ := own_form ha2; have HL2 : Aside (OwnI w2 w.heap.size (.slice al L.length cl) C L) := own_base hl2 (by have := HB1.out.size; simp; omega); have HN2 : Aside (OwnN w2 w.heap.size (.slice aa L.length ca) L) := own_base ha2 (by have := HB1.out.size; simp; omega); clear hl2 ha2; clear hb2)
    | (go_at_call 22; refine (H3.out _ HB2.out).mono ?_; clear H3; rintro e w3 ⟨vt, rfl, hz3, hb3⟩; have HB3 : Aside (Below w.heap.size w w3) := step HB2.out hb3; have HX3 : Aside (B8 w3 w1.heap.size y0 y1 y2 y3 y4 y5 y6 y7) := ⟨(hb3.block _ (Array.getElem?_eq_some_iff.1 HX2.out).1).trans HX2.out⟩; obtain ⟨p0, p1, p2, p3, p4, p5, p6, p7⟩ := HX3.out.cells; have HL3 : Aside (OwnI w3 w.heap.size (.slice al L.length cl) C L) := own_at HL2.out (fun k _ h => hb3.block k h); have HN3 : Aside (OwnN w3 w.heap.size (.slice aa L.length ca) L) := own_at HN2.out (fun k _ h => hb3.block k h); have HZ3 : Aside (OwnZ w3 w.heap.size vt (sc (tgs C L))) := own_base hz3 HB2.out.size; clear hz3 HL2 HN2; clear hb3)
    | (go_at_call 23; refine (HRT.out _ HB3.out).mono ?_; clear HRT; rintro e w4 ⟨rfl, hb4⟩; have HB4 : Aside (Below w.heap.size w w4) := step HB3.out hb4; have HX4 : B8 w4 w1.heap.size y0 y1 y2 y3 y4 y5 y6 y7 := HX3.out.below hb4 HX3.out.lt; obtain ⟨r0, r1, r2, r3, r4, r5, r6, r7⟩ := HX4.cells; have hx4 : w1.heap.size < w4.heap.size := HX4.lt; have q0 : ∀ o, (w4.alloc o).cell? ⟨w1.heap.size, 0, none⟩ = some (.int .i64 y0) := (fun o => ((Below.refl _ w4).alloc (Nat.le_refl _) o).cell (p := ⟨w1.heap.size, 0, none⟩) hx4 |>.trans r0); have q1 : ∀ o, (w4.alloc o).cell? ⟨w1.heap.size, 1, none⟩ = some (.int .i64 y1) := (fun o => ((Below.refl _ w4).alloc (Nat.le_refl _) o).cell (p := ⟨w1.heap.size, 1, none⟩) hx4 |>.trans r1); have q2 : ∀ o, (w4.alloc o).cell? ⟨w1.heap.size, 2, none⟩ = some (.int .i64 y2) := (fun o => ((Below.refl _ w4).alloc (Nat.le_refl _) o).cell (p := ⟨w1.heap.size, 2, none⟩) hx4 |>.trans r2); have q3 : ∀ o, (w4.alloc o).cell? ⟨w1.heap.size, 3, none⟩ = some (.int .i64 y3) := (fun o => ((Below.refl _ w4).alloc (Nat.le_refl _) o).cell (p := ⟨w1.heap.size, 3, none⟩) hx4 |>.trans r3); have q4 : ∀ o, (w4.alloc o).cell? ⟨w1.heap.size, 4, none⟩ = some (.int .i64 y4) := (fun o => ((Below.refl _ w4).alloc (Nat.le_refl _) o).cell (p := ⟨w1.heap.size, 4, none⟩) hx4 |>.trans r4); have q5 : ∀ o, (w4.alloc o).cell? ⟨w1.heap.size, 5, none⟩ = some (.int .i64 y5) := (fun o => ((Below.refl _ w4).alloc (Nat.le_refl _) o).cell (p := ⟨w1.heap.size, 5, none⟩) hx4 |>.trans r5); have q6 : ∀ o, (w4.alloc o).cell? ⟨w1.heap.size, 6, none⟩ = some (.int .i64 y6) := (fun o => ((Below.refl _ w4).alloc (Nat.le_refl _) o).cell (p := ⟨w1.heap.size, 6, none⟩) hx4 |>.trans r6); have q7 : ∀ o, (w4.alloc o).cell? ⟨w1.heap.size, 7, none⟩ = some (.int .i64 y7) := (fun o => ((Below.refl _ w4).alloc (Nat.le_refl _) o).cell (p := ⟨w1.heap.size, 7, none⟩) hx4 |>.trans r7); have HL4 : Aside (OwnI w4 w.heap.size (.slice al L.length cl) C L) := own_at HL3.out (fun k _ h => hb4.block k h); have HN4 : Aside (OwnN w4 w.heap.size (.slice aa L.length ca) L) := own_at HN3.out (fun k _ h => hb4.block k h); have HZ4 : Aside (OwnZ w4 w.heap.size vt (sc (tgs C L))) := own_at HZ3.out (fun k _ h => hb4.block k h); clear HL3 HN3 HZ3; clear hb4 p0 p1 p2 p3 p4 p5 p6 p7 r0 r1 r2 r3 r4 r5 r6 r7 HX4)
    | (go_at_call 24; refine (H4.out _ (HB4.out.alloc HB4.out.size _)).mono ?_; clear H4; rintro e w5 ⟨ul, ua, rfl, hl5, ha5, hb5⟩; obtain ⟨bl, dl, rfl⟩ := own_form hl5; obtain ⟨ba, da, rfl⟩ := own_form ha5; have HB5 : Aside (Below w.heap.size w w5) := step (HB4.out.alloc HB4.out.size _) hb5; have HL5 : Aside (OwnI w5 w.heap.size (.slice al L.length cl) C L) := own_at (HL4.out.alloc _) (fun k _ h => hb5.block k h); have HN5 : Aside (OwnN w5 w.heap.size (.slice aa L.length ca) L) := own_at (HN4.out.alloc _) (fun k _ h => hb5.block k h); have HZ5 : Aside (OwnZ w5 w.heap.size vt (sc (tgs C L))) := own_at (HZ4.out.alloc _) (fun k _ h => hb5.block k h); have HP5 : Aside (OwnI w5 w.heap.size (.slice bl L.length dl) C L) := own_base hl5 (HB4.out.alloc HB4.out.size _).size; have HQ5 : Aside (OwnN w5 w.heap.size (.slice ba L.length da) L) := own_base ha5 (HB4.out.alloc HB4.out.size _).size; clear hl5 ha5 hb5 HL4 HN4 HZ4)
    | (go_at_call 13; refine (HS.out _ (HB5.out.alloc HB5.out.size _)).mono ?_; rintro e w6 ⟨rfl, hb6⟩; have HL6 : Aside (OwnI w6 w.heap.size (.slice al L.length cl) C L) := own_at (HL5.out.alloc _) (fun k _ h => hb6.block k h); have HN6 : Aside (OwnN w6 w.heap.size (.slice aa L.length ca) L) := own_at (HN5.out.alloc _) (fun k _ h => hb6.block k h); have HZ6 : Aside (OwnZ w6 w.heap.size vt (sc (tgs C L))) := own_at (HZ5.out.alloc _) (fun k _ h => hb6.block k h); have HP6 : Aside (OwnI w6 w.heap.size (.slice bl L.length dl) C L) := own_at (HP5.out.alloc _) (fun k _ h => hb6.block k h); have HQ6 : Aside (OwnN w6 w.heap.size (.slice ba L.length da) L) := own_at (HQ5.out.alloc _) (fun k _ h => hb6.block k h); have HB6 : Aside (Below w.heap.size w w6) := step (HB5.out.alloc HB5.out.size _) hb6; have HC6 : Aside (w6.heap[w5.heap.size]? = some (.cells #[.slice bl L.length dl, .slice ba L.length da, .int .i64 (-1)] 59 (0, 0))) := (hb6.block _ (by simp)).trans (World.alloc_heap_new w5 _); obtain ⟨k0, k1, k2⟩ := three_cells HC6.out; have HE := Lib.hid (codes_eq HL6.out HP6.out (by omega)); clear hb6 HL5 HN5 HZ5 HP5 HQ5)
    | (go_at_call 25; refine HE.out.mono ?_; clear HE; rintro e w7 ⟨rfl, hb7⟩; clear k0 k1 k2; have HL7 : Aside (OwnI w7 w.heap.size (.slice al L.length cl) C L) := own_at (HL6.out) (fun k _ h => hb7.block k h); have HN7 : Aside (OwnN w7 w.heap.size (.slice aa L.length ca) L) := own_at (HN6.out) (fun k _ h => hb7.block k h); have HZ7 : Aside (OwnZ w7 w.heap.size vt (sc (tgs C L))) := own_at (HZ6.out) (fun k _ h => hb7.block k h); have HP7 : Aside (OwnI w7 w.heap.size (.slice bl L.length dl) C L) := own_at (HP6.out) (fun k _ h => hb7.block k h); have HQ7 : Aside (OwnN w7 w.heap.size (.slice ba L.length da) L) := own_at (HQ6.out) (fun k _ h => hb7.block k h); have HB7 : Aside (Below w.heap.size w w7) := step HB6.out hb7; have HC7 : Aside (w7.heap[w5.heap.size]? = some (.cells #[.slice bl L.length dl, .slice ba L.length da, .int .i64 (-1)] 59 (0, 0))) := (hb7.block _ (Array.getElem?_eq_some_iff.1 HC6.out).1).trans HC6.out; obtain ⟨k0, k1, k2⟩ := three_cells HC7.out; have HI1 := Lib.hid (ints_eq (ownN_iff.1 HN7.out) (ownN_iff.1 HQ7.out) (by rw [toZ_len]; omega)); clear hb7 HL6 HN6 HZ6 HP6 HQ6)
    | (go_at_call 26; refine HI1.out.mono ?_; clear HI1; rintro e w8 ⟨rfl, hb8⟩; clear k0 k1 k2; have HL8 : Aside (OwnI w8 w.heap.size (.slice al L.length cl) C L) := own_at (HL7.out) (fun k _ h => hb8.block k h); have HN8 : Aside (OwnN w8 w.heap.size (.slice aa L.length ca) L) := own_at (HN7.out) (fun k _ h => hb8.block k h); have HZ8 : Aside (OwnZ w8 w.heap.size vt (sc (tgs C L))) := own_at (HZ7.out) (fun k _ h => hb8.block k h); have HP8 : Aside (OwnI w8 w.heap.size (.slice bl L.length dl) C L) := own_at (HP7.out) (fun k _ h => hb8.block k h); have HQ8 : Aside (OwnN w8 w.heap.size (.slice ba L.length da) L) := own_at (HQ7.out) (fun k _ h => hb8.block k h); have HB8 : Aside (Below w.heap.size w w8) := step HB7.out hb8; have HC8 : Aside (w8.heap[w5.heap.size]? = some (.cells #[.slice bl L.length dl, .slice ba L.length da, .int .i64 (-1)] 59 (0, 0))) := (hb8.block _ (Array.getElem?_eq_some_iff.1 HC7.out).1).trans HC7.out; obtain ⟨k0, k1, k2⟩ := three_cells HC8.out; have HTG := Lib.hid (rtargets (HG.out.below HB8.out) HP8.out HQ8.out hn HGOOD.out); clear hb8 HL7 HN7 HZ7 HP7 HQ7)
    | (go_at_call 27; refine HTG.out.mono ?_; clear HTG; rintro e w9 ⟨vz, rfl, hz9, hb9⟩; have HB9 : Aside (Below w.heap.size w w9) := step HB8.out hb9; have HI2 := Lib.hid (ints_eq (own_at HZ8.out (fun k _ h => hb9.block k h)) hz9 HSL.out); clear hz9 hb9)
    | (go_at_call 26; refine HI2.out.mono ?_; clear HI2; rintro e w10 ⟨rfl, hb10⟩; have HB6x : Aside (Below w.heap.size w w10) := step HB9.out hb10))
  go_ret
  exact ⟨rfl, HB6x.out⟩

set_option maxHeartbeats 8000000 in
theorem slaw_inN_L (v1 : Value) (n : Nat) (C : Nat → Int) (i : Int) (w : World) (hg : Gl w) (h1 : CodeArg w v1 n C) (hn : 60000 < n) (y0 y1 y2 y3 y4 y5 y6 y7 nx : Int) (hi0 : ¬ i < 0) (hi : ¬ (n : Int) ≤ i)
    (hat : Calls Tryz.prog 20 #[v1, .int .i64 i] w fun e w' => e = .returned (.tuple #[insV y0 y1 y2 y3 y4 y5 y6 y7, .int .i64 nx, .int .i64 6]) ∧ Below w.heap.size w w') (hrt : ∀ W, Below w.heap.size w W → Calls Tryz.prog 23 #[v1, .int .i64 i] W fun e w' => e = .returned (rdV y0 y1 y2 y3 y4 y5 y6 y7 nx false) ∧ Below W.heap.size W w') :
    Calls Tryz.prog 5 #[v1, .int .i64 i] w fun e w' => e = .returned (.bool true) ∧ Below w.heap.size w w' := by
  obtain ⟨a1, c1, e1, _⟩ := h1.form
  subst e1
  have hud : (undef : Value) = .tuple #[] := rfl
  have hn1 : (3000 : Int) < (n : Int) := by omega
  have hn2 : ¬ (n : Int) ≤ 60000 := by omega
  have hn3 : (60000 : Int) < (n : Int) := by omega
  have HAT := Lib.hid hat
  have HRT := Lib.hid hrt
  have HG : Aside (Gl w) := hg
  have HA1 : Aside (CodeArg w (.slice a1 n c1) n C) := h1
  have HS := Lib.hid fun W (hW : Below w.heap.size w W) => sane_any W (hg.below hW)
  have H2 := Lib.hid fun W => split_long a1 n c1 W hn
  have H3 := Lib.hid fun W => targets_long a1 n c1 W hn
  clear hat hg h1 hrt
  go_enter Tryz.func5, Tryz.ntmps5
  go_wp2_with (first
    | (go_at_call 20; refine HAT.out.mono ?_; clear HAT; rintro e w1 ⟨rfl, hb1⟩; have HB1 : Aside (Below w.heap.size w w1) := hb1; clear hb1)
    | (go_at_call 21; refine (H2.out _).mono ?_; clear H2; rintro e w2 ⟨rfl, hw2⟩; have HB2 : Aside (Below w.heap.size w w2) := (by rw [hw2]; exact HB1.out.alloc HB1.out.size _); have HX2 : Aside (w2.heap[w1.heap.size]? = some (.cells #[.int .i64 y0, .int .i64 y1, .int .i64 y2, .int .i64 y3, .int .i64 y4, .int .i64 y5, .int .i64 y6, .int .i64 y7] 38 (0, 0))) := (by rw [hw2]; exact World.alloc_heap_new w1 _); clear hw2)
    | (go_at_call 22; refine (H3.out _).mono ?_; clear H3; rintro e w3 ⟨rfl, rfl⟩; have HB3 : Aside (Below w.heap.size w w3) := HB2.out; have HX3 : Aside (B8 w3 w1.heap.size y0 y1 y2 y3 y4 y5 y6 y7) := ⟨HX2.out⟩; obtain ⟨p0, p1, p2, p3, p4, p5, p6, p7⟩ := HX3.out.cells)
    | (go_at_call 23; refine (HRT.out _ HB3.out).mono ?_; clear HRT; rintro e w4 ⟨rfl, hb4⟩; have HB4 : Aside (Below w.heap.size w w4) := step HB3.out hb4; have HX4 : B8 w4 w1.heap.size y0 y1 y2 y3 y4 y5 y6 y7 := HX3.out.below hb4 HX3.out.lt; obtain ⟨r0, r1, r2, r3, r4, r5, r6, r7⟩ := HX4.cells; have hx4 : w1.heap.size < w4.heap.size := HX4.lt; have q0 : ∀ o, (w4.alloc o).cell? ⟨w1.heap.size, 0, none⟩ = some (.int .i64 y0) := (fun o => ((Below.refl _ w4).alloc (Nat.le_refl _) o).cell (p := ⟨w1.heap.size, 0, none⟩) hx4 |>.trans r0); have q1 : ∀ o, (w4.alloc o).cell? ⟨w1.heap.size, 1, none⟩ = some (.int .i64 y1) := (fun o => ((Below.refl _ w4).alloc (Nat.le_refl _) o).cell (p := ⟨w1.heap.size, 1, none⟩) hx4 |>.trans r1); have q2 : ∀ o, (w4.alloc o).cell? ⟨w1.heap.size, 2, none⟩ = some (.int .i64 y2) := (fun o => ((Below.refl _ w4).alloc (Nat.le_refl _) o).cell (p := ⟨w1.heap.size, 2, none⟩) hx4 |>.trans r2); have q3 : ∀ o, (w4.alloc o).cell? ⟨w1.heap.size, 3, none⟩ = some (.int .i64 y3) := (fun o => ((Below.refl _ w4).alloc (Nat.le_refl _) o).cell (p := ⟨w1.heap.size, 3, none⟩) hx4 |>.trans r3); have q4 : ∀ o, (w4.alloc o).cell? ⟨w1.heap.size, 4, none⟩ = some (.int .i64 y4) := (fun o => ((Below.refl _ w4).alloc (Nat.le_refl _) o).cell (p := ⟨w1.heap.size, 4, none⟩) hx4 |>.trans r4); have q5 : ∀ o, (w4.alloc o).cell? ⟨w1.heap.size, 5, none⟩ = some (.int .i64 y5) := (fun o => ((Below.refl _ w4).alloc (Nat.le_refl _) o).cell (p := ⟨w1.heap.size, 5, none⟩) hx4 |>.trans r5); have q6 : ∀ o, (w4.alloc o).cell? ⟨w1.heap.size, 6, none⟩ = some (.int .i64 y6) := (fun o => ((Below.refl _ w4).alloc (Nat.le_refl _) o).cell (p := ⟨w1.heap.size, 6, none⟩) hx4 |>.trans r6); have q7 : ∀ o, (w4.alloc o).cell? ⟨w1.heap.size, 7, none⟩ = some (.int .i64 y7) := (fun o => ((Below.refl _ w4).alloc (Nat.le_refl _) o).cell (p := ⟨w1.heap.size, 7, none⟩) hx4 |>.trans r7); clear hb4 p0 p1 p2 p3 p4 p5 p6 p7 r0 r1 r2 r3 r4 r5 r6 r7 HX4)
    | (go_at_call 13; refine (HS.out _ (HB4.out.alloc HB4.out.size _)).mono ?_; rintro e w6 ⟨rfl, hb6⟩; have HB6 : Aside (Below w.heap.size w w6) := step (HB4.out.alloc HB4.out.size _) hb6))
  go_ret
  exact ⟨rfl, HB6.out⟩

set_option maxHeartbeats 8000000 in
theorem slaw_inN_B (v1 : Value) (n : Nat) (C : Nat → Int) (i : Int) (w : World) (hg : Gl w) (h1 : CodeArg w v1 n C) (hn : n ≤ 3000) (L : List Nat) (b : Nat) (hL : Fails C n L b) (y0 y1 y2 y3 y4 y5 y6 y7 nx : Int) (hi0 : ¬ i < 0) (hi : ¬ (n : Int) ≤ i)
    (hat : Calls Tryz.prog 20 #[v1, .int .i64 i] w fun e w' => e = .returned (.tuple #[insV y0 y1 y2 y3 y4 y5 y6 y7, .int .i64 nx, .int .i64 6]) ∧ Below w.heap.size w w') (hrt : ∀ W, Below w.heap.size w W → Calls Tryz.prog 23 #[v1, .int .i64 i] W fun e w' => e = .returned (rdV y0 y1 y2 y3 y4 y5 y6 y7 nx false) ∧ Below W.heap.size W w') :
    Calls Tryz.prog 5 #[v1, .int .i64 i] w fun e w' => e = .returned (.bool true) ∧ Below w.heap.size w w' := by
  obtain ⟨a1, c1, e1, _⟩ := h1.form
  subst e1
  have hud : (undef : Value) = .tuple #[] := rfl
  have hn1 : ¬ (3000 : Int) < (n : Int) := by omega
  have hn3 : ¬ (60000 : Int) < (n : Int) := by omega
  have HAT := Lib.hid hat
  have HRT := Lib.hid hrt
  have HG : Aside (Gl w) := hg
  have HA1 : Aside (CodeArg w (.slice a1 n c1) n C) := h1
  have HS := Lib.hid fun W (hW : Below w.heap.size w W) => sane_any W (hg.below hW)
  have H2 := Lib.hid fun W (hW : Below w.heap.size w W) => split_bad (hg.below hW) (h1.below hW rfl) (by omega) hL
  have H3 := Lib.hid fun W (hW : Below w.heap.size w W) => targets_bad (hg.below hW) (h1.below hW rfl) (by omega) hL
  have H4 := Lib.hid fun W (hW : Below w.heap.size w W) => rsplit_bad (hg.below hW) (h1.below hW rfl) hn hL
  clear hat hg h1 hrt hL
  go_enter Tryz.func5, Tryz.ntmps5
  go_wp2_with (first
    | (go_at_call 20; refine HAT.out.mono ?_; clear HAT; rintro e w1 ⟨rfl, hb1⟩; have HB1 : Aside (Below w.heap.size w w1) := hb1; clear hb1)
    | (go_at_call 21; refine (H2.out _ (HB1.out.alloc HB1.out.size _)).mono ?_; clear H2; rintro e w2 ⟨rfl, hb2⟩; have HB2 : Aside (Below w.heap.size w w2) := (HB1.out.alloc HB1.out.size _).trans (hb2.mono (by have := HB1.out.size; simp; omega)); have HX2 : Aside (w2.heap[w1.heap.size]? = some (.cells #[.int .i64 y0, .int .i64 y1, .int .i64 y2, .int .i64 y3, .int .i64 y4, .int .i64 y5, .int .i64 y6, .int .i64 y7] 38 (0, 0))) := (hb2.block _ (by simp)).trans (World.alloc_heap_new w1 _); clear hb2)
    | (go_at_call 22; refine (H3.out _ HB2.out).mono ?_; clear H3; rintro e w3 ⟨rfl, hb3⟩; have HB3 : Aside (Below w.heap.size w w3) := step HB2.out hb3; have HX3 : Aside (B8 w3 w1.heap.size y0 y1 y2 y3 y4 y5 y6 y7) := ⟨(hb3.block _ (Array.getElem?_eq_some_iff.1 HX2.out).1).trans HX2.out⟩; obtain ⟨p0, p1, p2, p3, p4, p5, p6, p7⟩ := HX3.out.cells; clear hb3)
    | (go_at_call 23; refine (HRT.out _ HB3.out).mono ?_; clear HRT; rintro e w4 ⟨rfl, hb4⟩; have HB4 : Aside (Below w.heap.size w w4) := step HB3.out hb4; have HX4 : B8 w4 w1.heap.size y0 y1 y2 y3 y4 y5 y6 y7 := HX3.out.below hb4 HX3.out.lt; obtain ⟨r0, r1, r2, r3, r4, r5, r6, r7⟩ := HX4.cells; have hx4 : w1.heap.size < w4.heap.size := HX4.lt; have q0 : ∀ o, (w4.alloc o).cell? ⟨w1.heap.size, 0, none⟩ = some (.int .i64 y0) := (fun o => ((Below.refl _ w4).alloc (Nat.le_refl _) o).cell (p := ⟨w1.heap.size, 0, none⟩) hx4 |>.trans r0); have q1 : ∀ o, (w4.alloc o).cell? ⟨w1.heap.size, 1, none⟩ = some (.int .i64 y1) := (fun o => ((Below.refl _ w4).alloc (Nat.le_refl _) o).cell (p := ⟨w1.heap.size, 1, none⟩) hx4 |>.trans r1); have q2 : ∀ o, (w4.alloc o).cell? ⟨w1.heap.size, 2, none⟩ = some (.int .i64 y2) := (fun o => ((Below.refl _ w4).alloc (Nat.le_refl _) o).cell (p := ⟨w1.heap.size, 2, none⟩) hx4 |>.trans r2); have q3 : ∀ o, (w4.alloc o).cell? ⟨w1.heap.size, 3, none⟩ = some (.int .i64 y3) := (fun o => ((Below.refl _ w4).alloc (Nat.le_refl _) o).cell (p := ⟨w1.heap.size, 3, none⟩) hx4 |>.trans r3); have q4 : ∀ o, (w4.alloc o).cell? ⟨w1.heap.size, 4, none⟩ = some (.int .i64 y4) := (fun o => ((Below.refl _ w4).alloc (Nat.le_refl _) o).cell (p := ⟨w1.heap.size, 4, none⟩) hx4 |>.trans r4); have q5 : ∀ o, (w4.alloc o).cell? ⟨w1.heap.size, 5, none⟩ = some (.int .i64 y5) := (fun o => ((Below.refl _ w4).alloc (Nat.le_refl _) o).cell (p := ⟨w1.heap.size, 5, none⟩) hx4 |>.trans r5); have q6 : ∀ o, (w4.alloc o).cell? ⟨w1.heap.size, 6, none⟩ = some (.int .i64 y6) := (fun o => ((Below.refl _ w4).alloc (Nat.le_refl _) o).cell (p := ⟨w1.heap.size, 6, none⟩) hx4 |>.trans r6); have q7 : ∀ o, (w4.alloc o).cell? ⟨w1.heap.size, 7, none⟩ = some (.int .i64 y7) := (fun o => ((Below.refl _ w4).alloc (Nat.le_refl _) o).cell (p := ⟨w1.heap.size, 7, none⟩) hx4 |>.trans r7); clear hb4 p0 p1 p2 p3 p4 p5 p6 p7 r0 r1 r2 r3 r4 r5 r6 r7 HX4)
    | (go_at_call 24; refine (H4.out _ (HB4.out.alloc HB4.out.size _)).mono ?_; clear H4; rintro e w5 ⟨b5, rfl, hb5⟩; have HB5 : Aside (Below w.heap.size w w5) := step (HB4.out.alloc HB4.out.size _) hb5; have hb50 : (0 : Int) ≤ (b5 : Int) := (by omega); clear hb5)
    | (go_at_call 13; refine (HS.out _ (HB5.out.alloc HB5.out.size _)).mono ?_; rintro e w6 ⟨rfl, hb6⟩; have HB6 : Aside (Below w.heap.size w w6) := step (HB5.out.alloc HB5.out.size _) hb6))
  go_ret
  exact ⟨rfl, HB6.out⟩

set_option maxHeartbeats 8000000 in
theorem slaw_inN_G (v1 : Value) (n : Nat) (C : Nat → Int) (i : Int) (w : World) (hg : Gl w) (h1 : CodeArg w v1 n C) (hn : n ≤ 3000) (L : List Nat) (hL : Good C n L) (y0 y1 y2 y3 y4 y5 y6 y7 nx : Int) (hi0 : ¬ i < 0) (hi : ¬ (n : Int) ≤ i)
    (hat : Calls Tryz.prog 20 #[v1, .int .i64 i] w fun e w' => e = .returned (.tuple #[insV y0 y1 y2 y3 y4 y5 y6 y7, .int .i64 nx, .int .i64 6]) ∧ Below w.heap.size w w') (hrt : ∀ W, Below w.heap.size w W → Calls Tryz.prog 23 #[v1, .int .i64 i] W fun e w' => e = .returned (rdV y0 y1 y2 y3 y4 y5 y6 y7 nx false) ∧ Below W.heap.size W w') :
    Calls Tryz.prog 5 #[v1, .int .i64 i] w fun e w' => e = .returned (.bool true) ∧ Below w.heap.size w w' := by
  obtain ⟨a1, c1, e1, _⟩ := h1.form
  subst e1
  have hud : (undef : Value) = .tuple #[] := rfl
  have hn1 : ¬ (3000 : Int) < (n : Int) := by omega
  have hn3 : ¬ (60000 : Int) < (n : Int) := by omega
  have HAT := Lib.hid hat
  have HRT := Lib.hid hrt
  have HG : Aside (Gl w) := hg
  have HA1 : Aside (CodeArg w (.slice a1 n c1) n C) := h1
  have HS := Lib.hid fun W (hW : Below w.heap.size w W) => sane_any W (hg.below hW)
  have hlen := hL.len
  have H2 := Lib.hid fun W (hW : Below w.heap.size w W) => split_good (hg.below hW) (h1.below hW rfl) (by omega) hL
  have H3 := Lib.hid fun W (hW : Below w.heap.size w W) => targets_good (hg.below hW) (h1.below hW rfl) (by omega) hL
  have H4 := Lib.hid fun W (hW : Below w.heap.size w W) => rsplit_good (hg.below hW) (h1.below hW rfl) hn hL
  have HGOOD : Aside (Good C n L) := hL
  have HSL : Aside ((sc (tgs C L)).length ≤ 60000) := by show (sc (tgs C L)).length ≤ 60000; have a1 := Lib.compact_length_le ((tgs C L).mergeSort fun x y => decide (x ≤ y)); rw [List.length_mergeSort] at a1; have a2 := tgs_len C L; unfold sc; omega
  clear hat hg h1 hrt hL
  go_enter Tryz.func5, Tryz.ntmps5
  go_wp2_with (first
    | (go_at_call 20; refine HAT.out.mono ?_; clear HAT; rintro e w1 ⟨rfl, hb1⟩; have HB1 : Aside (Below w.heap.size w w1) := hb1; clear hb1)
    | (go_at_call 21; refine (H2.out _ (HB1.out.alloc HB1.out.size _)).mono ?_; clear H2; rintro e w2 ⟨vl, va, rfl, hl2, ha2, hb2⟩; have HB2 : Aside (Below w.heap.size w w2) := (HB1.out.alloc HB1.out.size _).trans (hb2.mono (by have := HB1.out.size; simp; omega)); have HX2 : Aside (w2.heap[w1.heap.size]? = some (.cells #[.int .i64 y0, .int .i64 y1, .int .i64 y2, .int .i64 y3, .int .i64 y4, .int .i64 y5, .int .i64 y6, .int .i64 y7] 38 (0, 0))) := (hb2.block _ (by simp)).trans (World.alloc_heap_new w1 _); obtain ⟨al, cl, rfl⟩ := own_form hl2; obtain ⟨aa, ca, rfl⟩ := own_form ha2; have HL2 : Aside (OwnI w2 w.heap.size (.slice al L.length cl) C L) := own_base hl2 (by have := HB1.out.size; simp; omega); have HN2 : Aside (OwnN w2 w.heap.size (.slice aa L.length ca) L) := own_base ha2 (by have := HB1.out.size; simp; omega); clear hl2 ha2; clear hb2)
    | (go_at_call 22; refine (H3.out _ HB2.out).mono ?_; clear H3; rintro e w3 ⟨vt, rfl, hz3, hb3⟩; have HB3 : Aside (Below w.heap.size w w3) := step HB2.out hb3; have HX3 : Aside (B8 w3 w1.heap.size y0 y1 y2 y3 y4 y5 y6 y7) := ⟨(hb3.block _ (Array.getElem?_eq_some_iff.1 HX2.out).1).trans HX2.out⟩; obtain ⟨p0, p1, p2, p3, p4, p5, p6, p7⟩ := HX3.out.cells; have HL3 : Aside (OwnI w3 w.heap.size (.slice al L.length cl) C L) := own_at HL2.out (fun k _ h => hb3.block k h); have HN3 : Aside (OwnN w3 w.heap.size (.slice aa L.length ca) L) := own_at HN2.out (fun k _ h => hb3.block k h); have HZ3 : Aside (OwnZ w3 w.heap.size vt (sc (tgs C L))) := own_base hz3 HB2.out.size; clear hz3 HL2 HN2; clear hb3)
    | (go_at_call 23; refine (HRT.out _ HB3.out).mono ?_; clear HRT; rintro e w4 ⟨rfl, hb4⟩; have HB4 : Aside (Below w.heap.size w w4) := step HB3.out hb4; have HX4 : B8 w4 w1.heap.size y0 y1 y2 y3 y4 y5 y6 y7 := HX3.out.below hb4 HX3.out.lt; obtain ⟨r0, r1, r2, r3, r4, r5, r6, r7⟩ := HX4.cells; have hx4 : w1.heap.size < w4.heap.size := HX4.lt; have q0 : ∀ o, (w4.alloc o).cell? ⟨w1.heap.size, 0, none⟩ = some (.int .i64 y0) := (fun o => ((Below.refl _ w4).alloc (Nat.le_refl _) o).cell (p := ⟨w1.heap.size, 0, none⟩) hx4 |>.trans r0); have q1 : ∀ o, (w4.alloc o).cell? ⟨w1.heap.size, 1, none⟩ = some (.int .i64 y1) := (fun o => ((Below.refl _ w4).alloc (Nat.le_refl _) o).cell (p := ⟨w1.heap.size, 1, none⟩) hx4 |>.trans r1); have q2 : ∀ o, (w4.alloc o).cell? ⟨w1.heap.size, 2, none⟩ = some (.int .i64 y2) := (fun o => ((Below.refl _ w4).alloc (Nat.le_refl _) o).cell (p := ⟨w1.heap.size, 2, none⟩) hx4 |>.trans r2); have q3 : ∀ o, (w4.alloc o).cell? ⟨w1.heap.size, 3, none⟩ = some (.int .i64 y3) := (fun o => ((Below.refl _ w4).alloc (Nat.le_refl _) o).cell (p := ⟨w1.heap.size, 3, none⟩) hx4 |>.trans r3); have q4 : ∀ o, (w4.alloc o).cell? ⟨w1.heap.size, 4, none⟩ = some (.int .i64 y4) := (fun o => ((Below.refl _ w4).alloc (Nat.le_refl _) o).cell (p := ⟨w1.heap.size, 4, none⟩) hx4 |>.trans r4); have q5 : ∀ o, (w4.alloc o).cell? ⟨w1.heap.size, 5, none⟩ = some (.int .i64 y5) := (fun o => ((Below.refl _ w4).alloc (Nat.le_refl _) o).cell (p := ⟨w1.heap.size, 5, none⟩) hx4 |>.trans r5); have q6 : ∀ o, (w4.alloc o).cell? ⟨w1.heap.size, 6, none⟩ = some (.int .i64 y6) := (fun o => ((Below.refl _ w4).alloc (Nat.le_refl _) o).cell (p := ⟨w1.heap.size, 6, none⟩) hx4 |>.trans r6); have q7 : ∀ o, (w4.alloc o).cell? ⟨w1.heap.size, 7, none⟩ = some (.int .i64 y7) := (fun o => ((Below.refl _ w4).alloc (Nat.le_refl _) o).cell (p := ⟨w1.heap.size, 7, none⟩) hx4 |>.trans r7); have HL4 : Aside (OwnI w4 w.heap.size (.slice al L.length cl) C L) := own_at HL3.out (fun k _ h => hb4.block k h); have HN4 : Aside (OwnN w4 w.heap.size (.slice aa L.length ca) L) := own_at HN3.out (fun k _ h => hb4.block k h); have HZ4 : Aside (OwnZ w4 w.heap.size vt (sc (tgs C L))) := own_at HZ3.out (fun k _ h => hb4.block k h); clear HL3 HN3 HZ3; clear hb4 p0 p1 p2 p3 p4 p5 p6 p7 r0 r1 r2 r3 r4 r5 r6 r7 HX4)
    | (go_at_call 24; refine (H4.out _ (HB4.out.alloc HB4.out.size _)).mono ?_; clear H4; rintro e w5 ⟨ul, ua, rfl, hl5, ha5, hb5⟩; obtain ⟨bl, dl, rfl⟩ := own_form hl5; obtain ⟨ba, da, rfl⟩ := own_form ha5; have HB5 : Aside (Below w.heap.size w w5) := step (HB4.out.alloc HB4.out.size _) hb5; have HL5 : Aside (OwnI w5 w.heap.size (.slice al L.length cl) C L) := own_at (HL4.out.alloc _) (fun k _ h => hb5.block k h); have HN5 : Aside (OwnN w5 w.heap.size (.slice aa L.length ca) L) := own_at (HN4.out.alloc _) (fun k _ h => hb5.block k h); have HZ5 : Aside (OwnZ w5 w.heap.size vt (sc (tgs C L))) := own_at (HZ4.out.alloc _) (fun k _ h => hb5.block k h); have HP5 : Aside (OwnI w5 w.heap.size (.slice bl L.length dl) C L) := own_base hl5 (HB4.out.alloc HB4.out.size _).size; have HQ5 : Aside (OwnN w5 w.heap.size (.slice ba L.length da) L) := own_base ha5 (HB4.out.alloc HB4.out.size _).size; clear hl5 ha5 hb5 HL4 HN4 HZ4)
    | (go_at_call 13; refine (HS.out _ (HB5.out.alloc HB5.out.size _)).mono ?_; rintro e w6 ⟨rfl, hb6⟩; have HL6 : Aside (OwnI w6 w.heap.size (.slice al L.length cl) C L) := own_at (HL5.out.alloc _) (fun k _ h => hb6.block k h); have HN6 : Aside (OwnN w6 w.heap.size (.slice aa L.length ca) L) := own_at (HN5.out.alloc _) (fun k _ h => hb6.block k h); have HZ6 : Aside (OwnZ w6 w.heap.size vt (sc (tgs C L))) := own_at (HZ5.out.alloc _) (fun k _ h => hb6.block k h); have HP6 : Aside (OwnI w6 w.heap.size (.slice bl L.length dl) C L) := own_at (HP5.out.alloc _) (fun k _ h => hb6.block k h); have HQ6 : Aside (OwnN w6 w.heap.size (.slice ba L.length da) L) := own_at (HQ5.out.alloc _) (fun k _ h => hb6.block k h); have HB6 : Aside (Below w.heap.size w w6) := step (HB5.out.alloc HB5.out.size _) hb6; have HC6 : Aside (w6.heap[w5.heap.size]? = some (.cells #[.slice bl L.length dl, .slice ba L.length da, .int .i64 (-1)] 59 (0, 0))) := (hb6.block _ (by simp)).trans (World.alloc_heap_new w5 _); obtain ⟨k0, k1, k2⟩ := three_cells HC6.out; have HE := Lib.hid (codes_eq HL6.out HP6.out (by omega)); clear hb6 HL5 HN5 HZ5 HP5 HQ5)
    | (go_at_call 25; refine HE.out.mono ?_; clear HE; rintro e w7 ⟨rfl, hb7⟩; clear k0 k1 k2; have HL7 : Aside (OwnI w7 w.heap.size (.slice al L.length cl) C L) := own_at (HL6.out) (fun k _ h => hb7.block k h); have HN7 : Aside (OwnN w7 w.heap.size (.slice aa L.length ca) L) := own_at (HN6.out) (fun k _ h => hb7.block k h); have HZ7 : Aside (OwnZ w7 w.heap.size vt (sc (tgs C L))) := own_at (HZ6.out) (fun k _ h => hb7.block k h); have HP7 : Aside (OwnI w7 w.heap.size (.slice bl L.length dl) C L) := own_at (HP6.out) (fun k _ h => hb7.block k h); have HQ7 : Aside (OwnN w7 w.heap.size (.slice ba L.length da) L) := own_at (HQ6.out) (fun k _ h => hb7.block k h); have HB7 : Aside (Below w.heap.size w w7) := step HB6.out hb7; have HC7 : Aside (w7.heap[w5.heap.size]? = some (.cells #[.slice bl L.length dl, .slice ba L.length da, .int .i64 (-1)] 59 (0, 0))) := (hb7.block _ (Array.getElem?_eq_some_iff.1 HC6.out).1).trans HC6.out; obtain ⟨k0, k1, k2⟩ := three_cells HC7.out; have HI1 := Lib.hid (ints_eq (ownN_iff.1 HN7.out) (ownN_iff.1 HQ7.out) (by rw [toZ_len]; omega)); clear hb7 HL6 HN6 HZ6 HP6 HQ6)
    | (go_at_call 26; refine HI1.out.mono ?_; clear HI1; rintro e w8 ⟨rfl, hb8⟩; clear k0 k1 k2; have HL8 : Aside (OwnI w8 w.heap.size (.slice al L.length cl) C L) := own_at (HL7.out) (fun k _ h => hb8.block k h); have HN8 : Aside (OwnN w8 w.heap.size (.slice aa L.length ca) L) := own_at (HN7.out) (fun k _ h => hb8.block k h); have HZ8 : Aside (OwnZ w8 w.heap.size vt (sc (tgs C L))) := own_at (HZ7.out) (fun k _ h => hb8.block k h); have HP8 : Aside (OwnI w8 w.heap.size (.slice bl L.length dl) C L) := own_at (HP7.out) (fun k _ h => hb8.block k h); have HQ8 : Aside (OwnN w8 w.heap.size (.slice ba L.length da) L) := own_at (HQ7.out) (fun k _ h => hb8.block k h); have HB8 : Aside (Below w.heap.size w w8) := step HB7.out hb8; have HC8 : Aside (w8.heap[w5.heap.size]? = some (.cells #[.slice bl L.length dl, .slice ba L.length da, .int .i64 (-1)] 59 (0, 0))) := (hb8.block _ (Array.getElem?_eq_some_iff.1 HC7.out).1).trans HC7.out; obtain ⟨k0, k1, k2⟩ := three_cells HC8.out; have HTG := Lib.hid (rtargets (HG.out.below HB8.out) HP8.out HQ8.out hn HGOOD.out); clear hb8 HL7 HN7 HZ7 HP7 HQ7)
    | (go_at_call 27; refine HTG.out.mono ?_; clear HTG; rintro e w9 ⟨vz, rfl, hz9, hb9⟩; have HB9 : Aside (Below w.heap.size w w9) := step HB8.out hb9; have HI2 := Lib.hid (ints_eq (own_at HZ8.out (fun k _ h => hb9.block k h)) hz9 HSL.out); clear hz9 hb9)
    | (go_at_call 26; refine HI2.out.mono ?_; clear HI2; rintro e w10 ⟨rfl, hb10⟩; have HB6x : Aside (Below w.heap.size w w10) := step HB9.out hb10))
  go_ret
  exact ⟨rfl, HB6x.out⟩
end Go.Proofs.YtblklgcpobbfcaaGreatDoor
