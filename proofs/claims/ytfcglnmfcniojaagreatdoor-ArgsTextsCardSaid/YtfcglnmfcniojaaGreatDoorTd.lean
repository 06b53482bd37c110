/- The law ArgsTexts returns true for every list of types and every text. Conditions: none. -/
import Derived.Test.YtfcglnmfcniojaaGreatDoorTc
import Derived.Test.YtfcglnmfcniojaaGreatDoorAh
import Derived.Test.YtfcglnmfcniojaaGreatDoorTa
set_option linter.all false
namespace Go.Proofs.YtfcglnmfcniojaaGreatDoor
open Go.Eng Go.RowKit
set_option maxRecDepth 1000000

theorem parse64 (l : List UInt8) : (parseT l).length ≤ 64 := by
  unfold parseT
  split
  · simp
  · split
    · rename_i h1 h2
      unfold parseE at h2
      rw [if_neg h1] at h2
      split at h2
      · cases h2
      · exact Nat.le_trans (List.length_filterMap_le _ _) (by omega)
    · simp

set_option maxHeartbeats 4000000 in
theorem texts_long (a : Option Addr) (n c : Nat) (s : ByteArray) (w : World) (hg : Gl w) (hn : 200 < n) : Calls Tryz.prog 5 #[.slice a n c, .string s] w fun e w' => e = .returned (.bool true) ∧ Below w.heap.size w w' := by
  have HG := Lib.hid hg
  have HS := Lib.hid fun w hg => sane_any w hg
  have hn1 : (200 : Int) < (n : Int) := by omega
  have hn2 : decide ((200 : Int) < (n : Int)) = true := by simpa using hn1
  clear hg
  go_enter Tryz.func5, Tryz.ntmps5
  go_wp2_with (go_at_call 7; refine (HS.out _ HG.out).mono ?_; rintro e w1 ⟨rfl, hB1⟩)
  go_ret
  exact ⟨rfl, hB1⟩
set_option maxHeartbeats 4000000 in
theorem texts_wide (a : Option Addr) (n c : Nat) (s : ByteArray) (w : World) (hg : Gl w) (hn : ¬ 200 < n) (hs : 600 < s.size) : Calls Tryz.prog 5 #[.slice a n c, .string s] w fun e w' => e = .returned (.bool true) ∧ Below w.heap.size w w' := by
  have HG := Lib.hid hg
  have HS := Lib.hid fun w hg => sane_any w hg
  have hn1 : ¬ (200 : Int) < (n : Int) := by omega
  have hn2 : decide ((200 : Int) < (n : Int)) = false := by simpa using hn1
  have hs1 : (600 : Int) < (s.size : Int) := by omega
  have hs2 : decide ((600 : Int) < (s.size : Int)) = true := by simpa using hs1
  clear hg
  go_enter Tryz.func5, Tryz.ntmps5
  go_wp2_with (go_at_call 7; refine (HS.out _ HG.out).mono ?_; rintro e w1 ⟨rfl, hB1⟩)
  go_ret
  exact ⟨rfl, hB1⟩

/-- The box of what the reference's Parse returned. -/
abbrev xb (w : World) (v : Value) (E : Int) : World := w.alloc (.cells #[v, .int .i64 E] 45)
theorem xb_below (w : World) (v : Value) (E : Int) : Below w.heap.size w (xb w v E) := (Below.refl _ _).alloc (Nat.le_refl _) _
theorem xb_cells {w w2 : World} {v : Value} {E : Int} (h : Below (xb w v E).heap.size (xb w v E) w2) : w2.cell? ⟨w.heap.size, 0, none⟩ = some v ∧ w2.cell? ⟨w.heap.size, 1, none⟩ = some (.int .i64 E) := by
  have hs : w.heap.size < (xb w v E).heap.size := by show _ < (w.heap.push _).size; rw [Array.size_push]; omega
  have hr : w2.heap[w.heap.size]? = some (.cells #[v, .int .i64 E] 45 (0, 0)) := by
    rw [h.block _ hs]
    show (w.heap.push _)[w.heap.size]? = _
    rw [Array.getElem?_push, if_pos rfl]
  refine ⟨?_, ?_⟩
  all_goals (simp only [World.cell?, hr]; rfl)

set_option maxHeartbeats 8000000 in
theorem texts_main (vt : Value) (ts : List Ty) (s : ByteArray) (w : World) (hg : Gl w) (ht : TysOf w vt ts) (hn : ¬ 200 < ts.length) (hs : s.size ≤ 600) : Calls Tryz.prog 5 #[vt, .string s] w fun e w' => e = .returned (.bool true) ∧ Below w.heap.size w w' := by
  have HG := Lib.hid hg
  have HS := Lib.hid fun w hg => sane_any w hg
  have HTY := Lib.hid ht
  obtain ⟨S, hS⟩ : ∃ S, S = textS ts := ⟨_, rfl⟩
  obtain ⟨E1, hE1⟩ : ∃ E, E = textE ts := ⟨_, rfl⟩
  obtain ⟨T, hT⟩ : ∃ T, T = parseT s.data.toList := ⟨_, rfl⟩
  obtain ⟨E2, hE2⟩ : ∃ E, E = parseE s.data.toList := ⟨_, rfl⟩
  have H64 : Aside (T.length ≤ 64) := by rw [hT]; exact parse64 _
  have HT1 : Hid (∀ W, Gl W → TysOf W vt ts → Calls Tryz.prog 15 #[vt] W fun e w' => e = .returned (.tuple #[.string ⟨⟨S⟩⟩, .int .i64 E1]) ∧ Below W.heap.size W w') := Lib.hid fun W hg ht => by rw [hS, hE1]; exact text_val vt ts W hg ht
  have HT2 : Hid (∀ W, Gl W → TysOf W vt ts → Calls Tryz.prog 16 #[vt] W fun e w' => e = .returned (.tuple #[.string ⟨⟨S⟩⟩, .int .i64 E1]) ∧ Below W.heap.size W w') := Lib.hid fun W hg ht => by rw [hS, hE1]; exact rtext_val vt ts W hg ht
  have HP1 : Hid (∀ W, Gl W → Calls Tryz.prog 17 #[.string s] W fun e w' => ∃ v, e = .returned (.tuple #[v, .int .i64 E2]) ∧ TysOf w' v T ∧ Below W.heap.size W w') := Lib.hid fun W hg => by rw [hT, hE2]; exact parse_val s (by omega) W hg
  have HP2 : Hid (∀ W, Gl W → Calls Tryz.prog 18 #[.string s] W fun e w' => ∃ v, e = .returned (.agg #[v, .int .i64 E2]) ∧ TysOf w' v T ∧ Below W.heap.size W w') := Lib.hid fun W hg => by rw [hT, hE2]; exact rparse_val s hs W hg
  obtain ⟨a0, c0, rfl, hl⟩ := ht
  have hn1 : ¬ (200 : Int) < (ts.length : Int) := by omega
  have hn2 : decide ((200 : Int) < (ts.length : Int)) = false := by simpa using hn1
  have hs1 : ¬ (600 : Int) < (s.size : Int) := by omega
  have hs2 : decide ((600 : Int) < (s.size : Int)) = false := by simpa using hs1
  clear hS hE1 hT hE2 hg hl
  go_enter Tryz.func5, Tryz.ntmps5
  go_wp2_with (first
    | (go_at_call 15; refine (HT1.out _ HG.out HTY.out).mono ?_; rintro e w1 ⟨rfl, hB1⟩; clear HT1)
    | (go_at_call 16; refine (HT2.out _ (HG.out.since hB1) (HTY.out.since hB1 (Nat.le_refl _))).mono ?_; rintro e w2 ⟨rfl, hB2⟩; have HB2 := step hB1 hB2; clear HT2)
    | (go_at_call 17; refine (HP1.out _ (HG.out.since HB2)).mono ?_; rintro e w3 ⟨vc, rfl, hvc, hB3⟩; have HB3 := step HB2 hB3; have HVC := Lib.hid hvc; clear HP1)
    | (go_at_call 18; refine (HP2.out _ (HG.out.since HB3)).mono ?_; rintro e w4 ⟨vx, rfl, hvx, hB4⟩; have HB4 := step HB3 hB4; have HVX := Lib.hid hvx; obtain ⟨ax, cx, hvx', hlx⟩ := hvx; subst hvx'; clear HP2 hlx)
    | (go_at_call 7; refine (HS.out _ (HG.out.since (step HB4 (xb_below w4 (.slice ax T.length cx) E2)))).mono ?_; rintro e w5 ⟨rfl, hB5⟩; obtain ⟨d0, d1⟩ := xb_cells hB5; have HB5 := step (step HB4 (xb_below w4 (.slice ax T.length cx) E2)) hB5; have h45 := step (xb_below w4 (.slice ax T.length cx) E2) hB5; clear HS)
    | (go_at_call 11; refine (same_yes vc (.slice ax T.length cx) T H64.out _ ((HVC.out.since hB4 (Nat.le_refl _)).since h45 (Nat.le_refl _)) (HVX.out.since h45 (Nat.le_refl _))).mono ?_; rintro e w6 ⟨rfl, hB6⟩; have HB6 := step HB5 hB6; have d1' := (hB6.cell (p := ⟨w4.heap.size, 1, none⟩) (World.block_lt_of_cell? _ _ d1)).trans d1; clear H64))
  go_ret
  exact ⟨rfl, HB6⟩

theorem texts_any (vt : Value) (ts : List Ty) (s : ByteArray) (w : World) (hg : Gl w) (ht : TysOf w vt ts) : Calls Tryz.prog 5 #[vt, .string s] w fun e w' => e = .returned (.bool true) ∧ Below w.heap.size w w' := by
  by_cases hn : 200 < ts.length
  · obtain ⟨a, c, rfl, _⟩ := ht
    exact texts_long a _ c s w hg hn
  · by_cases hs : 600 < s.size
    · obtain ⟨a, c, rfl, _⟩ := ht
      exact texts_wide a _ c s w hg hn hs
    · exact texts_main vt ts s w hg ht hn (by omega)
end Go.Proofs.YtfcglnmfcniojaaGreatDoor
