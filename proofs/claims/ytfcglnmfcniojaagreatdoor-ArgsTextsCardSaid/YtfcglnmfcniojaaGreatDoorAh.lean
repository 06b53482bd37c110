/- The law ArgsBack returns true for every list of types and every text of less than 4294967281 bytes. Conditions: none. -/
import Derived.Test.YtfcglnmfcniojaaGreatDoorAg
set_option linter.all false
namespace Go.Proofs.YtfcglnmfcniojaaGreatDoor
open Go.Eng Go.RowKit
set_option maxRecDepth 1000000

theorem text64 {ts : List Ty} (h : textE ts = 0) : ts.length ≤ 64 ∧ ts.all vT = true := by
  unfold textE at h
  split at h
  · cases h
  · split at h
    · exact ⟨by omega, by assumption⟩
    · cases h
theorem textS_small {ts : List Ty} (h : textE ts = 0) : (⟨⟨textS ts⟩⟩ : ByteArray).size < 4294967281 := by
  obtain ⟨h1, h2⟩ := text64 h
  have h3 := jn_len ts h2
  have e : textS ts = jn (ts.map tx) := by rw [textS, if_pos h]
  rw [e]
  show (jn (ts.map tx)).length < _
  omega

set_option maxHeartbeats 4000000 in
theorem back_tt (vt : Value) (ts : List Ty) (s : ByteArray) (hs : s.size < 4294967281) (w : World) (hg : Gl w) (ht : TysOf w vt ts) (h1 : textE ts = 0) (h2 : parseE s.data.toList = 0) :
    Calls Tryz.prog 6 #[vt, .string s] w fun e w' => e = .returned (.bool true) ∧ Below w.heap.size w w' := by
  have HG := Lib.hid hg
  have HTY := Lib.hid ht
  have HS := Lib.hid fun w hg => sane_any w hg
  have H64 := Lib.hid (text64 h1).1
  have HT1 : Hid (∀ W, Gl W → TysOf W vt ts → Calls Tryz.prog 15 #[vt] W fun e w' => e = .returned (.tuple #[.string ⟨⟨textS ts⟩⟩, .int .i64 0]) ∧ Below W.heap.size W w') := Lib.hid fun W hg ht => by
    have := text_val vt ts W hg ht
    rw [h1] at this
    exact this
  have HP1 : Hid (∀ W, Gl W → Calls Tryz.prog 17 #[.string ⟨⟨textS ts⟩⟩] W fun e w' => ∃ v, e = .returned (.tuple #[v, .int .i64 0]) ∧ TysOf w' v ts ∧ Below W.heap.size W w') := Lib.hid fun W hg => by
    have := parse_val ⟨⟨textS ts⟩⟩ (textS_small h1) W hg
    obtain ⟨e1, e2⟩ := back_text ts h1
    simp only [e1, e2] at this
    exact this
  have HP2 : Hid (∀ W, Gl W → Calls Tryz.prog 17 #[.string s] W fun e w' => ∃ v, e = .returned (.tuple #[v, .int .i64 0]) ∧ TysOf w' v (parseT s.data.toList) ∧ Below W.heap.size W w') := Lib.hid fun W hg => by
    have := parse_val s hs W hg
    rw [h2] at this
    exact this
  have HT2 : Hid (∀ W v, Gl W → TysOf W v (parseT s.data.toList) → Calls Tryz.prog 15 #[v] W fun e w' => e = .returned (.tuple #[.string s, .int .i64 0]) ∧ Below W.heap.size W w') := Lib.hid fun W v hg ht => by
    have := text_val v _ W hg ht
    obtain ⟨e1, e2⟩ := back_parse s.data.toList h2
    rw [e1, e2] at this
    exact this
  generalize hS : textS ts = S at HT1 HP1
  clear hS hg ht h1 h2
  go_enter Tryz.func6, Tryz.ntmps6
  go_wp2_with (first
    | (go_at_call 7; refine (HS.out _ HG.out).mono ?_; rintro e w1 ⟨rfl, hB1⟩; clear HS)
    | (go_at_call 15; refine (HT1.out _ (HG.out.since hB1) (HTY.out.since hB1 (Nat.le_refl _))).mono ?_; rintro e w2 ⟨rfl, hB2⟩; have HB2 := step hB1 hB2; clear HT1)
    | (go_at_call 17; refine (HP1.out _ (HG.out.since HB2)).mono ?_; rintro e w3 ⟨vb, rfl, hvb, hB3⟩; have HB3 := step HB2 hB3; clear HP1)
    | (go_at_call 11; refine (same_yes vb vt ts H64.out _ hvb (HTY.out.since HB3 (Nat.le_refl _))).mono ?_; rintro e w4 ⟨rfl, hB4⟩; have HB4 := step HB3 hB4; clear H64)
    | (go_at_call 17; refine (HP2.out _ (HG.out.since HB4)).mono ?_; rintro e w5 ⟨vc, rfl, hvc, hB5⟩; have HB5 := step HB4 hB5; clear HP2)
    | (go_at_call 15; refine (HT2.out _ vc (HG.out.since HB5) hvc).mono ?_; rintro e w6 ⟨rfl, hB6⟩; have HB6 := step HB5 hB6; clear HT2))
  go_ret
  exact ⟨rfl, HB6⟩
end Go.Proofs.YtfcglnmfcniojaaGreatDoor

namespace Go.Proofs.YtfcglnmfcniojaaGreatDoor
open Go.Eng Go.RowKit
set_option maxRecDepth 1000000

set_option maxHeartbeats 4000000 in
theorem back_tf (vt : Value) (ts : List Ty) (s : ByteArray) (hs : s.size < 4294967281) (w : World) (hg : Gl w) (ht : TysOf w vt ts) (h1 : textE ts = 0) (e2 : Int) (he2 : parseE s.data.toList = e2) (h2 : e2 ≠ 0) :
    Calls Tryz.prog 6 #[vt, .string s] w fun e w' => e = .returned (.bool true) ∧ Below w.heap.size w w' := by
  have HG := Lib.hid hg
  have HTY := Lib.hid ht
  have HS := Lib.hid fun w hg => sane_any w hg
  have H64 := Lib.hid (text64 h1).1
  have HT1 : Hid (∀ W, Gl W → TysOf W vt ts → Calls Tryz.prog 15 #[vt] W fun e w' => e = .returned (.tuple #[.string ⟨⟨textS ts⟩⟩, .int .i64 0]) ∧ Below W.heap.size W w') := Lib.hid fun W hg ht => by
    have := text_val vt ts W hg ht
    rw [h1] at this
    exact this
  have HP1 : Hid (∀ W, Gl W → Calls Tryz.prog 17 #[.string ⟨⟨textS ts⟩⟩] W fun e w' => ∃ v, e = .returned (.tuple #[v, .int .i64 0]) ∧ TysOf w' v ts ∧ Below W.heap.size W w') := Lib.hid fun W hg => by
    have := parse_val ⟨⟨textS ts⟩⟩ (textS_small h1) W hg
    obtain ⟨e1, e2⟩ := back_text ts h1
    simp only [e1, e2] at this
    exact this
  have HP2 : Hid (∀ W, Gl W → Calls Tryz.prog 17 #[.string s] W fun e w' => ∃ a c, e = .returned (.tuple #[.slice a 0 c, .int .i64 e2]) ∧ Below W.heap.size W w') := Lib.hid fun W hg => by
    refine (parse_val s hs W hg).mono ?_
    rintro e w' ⟨v, rfl, ⟨a, c, rfl, _⟩, hb⟩
    rw [parseT_no (by rw [he2]; exact h2), he2]
    exact ⟨a, c, rfl, hb⟩
  have hx1 : ¬ e2 = 0 := h2
  have hx2 : (e2 == 0) = false := by simpa using h2
  have hx3 : (e2 != 0) = true := by simpa using h2
  generalize hS : textS ts = S at HT1 HP1
  clear hS hg ht h1 h2 he2
  go_enter Tryz.func6, Tryz.ntmps6
  go_wp2_with (first
    | (go_at_call 7; refine (HS.out _ HG.out).mono ?_; rintro e w1 ⟨rfl, hB1⟩; clear HS)
    | (go_at_call 15; refine (HT1.out _ (HG.out.since hB1) (HTY.out.since hB1 (Nat.le_refl _))).mono ?_; rintro e w2 ⟨rfl, hB2⟩; have HB2 := step hB1 hB2; clear HT1)
    | (go_at_call 17; refine (HP1.out _ (HG.out.since HB2)).mono ?_; rintro e w3 ⟨vb, rfl, hvb, hB3⟩; have HB3 := step HB2 hB3; clear HP1)
    | (go_at_call 11; refine (same_yes vb vt ts H64.out _ hvb (HTY.out.since HB3 (Nat.le_refl _))).mono ?_; rintro e w4 ⟨rfl, hB4⟩; have HB4 := step HB3 hB4; clear H64)
    | (go_at_call 17; refine (HP2.out _ (HG.out.since HB4)).mono ?_; rintro e w5 ⟨a, c, rfl, hB5⟩; have HB5 := step HB4 hB5; clear HP2))
  go_ret
  exact ⟨rfl, HB5⟩

set_option maxHeartbeats 4000000 in
theorem back_ft (vt : Value) (ts : List Ty) (s : ByteArray) (hs : s.size < 4294967281) (w : World) (hg : Gl w) (ht : TysOf w vt ts) (e1 : Int) (he1 : textE ts = e1) (h1 : e1 ≠ 0) (h2 : parseE s.data.toList = 0) :
    Calls Tryz.prog 6 #[vt, .string s] w fun e w' => e = .returned (.bool true) ∧ Below w.heap.size w w' := by
  have HG := Lib.hid hg
  have HTY := Lib.hid ht
  have HS := Lib.hid fun w hg => sane_any w hg
  have HT1 : Hid (∀ W, Gl W → TysOf W vt ts → Calls Tryz.prog 15 #[vt] W fun e w' => e = .returned (.tuple #[.string ⟨⟨textS ts⟩⟩, .int .i64 e1]) ∧ Below W.heap.size W w') := Lib.hid fun W hg ht => by
    have := text_val vt ts W hg ht
    rw [he1] at this
    exact this
  have hy1 : ¬ e1 = 0 := h1
  have hy2 : (e1 == 0) = false := by simpa using h1
  have HP2 : Hid (∀ W, Gl W → Calls Tryz.prog 17 #[.string s] W fun e w' => ∃ v, e = .returned (.tuple #[v, .int .i64 0]) ∧ TysOf w' v (parseT s.data.toList) ∧ Below W.heap.size W w') := Lib.hid fun W hg => by
    have := parse_val s hs W hg
    rw [h2] at this
    exact this
  have HT2 : Hid (∀ W v, Gl W → TysOf W v (parseT s.data.toList) → Calls Tryz.prog 15 #[v] W fun e w' => e = .returned (.tuple #[.string s, .int .i64 0]) ∧ Below W.heap.size W w') := Lib.hid fun W v hg ht => by
    have := text_val v _ W hg ht
    obtain ⟨e1, e2⟩ := back_parse s.data.toList h2
    rw [e1, e2] at this
    exact this
  generalize hS : textS ts = S at HT1
  clear hS hg ht h1 h2 he1
  go_enter Tryz.func6, Tryz.ntmps6
  go_wp2_with (first
    | (go_at_call 7; refine (HS.out _ HG.out).mono ?_; rintro e w1 ⟨rfl, hB1⟩; clear HS)
    | (go_at_call 15; refine (HT1.out _ (HG.out.since hB1) (HTY.out.since hB1 (Nat.le_refl _))).mono ?_; rintro e w2 ⟨rfl, hB2⟩; have HB2 := step hB1 hB2; clear HT1)
    | (go_at_call 17; refine (HP2.out _ (HG.out.since HB2)).mono ?_; rintro e w5 ⟨vc, rfl, hvc, hB5⟩; have HB5 := step HB2 hB5; clear HP2)
    | (go_at_call 15; refine (HT2.out _ vc (HG.out.since HB5) hvc).mono ?_; rintro e w6 ⟨rfl, hB6⟩; have HB6 := step HB5 hB6; clear HT2))
  go_ret
  exact ⟨rfl, HB6⟩

set_option maxHeartbeats 4000000 in
theorem back_ff (vt : Value) (ts : List Ty) (s : ByteArray) (hs : s.size < 4294967281) (w : World) (hg : Gl w) (ht : TysOf w vt ts) (e1 : Int) (he1 : textE ts = e1) (h1 : e1 ≠ 0) (e2 : Int) (he2 : parseE s.data.toList = e2) (h2 : e2 ≠ 0) :
    Calls Tryz.prog 6 #[vt, .string s] w fun e w' => e = .returned (.bool true) ∧ Below w.heap.size w w' := by
  have HG := Lib.hid hg
  have HTY := Lib.hid ht
  have HS := Lib.hid fun w hg => sane_any w hg
  have HT1 : Hid (∀ W, Gl W → TysOf W vt ts → Calls Tryz.prog 15 #[vt] W fun e w' => e = .returned (.tuple #[.string ⟨⟨textS ts⟩⟩, .int .i64 e1]) ∧ Below W.heap.size W w') := Lib.hid fun W hg ht => by
    have := text_val vt ts W hg ht
    rw [he1] at this
    exact this
  have hy1 : ¬ e1 = 0 := h1
  have hy2 : (e1 == 0) = false := by simpa using h1
  have HP2 : Hid (∀ W, Gl W → Calls Tryz.prog 17 #[.string s] W fun e w' => ∃ a c, e = .returned (.tuple #[.slice a 0 c, .int .i64 e2]) ∧ Below W.heap.size W w') := Lib.hid fun W hg => by
    refine (parse_val s hs W hg).mono ?_
    rintro e w' ⟨v, rfl, ⟨a, c, rfl, _⟩, hb⟩
    rw [parseT_no (by rw [he2]; exact h2), he2]
    exact ⟨a, c, rfl, hb⟩
  have hx1 : ¬ e2 = 0 := h2
  have hx2 : (e2 == 0) = false := by simpa using h2
  have hx3 : (e2 != 0) = true := by simpa using h2
  generalize hS : textS ts = S at HT1
  clear hS hg ht h1 h2 he1 he2
  go_enter Tryz.func6, Tryz.ntmps6
  go_wp2_with (first
    | (go_at_call 7; refine (HS.out _ HG.out).mono ?_; rintro e w1 ⟨rfl, hB1⟩; clear HS)
    | (go_at_call 15; refine (HT1.out _ (HG.out.since hB1) (HTY.out.since hB1 (Nat.le_refl _))).mono ?_; rintro e w2 ⟨rfl, hB2⟩; have HB2 := step hB1 hB2; clear HT1)
    | (go_at_call 17; refine (HP2.out _ (HG.out.since HB2)).mono ?_; rintro e w5 ⟨a, c, rfl, hB5⟩; have HB5 := step HB2 hB5; clear HP2))
  go_ret
  exact ⟨rfl, HB5⟩

/-- The law: it returns true. -/
theorem back_any (vt : Value) (ts : List Ty) (s : ByteArray) (hs : s.size < 4294967281) (w : World) (hg : Gl w) (ht : TysOf w vt ts) :
    Calls Tryz.prog 6 #[vt, .string s] w fun e w' => e = .returned (.bool true) ∧ Below w.heap.size w w' := by
  by_cases h1 : textE ts = 0
  · by_cases h2 : parseE s.data.toList = 0
    · exact back_tt vt ts s hs w hg ht h1 h2
    · exact back_tf vt ts s hs w hg ht h1 _ rfl h2
  · by_cases h2 : parseE s.data.toList = 0
    · exact back_ft vt ts s hs w hg ht _ rfl h1 h2
    · exact back_ff vt ts s hs w hg ht _ rfl h1 _ rfl h2
end Go.Proofs.YtfcglnmfcniojaaGreatDoor
