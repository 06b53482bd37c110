/- The law StrtodSplits returns true at every point and text; a world in which the listed variables are laid. Conditions: none. -/
import Derived.Test.YtilnhkflgfajcaaGreatDoorKk
import Derived.Test.YtilnhkflgfajcaaGreatDoorCards
import Derived.Test.YtilnhkflgfajcaaGreatDoorTie
import Derived.ProofKit
import Derived.LaidMore
import Derived.OpenShut
import Derived.Stop.Joined
import Derived.ChangeOld
import Derived.Below
import Derived.Lib.SmallJoins
import Derived.SevenTiedAt
import Derived.Deep.Slices
import Derived.Deep.DeepHandedRow
import Derived.Lib.LaidTab
import Derived.Shelf.Vars
import Derived.Lay
set_option linter.all false
namespace Go.Proofs.YtilnhkflgfajcaaGreatDoor
open Go.Eng Go.RowKit
set_option maxRecDepth 1000000

/-- A number's box as Split's result fills it. -/
abbrev nbR (r : Bool × Int × List UInt8 × Int × List UInt8 × Nat) : Obj := nbox (.int .i64 r.2.1) (.bool r.1) (.string ⟨⟨r.2.2.1⟩⟩) (.int .i64 r.2.2.2.1) (.string ⟨⟨r.2.2.2.2.1⟩⟩) (.int .i64 r.2.2.2.2.2)
theorem gl_alloc {w w2 : World} (h : Gl w) (h2 : Below w.heap.size w w2) (o : Obj) : Gl (w2.alloc o) := (h.since h2).below ((Below.refl _ _).alloc (Nat.le_refl _) o) (h.since h2).size
theorem law_below {w w2 w5 : World} {o : Obj} (h2 : Below w.heap.size w w2) (h5 : Below (w2.alloc o).heap.size (w2.alloc o) w5) : Below w.heap.size w w5 :=
  (h2.alloc h2.size o).trans (h5.mono (by have := h2.size; simp [World.size_alloc]; omega))

theorem gl_alloc2 {w w2 w4 : World} {o : Obj} (h : Gl w) (h2 : Below w.heap.size w w2) (h4 : Below (w2.alloc o).heap.size (w2.alloc o) w4) (o2 : Obj) : Gl (w4.alloc o2) := gl_alloc (gl_alloc h h2 o) h4 o2
theorem law_below2 {w w2 w4 w5 : World} {o o2 : Obj} (h2 : Below w.heap.size w w2) (h4 : Below (w2.alloc o).heap.size (w2.alloc o) w4) (h5 : Below (w4.alloc o2).heap.size (w4.alloc o2) w5) : Below w.heap.size w w5 := law_below (law_below h2 h4) h5
set_option maxHeartbeats 4000000 in
theorem law_mid (p s : ByteArray) (w : World) (hg : Gl w) (h1 : 3000 < s.size) (h2 : s.size ≤ 20000) : Calls Tryz.prog 3 #[.string p, .string s] w fun e w' => e = .returned (.bool true) ∧ Below w.heap.size w w' := by
  have HG := Lib.hid hg
  have hs1 : (3000 : Int) < (s.size : Int) := by omega
  have hs2 : (s.size : Int) ≤ 20000 := by omega
  clear hg
  go_enter Tryz.func3, Tryz.ntmps3
  go_wp2_with (go_at_call 5; refine (sane_any _ HG.out).mono ?_; rintro e w1 ⟨rfl, hB1⟩)
  go_ret
  exact ⟨rfl, hB1⟩

set_option maxHeartbeats 4000000 in
theorem law_point_s (p s : ByteArray) (hp : p.size ≤ 9223372036854775807) (hs : s.size ≤ 9223372036854775807) (w : World) (hg : Gl w) (h1 : s.size ≤ 3000) (hip : isP p.data.toList = false) : Calls Tryz.prog 3 #[.string p, .string s] w fun e w' => e = .returned (.bool true) ∧ Below w.heap.size w w' := by
  have HG := Lib.hid hg
  have HIP := Lib.hid fun W => rpoint_any p hp W
  rw [hip] at HIP
  have HSP := Lib.hid fun W => show Calls Tryz.prog 6 #[.string p, .string s] W (fun e w' => e = .returned (.tuple #[zeroV, .int .i64 1]) ∧ Below W.heap.size W w') from (Split_any p s hp hs W).mono fun e w' h => by
    unfold XPost spE at h
    rw [hip] at h
    exact h
  have hs3 : (s.size : Int) ≤ 3000 := by omega
  clear h1 hip
  clear hg
  go_enter Tryz.func3, Tryz.ntmps3
  go_wp2_with (first
    | (go_at_call 6; (with_reducible refine (HSP.out _).mono ?_); rintro e w2 ⟨rfl, hb2⟩)
    | (go_at_call 7; (with_reducible refine (HIP.out _).mono ?_); rintro e w3 ⟨rfl, rfl⟩)
    | (go_at_call 5; refine (sane_any _ (gl_alloc HG.out hb2 (nb0))).mono ?_; rintro e w5 ⟨rfl, hb5⟩; have hx := below_at hb5 (new_at w2 (nb0) rfl); have hle := law_below hb2 hb5; obtain ⟨⟨q0, q1, q2, q3, q4, q5⟩, _⟩ := box_cells hx))
  all_goals (go_ret; exact ⟨rfl, hle⟩)

set_option maxHeartbeats 4000000 in
theorem law_point_l (p s : ByteArray) (hp : p.size ≤ 9223372036854775807) (hs : s.size ≤ 9223372036854775807) (w : World) (hg : Gl w) (h1 : 20000 < s.size) (hip : isP p.data.toList = false) : Calls Tryz.prog 3 #[.string p, .string s] w fun e w' => e = .returned (.bool true) ∧ Below w.heap.size w w' := by
  have HG := Lib.hid hg
  have HIP := Lib.hid fun W => rpoint_any p hp W
  rw [hip] at HIP
  have HSP := Lib.hid fun W => show Calls Tryz.prog 6 #[.string p, .string s] W (fun e w' => e = .returned (.tuple #[zeroV, .int .i64 1]) ∧ Below W.heap.size W w') from (Split_any p s hp hs W).mono fun e w' h => by
    unfold XPost spE at h
    rw [hip] at h
    exact h
  have hs3 : (3000 : Int) < (s.size : Int) := by omega
  have hs4 : ¬ (s.size : Int) ≤ 20000 := by omega
  clear h1 hip
  clear hg
  go_enter Tryz.func3, Tryz.ntmps3
  go_wp2_with (first
    | (go_at_call 6; (with_reducible refine (HSP.out _).mono ?_); rintro e w2 ⟨rfl, hb2⟩)
    | (go_at_call 7; (with_reducible refine (HIP.out _).mono ?_); rintro e w3 ⟨rfl, rfl⟩)
    | (go_at_call 5; refine (sane_any _ (gl_alloc HG.out hb2 (nb0))).mono ?_; rintro e w5 ⟨rfl, hb5⟩; have hx := below_at hb5 (new_at w2 (nb0) rfl); have hle := law_below hb2 hb5; obtain ⟨⟨q0, q1, q2, q3, q4, q5⟩, _⟩ := box_cells hx))
  all_goals (go_ret; exact ⟨rfl, hle⟩)

set_option maxHeartbeats 4000000 in
theorem law_limit (p s : ByteArray) (hp : p.size ≤ 9223372036854775807) (hs : s.size ≤ 9223372036854775807) (w : World) (hg : Gl w) (h1 : 20000 < s.size) (hip : isP p.data.toList = true) : Calls Tryz.prog 3 #[.string p, .string s] w fun e w' => e = .returned (.bool true) ∧ Below w.heap.size w w' := by
  have HG := Lib.hid hg
  have HIP := Lib.hid fun W => rpoint_any p hp W
  rw [hip] at HIP
  have HSP := Lib.hid fun W => show Calls Tryz.prog 6 #[.string p, .string s] W (fun e w' => e = .returned (.tuple #[zeroV, .int .i64 2]) ∧ Below W.heap.size W w') from (Split_any p s hp hs W).mono fun e w' h => by
    unfold XPost spE at h
    rw [hip, if_pos rfl, if_pos (by simpa using h1)] at h
    exact h
  have hs3 : (3000 : Int) < (s.size : Int) := by omega
  have hs4 : ¬ (s.size : Int) ≤ 20000 := by omega
  have hs5 : (20000 : Int) < (s.size : Int) := by omega
  clear h1 hip
  clear hg
  go_enter Tryz.func3, Tryz.ntmps3
  go_wp2_with (first
    | (go_at_call 6; (with_reducible refine (HSP.out _).mono ?_); rintro e w2 ⟨rfl, hb2⟩)
    | (go_at_call 7; (with_reducible refine (HIP.out _).mono ?_); rintro e w3 ⟨rfl, rfl⟩)
    | (go_at_call 5; refine (sane_any _ (gl_alloc HG.out hb2 (nb0))).mono ?_; rintro e w5 ⟨rfl, hb5⟩; have hx := below_at hb5 (new_at w2 (nb0) rfl); have hle := law_below hb2 hb5; obtain ⟨⟨q0, q1, q2, q3, q4, q5⟩, _⟩ := box_cells hx))
  all_goals (go_ret; exact ⟨rfl, hle⟩)

set_option maxHeartbeats 4000000 in
theorem law_none (p s : ByteArray) (hp : p.size ≤ 9223372036854775807) (hs : s.size ≤ 9223372036854775807) (w : World) (hg : Gl w) (h1 : s.size ≤ 3000) (hip : isP p.data.toList = true) (hsp : spl s.data.toList p.data.toList = none) : Calls Tryz.prog 3 #[.string p, .string s] w fun e w' => e = .returned (.bool true) ∧ Below w.heap.size w w' := by
  have HG := Lib.hid hg
  have HIP := Lib.hid fun W => rpoint_any p hp W
  rw [hip] at HIP
  have hp0 : 0 < p.size := by
    unfold isP at hip
    simp at hip
    omega
  have hp4 : p.size ≤ 100 := by
    unfold isP at hip
    simp at hip
    omega
  have HSP := Lib.hid fun W => show Calls Tryz.prog 6 #[.string p, .string s] W (fun e w' => e = .returned (.tuple #[zeroV, .int .i64 5]) ∧ Below W.heap.size W w') from (Split_any p s hp hs W).mono fun e w' h => by
    unfold XPost spE at h
    rw [hip, if_pos rfl, if_neg (by simp; omega), hsp] at h
    exact h
  have HRS := Lib.hid fun W => show Calls Tryz.prog 8 #[.string p, .string s] W (fun e w' => e = .returned (.agg #[.int .i64 0, .bool false, .string ⟨#[]⟩, .int .i64 0, .string ⟨#[]⟩, .int .i64 0, .bool false]) ∧ Below W.heap.size W w') from (rSplit_any (by omega) hp0 hp4 W).mono fun e w' h => by
    rw [hsp] at h
    exact h
  have hs3 : (s.size : Int) ≤ 3000 := by omega
  clear h1 hip hsp
  clear hg
  go_enter Tryz.func3, Tryz.ntmps3
  go_wp2_with (first
    | (go_at_call 6; (with_reducible refine (HSP.out _).mono ?_); rintro e w2 ⟨rfl, hb2⟩)
    | (go_at_call 7; (with_reducible refine (HIP.out _).mono ?_); rintro e w3 ⟨rfl, rfl⟩)
    | (go_at_call 8; (with_reducible refine (HRS.out _).mono ?_); rintro e w4 ⟨rfl, hb4⟩)
    | (go_at_call 5; refine (sane_any _ (gl_alloc2 HG.out hb2 hb4 (fb0))).mono ?_; rintro e w5 ⟨rfl, hb5⟩; have hx := below_at hb5 (at_alloc (below_at hb4 (new_at w2 (nb0) rfl)) (fb0)); have hy := below_at hb5 (new_at w4 (fb0) rfl); have hle := law_below2 hb2 hb4 hb5; obtain ⟨⟨q0, q1, q2, q3, q4, q5⟩, _⟩ := box_cells hx; obtain ⟨⟨y0, y1, y2, y3, y4, y5, y6⟩, _⟩ := fbox_cells hy))
  all_goals (go_ret; exact ⟨rfl, hle⟩)

set_option maxHeartbeats 4000000 in
theorem law_some (p s : ByteArray) (hp : p.size ≤ 9223372036854775807) (hs : s.size ≤ 9223372036854775807) (w : World) (hg : Gl w) {neg : Bool} {X : Int × List UInt8 × Int × List UInt8 × Nat} (h1 : s.size ≤ 3000) (hip : isP p.data.toList = true) (hsp : spl s.data.toList p.data.toList = some (neg, X)) : Calls Tryz.prog 3 #[.string p, .string s] w fun e w' => e = .returned (.bool true) ∧ Below w.heap.size w w' := by
  have HG := Lib.hid hg
  have HIP := Lib.hid fun W => rpoint_any p hp W
  rw [hip] at HIP
  have hp0 : 0 < p.size := by
    unfold isP at hip
    simp at hip
    omega
  have hp4 : p.size ≤ 100 := by
    unfold isP at hip
    simp at hip
    omega
  have HSP := Lib.hid fun W => show Calls Tryz.prog 6 #[.string p, .string s] W (fun e w' => e = .returned (.tuple #[.agg #[.int .i64 X.1, .bool neg, .string ⟨⟨X.2.1⟩⟩, .int .i64 X.2.2.1, .string ⟨⟨X.2.2.2.1⟩⟩, .int .i64 X.2.2.2.2], .int .i64 0]) ∧ Below W.heap.size W w') from (Split_any p s hp hs W).mono fun e w' h => by
    unfold XPost spE at h
    rw [hip, if_pos rfl, if_neg (by simp; omega), hsp] at h
    exact h
  have HRS := Lib.hid fun W => show Calls Tryz.prog 8 #[.string p, .string s] W (fun e w' => e = .returned (.agg #[.int .i64 X.1, .bool neg, .string ⟨⟨X.2.1⟩⟩, .int .i64 X.2.2.1, .string ⟨⟨X.2.2.2.1⟩⟩, .int .i64 X.2.2.2.2, .bool true]) ∧ Below W.heap.size W w') from (rSplit_any (by omega) hp0 hp4 W).mono fun e w' h => by
    rw [hsp] at h
    exact h
  have hs3 : (s.size : Int) ≤ 3000 := by omega
  clear h1 hip hsp
  clear hg
  go_enter Tryz.func3, Tryz.ntmps3
  go_wp2_with (first
    | (go_at_call 6; (with_reducible refine (HSP.out _).mono ?_); rintro e w2 ⟨rfl, hb2⟩)
    | (go_at_call 7; (with_reducible refine (HIP.out _).mono ?_); rintro e w3 ⟨rfl, rfl⟩)
    | (go_at_call 8; (with_reducible refine (HRS.out _).mono ?_); rintro e w4 ⟨rfl, hb4⟩)
    | (go_at_call 5; refine (sane_any _ (gl_alloc2 HG.out hb2 hb4 (fbox (.int .i64 X.1) (.bool neg) (.string ⟨⟨X.2.1⟩⟩) (.int .i64 X.2.2.1) (.string ⟨⟨X.2.2.2.1⟩⟩) (.int .i64 X.2.2.2.2) (.bool true)))).mono ?_; rintro e w5 ⟨rfl, hb5⟩; have hx := below_at hb5 (at_alloc (below_at hb4 (new_at w2 (nbox (.int .i64 X.1) (.bool neg) (.string ⟨⟨X.2.1⟩⟩) (.int .i64 X.2.2.1) (.string ⟨⟨X.2.2.2.1⟩⟩) (.int .i64 X.2.2.2.2)) rfl)) (fbox (.int .i64 X.1) (.bool neg) (.string ⟨⟨X.2.1⟩⟩) (.int .i64 X.2.2.1) (.string ⟨⟨X.2.2.2.1⟩⟩) (.int .i64 X.2.2.2.2) (.bool true))); have hy := below_at hb5 (new_at w4 (fbox (.int .i64 X.1) (.bool neg) (.string ⟨⟨X.2.1⟩⟩) (.int .i64 X.2.2.1) (.string ⟨⟨X.2.2.2.1⟩⟩) (.int .i64 X.2.2.2.2) (.bool true)) rfl); have hle := law_below2 hb2 hb4 hb5; obtain ⟨⟨q0, q1, q2, q3, q4, q5⟩, _⟩ := box_cells hx; obtain ⟨⟨y0, y1, y2, y3, y4, y5, y6⟩, _⟩ := fbox_cells hy))
  all_goals (go_ret; exact ⟨rfl, hle⟩)

theorem law_any (p s : ByteArray) (hp : p.size ≤ 9223372036854775807) (hs : s.size ≤ 9223372036854775807) (w : World) (hg : Gl w) : Calls Tryz.prog 3 #[.string p, .string s] w fun e w' => e = .returned (.bool true) ∧ Below w.heap.size w w' := by
  rcases Nat.lt_or_ge 20000 s.size with h2 | h2
  · cases hip : isP p.data.toList with
    | false => exact law_point_l p s hp hs w hg h2 hip
    | true => exact law_limit p s hp hs w hg h2 hip
  · rcases Nat.lt_or_ge 3000 s.size with h1 | h1
    · exact law_mid p s w hg h1 h2
    · cases hip : isP p.data.toList with
      | false => exact law_point_s p s hp hs w hg h1 hip
      | true =>
        cases hsp : spl s.data.toList p.data.toList with
        | none => exact law_none p s hp hs w hg h1 hip hsp
        | some r =>
          obtain ⟨neg, X⟩ := r
          exact law_some p s hp hs w hg h1 hip hsp
end Go.Proofs.YtilnhkflgfajcaaGreatDoor

namespace Go.Proofs.YtilnhkflgfajcaaGreatDoor
open Go.ChangeShapes Go.WideShapes Go.ChangeAt Go.RowKit

def great : List String := ["math/bits.deBruijn32tab", "math/bits.deBruijn64tab", "internal/strconv.uint64pow10", "unicode/utf8.acceptRanges", "strconv.ErrRange", "strconv.ErrSyntax", "unicode.CaseRanges", "unicode/utf8.first"]
/-- The listed variables, laid. -/
noncomputable def WW (os : Os) : World := (World.holding Tryz.prog os ⟨#[], #[], []⟩).layVars Tryz.prog (Rows.strtodSplitsRow.laid.filter fun x => great.contains x.1)
theorem WW_os (os : Os) : (WW os).os = os := World.layVars_os _ _ _

set_option maxRecDepth 100000 in
theorem met1 (os : Os) : (World.holding Tryz.prog os ⟨#[], #[], []⟩).layFits Tryz.prog (Rows.strtodSplitsRow.laid.filter fun x => great.contains x.1) [] = true := by kernel_rfl
set_option maxRecDepth 100000 in
theorem met2 (os : Os) (args : Array Value) : (World.holding Tryz.prog os ⟨#[], #[], []⟩).layIfaces Tryz.prog (Rows.strtodSplitsRow.laid.filter fun x => great.contains x.1) ((WW os).forCall (fun _ _ => 0) ⟨#[], args, []⟩).memory = true := by kernel_rfl
set_option maxRecDepth 100000 in
theorem met3 (os : Os) (args : Array Value) : LaidIn Tryz.prog ((WW os).forCall (fun _ _ => 0) ⟨#[], args, []⟩).memory (Rows.strtodSplitsRow.laid.filter fun x => !great.contains x.1) [] :=
  LaidIn.of_run [] 8 (by kernel_rfl) (by kernel_rfl) (by kernel_rfl) (by kernel_rfl)

theorem door_met (os : Os) (args : Array Value) : laidMetH Tryz.prog Rows.strtodSplitsRow.laid ((WW os).forCall (fun _ _ => 0) ⟨#[], args, []⟩).memory := by
  rw [MakeChecks.laidMetH_plain _ _ _ (by kernel_rfl)]
  exact laidMet_layVars (w0 := World.holding Tryz.prog os ⟨#[], #[], []⟩) great [] (by simp [World.memory, World.forCall, Input.heap, WW]) (met1 os) (met2 os args) (met3 os args)

set_option maxRecDepth 100000 in
theorem shaped (os : Os) : (WW os).Shaped Tryz.prog := World.shaped_of_ZipB (by kernel_rfl) (by kernel_rfl)
end Go.Proofs.YtilnhkflgfajcaaGreatDoor
