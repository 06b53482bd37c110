/- The law BytesSplits as its row asks for it, and a witness. Conditions: none. -/
import Derived.Test.YtblklgcpobbfcaaGreatDoorCards
import Derived.Test.YtblklgcpobbfcaaGreatDoorTie
import Derived.Test.YtblklgcpobbfcaaGreatDoorSe
import Derived.Deep.DeepHandedRow
import Derived.ProofKit
import Derived.LaidMore
import Derived.OpenShut
import Derived.Stop.Joined
import Derived.ChangeOld
import Derived.Below
import Derived.Lib.SmallJoins
import Derived.SevenTiedAt
import Derived.Deep.Slices
import Derived.Lay
set_option linter.all false
namespace Go.Proofs.YtblklgcpobbfcaaGreatDoor
open Go.ChangeShapes Go.WideShapes Go.ChangeAt Go.RowKit Go.Joins

set_option maxRecDepth 100000
theorem own : ownKnob Tryz.prog.godebug = none := by kernel_rfl
theorem laidOut : laidOutB Tryz.prog = true := by kernel_rfl
theorem cells5 : Tryz.prog.cellsOf 5 = 1 := by kernel_rfl

theorem bulk_pos {H : Type} (d : DataW H) : 1 ≤ Rows.uptoBulk d := by
  cases d with
  | lit l => cases l <;> simp [Rows.uptoBulk]
  | nil => simp [Rows.uptoBulk]
  | ptr d => simp [Rows.uptoBulk]
  | slice e s => simp [Rows.uptoBulk]
  | agg p => simp [Rows.uptoBulk]
  | iface t d => simp [Rows.uptoBulk]
  | map e => simp [Rows.uptoBulk]
  | held h => simp [Rows.uptoBulk]
theorem bulk_all {H : Type} : ∀ l : List (DataW H), l.length ≤ Rows.uptoBulkAll l
  | [] => Nat.zero_le _
  | d :: r => by
    have h1 := bulk_pos d
    have h2 := bulk_all r
    simp only [List.length_cons, Rows.uptoBulkAll]
    omega
theorem bulk_slice {H : Type} (e s : List (DataW H)) (n : Nat) (h : e.length = n) : n ≤ Rows.uptoBulk (DataW.slice e s) := by
  have := bulk_all e
  simp only [Rows.uptoBulk]
  omega

section
variable {H : Type} {enc : TypeId × Value → H} {W : World} {base : Nat} {sp : Nat → Bool} {held : Bool}

/-- A code, opened: nil, or bytes. -/
theorem code_open {fuel : Nat} {v : Value} {x : DataW H × List MemPlace} (h : DataW.trod enc Tryz.prog W base sp held fuel 40 [v] = some x) : ∃ n C, CodeArg W v n C ∧ n ≤ Rows.uptoBulk x.1 := by
  rcases Deep.open_slice Tryz.underlying40 h with ⟨h0, _⟩ | ⟨a, len, cap, m, n, D, Pl, h0, hb, hl, hm, hmm, hxe, hx⟩
  · simp only [List.cons.injEq, and_true] at h0
    exact ⟨0, fun _ => 0, ⟨fun _ => ⟨by omega, by omega⟩, .inl ⟨h0, rfl⟩⟩, Nat.zero_le _⟩
  · simp only [List.cons.injEq, and_true] at h0
    have hlm : len ≤ m := by rw [hmm]; split <;> omega
    have each : ∀ i, i < len → ∃ z : Int, W.cell? (a.add i) = some (.int .u8 z) ∧ 0 ≤ z ∧ z < 256 := by
      intro i hi
      obtain ⟨cs', h1, h2⟩ := hx i (by omega)
      rw [cells5, Nat.mul_one] at h1
      obtain ⟨z, rfl, _, hw⟩ := DataW.trod_int Tryz.underlying5 h2
      obtain ⟨_, _, hcell⟩ := World.cells?_some h1
      have := hcell 0 (by omega)
      rw [Deep.add_add, Nat.add_zero] at this
      have hz := bounds_u8 hw
      exact ⟨z, by simpa using this, hz.1, by omega⟩
    have hbulk : len ≤ Rows.uptoBulk x.1 := by
      rw [hxe]
      exact bulk_slice _ _ _ (by simp)
    refine ⟨len, fun j => if hj : j < len then (each j hj).choose else 0, ⟨fun j => ?_, .inr ⟨a, cap, h0, fun hpos => ?_⟩⟩, hbulk⟩
    · show 0 ≤ (if hj : j < len then (each j hj).choose else 0) ∧ (if hj : j < len then (each j hj).choose else 0) < 256
      by_cases hj : j < len
      · rw [dif_pos hj]; exact (each j hj).choose_spec.2
      · rw [dif_neg hj]; omega
    · obtain ⟨z, hz, _⟩ := each 0 hpos
      have hspot : a.spot = none := by simpa [Addr.add] using World.cell?_spot hz
      obtain ⟨b, off, s⟩ := a
      cases hspot
      refine ⟨b, off, rfl, ⟨fun j hj => ?_, ?_, fun j => ?_⟩⟩
      · show W.cell? ⟨b, off + j, none⟩ = some (Value.int .u8 (if hj : j < len then (each j hj).choose else 0))
        rw [dif_pos hj, ← (each j hj).choose_spec.1, WideShapes.add_plain]
      · rw [WideShapes.add_plain] at hz
        exact World.block_lt_of_cell? W _ hz
      · show 0 ≤ (if hj : j < len then (each j hj).choose else 0) ∧ (if hj : j < len then (each j hj).choose else 0) < 256
        by_cases hj : j < len
        · rw [dif_pos hj]; exact (each j hj).choose_spec.2
        · rw [dif_neg hj]; omega
end

theorem gl_of_laidS {W : World} (h : laidMetH Tryz.prog Rows.bytesSplitsRow.laid W) : Gl W := by
  obtain ⟨ps, hl, _⟩ : laidMet Tryz.prog Rows.bytesSplitsRow.laid W := h
  exact Go.Eng.laid_at (name := "soroban/bytes.operations") hl (.tail _ (.tail _ (.tail _ (.tail _ (.tail _ (.tail _ (.tail _ (.tail _ (.head _))))))))) (by kernel_rfl) (by kernel_rfl) opsL_some

theorem slaw_any (v : Value) (n : Nat) (C : Nat → Int) (i : Int) (w : World) (hg : Gl w) (h1 : CodeArg w v n C) (hn : n ≤ 1048576) :
    Calls Tryz.prog 5 #[v, .int .i64 i] w fun e w' => e = .returned (.bool true) ∧ Below w.heap.size w w' := by
  obtain ⟨a1, c1, e1, hc⟩ := h1.form
  by_cases hmid : 3000 < n ∧ n ≤ 60000
  · subst e1
    exact slaw_mid a1 n c1 i w hg hmid.1 hmid.2
  · by_cases hi : i < 0
    · have hat : Calls Tryz.prog 20 #[v, .int .i64 i] w fun e w' => e = .returned (.tuple #[insV 0 0 0 0 0 0 0 0, .int .i64 0, .int .i64 3]) ∧ Below w.heap.size w w' := by
        subst e1; exact at_neg a1 n c1 i w hi
      by_cases hbig : 60000 < n
      · exact slaw_out1_L v n C i w hg h1 hbig hi hat
      · rcases good_or_fails C n with ⟨L, hL⟩ | ⟨L, b, hL⟩
        · exact slaw_out1_G v n C i w hg h1 (by omega) L hL hi hat
        · exact slaw_out1_B v n C i w hg h1 (by omega) L b hL hi hat
    · by_cases hi2 : (n : Int) ≤ i
      · have hat : Calls Tryz.prog 20 #[v, .int .i64 i] w fun e w' => e = .returned (.tuple #[insV 0 0 0 0 0 0 0 0, .int .i64 0, .int .i64 3]) ∧ Below w.heap.size w w' := by
          subst e1; exact at_past a1 n c1 i w hi hi2
        by_cases hbig : 60000 < n
        · exact slaw_out2_L v n C i w hg h1 hbig hi hi2 hat
        · rcases good_or_fails C n with ⟨L, hL⟩ | ⟨L, b, hL⟩
          · exact slaw_out2_G v n C i w hg h1 (by omega) L hL hi hi2 hat
          · exact slaw_out2_B v n C i w hg h1 (by omega) L b hL hi hi2 hat
      · obtain ⟨a, rfl⟩ : ∃ a : Nat, i = a := ⟨i.toNat, by omega⟩
        have han : a < n := by omega
        obtain ⟨g, off, rfl, hca⟩ := hc.resolve_left (by omega)
        by_cases hd : Dec C n a
        · have hat : Calls Tryz.prog 20 #[v, .int .i64 a] w fun e w' => e = .returned (.tuple #[insA' C a, .int .i64 (a + sz (opA C a)), .int .i64 0]) ∧ Below w.heap.size w w' := by
            subst e1; exact at_yes g off n c1 a C w hg hca (by omega) han hd
          have hrt : ∀ W, Below w.heap.size w W → Calls Tryz.prog 23 #[v, .int .i64 a] W fun e w' => e = .returned (rdV (opA C a) (xA C a 0) (xA C a 1) (xA C a 2) (xA C a 3) (xA C a 4) (xA C a 5) (xA C a 6) (a + sz (opA C a)) true) ∧ Below W.heap.size W w' := fun W hW => by
            subst e1; exact rat_yes g off n c1 a C W (hg.below hW) (hca.below hW hca.lt) (by omega) han hd
          by_cases hbig : 60000 < n
          · exact slaw_inY_L v n C a w hg h1 hbig _ _ _ _ _ _ _ _ _ hi hi2 hat hrt
          · rcases good_or_fails C n with ⟨L, hL⟩ | ⟨L, b, hL⟩
            · exact slaw_inY_G v n C a w hg h1 (by omega) L hL _ _ _ _ _ _ _ _ _ hi hi2 hat hrt
            · exact slaw_inY_B v n C a w hg h1 (by omega) L b hL _ _ _ _ _ _ _ _ _ hi hi2 hat hrt
        · have hat : Calls Tryz.prog 20 #[v, .int .i64 a] w fun e w' => e = .returned (.tuple #[insV 0 0 0 0 0 0 0 0, .int .i64 0, .int .i64 6]) ∧ Below w.heap.size w w' := by
            subst e1; exact at_no g off n c1 a C w hg hca (by omega) han hd
          have hrt : ∀ W, Below w.heap.size w W → Calls Tryz.prog 23 #[v, .int .i64 a] W fun e w' => e = .returned (rdV 0 0 0 0 0 0 0 0 0 false) ∧ Below W.heap.size W w' := fun W hW => by
            subst e1; exact rat_no g off n c1 a C W (hg.below hW) (hca.below hW hca.lt) (by omega) han hd
          by_cases hbig : 60000 < n
          · exact slaw_inN_L v n C a w hg h1 hbig _ _ _ _ _ _ _ _ _ hi hi2 hat hrt
          · rcases good_or_fails C n with ⟨L, hL⟩ | ⟨L, b, hL⟩
            · exact slaw_inN_G v n C a w hg h1 (by omega) L hL _ _ _ _ _ _ _ _ _ hi hi2 hat hrt
            · exact slaw_inN_B v n C a w hg h1 (by omega) L b hL _ _ _ _ _ _ _ _ _ hi hi2 hat hrt

/-- What the bound gives: the code's length. -/
theorem short_code {H : Type} {d e : DataW H} (hk : Rows.uptoSmall H ([d, e] ++ []) = true) : Rows.uptoBulk d ≤ 1048576 := by
  have h : Rows.uptoBulkAll ([d, e] ++ []) ≤ 1048576 := of_decide_eq_true hk
  simp only [List.append_nil, Rows.uptoBulkAll] at h
  omega

theorem contractS (H : Type) (enc : TypeId × Value → H) (W : World) (base : Nat) (args : Array Value) (ds gs : List (DataW H)) (before : List MemPlace)
    (hval : ∀ (j : Nat) t v, Tryz.f5.params[j]? = some t → args[j]? = some v → Value.okWide Tryz.prog W .any base t v)
    (hW : DataW.Whole enc Tryz.prog Tryz.f5.params.toList Rows.bytesSplitsSpec.vars false W args.toList ds gs before) (hL : laidMetH Tryz.prog Rows.bytesSplitsRow.laid W) (hk : Rows.uptoSmall H (ds ++ gs) = true) :
    Calls Tryz.prog 5 args W fun e W' => ∃ v, e = .returned v ∧ Rows.bytesSplitsSpec.post enc Tryz.prog Tryz.f5 false true false false W args v W' := by
  have hW' := hW
  obtain ⟨p, q, hA0, hV, rfl, hfz, hnd⟩ := hW
  have hA : DataW.TrodAll enc Tryz.prog W 0 (fun _ => true) true Tryz.f5.params.toList args.toList ds p := hA0
  rw [Tryz.params5] at hA hval
  obtain ⟨v0, vs0, d0, ds0, p0, q0, hargs, rfl, rfl, h0, r0⟩ := trodAll_cons hA
  obtain ⟨v1, vs1, d1, ds1, p1, q1, rfl, rfl, rfl, h1, r1⟩ := trodAll_cons r0
  obtain ⟨rfl, rfl, rfl⟩ := trodAll_nil r1
  obtain rfl : args = #[v0, v1] := by cases args; simp_all
  obtain ⟨rfl, rfl⟩ := trodVars_none hV
  have lt0 : ∀ x ∈ p0, x.block < W.heap.size := by obtain ⟨m, hm⟩ := h0; exact DataW.trod_lt m _ _ _ hm
  have lt1 : ∀ x ∈ p1, x.block < W.heap.size := by obtain ⟨m, hm⟩ := h1; exact DataW.trod_lt m _ _ _ hm
  obtain ⟨n, C, hc, hbk⟩ : ∃ n C, CodeArg W v0 n C ∧ n ≤ Rows.uptoBulk d0 := by
    obtain ⟨a, l, c, hS⟩ := okWide_slice Tryz.underlying40 (hval 0 40 v0 rfl rfl)
    obtain ⟨m, hm⟩ := h0
    rw [hS] at hm ⊢
    exact code_open hm
  obtain ⟨z, rfl⟩ := okWide_int Tryz.underlying3 (hval 1 3 v1 rfl rfl)
  have hsm := short_code hk
  clear hA0
  refine (slaw_any v0 n C z W (gl_of_laidS hL) hc (by omega)).mono fun e W' ⟨he, bel⟩ => ?_
  subst he
  exact ⟨_, rfl, _, _, _, [], _, [], hW', trodAll_mk1 (shut_bool Tryz.underlying4 _),
    trodAll_cons_mk (Below.trod laidOut (by kernel_rfl) (of_decide_eq_true (by kernel_rfl)) h0 bel lt0) (trodAll_cons_mk (Below.trod laidOut (by kernel_rfl) (of_decide_eq_true (by kernel_rfl)) h1 bel lt1) trodAll_mk0),
    rfl, bel.frame _, fun h => by cases h⟩
end Go.Proofs.YtblklgcpobbfcaaGreatDoor

namespace Go.Proofs.YtblklgcpobbfcaaGreatDoor
open Go.ChangeShapes Go.WideShapes Go.ChangeAt Go.RowKit

/-- The entries of the one map among the listed variables. -/
def mapEnts : List (Nat × Int) := [(65, 2), (69, 2), (70, 2), (71, 2), (88, 1), (91, 3), (97, 2), (98, 1), (99, 3), (100, 1), (101, 2), (102, 2), (103, 2), (105, 1), (110, 5), (111, 1), (112, 4), (115, 3), (117, 1), (120, 1)]
/-- A start of memory that holds the map alone. -/
noncomputable def W0 (os : Os) : World :=
  { World.holding Tryz.prog os ⟨#[], #[], []⟩ with
    heap := ((World.holding Tryz.prog os ⟨#[], #[], []⟩).heap.set! 2 (.cells #[.map (some (World.holding Tryz.prog os ⟨#[], #[], []⟩).heap.size)] 258 (0, 0))).push
      (.map (mapEnts.zipIdx.map fun x => (⟨.int .u8 x.1.1, .int .i64 x.1.2, x.2⟩ : MapEntry)).toArray 20) }
def great : List String := ["math/bits.deBruijn32tab", "math/bits.deBruijn64tab", "internal/strconv.uint64pow10", "unicode/utf8.acceptRanges", "strconv.ErrRange", "strconv.ErrSyntax", "soroban/args.lengths", "soroban/bytes.operations", "unicode/utf8.first"]
/-- The listed variables, laid. -/
noncomputable def WW (os : Os) : World := (W0 os).layVars Tryz.prog (Rows.bytesSplitsRow.laid.filter fun x => great.contains x.1)
noncomputable def mapB (os : Os) : List Nat := [2, (World.holding Tryz.prog os ⟨#[], #[], []⟩).heap.size]

theorem WW_os (os : Os) : (WW os).os = os := World.layVars_os _ _ _

set_option maxRecDepth 100000 in
theorem met1 (os : Os) : (W0 os).layFits Tryz.prog (Rows.bytesSplitsRow.laid.filter fun x => great.contains x.1) (mapB os) = true := by kernel_rfl
set_option maxRecDepth 100000 in
theorem met2 (os : Os) (args : Array Value) : (W0 os).layIfaces Tryz.prog (Rows.bytesSplitsRow.laid.filter fun x => great.contains x.1) ((WW os).forCall (fun _ _ => 0) ⟨#[], args, []⟩).memory = true := by kernel_rfl
set_option maxRecDepth 100000 in
theorem met3 (os : Os) (args : Array Value) : LaidIn Tryz.prog ((WW os).forCall (fun _ _ => 0) ⟨#[], args, []⟩).memory (Rows.bytesSplitsRow.laid.filter fun x => !great.contains x.1) (mapB os) :=
  LaidIn.of_run (mapB os) 8 (by kernel_rfl) (by kernel_rfl) (by kernel_rfl) (by kernel_rfl)

theorem door_met (os : Os) (args : Array Value) : laidMetH Tryz.prog Rows.bytesSplitsRow.laid ((WW os).forCall (fun _ _ => 0) ⟨#[], args, []⟩).memory := by
  rw [MakeChecks.laidMetH_plain _ _ _ (by kernel_rfl)]
  exact laidMet_layVars (w0 := W0 os) great (mapB os) (by simp [World.memory, World.forCall, Input.heap, WW]) (met1 os) (met2 os args) (met3 os args)

set_option maxRecDepth 100000 in
theorem shaped (os : Os) : (WW os).Shaped Tryz.prog := World.shaped_of_ZipB (by kernel_rfl) (by kernel_rfl)
end Go.Proofs.YtblklgcpobbfcaaGreatDoor
