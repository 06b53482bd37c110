/- The contract of BytesPuts, and a witness. Conditions: none. -/
import Derived.Test.YtblklgcpobbfcaaGreatDoorCards
import Derived.Test.YtblklgcpobbfcaaGreatDoorTie
import Derived.Test.YtblklgcpobbfcaaGreatDoorPe
import Derived.Test.YtblklgcpobbfcaaGreatDoorPf
import Derived.ProofKit
import Derived.LaidMore
import Derived.OpenShut
import Derived.Stop.Joined
import Derived.ChangeOld
import Derived.Below
import Derived.Lib.SmallJoins
import Derived.SevenTiedAt
import Derived.Deep.Slices
import Derived.Lay
set_option linter.all false
namespace Go.Proofs.YtblklgcpobbfcaaGreatDoor
open Go.ChangeShapes Go.WideShapes Go.ChangeAt Go.RowKit Go.Joins

set_option maxRecDepth 100000
theorem own : ownKnob Tryz.prog.godebug = none := by kernel_rfl
theorem laidOut : laidOutB Tryz.prog = true := by kernel_rfl
theorem cells38 : Tryz.prog.cellsOf 38 = 8 := by kernel_rfl
theorem cells36 : Tryz.prog.cellsOf 36 = 7 := by kernel_rfl
theorem cells3 : Tryz.prog.cellsOf 3 = 1 := by kernel_rfl

section
variable {H : Type} {enc : TypeId × Value → H} {W : World} {base : Nat} {sp : Nat → Bool} {held : Bool}

/-- An instruction, opened: each of its cells is a number. -/
theorem ins_cells {fuel : Nat} {cs : List Value} {x : DataW H × List MemPlace} (h : DataW.trod enc Tryz.prog W base sp held fuel 38 cs = some x) :
    cs.length = 8 ∧ ∀ j, j < 8 → ∃ n, cs[j]? = some (.int .i64 n) := by
  obtain ⟨y0, y1, n, _, hl, h0, h1⟩ := trod_struct2 Tryz.underlying38 h
  rw [cells38] at hl
  refine ⟨hl, fun j hj => ?_⟩
  rcases j with _ | j
  · rw [cells3] at h0
    obtain ⟨a, e0, _, _⟩ := DataW.trod_int Tryz.underlying3 h0
    match cs, hl with
    | c :: cs, _ =>
      simp at e0
      exact ⟨a, by simp [e0]⟩
  · obtain ⟨xs, m, _, _, _, hxl, hf⟩ := DataW.trod_array Tryz.underlying36 h1
    have hj' : j < xs.length := by omega
    have g := hf j (by omega)
    rw [List.getElem?_eq_getElem hj', cells3, cells36] at g
    obtain ⟨a, e0, _, _⟩ := DataW.trod_int Tryz.underlying3 g
    refine ⟨a, ?_⟩
    have e1 : ((List.take 7 (List.drop 1 cs)).drop (j * 1)).take 1 = [.int .i64 a] := e0
    have e2 := congrArg (fun l => l[0]?) e1
    simp only [List.getElem?_take, List.getElem?_drop, Nat.mul_one, Nat.add_zero, List.getElem?_cons_zero] at e2
    rw [if_pos (by omega), if_pos (by omega)] at e2
    rw [Nat.add_comm]
    exact e2

/-- A list of instructions, opened: nil, empty, or cells that are numbers. -/
theorem list_cells {fuel : Nat} {v : Value} {x : DataW H × List MemPlace} (h : DataW.trod enc Tryz.prog W base sp held fuel 39 [v] = some x) :
    (∃ ao cap, v = .slice ao 0 cap) ∨ ∃ (b off n cap : Nat) (X : Nat → Int), v = .slice (some ⟨b, off, none⟩) n cap ∧ b < W.heap.size ∧ ∀ j, j < n * 8 → W.cell? ⟨b, off + j, none⟩ = some (.int .i64 (X j)) := by
  rcases Deep.open_slice Tryz.underlying39 h with ⟨h0, _⟩ | ⟨a, len, cap, m, n, D, Pl, h0, hb, hl, hm, hmm, _, hx⟩
  · simp only [List.cons.injEq, and_true] at h0
    exact .inl ⟨_, _, h0⟩
  · simp only [List.cons.injEq, and_true] at h0
    rcases Nat.eq_zero_or_pos len with rfl | hpos
    · exact .inl ⟨_, _, h0⟩
    · have hlm : len ≤ m := by rw [hmm]; split <;> omega
      have each : ∀ i, i < len → ∃ cs, W.cells? base (a.add (i * 8)) 8 = some cs ∧ cs.length = 8 ∧ ∀ j, j < 8 → ∃ n, cs[j]? = some (.int .i64 n) := by
        intro i hi
        obtain ⟨cs', h1, h2⟩ := hx i (by omega)
        rw [cells38] at h1
        exact ⟨cs', h1, ins_cells h2⟩
      have hspot : a.spot = none ∧ a.block < W.heap.size := by
        obtain ⟨cs, h1, _, hc⟩ := each 0 hpos
        have h2 := World.cells?_block h1 (by omega)
        obtain ⟨n, hn⟩ := hc 0 (by omega)
        have h3 := (World.cells?_some h1).2.2 0 (by omega)
        rw [hn] at h3
        refine ⟨?_, by rwa [block_add] at h2⟩
        simpa [Addr.add] using World.cell?_spot h3
      obtain ⟨b, off, s⟩ := a
      obtain ⟨rfl, hbW⟩ := hspot
      have cell : ∀ j, j < len * 8 → ∃ n, W.cell? ⟨b, off + j, none⟩ = some (.int .i64 n) := by
        intro j hj
        obtain ⟨cs, h1, _, h2⟩ := each (j / 8) (by omega)
        obtain ⟨_, _, hcell⟩ := World.cells?_some h1
        obtain ⟨n, h3⟩ := h2 (j % 8) (by omega)
        refine ⟨n, ?_⟩
        have := hcell (j % 8) (by omega)
        rw [h3, Deep.add_add, show j / 8 * 8 + j % 8 = j by omega, WideShapes.add_plain] at this
        exact this
      refine .inr ⟨b, off, len, cap, fun j => if hj : j < len * 8 then (cell j hj).choose else 0, h0, hbW, fun j hj => ?_⟩
      show _ = some (Value.int .i64 (if hj : j < len * 8 then (cell j hj).choose else 0))
      rw [dif_pos hj]
      exact (cell j hj).choose_spec
end
end Go.Proofs.YtblklgcpobbfcaaGreatDoor

namespace Go.Proofs.YtblklgcpobbfcaaGreatDoor
open Go.ChangeShapes Go.WideShapes Go.ChangeAt Go.RowKit Go.Joins
set_option maxRecDepth 100000

theorem array8 {α : Type} {a : Array α} (h : a.size = 8) : ∃ c0 c1 c2 c3 c4 c5 c6 c7, a = #[c0, c1, c2, c3, c4, c5, c6, c7] := by
  obtain ⟨l⟩ := a
  match l, h with
  | [c0, c1, c2, c3, c4, c5, c6, c7], _ => exact ⟨_, _, _, _, _, _, _, _, rfl⟩

theorem open_ins {H : Type} {enc : TypeId × Value → H} {W : World} {base : Nat} {sp : Nat → Bool} {held : Bool} {v : Value} {d : DataW H} {p : List MemPlace} {r : Reach} {b0 : Nat}
    (hv : Value.okWide Tryz.prog W r b0 38 v) (h : DataW.Trod enc Tryz.prog W base sp held 38 v d p) : ∃ op x0 x1 x2 x3 x4 x5 x6 : Int, v = insV op x0 x1 x2 x3 x4 x5 x6 := by
  obtain ⟨cs, rfl, hsz⟩ := okWide_struct Tryz.underlying38 hv
  obtain ⟨c0, c1, c2, c3, c4, c5, c6, c7, rfl⟩ := array8 (hsz.trans cells38)
  obtain ⟨fuel, hf⟩ := h
  obtain ⟨_, hc⟩ := ins_cells hf
  obtain ⟨a0, e0⟩ := hc 0 (by omega)
  obtain ⟨a1, e1⟩ := hc 1 (by omega)
  obtain ⟨a2, e2⟩ := hc 2 (by omega)
  obtain ⟨a3, e3⟩ := hc 3 (by omega)
  obtain ⟨a4, e4⟩ := hc 4 (by omega)
  obtain ⟨a5, e5⟩ := hc 5 (by omega)
  obtain ⟨a6, e6⟩ := hc 6 (by omega)
  obtain ⟨a7, e7⟩ := hc 7 (by omega)
  simp [Value.cells] at e0 e1 e2 e3 e4 e5 e6 e7
  subst e0 e1 e2 e3 e4 e5 e6 e7
  exact ⟨_, _, _, _, _, _, _, _, rfl⟩

theorem first_bad (f : Nat → Bool) : ∀ n, (∀ k, k < n → f k = true) ∨ ∃ q, q < n ∧ (∀ k, k < q → f k = true) ∧ f q = false
  | 0 => .inl fun _ h => absurd h (Nat.not_lt_zero _)
  | n + 1 => by
    rcases first_bad f n with h | ⟨q, h1, h2, h3⟩
    · cases e : f n with
      | true =>
        refine .inl fun k hk => ?_
        rcases Nat.lt_or_ge k n with h' | h'
        · exact h k h'
        · rw [show k = n by omega]; exact e
      | false => exact .inr ⟨n, by omega, h, e⟩
    · exact .inr ⟨q, by omega, h2, h3⟩

theorem law_any (op x0 x1 x2 x3 x4 x5 x6 : Int) (v : Value) (w : World) (hg : Gl w)
    (hv : (∃ ao cap, v = .slice ao 0 cap) ∨ ∃ (b off n cap : Nat) (X : Nat → Int), v = .slice (some ⟨b, off, none⟩) n cap ∧ b < w.heap.size ∧ ∀ j, j < n * 8 → w.cell? ⟨b, off + j, none⟩ = some (.int .i64 (X j))) :
    Calls Tryz.prog 4 #[insV op x0 x1 x2 x3 x4 x5 x6, v] w fun e w' => e = .returned (.bool true) ∧ Below w.heap.size w w' := by
  rcases hv with ⟨ao, cap, rfl⟩ | ⟨b, off, n, cap, X, rfl, hb, hc⟩
  · cases hx : okX op x0 x1 x2 x3 x4 x5 x6 with
    | true => exact law_nil_t op x0 x1 x2 x3 x4 x5 x6 ao cap w hg hx
    | false => exact law_nil_f op x0 x1 x2 x3 x4 x5 x6 ao cap w hg hx
  · rcases Nat.lt_or_ge 300 n with hn | hn
    · exact law_long op x0 x1 x2 x3 x4 x5 x6 _ n cap w hg hn
    · cases hx : okX op x0 x1 x2 x3 x4 x5 x6 with
      | true =>
        rcases first_bad (okA X) n with h | ⟨q, h1, h2, h3⟩
        · exact law_t op x0 x1 x2 x3 x4 x5 x6 b off n cap X w hg hn ⟨hb, hc⟩ hx h
        · exact law_tb op x0 x1 x2 x3 x4 x5 x6 b off n cap X w hg hn ⟨hb, hc⟩ hx q h1 h2 h3
      | false =>
        rcases first_bad (okA X) n with h | ⟨q, h1, h2, h3⟩
        · exact law_f op x0 x1 x2 x3 x4 x5 x6 b off n cap X w hg hn ⟨hb, hc⟩ hx h
        · exact law_fb op x0 x1 x2 x3 x4 x5 x6 b off n cap X w hg hn ⟨hb, hc⟩ hx q h1 h2 h3

theorem contract (H : Type) (enc : TypeId × Value → H) (W : World) (base : Nat) (args : Array Value) (ds gs : List (DataW H)) (before : List MemPlace)
    (hval : ∀ (j : Nat) t v, Tryz.f4.params[j]? = some t → args[j]? = some v → Value.okWide Tryz.prog W .any base t v)
    (hW : DataW.Whole enc Tryz.prog Tryz.f4.params.toList Rows.bytesPutsSpec.vars false W args.toList ds gs before) (hL : laidMetH Tryz.prog Rows.bytesPutsRow.laid W) :
    Calls Tryz.prog 4 args W fun e W' => ∃ v, e = .returned v ∧ Rows.bytesPutsSpec.post enc Tryz.prog Tryz.f4 false true false false W args v W' := by
  have hW' := hW
  obtain ⟨p, q, hA0, hV, rfl, hfz, hnd⟩ := hW
  have hA : DataW.TrodAll enc Tryz.prog W 0 (fun _ => true) true Tryz.f4.params.toList args.toList ds p := hA0
  rw [Tryz.params4] at hA hval
  obtain ⟨v0, vs0, d0, ds0, p0, q0, hargs, rfl, rfl, h0, r0⟩ := trodAll_cons hA
  obtain ⟨v1, vs1, d1, ds1, p1, q1, rfl, rfl, rfl, h1, r1⟩ := trodAll_cons r0
  obtain ⟨rfl, rfl, rfl⟩ := trodAll_nil r1
  obtain rfl : args = #[v0, v1] := by cases args; simp_all
  obtain ⟨rfl, rfl⟩ := trodVars_none hV
  have lt0 : ∀ x ∈ p0, x.block < W.heap.size := by obtain ⟨m, hm⟩ := h0; exact DataW.trod_lt m _ _ _ hm
  have lt1 : ∀ x ∈ p1, x.block < W.heap.size := by obtain ⟨m, hm⟩ := h1; exact DataW.trod_lt m _ _ _ hm
  obtain ⟨op, x0, x1, x2, x3, x4, x5, x6, rfl⟩ := open_ins (hval 0 38 v0 rfl rfl) h0
  obtain ⟨capS, aS, hS⟩ : ∃ (ao : Option Addr) (lc : Nat × Nat), v1 = .slice ao lc.1 lc.2 := by
    obtain ⟨a, l, c, h⟩ := okWide_slice Tryz.underlying39 (hval 1 39 v1 rfl rfl)
    exact ⟨a, (l, c), h⟩
  have hl : (∃ ao cap, v1 = .slice ao 0 cap) ∨ ∃ (b off n cap : Nat) (X : Nat → Int), v1 = .slice (some ⟨b, off, none⟩) n cap ∧ b < W.heap.size ∧ ∀ j, j < n * 8 → W.cell? ⟨b, off + j, none⟩ = some (.int .i64 (X j)) := by
    obtain ⟨m, hm⟩ := h1
    rw [hS] at hm ⊢
    exact list_cells hm
  clear hA0
  refine (law_any op x0 x1 x2 x3 x4 x5 x6 v1 W (gl_of_laid hL) hl).mono fun e W' ⟨he, bel⟩ => ?_
  subst he
  exact ⟨_, rfl, _, _, _, [], _, [], hW', trodAll_mk1 (shut_bool Tryz.underlying4 _),
    trodAll_cons_mk (Below.trod laidOut (by kernel_rfl) (of_decide_eq_true (by kernel_rfl)) h0 bel lt0) (trodAll_cons_mk (Below.trod laidOut (by kernel_rfl) (of_decide_eq_true (by kernel_rfl)) h1 bel lt1) trodAll_mk0),
    rfl, bel.frame _, fun h => by cases h⟩
end Go.Proofs.YtblklgcpobbfcaaGreatDoor

namespace Go.Proofs.YtblklgcpobbfcaaGreatDoor
open Go.ChangeShapes Go.WideShapes Go.ChangeAt Go.RowKit

/-- The entries of the one map among the listed variables. -/
def mapEnts : List (Nat × Int) := [(65, 2), (69, 2), (70, 2), (71, 2), (88, 1), (91, 3), (97, 2), (98, 1), (99, 3), (100, 1), (101, 2), (102, 2), (103, 2), (105, 1), (110, 5), (111, 1), (112, 4), (115, 3), (117, 1), (120, 1)]
/-- A start of memory that holds the map alone. -/
noncomputable def W0 (os : Os) : World :=
  { World.holding Tryz.prog os ⟨#[], #[], []⟩ with
    heap := ((World.holding Tryz.prog os ⟨#[], #[], []⟩).heap.set! 2 (.cells #[.map (some (World.holding Tryz.prog os ⟨#[], #[], []⟩).heap.size)] 258 (0, 0))).push
      (.map (mapEnts.zipIdx.map fun x => (⟨.int .u8 x.1.1, .int .i64 x.1.2, x.2⟩ : MapEntry)).toArray 20) }
def great : List String := ["math/bits.deBruijn32tab", "math/bits.deBruijn64tab", "internal/strconv.uint64pow10", "unicode/utf8.acceptRanges", "strconv.ErrRange", "strconv.ErrSyntax", "soroban/args.lengths", "soroban/bytes.operations", "unicode/utf8.first"]
/-- The listed variables, laid. -/
noncomputable def WW (os : Os) : World := (W0 os).layVars Tryz.prog (Rows.bytesPutsRow.laid.filter fun x => great.contains x.1)
noncomputable def mapB (os : Os) : List Nat := [2, (World.holding Tryz.prog os ⟨#[], #[], []⟩).heap.size]

theorem WW_os (os : Os) : (WW os).os = os := World.layVars_os _ _ _

set_option maxRecDepth 100000 in
theorem met1 (os : Os) : (W0 os).layFits Tryz.prog (Rows.bytesPutsRow.laid.filter fun x => great.contains x.1) (mapB os) = true := by kernel_rfl
set_option maxRecDepth 100000 in
theorem met2 (os : Os) (args : Array Value) : (W0 os).layIfaces Tryz.prog (Rows.bytesPutsRow.laid.filter fun x => great.contains x.1) ((WW os).forCall (fun _ _ => 0) ⟨#[], args, []⟩).memory = true := by kernel_rfl
set_option maxRecDepth 100000 in
theorem met3 (os : Os) (args : Array Value) : LaidIn Tryz.prog ((WW os).forCall (fun _ _ => 0) ⟨#[], args, []⟩).memory (Rows.bytesPutsRow.laid.filter fun x => !great.contains x.1) (mapB os) :=
  LaidIn.of_run (mapB os) 8 (by kernel_rfl) (by kernel_rfl) (by kernel_rfl) (by kernel_rfl)

theorem door_met (os : Os) (args : Array Value) : laidMetH Tryz.prog Rows.bytesPutsRow.laid ((WW os).forCall (fun _ _ => 0) ⟨#[], args, []⟩).memory := by
  rw [MakeChecks.laidMetH_plain _ _ _ (by kernel_rfl)]
  exact laidMet_layVars (w0 := W0 os) great (mapB os) (by simp [World.memory, World.forCall, Input.heap, WW]) (met1 os) (met2 os args) (met3 os args)

set_option maxRecDepth 100000 in
theorem shaped (os : Os) : (WW os).Shaped Tryz.prog := World.shaped_of_ZipB (by kernel_rfl) (by kernel_rfl)
end Go.Proofs.YtblklgcpobbfcaaGreatDoor
