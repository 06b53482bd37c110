/- A memory in which the listed variables lie as the text lays them; the law as the row asks for it. Conditions: none. -/
import Derived.Test.YtfcglnmfcniojaaGreatDoorAh
import Derived.Test.YtfcglnmfcniojaaGreatDoorCards
import Derived.Test.YtfcglnmfcniojaaGreatDoorTie
import Derived.ProofKit
import Derived.LaidMore
import Derived.OpenShut
import Derived.Stop.Joined
import Derived.ChangeOld
import Derived.Below
import Derived.Lib.SmallJoins
import Derived.SevenTiedAt
import Derived.Deep.Slices
import Derived.Deep.DeepHandedRow
import Derived.Lib.LaidTab
import Derived.Shelf.Vars
import Derived.Lay
import Derived.Deep.Strs
import Derived.Stop.LaidErr
set_option linter.all false
namespace Go.Proofs.YtfcglnmfcniojaaGreatDoor
open Go.ChangeShapes Go.WideShapes Go.ChangeAt Go.RowKit

def great : List String := ["math/bits.deBruijn32tab", "math/bits.deBruijn64tab", "internal/strconv.uint64pow10", "unicode/utf8.acceptRanges", "strconv.ErrRange", "strconv.ErrSyntax", "soroban/decimal.formats", "soroban/args.lengths", "unicode/utf8.first"]
/-- The listed variables, laid. -/
noncomputable def WW (os : Os) : World := (World.holding Tryz.prog os ⟨#[], #[], []⟩).layVars Tryz.prog (Rows.argsBackRow.laid.filter fun x => great.contains x.1)
theorem WW_os (os : Os) : (WW os).os = os := World.layVars_os _ _ _

set_option maxRecDepth 100000 in
theorem met1 (os : Os) : (World.holding Tryz.prog os ⟨#[], #[], []⟩).layFits Tryz.prog (Rows.argsBackRow.laid.filter fun x => great.contains x.1) [] = true := by kernel_rfl
set_option maxRecDepth 100000 in
theorem met2 (os : Os) (args : Array Value) : (World.holding Tryz.prog os ⟨#[], #[], []⟩).layIfaces Tryz.prog (Rows.argsBackRow.laid.filter fun x => great.contains x.1) ((WW os).forCall (fun _ _ => 0) ⟨#[], args, []⟩).memory = true := by kernel_rfl
set_option maxRecDepth 100000 in
theorem met3 (os : Os) (args : Array Value) : LaidIn Tryz.prog ((WW os).forCall (fun _ _ => 0) ⟨#[], args, []⟩).memory (Rows.argsBackRow.laid.filter fun x => !great.contains x.1) [] :=
  LaidIn.of_run [] 8 (by kernel_rfl) (by kernel_rfl) (by kernel_rfl) (by kernel_rfl)

theorem door_met (os : Os) (args : Array Value) : laidMetH Tryz.prog Rows.argsBackRow.laid ((WW os).forCall (fun _ _ => 0) ⟨#[], args, []⟩).memory := by
  rw [MakeChecks.laidMetH_plain _ _ _ (by kernel_rfl)]
  exact laidMet_layVars (w0 := World.holding Tryz.prog os ⟨#[], #[], []⟩) great [] (by simp [World.memory, World.forCall, Input.heap, WW]) (met1 os) (met2 os args) (met3 os args)

set_option maxRecDepth 100000 in
theorem shaped (os : Os) : (WW os).Shaped Tryz.prog := World.shaped_of_ZipB (by kernel_rfl) (by kernel_rfl)
end Go.Proofs.YtfcglnmfcniojaaGreatDoor

namespace Go.Proofs.YtfcglnmfcniojaaGreatDoor
open Go.ChangeShapes Go.WideShapes Go.ChangeAt Go.RowKit Go.Joins
open Go.ChangeMaps (open_string shut_string)

set_option maxRecDepth 100000
theorem own : ownKnob Tryz.prog.godebug = none := by kernel_rfl
theorem laidOut : laidOutB Tryz.prog = true := by kernel_rfl
theorem cells36 : Tryz.prog.cellsOf 36 = 3 := by kernel_rfl
theorem cells3 : Tryz.prog.cellsOf 3 = 1 := by kernel_rfl

section
variable {H : Type} {enc : TypeId × Value → H} {W : World} {base : Nat} {sp : Nat → Bool} {held : Bool}

/-- A type, opened: each of its cells is a number. -/
theorem ty_cells {fuel : Nat} {cs : List Value} {x : DataW H × List MemPlace} (h : DataW.trod enc Tryz.prog W base sp held fuel 36 cs = some x) :
    ∃ a b c : Int, cs = [.int .i64 a, .int .i64 b, .int .i64 c] := by
  obtain ⟨y0, y1, y2, n, _, hl, h0, h1, h2⟩ := Deep.trod_struct3 Tryz.underlying36 h
  rw [cells36] at hl
  rw [cells3] at h0 h1 h2
  obtain ⟨a, e0, _, _⟩ := DataW.trod_int Tryz.underlying3 h0
  obtain ⟨b, e1, _, _⟩ := DataW.trod_int Tryz.underlying3 h1
  obtain ⟨c, e2, _, _⟩ := DataW.trod_int Tryz.underlying3 h2
  match cs, hl with
  | [x, y, z], _ =>
    refine ⟨a, b, c, ?_⟩
    simp at e0 e1 e2
    rw [e0, e1, e2]

/-- A list of types, opened. -/
theorem list_tys {fuel : Nat} {v : Value} {x : DataW H × List MemPlace} (h : DataW.trod enc Tryz.prog W base sp held fuel 24 [v] = some x) : ∃ ts, TysOf W v ts := by
  rcases Deep.open_slice Tryz.underlying24 h with ⟨h0, _⟩ | ⟨a, len, cap, m, n, D, Pl, h0, hb, hl, hm, hmm, _, hx⟩
  · simp only [List.cons.injEq, and_true] at h0
    exact ⟨[], _, _, h0, fun hne => absurd rfl hne⟩
  · simp only [List.cons.injEq, and_true] at h0
    rcases Nat.eq_zero_or_pos len with rfl | hpos
    · exact ⟨[], _, _, h0, fun hne => absurd rfl hne⟩
    · have hlm : len ≤ m := by rw [hmm]; split <;> omega
      have each : ∀ i, i < len → ∃ a1 b1 c1 : Int, W.cells? base (a.add (i * 3)) 3 = some [.int .i64 a1, .int .i64 b1, .int .i64 c1] := by
        intro i hi
        obtain ⟨cs', h1, h2⟩ := hx i (by omega)
        rw [cells36] at h1
        obtain ⟨a1, b1, c1, rfl⟩ := ty_cells h2
        exact ⟨a1, b1, c1, h1⟩
      have hspot : a.spot = none ∧ a.block < W.heap.size := by
        obtain ⟨a1, b1, c1, h1⟩ := each 0 hpos
        have h2 := World.cells?_block h1 (by omega)
        have h3 := (World.cells?_some h1).2.2 0 (by omega)
        refine ⟨?_, by rwa [block_add] at h2⟩
        simpa [Addr.add] using World.cell?_spot h3
      obtain ⟨b, off, s⟩ := a
      obtain ⟨rfl, hbW⟩ := hspot
      have cell : ∀ i, i < len → ∃ t : Ty, W.cell? ⟨b, off + i * 3, none⟩ = some (.int .i64 t.1) ∧ W.cell? ⟨b, off + i * 3 + 1, none⟩ = some (.int .i64 t.2.1) ∧ W.cell? ⟨b, off + i * 3 + 2, none⟩ = some (.int .i64 t.2.2) := by
        intro i hi
        obtain ⟨a1, b1, c1, h1⟩ := each i hi
        obtain ⟨_, _, hcell⟩ := World.cells?_some h1
        have g0 := hcell 0 (by omega)
        have g1 := hcell 1 (by omega)
        have g2 := hcell 2 (by omega)
        rw [Deep.add_add, WideShapes.add_plain] at g0 g1 g2
        exact ⟨(a1, b1, c1), g0, g1, g2⟩
      have mk : ∀ n, n ≤ len → ∃ ts : List Ty, ts.length = n ∧ ∀ (j : Nat) (t : Ty), ts[j]? = some t → W.cell? ⟨b, off + j * 3, none⟩ = some (.int .i64 t.1) ∧ W.cell? ⟨b, off + j * 3 + 1, none⟩ = some (.int .i64 t.2.1) ∧ W.cell? ⟨b, off + j * 3 + 2, none⟩ = some (.int .i64 t.2.2) := by
        intro n
        induction n with
        | zero => exact fun _ => ⟨[], rfl, fun j t h => by simp at h⟩
        | succ n ih =>
          intro hn
          obtain ⟨ts, h1, h2⟩ := ih (by omega)
          obtain ⟨t, ht⟩ := cell n (by omega)
          refine ⟨ts ++ [t], by simp [h1], fun j u hu => ?_⟩
          rcases Nat.lt_or_ge j ts.length with hj | hj
          · rw [List.getElem?_append_left hj] at hu
            exact h2 j u hu
          · rw [List.getElem?_append_right hj] at hu
            have hz : j - ts.length = 0 := by
              have := (List.getElem?_eq_some_iff.1 hu).1
              simp at this
              omega
            rw [hz] at hu
            simp at hu
            subst hu
            rw [show j = n by omega]
            exact ht
      obtain ⟨ts, h1, h2⟩ := mk len (Nat.le_refl _)
      exact ⟨ts, some ⟨b, off, none⟩, cap, by rw [h1]; exact h0, fun _ => ⟨b, off, rfl, hbW, h2⟩⟩
end
end Go.Proofs.YtfcglnmfcniojaaGreatDoor

namespace Go.Proofs.YtfcglnmfcniojaaGreatDoor
open Go.ChangeShapes Go.WideShapes Go.ChangeAt Go.RowKit Go.Joins
open Go.ChangeMaps (open_string shut_string)
set_option maxRecDepth 100000

theorem laid_drop {P : Program} {x : String × DataW Unit} {r : List (String × DataW Unit)} {W : World} (h : laidMet P (x :: r) W) : laidMet P r W := by
  obtain ⟨ps, ⟨g0, t0, cs0, f0, p0, q0, _, _, _, _, hl, e0⟩, hnd, hrows⟩ := h
  subst e0
  exact ⟨q0, hl, (List.nodup_append.1 hnd).2.1, fun g i hm => hrows g i (List.mem_append.2 (.inr hm))⟩

theorem sentinel_cell {P : Program} {n nm : String} {d : DataW Unit} {r : List (String × DataW Unit)} {W : World} {g : Nat} {ti : TypeId} {ms : Array (String × TypeId)} (h : laidMet P ((n, .iface nm d) :: r) W)
    (hg : P.globalNamed n = some g) (ht : (P.globals[g]?).map (·.type) = some ti) (hi : P.underlying ti = some (.interface ms)) : ∃ te pe, W.cell? ⟨g, 0, none⟩ = some (.iface te pe) := by
  obtain ⟨ps, ⟨g0, t0, cs0, f0, p0, q0, hg0, ht0, hv0, hd0, _, e0⟩, _, _⟩ := h
  obtain rfl := Option.some.inj (hg.symm.trans hg0)
  obtain rfl := Option.some.inj (ht.symm.trans ht0)
  obtain ⟨l0⟩ := cs0
  obtain ⟨f1, u, v, e, _⟩ := iface_of_trod hi hd0
  simp only at e
  subst e
  exact ⟨u, v, by simpa using World.var?_cell hg0 hv0 0⟩

theorem gl_of {W : World} (hL : laidMetH Tryz.prog Rows.argsBackRow.laid W) (hs : W.ShapedOpen Tryz.prog) : Gl W := by
  refine ⟨gl_of_laid hL, ?_, ?_, ?_⟩
  · obtain ⟨cs, hh, _⟩ := hs.1 9 (Array.replicate 64 (.int .u8 0)) 390 (of_decide_eq_true (by kernel_rfl)) (by kernel_rfl)
    exact (Array.getElem?_eq_some_iff.1 hh).1
  · exact cell_of_shapedOpen_int (zero := #[.int .i64 0]) (t := 3) hs (of_decide_eq_true (by kernel_rfl)) (by kernel_rfl) rfl (by kernel_rfl) (by kernel_rfl) Tryz.underlying3
  · have hL' : laidMet Tryz.prog Rows.argsBackRow.laid W := hL
    obtain ⟨te, pe, h⟩ := sentinel_cell (laid_drop (laid_drop (laid_drop (laid_drop (laid_drop hL'))))) (g := 2) (by kernel_rfl) (by kernel_rfl) Tryz.underlying132
    exact ⟨_, h, .inr ⟨te, pe, rfl⟩⟩

/-- WHAT THE BOUND GIVES: the text's length. -/
theorem short_text {H : Type} {d : DataW H} {s : ByteArray} (hk : Rows.uptoSmall H ([d, .lit (.string s.data.toList)] ++ []) = true) : s.size ≤ 1048576 := by
  have h : Rows.uptoBulkAll ([d, .lit (.string s.data.toList)] ++ []) ≤ 1048576 := of_decide_eq_true hk
  simp only [List.append_nil, Rows.uptoBulkAll, Rows.uptoBulk] at h
  have e : s.data.toList.length = s.size := by rw [Array.length_toList]; rfl
  omega

theorem contract (H : Type) (enc : TypeId × Value → H) (W : World) (base : Nat) (args : Array Value) (ds gs : List (DataW H)) (before : List MemPlace)
    (hval : ∀ (j : Nat) t v, Tryz.f6.params[j]? = some t → args[j]? = some v → Value.okWide Tryz.prog W .any base t v)
    (hW : DataW.Whole enc Tryz.prog Tryz.f6.params.toList Rows.argsBackSpec.vars false W args.toList ds gs before) (hg : Gl W) (hk : Rows.uptoSmall H (ds ++ gs) = true) :
    Calls Tryz.prog 6 args W fun e W' => ∃ v, e = .returned v ∧ Rows.argsBackSpec.post enc Tryz.prog Tryz.f6 false true false false W args v W' := by
  have hW' := hW
  obtain ⟨p, q, hA0, hV, rfl, hfz, hnd⟩ := hW
  have hA : DataW.TrodAll enc Tryz.prog W 0 (fun _ => true) true Tryz.f6.params.toList args.toList ds p := hA0
  rw [Tryz.params6] at hA hval
  obtain ⟨v0, vs0, d0, ds0, p0, q0, hargs, rfl, rfl, h0, r0⟩ := trodAll_cons hA
  obtain ⟨v1, vs1, d1, ds1, p1, q1, rfl, rfl, rfl, h1, r1⟩ := trodAll_cons r0
  obtain ⟨rfl, rfl, rfl⟩ := trodAll_nil r1
  obtain rfl : args = #[v0, v1] := by cases args; simp_all
  obtain ⟨rfl, rfl⟩ := trodVars_none hV
  have lt0 : ∀ x ∈ p0, x.block < W.heap.size := by obtain ⟨m, hm⟩ := h0; exact DataW.trod_lt m _ _ _ hm
  have lt1 : ∀ x ∈ p1, x.block < W.heap.size := by obtain ⟨m, hm⟩ := h1; exact DataW.trod_lt m _ _ _ hm
  obtain ⟨ts, hts⟩ : ∃ ts, TysOf W v0 ts := by
    obtain ⟨a, l, c, rfl⟩ := okWide_slice Tryz.underlying24 (hval 0 24 v0 rfl rfl)
    obtain ⟨m, hm⟩ := h0
    exact list_tys hm
  have h1' := h1
  obtain ⟨s, rfl, rfl, hp1, hmax⟩ := open_string Tryz.underlying9 (hval 1 9 v1 rfl rfl) h1
  have hs := short_text hk
  clear hA0
  refine (back_any v0 ts s (by omega) W hg hts).mono fun e W' ⟨he, bel⟩ => ?_
  subst he
  exact ⟨_, rfl, _, _, _, [], _, [], hW', trodAll_mk1 (shut_bool Tryz.underlying4 _),
    trodAll_cons_mk (Below.trod laidOut (by kernel_rfl) (of_decide_eq_true (by kernel_rfl)) h0 bel lt0) (trodAll_cons_mk (Below.trod laidOut (by kernel_rfl) (of_decide_eq_true (by kernel_rfl)) h1' bel lt1) trodAll_mk0),
    rfl, bel.frame _, fun h => by cases h⟩
end Go.Proofs.YtfcglnmfcniojaaGreatDoor
