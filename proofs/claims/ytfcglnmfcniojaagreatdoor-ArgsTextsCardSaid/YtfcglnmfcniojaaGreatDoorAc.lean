/- What valid, text, need and the deferred function caught do. Conditions: none. -/
import Derived.Test.YtfcglnmfcniojaaGreatDoorRows
import Derived.KernelRfl
import Derived.WalkKit
import Derived.Test.YtfcglnmfcniojaaGreatDoorAb
import Derived.Test.YtfcglnmfcniojaaGreatDoorAa
import Derived.WalkLawsBesides
set_option linter.all false
namespace Go.Proofs.YtfcglnmfcniojaaGreatDoor
open Go.Eng Go.RowKit
set_option maxRecDepth 1000000

/-- The package-level variable that the examples read, as it was laid. -/
def Gl0 (w : World) : Prop :=
  ∃ (arr : Array Value) (e : TypeId) (lohi : Nat × Nat), w.heap[0]? = some (.cells arr e lohi) ∧ Rl lenL arr.toList

theorem gl_of_laid {W : World} (h : laidMetH Tryz.prog Rows.argsBackRow.laid W) : Gl0 W := by
  obtain ⟨ps, hl, _⟩ : laidMet Tryz.prog Rows.argsBackRow.laid W := h
  exact laid_at (name := "soroban/args.lengths") hl (.tail _ (.tail _ (.tail _ (.tail _ (.tail _ (.tail _ (.tail _ (.head _)))))))) (by kernel_rfl) (by kernel_rfl) lenL_some

/-- What is known of the package-level variables: that one; MaxLen holds an int; ErrSyntax an error or nil. -/
structure Gl (w : World) : Prop where
  g0 : Gl0 w
  sz : 10 ≤ w.heap.size
  g1 : ∃ m, w.cell? ⟨1, 0, none⟩ = some (.int .i64 m)
  g2 : ∃ ev, w.cell? ⟨2, 0, none⟩ = some ev ∧ (ev = .nilIface ∨ ∃ te pe, ev = .iface te pe)

theorem Gl.below {w w' : World} (h : Gl w) {B : Nat} (hb : Below B w w') (hB : 10 ≤ B) : Gl w' := by
  obtain ⟨⟨a, e, l, h1, h2⟩, h3, ⟨m, h4⟩, ev, h5, h6⟩ := h
  exact ⟨⟨a, e, l, by rw [hb.block 0 (by omega)]; exact h1, h2⟩, Nat.le_trans h3 hb.size, ⟨m, (hb.cell (p := ⟨1, 0, none⟩) (by simp; omega)).trans h4⟩, ev, (hb.cell (p := ⟨2, 0, none⟩) (by simp; omega)).trans h5, h6⟩
theorem Gl.since {w w' : World} (h : Gl w) (hb : Below w.heap.size w w') : Gl w' := h.below hb h.sz
theorem Gl.alloc {w : World} (h : Gl w) (o : Obj) : Gl (w.alloc o) := h.since ((Below.refl _ _).alloc (Nat.le_refl _) _)
theorem step {w a b : World} (h : Below w.heap.size w a) (k : Below a.heap.size a b) : Below w.heap.size w b := h.trans (k.mono h.size)

theorem Gl.rel {w : World} (h : Gl w) : ∃ e0, WRel Tryz.prog (globEmb Tryz.prog) (G0 e0) w := by
  obtain ⟨a0, e0, l0, h1, h2⟩ := h.g0
  refine ⟨e0, wrel_globals (by kernel_rfl) fun g blk hg e => ?_⟩
  have get : ∀ b, (G0 e0).get b = if b = 0 then some (.cells lenL e0 .sh) else none := by
    intro b
    show Tr.get (path b) (Tr.put (path 0) _ .leaf) = _
    by_cases h0 : b = 0
    · subst h0; rw [Go.Eng.Tr.get_put_self]; simp
    · rw [Go.Eng.Tr.get_put_ne _ _ _ _ (path_ne h0), if_neg h0, Go.Eng.Tr.get_leaf]
  rw [get] at e
  split at e
  · rename_i hg0
    subst hg0
    cases e
    exact ⟨_, _, rfl, a0, l0, h1, fun i v hv => by simpa using h2 i v hv⟩
  · cases e

theorem sane_any (w : World) (h : Gl w) : Calls Tryz.prog 7 #[] w fun e w' => e = .returned (.bool true) ∧ Below w.heap.size w w' := by
  obtain ⟨e0, hw⟩ := h.rel
  obtain ⟨H', ht, hl⟩ := run_ret e0
  refine (top_below fits (f := 7) (args' := #[]) hw .nil ht hl).mono fun e w' ⟨x, ρ', hx, he, _, hb⟩ => ?_
  cases hx
  exact ⟨he, hb⟩

/-- A closed call. -/
theorem closed {f : FuncId} {args : List AVal} {args' : Array Value} {n : Nat} {v : AVal} {y : Value} (w : World) (h : Gl w) (ha : ∀ ρ, VRels ρ args args'.toList)
    (hr : ∀ e0, outOf 10 (topF Tryz.prog (cfun Tryz.prog f) args (G0 e0) (tabF Tryz.prog n)) = some (v, true)) (hv : toVal v = some y) :
    Calls Tryz.prog f args' w fun e w' => e = .returned y ∧ Below w.heap.size w w' := by
  obtain ⟨e0, hw⟩ := h.rel
  exact call_plain fits hw (ha _) (hr e0) hv
end Go.Proofs.YtfcglnmfcniojaaGreatDoor

namespace Go.Proofs.YtfcglnmfcniojaaGreatDoor
open Go.Eng Go.RowKit
set_option maxRecDepth 1000000

noncomputable abbrev tyA (t : Ty) : AVal := .agg [.int .i64 t.1, .int .i64 t.2.1, .int .i64 t.2.2]
abbrev tyV (t : Ty) : Value := .agg #[.int .i64 t.1, .int .i64 t.2.1, .int .i64 t.2.2]
theorem tyA_rel (ρ : Emb) (t : Ty) : VRel ρ (tyA t) (tyV t) := .agg (.cons (.int _ _) (.cons (.int _ _) (.cons (.int _ _) .nil)))

theorem text_runs (e0 : TypeId) : tyTab.map (fun p => outOf 10 (topF Tryz.prog (cfun Tryz.prog 39) [tyA p.1] (G0 e0) (tabF Tryz.prog 60))) = tyTab.map (fun p => some (.str p.2, true)) := by kernel_rfl
theorem rtext_runs (e0 : TypeId) : tyTab.map (fun p => outOf 10 (topF Tryz.prog (cfun Tryz.prog 42) [tyA p.1] (G0 e0) (tabF Tryz.prog 60))) = tyTab.map (fun p => some (.str p.2, true)) := by kernel_rfl

theorem toValS (s : List UInt8) : toVal (.str s) = some (.string ⟨⟨s⟩⟩) := rfl
theorem text_run (t : Ty) (h : vT t = true) (e0 : TypeId) : outOf 10 (topF Tryz.prog (cfun Tryz.prog 39) [tyA t] (G0 e0) (tabF Tryz.prog 60)) = some (.str (tx t), true) := by
  have := List.map_inj_left.1 (text_runs e0) (t, tx t) (vT_mem t h)
  exact this
theorem rtext_run (t : Ty) (h : vT t = true) (e0 : TypeId) : outOf 10 (topF Tryz.prog (cfun Tryz.prog 42) [tyA t] (G0 e0) (tabF Tryz.prog 60)) = some (.str (tx t), true) := by
  have := List.map_inj_left.1 (rtext_runs e0) (t, tx t) (vT_mem t h)
  exact this

/-- The text of a valid type. -/
theorem text_any (t : Ty) (h : vT t = true) (w : World) (hg : Gl w) : Calls Tryz.prog 39 #[tyV t] w fun e w' => e = .returned (.string ⟨⟨tx t⟩⟩) ∧ Below w.heap.size w w' :=
  closed (args := [tyA t]) (v := .str (tx t)) w hg (fun ρ => .cons (tyA_rel ρ t) .nil) (text_run t h) (toValS _)
theorem rtext_any (t : Ty) (h : vT t = true) (w : World) (hg : Gl w) : Calls Tryz.prog 42 #[tyV t] w fun e w' => e = .returned (.string ⟨⟨tx t⟩⟩) ∧ Below w.heap.size w w' :=
  closed (args := [tyA t]) (v := .str (tx t)) w hg (fun ρ => .cons (tyA_rel ρ t) .nil) (rtext_run t h) (toValS _)
end Go.Proofs.YtfcglnmfcniojaaGreatDoor

namespace Go.Proofs.YtfcglnmfcniojaaGreatDoor
open Go.Eng Go.RowKit
set_option maxRecDepth 1000000

theorem ret_bool {x y : Bool} (h : x = true ↔ y = true) : Ending.returned (.bool x) = Ending.returned (.bool y) := by
  rw [Bool.eq_iff_iff.2 h]

set_option maxHeartbeats 4000000 in
theorem valid_any (k b f : Int) (w : World) : Calls Tryz.prog 38 #[tyV (k, b, f)] w fun e w' => e = .returned (.bool (vT (k, b, f))) ∧ Below w.heap.size w w' := by
  go_enter Tryz.func38, Tryz.ntmps38
  go_wp2
  all_goals
    go_ret
    refine ⟨ret_bool ?_, (Below.refl _ _).alloc (Nat.le_refl _) _⟩
    simp only [beq_iff_eq, Bool.not_eq_true, beq_eq_false_iff_ne, ne_eq, vT, decide_eq_true_eq] at *
    try simp
    try omega
end Go.Proofs.YtfcglnmfcniojaaGreatDoor

namespace Go.Proofs.YtfcglnmfcniojaaGreatDoor
open Go.Eng Go.RowKit
set_option maxRecDepth 1000000

/-- What need panics with. -/
abbrev failV (e : Int) : Value := .iface 76 (.agg #[.int .i64 e, .int .i64 0])

theorem need_ok (e : Int) (w : World) : Calls Tryz.prog 37 #[.bool true, .int .i64 e] w fun r w' => r = .returned (.tuple #[]) ∧ w' = w := by
  go_enter Tryz.func37, Tryz.ntmps37
  go_wp2
  go_end0
  exact ⟨rfl, rfl⟩
theorem need_no (e : Int) (w : World) : Calls Tryz.prog 37 #[.bool false, .int .i64 e] w fun r w' => r = .panicked [{ v := failV e, recovered := false }] ∧ w' = w := by
  go_enter Tryz.func37, Tryz.ntmps37
  go_wp2
  exact ⟨rfl, rfl, rfl⟩
end Go.Proofs.YtfcglnmfcniojaaGreatDoor

namespace Go.Proofs.YtfcglnmfcniojaaGreatDoor
open Go.Eng Go.RowKit
set_option maxRecDepth 1000000

theorem soundF (n : Nat) : Sound Tryz.prog (tabF Tryz.prog n) := by rw [tabF_eq]; exact sound fits n

/-- A box that holds an error. -/
noncomputable def boxA (e : Int) : ABlk := .cells [.int .i64 e] 25 .rw
noncomputable def failA (e : Int) : AVal := .iface 76 (.agg [.int .i64 e, .int .i64 0])
noncomputable def GB (e0 : TypeId) (e : Int) : AHeap := (G0 e0).new (boxA e)

/-- A deferred call: how the frame below is left, and what the box holds. -/
noncomputable def dOut (n : Nat) : DR → Option (AMode × Option AVal × Bool)
  | .ret u H' => some (u, H'.cellAt 10 0, Nat.ble n H'.low)
  | _ => none

theorem caught_pan (e0 : TypeId) (e : Int) : dOut 10 (dcallE Tryz.prog (cfun Tryz.prog 35) [.ptr 10 0] (.pan [⟨failA e, false⟩]) (GB e0 0) (tab Tryz.prog 20)) = some (.pan [⟨failA e, true⟩], some (.int .i64 e), true) := by kernel_rfl
theorem caught_ret (e0 : TypeId) : dOut 10 (dcallE Tryz.prog (cfun Tryz.prog 35) [.ptr 10 0] .ret (GB e0 0) (tab Tryz.prog 20)) = some (.ret, some (.int .i64 0), true) := by kernel_rfl

/-- The box of an error, as it lies in memory. -/
def Box (w : World) (B : Nat) (e : Int) : Prop := 10 ≤ B ∧ w.heap[B]? = some (.cells #[.int .i64 e] 25 (0, 0))

theorem G0_get (e0 : TypeId) (b : Nat) : (G0 e0).get b = if b = 0 then some (.cells lenL e0 .sh) else none := by
  show Tr.get (path b) (Tr.put (path 0) _ .leaf) = _
  by_cases h0 : b = 0
  · subst h0; rw [Go.Eng.Tr.get_put_self]; simp
  · rw [Go.Eng.Tr.get_put_ne _ _ _ _ (path_ne h0), if_neg h0, Go.Eng.Tr.get_leaf]

theorem box_rel {w : World} (hg : Gl w) {B : Nat} {e : Int} (hb : Box w B e) : ∃ e0 ρ, WRel Tryz.prog ρ (GB e0 e) w ∧ ρ 10 = some ⟨B, 0, 1⟩ ∧ ∀ b p, b < 10 → ρ b = some p → p.r = b := by
  obtain ⟨e0, hw⟩ := hg.rel
  have hgl : ∀ b q, globEmb Tryz.prog b = some q → q.r = b ∧ b < 10 := by
    intro b q h
    unfold globEmb at h
    split at h
    · rename_i hlt
      cases h
      exact ⟨rfl, Nat.lt_of_lt_of_eq hlt (by kernel_rfl)⟩
    · cases h
  refine ⟨e0, fun b => if b = 10 then some ⟨B, 0, 1⟩ else globEmb Tryz.prog b, wrel_add (H := G0 e0) (x := boxA e) (p := ⟨B, 0, 1⟩) hw rfl hb.2 (.cells rfl (fun j v hj => ?_) (fun _ => ⟨by simp, by simp, fun k _ h => by omega⟩)) ?_, by simp, ?_⟩
  · rcases j with _ | j
    · simp only [List.getElem?_cons_zero, Option.some.injEq] at hj
      subst hj
      exact ⟨_, rfl, .int _ _⟩
    · simp at hj
  · intro b q y h hg
    have := hgl b q h
    have := hb.1
    show q.r ≠ B
    omega
  · intro b p hlt h
    simp only [show b ≠ 10 by omega, if_false] at h
    exact (hgl b p h).1

theorem dOut_ret {n : Nat} {r : DR} {u : AMode} {v : Option AVal} (h : dOut n r = some (u, v, true)) : ∃ H', r = .ret u H' ∧ H'.cellAt 10 0 = v ∧ n ≤ H'.low := by
  cases r <;> simp only [dOut, reduceCtorEq, Option.some.injEq, Prod.mk.injEq] at h
  obtain ⟨rfl, h2, h3⟩ := h
  exact ⟨_, rfl, h2, Nat.le_of_ble_eq_true h3⟩

theorem cell_of {ρ : Emb} {H : AHeap} {w : World} (hw : WRel Tryz.prog ρ H w) {B : Nat} {e : Int} (hp : ρ 10 = some ⟨B, 0, 1⟩) (h : H.cellAt 10 0 = some (.int .i64 e)) : w.cell? ⟨B, 0, none⟩ = some (.int .i64 e) := by
  unfold AHeap.cellAt at h
  split at h
  · rename_i cs t wr hg
    obtain ⟨o, ho, hB⟩ := hw.blk hg hp
    cases hB with
    | cells hd hc _ =>
      rename_i arr lo hi
      have h' : cs[0]? = some (AVal.int .i64 e) := by
        cases cs with
        | nil => cases h
        | cons a l => exact h
      obtain ⟨x, h1, h2⟩ := hc 0 _ h'
      cases h2
      simp only [World.cell?, ho]
      simpa using h1
  · cases h

/-- Of what was there nothing but one block has turned. -/
structure Beside (B : Nat) (w w' : World) : Prop where
  below : Below B w w'
  rest : ∀ r, r < w.heap.size → r ≠ B → w'.heap[r]? = w.heap[r]?

/-- Behind a deferred call nothing but the box has turned. -/
theorem below_box {ρ ρ' : Emb} {e0 : TypeId} {e : Int} {H' : AHeap} {w w' : World} {B : Nat} (hst : Stp Tryz.prog ρ (GB e0 e) w ρ' H' w') (hl : 10 ≤ H'.low) (hp : ρ 10 = some ⟨B, 0, 1⟩) (hr : ∀ b p, b < 10 → ρ b = some p → p.r = b) (hB : 10 ≤ B) (hw : WRel Tryz.prog ρ (GB e0 e) w) :
    Beside B w w' := by
  have key : ∀ r, r < w.heap.size → r ≠ B → w'.heap[r]? = w.heap[r]? := fun r hlt hne => by
    refine hst.frame r hlt fun b p hown hbp hpr => ?_
    have hb : b < 11 := hw.lt hbp
    by_cases h10 : b = 10
    · subst h10
      rw [hp] at hbp
      cases hbp
      exact absurd hpr.symm hne
    · omega
  refine ⟨⟨hst.os, hst.tape, hst.output, hst.size, fun r hr' => ?_⟩, key⟩
  by_cases hlt : r < w.heap.size
  · exact key r hlt (by omega)
  · obtain ⟨o, ho, _⟩ := hw.blk (b := 10) (x := boxA e) (by show AHeap.get _ _ = _; unfold GB; rw [AHeap.get_new]; rfl) hp
    have : B < w.heap.size := (Array.getElem?_eq_some_iff.1 ho).1
    omega

theorem caught_panic (w : World) (hg : Gl w) (B : Nat) (hb : Box w B 0) (e : Int) :
    CallsD Tryz.prog 35 #[.pointer (some ⟨B, 0, none⟩)] (.panicking [{ v := failV e, recovered := false }]) w fun r m' w' =>
      (∃ x, r = .returned x) ∧ m' = .panicking [{ v := failV e, recovered := true }] ∧ w'.cell? ⟨B, 0, none⟩ = some (.int .i64 e) ∧ Beside B w w' := by
  obtain ⟨e0, ρ, hw, hp, hr⟩ := box_rel hg hb
  obtain ⟨H', h1, h2, h3⟩ := dOut_ret (caught_pan e0 e)
  have hS : Sound Tryz.prog (Go.Eng.tab Tryz.prog 20) := sound fits 20
  have hv : VRel ρ (failA e) (failV e) := .iface _ (.agg (.cons (.int _ _) (.cons (.int _ _) .nil)))
  have key := dcall_callsD fits hS (f := 35) (args := [.ptr 10 0]) (args' := #[.pointer (some ⟨B, 0, none⟩)]) (m := .panicking [{ v := failV e, recovered := false }]) hw (.cons (.ptr hp) .nil) (.pan (.cons hv .nil)) h1
  intro c cs hm
  obtain ⟨r, m', w', fr, ⟨hx, ρ', hm', hst⟩, h⟩ := key c cs hm
  refine ⟨r, m', w', fr, ⟨hx, ?_, ?_, ?_⟩, h⟩
  · cases hm' with
    | pan hs =>
      cases hs with
      | cons hv' hs' =>
        cases hs'
        cases hv' with
        | iface _ hv' =>
          cases hv' with
          | agg hv' =>
            cases hv' with
            | cons h1 h2 =>
              cases h1
              cases h2 with
              | cons h1 h2 =>
                cases h1
                cases h2
                rfl
  · exact cell_of hst.wrel ((hst.ext 10 (by show 10 < 11; omega)).trans hp) h2
  · exact below_box hst h3 hp hr hb.1 hw

theorem caught_none (w : World) (hg : Gl w) (B : Nat) (hb : Box w B 0) :
    CallsD Tryz.prog 35 #[.pointer (some ⟨B, 0, none⟩)] .returning w fun r m' w' =>
      (∃ x, r = .returned x) ∧ m' = .returning ∧ w'.cell? ⟨B, 0, none⟩ = some (.int .i64 0) ∧ Beside B w w' := by
  obtain ⟨e0, ρ, hw, hp, hr⟩ := box_rel hg hb
  obtain ⟨H', h1, h2, h3⟩ := dOut_ret (caught_ret e0)
  have hS : Sound Tryz.prog (Go.Eng.tab Tryz.prog 20) := sound fits 20
  have key := dcall_callsD fits hS (f := 35) (args := [.ptr 10 0]) (args' := #[.pointer (some ⟨B, 0, none⟩)]) (m := .returning) hw (.cons (.ptr hp) .nil) .ret h1
  intro c cs hm
  obtain ⟨r, m', w', fr, ⟨hx, ρ', hm', hst⟩, h⟩ := key c cs hm
  refine ⟨r, m', w', fr, ⟨hx, ?_, ?_, ?_⟩, h⟩
  · cases hm'
    rfl
  · exact cell_of hst.wrel ((hst.ext 10 (by show 10 < 11; omega)).trans hp) h2
  · exact below_box hst h3 hp hr hb.1 hw
end Go.Proofs.YtfcglnmfcniojaaGreatDoor
