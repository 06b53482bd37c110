/- What the reference's Parse returns, whatever the text of at most 600 bytes. Conditions: none. -/
import Derived.Test.YtfcglnmfcniojaaGreatDoorTb
import Derived.Deep.RegionHeld3
import Derived.Deep.AppendLies
import Derived.BigQuiet
import Derived.Deep.QuietTactic
set_option linter.all false
namespace Go.Proofs.YtfcglnmfcniojaaGreatDoor
open Go.Eng Go.RowKit
set_option maxRecDepth 1000000

/-- While the reference's Parse goes: the box of what it returns, the types that lie there, the types' table. -/
structure Oq (w : World) (O B b : Nat) (Q : List Ty) (v : Value) (W : World) : Prop where
  box : W.heap[O]? = some (.cells #[v, .int .i64 0] 45 (0, 0))
  own : W.ownsRow B 36 3 v Q.length (tcs Q)
  bel : Below O w W
  ty : TyAt W (some ⟨b, 0, none⟩) TL
  hb : b < B ∧ b ≠ O ∧ O < B
  hB : B ≤ W.heap.size

theorem Oq.lt {w : World} {O B b : Nat} {Q : List Ty} {v : Value} {W : World} (h : Oq w O B b Q v W) : O < W.heap.size := (Array.getElem?_eq_some_iff.1 h.box).1
theorem Oq.step {w : World} {O B b : Nat} {Q : List Ty} {v : Value} {W W' : World} (h : Oq w O B b Q v W) (hb : Below W.heap.size W W') : Oq w O B b Q v W' :=
  ⟨(hb.block O h.lt).trans h.box, own_keep h.own hb, h.bel.trans (hb.mono (Nat.le_of_lt h.lt)), h.ty.since hb (Nat.le_refl _), h.hb, Nat.le_trans h.hB hb.size⟩
theorem Oq.drew {w : World} {O B b : Nat} {Q : List Ty} {v : Value} {W : World} (h : Oq w O B b Q v W) : Oq w O B b Q v W.drew := h.step (Below.refl _ _).drew
theorem Oq.cells {w : World} {O B b : Nat} {Q : List Ty} {v : Value} {W : World} (h : Oq w O B b Q v W) :
    W.cell? ⟨O, 0, none⟩ = some v ∧ W.cell? ⟨O, 1, none⟩ = some (.int .i64 0) ∧ W.frozen? ⟨O, 0, none⟩ = false ∧ W.frozen? ⟨O, 1, none⟩ = false := by
  have e := h.box
  refine ⟨?_, ?_, ?_, ?_⟩
  all_goals first
    | (simp only [World.cell?, e]; rfl)
    | (simp only [World.frozen?, e]; rfl)
theorem Oq.form {w : World} {O B b : Nat} {Q : List Ty} {v : Value} {W : World} (h : Oq w O B b Q v W) : ∃ a c, v = .slice a Q.length c := by
  obtain ⟨_, ⟨e, h0⟩ | ⟨g, cap, cur, e, _⟩⟩ := h.own
  · exact ⟨none, 0, by rw [e, h0]⟩
  · exact ⟨_, _, e⟩
theorem Oq.type {w : World} {O B b : Nat} {Q : List Ty} {v : Value} {W : World} (h : Oq w O B b Q v W) {k : Nat} {K Bt F : Int} (ht : TL[k]? = some (K, Bt, F)) :
    W.cell? ⟨b, k * 3, none⟩ = some (.int .i64 K) ∧ W.cell? ⟨b, k * 3 + 1, none⟩ = some (.int .i64 Bt) ∧ W.cell? ⟨b, k * 3 + 2, none⟩ = some (.int .i64 F) := by
  obtain ⟨g, o, e, _, hc⟩ := h.ty (fun e => by rw [e] at ht; cases ht)
  cases e
  have := hc k _ ht
  rwa [Nat.zero_add] at this
theorem Oq.push {w : World} {O B b : Nat} {Q : List Ty} {v : Value} {W : World} (h : Oq w O B b Q v W) {W1 W2 : World} {v' : Value} {t : Ty} (h1 : Below W.heap.size W W1)
    (hown : W2.ownsRow B 36 3 v' (Q.length + 1) (tcs Q ++ [.int .i64 t.1, .int .i64 t.2.1, .int .i64 t.2.2])) (hg : W1.grownBy W2 v.ownBlock) : Oq w O B b (Q ++ [t]) v' (W2.setCell ⟨O, 0, none⟩ v') := by
  have h2 := h.step h1
  have far : ∀ k, k < B → some k ≠ v.ownBlock := fun k hk e => by have := (h2.own.lt k e.symm).1; omega
  obtain ⟨hb1, hb2, hb3⟩ := h.hb
  have e1 : W2.heap[O]? = some (.cells #[v, .int .i64 0] 45 (0, 0)) := (hg.block O h2.lt (far O hb3)).trans h2.box
  have hset : ∀ k, k ≠ O → (W2.setCell ⟨O, 0, none⟩ v').heap[k]? = W2.heap[k]? := fun k hk => by
    simp only [World.setCell, Array.getElem?_modify]
    rw [if_neg (fun e => hk e.symm)]
  have hsz : (W2.setCell ⟨O, 0, none⟩ v').heap.size = W2.heap.size := by simp [World.setCell]
  refine ⟨?_, ?_, ?_, ?_, h.hb, ?_⟩
  · simp only [World.setCell, Array.getElem?_modify, e1]
    rfl
  · rw [List.length_append, tcs_app]
    refine hown.kept (row := some O) ⟨rfl, rfl, rfl, by rw [hsz]; exact Nat.le_refl _, fun k _ hk => hset k (fun e => hk (by rw [e]))⟩ ?_
    cases e : v'.ownBlock with
    | none => exact .inl rfl
    | some g => exact .inr (fun e' => by cases e'; have := (hown.lt O e).1; omega)
  · have hb2' : Below O w W2 := ⟨hg.os.trans h2.bel.os, hg.tape.trans h2.bel.tape, hg.output.trans h2.bel.output, Nat.le_trans h2.bel.size hg.size, fun k hk => (hg.block k (Nat.lt_trans hk h2.lt) (far k (by omega))).trans (h2.bel.block k hk)⟩
    exact hb2'.setCell (p := ⟨O, 0, none⟩) (Nat.le_refl _) _
  · intro hne
    obtain ⟨g, o, e, hlt, hc⟩ := h2.ty hne
    cases e
    have hbl : (W2.setCell ⟨O, 0, none⟩ v').heap[b]? = W1.heap[b]? := (hset b hb2).trans (hg.block b hlt (far b hb1))
    refine ⟨b, 0, rfl, by rw [hsz]; exact Nat.lt_of_lt_of_le hlt hg.size, fun j t ht => ?_⟩
    have hcell : ∀ o, (W2.setCell ⟨O, 0, none⟩ v').cell? ⟨b, o, none⟩ = W1.cell? ⟨b, o, none⟩ := fun o => World.cell?_of_block hbl
    rw [hcell, hcell, hcell]
    exact hc j t ht
  · rw [hsz]; exact Nat.le_trans h2.hB hg.size

theorem tl_filter_some {u : List UInt8} {t : Ty} (h : ty u = some t) : TL.filter (fun t => tx t == u) = [t] := by
  have : ∀ p ∈ tyTab, (tyTab.map Prod.fst).filter (fun t => tx t == p.2) = [p.1] := by decide +kernel
  exact this _ (ty_mem h)
theorem tl_filter_none {u : List UInt8} (h : ty u = none) : TL.filter (fun t => tx t == u) = [] := by
  rw [List.filter_eq_nil_iff]
  intro t ht e
  obtain ⟨p, hp, rfl⟩ := List.mem_map.1 ht
  have h1 : tx p.1 = u := by simpa using e
  have := (tab_facts _ hp).2.1
  rw [← (tab_facts _ hp).1, h1, h] at this
  cases this
theorem tl_len : TL.length = 20 := by decide +kernel
theorem tl_all {k : Nat} {t : Ty} (h : TL[k]? = some t) : vT t = true := by
  obtain ⟨p, hp, rfl⟩ := List.mem_map.1 (List.mem_of_getElem? h)
  exact (tab_facts _ hp).2.2.1
/-- The types found behind k of the table. -/
noncomputable def fd (A : List Ty) (u : List UInt8) (k : Nat) : List Ty := A ++ (TL.take k).filter (fun t => tx t == u)
theorem fd_zero (A : List Ty) (u : List UInt8) : fd A u 0 = A := by simp [fd]
theorem fd_yes {A : List Ty} {u : List UInt8} {k : Nat} {t : Ty} (h : TL[k]? = some t) (e : tx t = u) : fd A u (k + 1) = fd A u k ++ [t] := by
  unfold fd
  rw [List.take_add_one, h, List.filter_append]
  simp [e]
theorem fd_no {A : List Ty} {u : List UInt8} {k : Nat} {t : Ty} (h : TL[k]? = some t) (e : tx t ≠ u) : fd A u (k + 1) = fd A u k := by
  unfold fd
  rw [List.take_add_one, h, List.filter_append]
  simp [e]
theorem fd_len (A : List Ty) (u : List UInt8) (k : Nat) : (fd A u k).length ≤ A.length + 20 := by
  unfold fd
  rw [List.length_append]
  have h1 := List.length_filter_le (fun t => tx t == u) (TL.take k)
  have h2 := List.length_take_le' k TL
  rw [tl_len] at h2
  omega
theorem fd_end (A : List Ty) (u : List UInt8) : fd A u 20 = A ++ (match ty u with | some t => [t] | none => []) := by
  unfold fd
  rw [List.take_of_length_le (Nat.le_of_eq tl_len)]
  cases h : ty u with
  | none => rw [tl_filter_none h]
  | some t => rw [tl_filter_some h]
theorem tyK_len (l : List UInt8) (k : Nat) : (tyK l k).length ≤ (wd l).length := by
  unfold tyK
  exact Nat.le_trans (List.length_filterMap_le _ _) (List.length_take_le' _ _)
end Go.Proofs.YtfcglnmfcniojaaGreatDoor

namespace Go.Proofs.YtfcglnmfcniojaaGreatDoor
open Go.Eng Go.RowKit
set_option maxRecDepth 1000000

theorem door18 {tmps : Array Value} {W : World} {R : Ending → World → Prop} {B : Nat} {v : Value} {E : Int} (h2 : tmps[2]? = some (.pointer (some ⟨B, 0, none⟩)))
    (h0 : W.cell? ⟨B, 0, none⟩ = some v) (h1 : W.cell? ⟨B, 1, none⟩ = some (.int .i64 E)) (hR : R (.returned (.agg #[v, .int .i64 E])) W) : bodyPost Tryz.prog Tryz.f18 R .ret { tmps := tmps, defers := [] } W := by
  refine ⟨rfl, _, ?_, hR⟩
  simp [results, Tryz.results18, go_sem, h2, h0, h1]

/-- The words, cell by cell. -/
theorem words_at (s : ByteArray) (hs : s.size ≤ 600) (w : World) :
    Calls Tryz.prog 45 #[.string s] w fun e w' => ∃ g c, ∃ ps : List ByteArray, e = .returned (.slice (some ⟨g, 0, none⟩) ps.length c) ∧ ps.map (·.data.toList) = wd s.data.toList ∧ g < w'.heap.size ∧ (∀ k p, ps[k]? = some p → w'.cell? ⟨g, k, none⟩ = some (.string p)) ∧ Below w.heap.size w w' := by
  refine (words_call s hs w).mono ?_
  rintro e w' ⟨v, ps, rfl, hps, hown, hB⟩
  have hat := fun g c (e : v = .slice (some ⟨g, 0, none⟩) ps.length c) => World.ownsRow.cellAt (e ▸ hown)
  have hn : ps.length ≠ 0 := fun e => by
    have := congrArg List.length hps
    rw [List.length_map, e] at this
    exact wd_ne _ (List.eq_nil_of_length_eq_zero this.symm)
  obtain ⟨_, ⟨_, h0⟩ | ⟨g, cap, cur, e, _, hg, _⟩⟩ := hown
  · exact absurd h0 hn
  · have hc := hat g cap e
    subst e
    refine ⟨g, cap, ps, rfl, hps, (Array.getElem?_eq_some_iff.1 hg).1, fun k p hp => ?_, hB⟩
    have hk : k < ps.length := (List.getElem?_eq_some_iff.1 hp).1
    have := hc k (by simpa using hk)
    rw [this, List.getElem?_map, hp]
    rfl
abbrev rb (w : World) : World := w.alloc (.cells #[.slice none 0 0, .int .i64 0] 45)
theorem rb_size (w : World) : (rb w).heap.size = w.heap.size + 1 := by show (w.heap.push _).size = _; rw [Array.size_push]
theorem rb_cells {w w2 : World} {B : Nat} (hB : Below B (rb w) w2) (hs : w.heap.size < B) :
    w2.cell? ⟨w.heap.size, 0, none⟩ = some (.slice none 0 0) ∧ w2.cell? ⟨w.heap.size, 1, none⟩ = some (.int .i64 0) ∧ w2.frozen? ⟨w.heap.size, 0, none⟩ = false ∧ w2.frozen? ⟨w.heap.size, 1, none⟩ = false := by
  have hr : w2.heap[w.heap.size]? = some (.cells #[.slice none 0 0, .int .i64 0] 45 (0, 0)) := by
    rw [hB.block _ hs]
    show (w.heap.push _)[w.heap.size]? = _
    rw [Array.getElem?_push, if_pos rfl]
  refine ⟨?_, ?_, ?_, ?_⟩
  all_goals first
    | (simp only [World.cell?, hr]; rfl)
    | (simp only [World.frozen?, hr]; rfl)
theorem rb_below (w : World) : Below w.heap.size w (rb w) := (Below.refl _ _).alloc (Nat.le_refl _) _
/-- The box of the result, written. -/
abbrev wr2 (w W : World) (v : Value) (E : Int) : World := (W.setCell ⟨w.heap.size, 0, none⟩ v).setCell ⟨w.heap.size, 1, none⟩ (.int .i64 E)
theorem wr2_below {w W : World} (h : Below w.heap.size w W) (v : Value) (E : Int) : Below w.heap.size w (wr2 w W v E) := (h.setCell (p := ⟨w.heap.size, 0, none⟩) (Nat.le_refl _) _).setCell (p := ⟨w.heap.size, 1, none⟩) (Nat.le_refl _) _
theorem wr2_cells {w W : World} {B : Nat} (hB : Below B (rb w) W) (hs : w.heap.size < B) (v : Value) (E : Int) : (wr2 w W v E).cell? ⟨w.heap.size, 0, none⟩ = some v ∧ (wr2 w W v E).cell? ⟨w.heap.size, 1, none⟩ = some (.int .i64 E) := by
  have hr : W.heap[w.heap.size]? = some (.cells #[.slice none 0 0, .int .i64 0] 45 (0, 0)) := by
    rw [hB.block _ hs]
    show (w.heap.push _)[w.heap.size]? = _
    rw [Array.getElem?_push, if_pos rfl]
  have e : (wr2 w W v E).heap[w.heap.size]? = some (.cells #[v, .int .i64 E] 45 (0, 0)) := by
    simp only [wr2, World.setCell, Array.getElem?_modify, hr]
    rfl
  refine ⟨?_, ?_⟩
  all_goals (simp only [World.cell?, e]; rfl)
theorem wr2_heap {w W : World} (v : Value) (E : Int) (k : Nat) (hk : k ≠ w.heap.size) : (wr2 w W v E).heap[k]? = W.heap[k]? := by
  simp only [wr2, World.setCell, Array.getElem?_modify]
  rw [if_neg (fun e => hk e.symm), if_neg (fun e => hk e.symm)]

set_option maxHeartbeats 4000000 in
theorem rparse_empty (w : World) : Calls Tryz.prog 18 #[.string ⟨#[]⟩] w fun e w' => e = .returned (.agg #[.slice none 0 0, .int .i64 0]) ∧ Below w.heap.size w w' := by
  go_enter Tryz.func18, Tryz.ntmps18
  go_wp2
  try simp only [Exit.inBlock, Exit.then]
  obtain ⟨h1, h2, _⟩ := rb_cells (w := w) (Below.refl (w.heap.size + 1) (rb w)) (by omega)
  exact door18 (B := w.heap.size) (by rfl) h1 h2 ⟨rfl, rb_below w⟩

set_option maxHeartbeats 4000000 in
theorem rparse_long (s : ByteArray) (h0 : 0 < s.size) (hs : s.size ≤ 600) (hl : 64 < (wd s.data.toList).length) (w : World) : Calls Tryz.prog 18 #[.string s] w fun e w' => e = .returned (.agg #[.slice none 0 0, .int .i64 2]) ∧ Below w.heap.size w w' := by
  have hne : s.toList.isEmpty = false := empty_no h0
  have HWD := Lib.hid fun W => words_at s hs W
  have HL : Aside (64 < (wd s.data.toList).length) := hl
  clear hl
  go_enter Tryz.func18, Tryz.ntmps18
  go_wp2_with (go_at_call 45; refine (HWD.out _).mono ?_; rintro e w2 ⟨g, c, ps, rfl, hps, _, _, hB2⟩; have hpn := hps; rw [← hpn] at HL; have hpn : (64 : Int) < (ps.length : Int) := (by have := HL.out; rw [List.length_map] at this; omega); have HB2 : Aside (Below (rb w).heap.size (rb w) w2) := hB2; obtain ⟨d0, d1, d2, d3⟩ := rb_cells hB2 (by rw [rb_size]; omega))
  try simp only [Exit.inBlock, Exit.then]
  obtain ⟨h1, h2⟩ := wr2_cells HB2.out (by rw [rb_size]; omega) (.slice none 0 0) 2
  exact door18 (B := w.heap.size) (by rfl) h1 h2 ⟨rfl, wr2_below ((rb_below w).trans (HB2.out.mono (by rw [rb_size]; omega))) _ _⟩
end Go.Proofs.YtfcglnmfcniojaaGreatDoor

namespace Go.Proofs.YtfcglnmfcniojaaGreatDoor
open Go.Eng Go.RowKit
set_option maxRecDepth 1000000

theorem Oq.grown {w : World} {O B b : Nat} {Q : List Ty} {v : Value} {W1 W2 : World} (h : Oq w O B b Q v W1) (hg : W1.grownBy W2 v.ownBlock) :
    TyAt W2 (some ⟨b, 0, none⟩) TL ∧ W2.cell? ⟨O, 0, none⟩ = some v ∧ W2.cell? ⟨O, 1, none⟩ = some (.int .i64 0) ∧ W2.frozen? ⟨O, 0, none⟩ = false ∧ W2.frozen? ⟨O, 1, none⟩ = false := by
  have far : ∀ k, k < B → some k ≠ v.ownBlock := fun k hk e => by have := (h.own.lt k e.symm).1; omega
  obtain ⟨hb1, hb2, hb3⟩ := h.hb
  have e1 : W2.heap[O]? = W1.heap[O]? := hg.block O h.lt (far O hb3)
  obtain ⟨c0, c1, c2, c3⟩ := h.cells
  refine ⟨?_, (World.cell?_of_block e1).trans c0, (World.cell?_of_block e1).trans c1, (World.frozen?_of_block e1).trans c2, (World.frozen?_of_block e1).trans c3⟩
  intro hne
  obtain ⟨g, o, e, hlt, hc⟩ := h.ty hne
  cases e
  have hbl : W2.heap[b]? = W1.heap[b]? := hg.block b hlt (far b hb1)
  refine ⟨b, 0, rfl, Nat.lt_of_lt_of_le hlt hg.size, fun j t ht => ?_⟩
  have hcell : ∀ o, W2.cell? ⟨b, o, none⟩ = W1.cell? ⟨b, o, none⟩ := fun o => World.cell?_of_block hbl
  rw [hcell, hcell, hcell]
  exact hc j t ht
theorem TyAt.type {W : World} {b : Nat} (h : TyAt W (some ⟨b, 0, none⟩) TL) {k : Nat} {K Bt F : Int} (ht : TL[k]? = some (K, Bt, F)) :
    W.cell? ⟨b, k * 3, none⟩ = some (.int .i64 K) ∧ W.cell? ⟨b, k * 3 + 1, none⟩ = some (.int .i64 Bt) ∧ W.cell? ⟨b, k * 3 + 2, none⟩ = some (.int .i64 F) := by
  obtain ⟨g, o, e, _, hc⟩ := h (fun e => by rw [e] at ht; cases ht)
  cases e
  have := hc k _ ht
  rwa [Nat.zero_add] at this
theorem tyK_snoc {l : List UInt8} {k : Nat} {p : List UInt8} (h : (wd l)[k]? = some p) : tyK l (k + 1) = tyK l k ++ (match ty p with | some t => [t] | none => []) := by
  unfold tyK
  rw [List.take_add_one, h, List.filterMap_append]
  cases e : ty p <;> simp [e]

set_option maxHeartbeats 8000000 in
theorem rparse_main (s : ByteArray) (h0 : 0 < s.size) (hs : s.size ≤ 600) (hl : (wd s.data.toList).length ≤ 64) (w : World) (hg : Gl w) :
    Calls Tryz.prog 18 #[.string s] w fun e w' => ∃ v E, e = .returned (.agg #[v, .int .i64 E]) ∧ E = parseE s.data.toList ∧ TysOf w' v (parseT s.data.toList) ∧ Below w.heap.size w w' := by
  have hne : s.toList.isEmpty = false := empty_no h0
  have HWD := Lib.hid fun W => words_at s hs W
  have HALL := Lib.hid fun W hg => all_any W hg
  have HL : Aside ((wd s.data.toList).length ≤ 64) := hl
  have HG : Aside (Gl w) := hg
  have H0 : Aside (0 < s.size) := h0
  obtain ⟨i0, hi, hz0, hz1, hz2⟩ := info_parts info36
  clear hl hg h0
  go_enter Tryz.func18, Tryz.ntmps18
  go_wp2_with (first
    | (go_at_call 45; refine (HWD.out _).mono ?_; rintro e w2 ⟨g, c, ps, rfl, hps, hgw, hwc, hB2⟩; have HPS : Aside (ps.map (·.data.toList) = wd s.data.toList) := hps; have hpn : ¬ (64 : Int) < (ps.length : Int) := (by have := HL.out; rw [← HPS.out, List.length_map] at this; omega); have HB2 : Aside (Below (rb w).heap.size (rb w) w2) := hB2; have HWC := Lib.hid hwc; have HG2 : Aside (Gl w2) := (HG.out.alloc _).since HB2.out; clear hps hB2 hwc)
    | (go_at_call 46; refine (HALL.out _ (HG2.out.alloc _)).mono ?_; rintro e w3 ⟨b, cb, rfl, hty, hB3⟩; have HT3 : Aside (TyAt w3 (some ⟨b, 0, none⟩) TL) := hty; have HB3 : Aside (Below (rb w2).heap.size (rb w2) w3) := hB3; clear hty hB3))
  have HQ0 : Aside (Oq w2 w2.heap.size w3.heap.size b [] (.slice none 0 0) w3) := by
    obtain ⟨e0, e1, e2, e3⟩ := rb_cells HB3.out (by rw [rb_size]; omega)
    obtain ⟨g', o', e', hlt, hc⟩ := HT3.out (by decide +kernel)
    cases e'
    have hsz := HB3.out.size
    rw [rb_size] at hsz
    refine ⟨?_, World.ownsRow_nil _ _ _ _, (rb_below w2).trans (HB3.out.mono (by rw [rb_size]; omega)), HT3.out, ⟨hlt, fun e => ?_, by omega⟩, Nat.le_refl _⟩
    · rw [HB3.out.block _ (by rw [rb_size]; omega)]
      show (w2.heap.push _)[w2.heap.size]? = _
      rw [Array.getElem?_push, if_pos rfl]
    · subst e
      have := (hc 0 (1, 8, 0) (by decide +kernel)).1
      simp only [Nat.zero_mul, Nat.add_zero] at this
      rw [e0] at this
      cases this
  go_loopw [6] (fun i wr => ∃ k : Nat, k ≤ ps.length ∧ i = .int .i64 k ∧ Aside (((wd s.data.toList).take k).all (fun w => (ty w).isSome) = true) ∧ ∃ v, Aside (Oq w2 w2.heap.size w3.heap.size b (tyK s.data.toList k) v wr)) (fun i _ => ps.length - (intOf i).toNat)
  case atStart => exact ⟨0, Nat.zero_le _, rfl, by rw [List.take_zero]; rfl, _, HQ0.out⟩
  case round =>
    obtain ⟨k, hk, rfl, hall, v, hq⟩ := hrel
    by_cases hlt : k < ps.length
    · obtain ⟨p, hp⟩ : ∃ p, ps[k]? = some p := ⟨_, List.getElem?_eq_getElem hlt⟩
      have HW : Aside ((wd s.data.toList)[k]? = some p.data.toList) := by rw [← HPS.out, List.getElem?_map, hp]; rfl
      have HC : Aside (w2.cell? ⟨g, k, none⟩ = some (.string p)) := HWC.out _ _ hp
      have HKL : Aside ((tyK s.data.toList k).length ≤ 64) := by have h1 := tyK_len s.data.toList k; have := HL.out; show (tyK s.data.toList k).length ≤ 64; omega
      clear hp
      obtain ⟨a, ca, hv⟩ := hq.out.form
      subst hv
      obtain ⟨d0, d1, d2, d3⟩ := hq.out.cells
      have hk0 : (0 : Int) ≤ (k : Int) := by omega
      have hk1 : (k : Int) < (ps.length : Int) := by omega
      go_wp2
      have hq0 : Aside (Oq w2 w2.heap.size w3.heap.size b (fd (tyK s.data.toList k) p.data.toList 0) (.slice a (tyK s.data.toList k).length ca) wr) := by rw [fd_zero]; exact hq.out
      clear hq d0 d1 d2 d3
      go_loopw [8] (fun i wr => ∃ j : Nat, j ≤ 20 ∧ i = .int .i64 j ∧ ∃ v1, Aside (Oq w2 w2.heap.size w3.heap.size b (fd (tyK s.data.toList k) p.data.toList j) v1 wr)) (fun i _ => 20 - (intOf i).toNat)
      case atStart => exact ⟨0, Nat.zero_le _, rfl, _, hq0.out⟩
      case round =>
        obtain ⟨j, hj, rfl, v1, hq1⟩ := hrel
        obtain ⟨a1, c1, hv1⟩ := hq1.out.form
        subst hv1
        by_cases hjt : j < 20
        · obtain ⟨⟨K, Bt, F⟩, ht⟩ : ∃ t, TL[j]? = some t := ⟨_, List.getElem?_eq_getElem (by rw [tl_len]; exact hjt)⟩
          have HT : Aside (TL[j]? = some (K, Bt, F)) := ht
          have HTXT : Hid (∀ W, Gl W → Calls Tryz.prog 42 #[.agg #[.int .i64 K, .int .i64 Bt, .int .i64 F]] W fun e w' => e = .returned (.string ⟨⟨tx (K, Bt, F)⟩⟩) ∧ Below W.heap.size W w') := Lib.hid fun W hg => rtext_any (K, Bt, F) (tl_all ht) W hg
          clear ht
          have hj0 : (0 : Int) ≤ (j : Int) := by omega
          have hj1 : (j : Int) < 20 := by omega
          go_wp2
          refine wp_region_held_drew (S := Oq w2 w2.heap.size w3.heap.size b (fd (tyK s.data.toList k) p.data.toList j) (.slice a1 (fd (tyK s.data.toList k) p.data.toList j).length c1)) (by kernel_rfl) hq1.out.drew (fun hHeld => ?_)
          refine wpAnyH_take (i := 0) (v := (.slice (some ⟨b, 0, none⟩) 20 cb)) rfl (by kernel_rfl) (by kernel_rfl) (by kernel_rfl) (fun _ _ _ h => h) (Or.inl ⟨by rfl, fun wS hSw => ?_⟩) hHeld ?_
          · obtain ⟨g0, g1, g2⟩ := hSw.type HT.out; have gw := (hSw.bel.cell (p := ⟨g, k, none⟩) hgw).trans HC.out
            first | rfl | (go_simp; done) | (go_simp; with_reducible rfl)
          try simp only [Act.put, List.getElem_toArray, List.getElem_cons_zero, List.getElem_cons_succ, List.setIfInBounds_toArray, List.set_cons_zero, List.set_cons_succ]
          refine wpAnyH_take (i := 1) (v := (.int .i64 j)) rfl (by kernel_rfl) (by kernel_rfl) (by kernel_rfl) (fun _ _ _ h => h) (Or.inl ⟨by rfl, fun wS hSw => ?_⟩) hHeld ?_
          · obtain ⟨g0, g1, g2⟩ := hSw.type HT.out; have gw := (hSw.bel.cell (p := ⟨g, k, none⟩) hgw).trans HC.out
            first | rfl | (go_simp; done) | (go_simp; with_reducible rfl)
          try simp only [Act.put, List.getElem_toArray, List.getElem_cons_zero, List.getElem_cons_succ, List.setIfInBounds_toArray, List.set_cons_zero, List.set_cons_succ]
          refine wpAnyH_take (i := 2) (v := (.pointer (some ⟨b, j * 3, none⟩))) rfl (by kernel_rfl) (by kernel_rfl) (by kernel_rfl) (fun _ _ _ h => h) (Or.inl ⟨by rfl, fun wS hSw => ?_⟩) hHeld ?_
          · obtain ⟨g0, g1, g2⟩ := hSw.type HT.out; have gw := (hSw.bel.cell (p := ⟨g, k, none⟩) hgw).trans HC.out
            first | rfl | (go_simp; done) | (go_simp; with_reducible rfl)
          try simp only [Act.put, List.getElem_toArray, List.getElem_cons_zero, List.getElem_cons_succ, List.setIfInBounds_toArray, List.set_cons_zero, List.set_cons_succ]
          refine wpAnyH_take (i := 3) (v := (.agg #[.int .i64 K, .int .i64 Bt, .int .i64 F])) rfl (by kernel_rfl) (by kernel_rfl) (by kernel_rfl) (fun _ _ _ h => h) (Or.inl ⟨by rfl, fun wS hSw => ?_⟩) hHeld ?_
          · obtain ⟨g0, g1, g2⟩ := hSw.type HT.out; have gw := (hSw.bel.cell (p := ⟨g, k, none⟩) hgw).trans HC.out
            first | rfl | (go_simp; done) | (go_simp; with_reducible rfl)
          try simp only [Act.put, List.getElem_toArray, List.getElem_cons_zero, List.getElem_cons_succ, List.setIfInBounds_toArray, List.set_cons_zero, List.set_cons_succ]
          refine wpAnyH_take (i := 5) (v := (.slice (some ⟨g, 0, none⟩) ps.length c)) rfl (by kernel_rfl) (by kernel_rfl) (by kernel_rfl) (fun _ _ _ h => h) (Or.inl ⟨by rfl, fun wS hSw => ?_⟩) hHeld ?_
          · obtain ⟨g0, g1, g2⟩ := hSw.type HT.out; have gw := (hSw.bel.cell (p := ⟨g, k, none⟩) hgw).trans HC.out
            first | rfl | (go_simp; done) | (go_simp; with_reducible rfl)
          try simp only [Act.put, List.getElem_toArray, List.getElem_cons_zero, List.getElem_cons_succ, List.setIfInBounds_toArray, List.set_cons_zero, List.set_cons_succ]
          refine wpAnyH_take (i := 6) (v := (.int .i64 k)) rfl (by kernel_rfl) (by kernel_rfl) (by kernel_rfl) (fun _ _ _ h => h) (Or.inl ⟨by rfl, fun wS hSw => ?_⟩) hHeld ?_
          · obtain ⟨g0, g1, g2⟩ := hSw.type HT.out; have gw := (hSw.bel.cell (p := ⟨g, k, none⟩) hgw).trans HC.out
            first | rfl | (go_simp; done) | (go_simp; with_reducible rfl)
          try simp only [Act.put, List.getElem_toArray, List.getElem_cons_zero, List.getElem_cons_succ, List.setIfInBounds_toArray, List.set_cons_zero, List.set_cons_succ]
          refine wpAnyH_take (i := 7) (v := (.pointer (some ⟨g, k, none⟩))) rfl (by kernel_rfl) (by kernel_rfl) (by kernel_rfl) (fun _ _ _ h => h) (Or.inl ⟨by rfl, fun wS hSw => ?_⟩) hHeld ?_
          · obtain ⟨g0, g1, g2⟩ := hSw.type HT.out; have gw := (hSw.bel.cell (p := ⟨g, k, none⟩) hgw).trans HC.out
            first | rfl | (go_simp; done) | (go_simp; with_reducible rfl)
          try simp only [Act.put, List.getElem_toArray, List.getElem_cons_zero, List.getElem_cons_succ, List.setIfInBounds_toArray, List.set_cons_zero, List.set_cons_succ]
          refine wpAnyH_take (i := 8) (v := (.string p)) rfl (by kernel_rfl) (by kernel_rfl) (by kernel_rfl) (fun _ _ _ h => h) (Or.inl ⟨by rfl, fun wS hSw => ?_⟩) hHeld ?_
          · obtain ⟨g0, g1, g2⟩ := hSw.type HT.out; have gw := (hSw.bel.cell (p := ⟨g, k, none⟩) hgw).trans HC.out
            first | rfl | (go_simp; done) | (go_simp; with_reducible rfl)
          try simp only [Act.put, List.getElem_toArray, List.getElem_cons_zero, List.getElem_cons_succ, List.setIfInBounds_toArray, List.set_cons_zero, List.set_cons_succ]
          refine wpAnyH_ready (rs := [4]) (by kernel_rfl) (by simp) ?_
          refine AllReadyH.cons rfl (fun KC hC => ?_) AllReadyH.nil
          go_simp
          go_at_call 42; refine (HTXT.out _ (HG2.out.below hHeld.bel HG2.out.sz)).mono ?_; rintro e w7 ⟨rfl, hb7⟩
          refine hC.out _ _ (hHeld.step hb7) (fun hHeld => ?_)
          clear hC KC
          try simp only [Act.put, List.getElem_toArray, List.getElem_cons_zero, List.getElem_cons_succ, List.setIfInBounds_toArray, List.set_cons_zero, List.set_cons_succ]
          refine wpAnyH_take (i := 9) (v := (.bool (tx (K, Bt, F) == p.toList))) rfl (by kernel_rfl) (by kernel_rfl) (by kernel_rfl) (fun _ _ _ h => h) (Or.inl ⟨by rfl, fun wS hSw => ?_⟩) hHeld ?_
          · obtain ⟨g0, g1, g2⟩ := hSw.type HT.out; have gw := (hSw.bel.cell (p := ⟨g, k, none⟩) hgw).trans HC.out
            first | rfl | (go_simp; done) | (go_simp; with_reducible rfl)
          try simp only [Act.put, List.getElem_toArray, List.getElem_cons_zero, List.getElem_cons_succ, List.setIfInBounds_toArray, List.set_cons_zero, List.set_cons_succ]
          refine wpAnyH_done (by kernel_rfl) ?_ _
          have hq2 : Aside (Oq w2 w2.heap.size w3.heap.size b (fd (tyK s.data.toList k) p.data.toList j) (.slice a1 (fd (tyK s.data.toList k) p.data.toList j).length c1) w7) := hHeld
          clear hHeld hq1 hb7
          by_cases htx : tx (K, Bt, F) = p.data.toList
          · have heq : (tx (K, Bt, F) == p.toList) = true := by rw [Lib.toList_data]; simpa using htx
            have HX : Aside (tx (K, Bt, F) = p.data.toList) := htx
            clear htx
            simp only [heq]
            go_wp2
            refine wp_region_held_drew (S := fun W => TyAt W (some ⟨b, 0, none⟩) TL) (by kernel_rfl) hq2.out.drew.ty (fun hHeld => ?_)
            have hqa : Aside (Oq w2 w2.heap.size w3.heap.size b (fd (tyK s.data.toList k) p.data.toList j) (.slice a1 (fd (tyK s.data.toList k) p.data.toList j).length c1) w7.drew) := hq2.out.drew
            have hqb : Aside (Oq w2 w2.heap.size w3.heap.size b (fd (tyK s.data.toList k) p.data.toList j) (.slice a1 (fd (tyK s.data.toList k) p.data.toList j).length c1) (w7.drew.alloc (.cells #[.int .i64 K, .int .i64 Bt, .int .i64 F] 36))) := hqa.out.step ((Below.refl _ _).alloc (Nat.le_refl _) _)
            obtain ⟨x0, x1, x2, x3⟩ := hqa.out.cells
            obtain ⟨y0, y1, y2, y3⟩ := (hq2.out.step ((Below.refl _ _).alloc (Nat.le_refl _) (.cells #[.int .i64 K, .int .i64 Bt, .int .i64 F] 36))).cells
            refine wpAnyH_take (i := 0) (v := (.pointer (some ⟨w2.heap.size, 0, none⟩))) rfl (by kernel_rfl) (by kernel_rfl) (by kernel_rfl) (fun _ _ _ h => h) (Or.inl ⟨by rfl, fun wS hSw => ?_⟩) hHeld ?_
            · obtain ⟨g0, g1, g2⟩ := hSw.type HT.out
              first | rfl | (go_simp; done) | (go_simp; with_reducible rfl)
            try simp only [Act.put, List.getElem_toArray, List.getElem_cons_zero, List.getElem_cons_succ, List.setIfInBounds_toArray, List.set_cons_zero, List.set_cons_succ]
            refine wpAnyH_take (i := 2) (v := (.slice (some ⟨b, 0, none⟩) 20 cb)) rfl (by kernel_rfl) (by kernel_rfl) (by kernel_rfl) (fun _ _ _ h => h) (Or.inl ⟨by rfl, fun wS hSw => ?_⟩) hHeld ?_
            · obtain ⟨g0, g1, g2⟩ := hSw.type HT.out
              first | rfl | (go_simp; done) | (go_simp; with_reducible rfl)
            try simp only [Act.put, List.getElem_toArray, List.getElem_cons_zero, List.getElem_cons_succ, List.setIfInBounds_toArray, List.set_cons_zero, List.set_cons_succ]
            refine wpAnyH_take (i := 3) (v := (.int .i64 j)) rfl (by kernel_rfl) (by kernel_rfl) (by kernel_rfl) (fun _ _ _ h => h) (Or.inl ⟨by rfl, fun wS hSw => ?_⟩) hHeld ?_
            · obtain ⟨g0, g1, g2⟩ := hSw.type HT.out
              first | rfl | (go_simp; done) | (go_simp; with_reducible rfl)
            try simp only [Act.put, List.getElem_toArray, List.getElem_cons_zero, List.getElem_cons_succ, List.setIfInBounds_toArray, List.set_cons_zero, List.set_cons_succ]
            refine wpAnyH_take (i := 4) (v := (.pointer (some ⟨b, j * 3, none⟩))) rfl (by kernel_rfl) (by kernel_rfl) (by kernel_rfl) (fun _ _ _ h => h) (Or.inl ⟨by rfl, fun wS hSw => ?_⟩) hHeld ?_
            · obtain ⟨g0, g1, g2⟩ := hSw.type HT.out
              first | rfl | (go_simp; done) | (go_simp; with_reducible rfl)
            try simp only [Act.put, List.getElem_toArray, List.getElem_cons_zero, List.getElem_cons_succ, List.setIfInBounds_toArray, List.set_cons_zero, List.set_cons_succ]
            refine wpAnyH_take (i := 5) (v := (.agg #[.int .i64 K, .int .i64 Bt, .int .i64 F])) rfl (by kernel_rfl) (by kernel_rfl) (by kernel_rfl) (fun _ _ _ h => h) (Or.inl ⟨by rfl, fun wS hSw => ?_⟩) hHeld ?_
            · obtain ⟨g0, g1, g2⟩ := hSw.type HT.out
              first | rfl | (go_simp; done) | (go_simp; with_reducible rfl)
            try simp only [Act.put, List.getElem_toArray, List.getElem_cons_zero, List.getElem_cons_succ, List.setIfInBounds_toArray, List.set_cons_zero, List.set_cons_succ]
            refine wpAnyH_ready (rs := [1, 6]) (by kernel_rfl) (by simp) ?_
            refine AllReadyH.cons rfl (fun KC hC => ?_) (AllReadyH.cons rfl (fun KC hC => ?_) AllReadyH.nil)
            · go_simp
              refine hC.out _ _ hqa.out.ty (fun hHeld => ?_)
              clear hC KC
              try simp only [Act.put, List.getElem_toArray, List.getElem_cons_zero, List.getElem_cons_succ, List.setIfInBounds_toArray, List.set_cons_zero, List.set_cons_succ]
              refine wpAnyH_ready (rs := [6]) (by kernel_rfl) (by simp) ?_
              refine AllReadyH.cons rfl (fun KC hC => ?_) AllReadyH.nil
              go_simp
              refine hC.out _ _ hqb.out.ty (fun hHeld => ?_)
              clear hC KC
              try simp only [Act.put, List.getElem_toArray, List.getElem_cons_zero, List.getElem_cons_succ, List.setIfInBounds_toArray, List.set_cons_zero, List.set_cons_succ]
              refine wpAnyH_ready (rs := [7]) (by kernel_rfl) (by simp) ?_
              refine AllReadyH.cons rfl (fun KC hC => ?_) AllReadyH.nil
              refine step_append_lies _ (by rfl) _ _ _ (by rfl) w3.heap.size 36 i0 (.agg #[.int .i64 0, .int .i64 0, .int .i64 0]) 3 24 Tryz.underlying24 hi hz0 hz1 hz2 (by rfl) (by omega) (.slice a1 (fd (tyK s.data.toList k) p.data.toList j).length c1) (fd (tyK s.data.toList k) p.data.toList j).length (tcs (fd (tyK s.data.toList k) p.data.toList j)) (by rfl) hqb.out.own ⟨w7.drew.heap.size, 0, none⟩ 1 1 [.int .i64 K, .int .i64 Bt, .int .i64 F] (by rfl) (by rfl) (news3 _ _ _ _ rfl) (by simp [Value.oneCell']) (by omega) (by have h1 := fd_len (tyK s.data.toList k) p.data.toList j; have := HKL.out; unfold maxLen; omega) (by have h1 := fd_len (tyK s.data.toList k) p.data.toList j; have := HKL.out; omega) hqb.out.hB _ rfl ?_
              intro g' cap' w8 hown' hgrow hat hlt'
              obtain ⟨ht8, z0, z1, z2, z3⟩ := hqb.out.grown hgrow
              have hq8 : Aside (Oq w2 w2.heap.size w3.heap.size b (fd (tyK s.data.toList k) p.data.toList (j + 1)) (.slice (some ⟨g', 0, none⟩) ((fd (tyK s.data.toList k) p.data.toList j).length + 1) cap') (w8.setCell ⟨w2.heap.size, 0, none⟩ (.slice (some ⟨g', 0, none⟩) ((fd (tyK s.data.toList k) p.data.toList j).length + 1) cap'))) := by rw [fd_yes HT.out HX.out]; exact hqa.out.push ((Below.refl _ _).alloc (Nat.le_refl _) _) hown' hgrow
              refine hC.out _ _ ht8 (fun hHeld => ?_)
              clear hC KC hown' hgrow hat hlt' hqa hqb x0 x1 x2 x3 y0 y1 y2 y3
              try simp only [Act.put, List.getElem_toArray, List.getElem_cons_zero, List.getElem_cons_succ, List.setIfInBounds_toArray, List.set_cons_zero, List.set_cons_succ]
              refine wpAnyH_take (i := 8) (v := (.pointer (some ⟨w2.heap.size, 0, none⟩))) rfl (by kernel_rfl) (by kernel_rfl) (by kernel_rfl) (fun _ _ _ h => h) (Or.inl ⟨by rfl, fun wS hSw => ?_⟩) hHeld ?_
              · first | rfl | (go_simp; done) | (go_simp; with_reducible rfl)
              try simp only [Act.put, List.getElem_toArray, List.getElem_cons_zero, List.getElem_cons_succ, List.setIfInBounds_toArray, List.set_cons_zero, List.set_cons_succ]
              refine wpAnyH_ready (rs := [9]) (by kernel_rfl) (by simp) ?_
              refine AllReadyH.cons rfl (fun KC hC => ?_) AllReadyH.nil
              go_simp
              refine hC.out _ _ hq8.out.ty (fun hHeld => ?_)
              clear hC KC
              try simp only [Act.put, List.getElem_toArray, List.getElem_cons_zero, List.getElem_cons_succ, List.setIfInBounds_toArray, List.set_cons_zero, List.set_cons_succ]
              refine wpAnyH_done (by kernel_rfl) ?_ _
              go_wp2
              refine ⟨⟨j + 1, by omega, by go_num, _, hq8⟩, ?_⟩
              simp [intOf]; omega
            · go_simp
              refine hC.out _ _ hqb.out.ty (fun hHeld => ?_)
              clear hC KC
              try simp only [Act.put, List.getElem_toArray, List.getElem_cons_zero, List.getElem_cons_succ, List.setIfInBounds_toArray, List.set_cons_zero, List.set_cons_succ]
              refine wpAnyH_ready (rs := [1]) (by kernel_rfl) (by simp) ?_
              refine AllReadyH.cons rfl (fun KC hC => ?_) AllReadyH.nil
              go_simp
              refine hC.out _ _ hqb.out.ty (fun hHeld => ?_)
              clear hC KC
              try simp only [Act.put, List.getElem_toArray, List.getElem_cons_zero, List.getElem_cons_succ, List.setIfInBounds_toArray, List.set_cons_zero, List.set_cons_succ]
              refine wpAnyH_ready (rs := [7]) (by kernel_rfl) (by simp) ?_
              refine AllReadyH.cons rfl (fun KC hC => ?_) AllReadyH.nil
              refine step_append_lies _ (by rfl) _ _ _ (by rfl) w3.heap.size 36 i0 (.agg #[.int .i64 0, .int .i64 0, .int .i64 0]) 3 24 Tryz.underlying24 hi hz0 hz1 hz2 (by rfl) (by omega) (.slice a1 (fd (tyK s.data.toList k) p.data.toList j).length c1) (fd (tyK s.data.toList k) p.data.toList j).length (tcs (fd (tyK s.data.toList k) p.data.toList j)) (by rfl) hqb.out.own ⟨w7.drew.heap.size, 0, none⟩ 1 1 [.int .i64 K, .int .i64 Bt, .int .i64 F] (by rfl) (by rfl) (news3 _ _ _ _ rfl) (by simp [Value.oneCell']) (by omega) (by have h1 := fd_len (tyK s.data.toList k) p.data.toList j; have := HKL.out; unfold maxLen; omega) (by have h1 := fd_len (tyK s.data.toList k) p.data.toList j; have := HKL.out; omega) hqb.out.hB _ rfl ?_
              intro g' cap' w8 hown' hgrow hat hlt'
              obtain ⟨ht8, z0, z1, z2, z3⟩ := hqb.out.grown hgrow
              have hq8 : Aside (Oq w2 w2.heap.size w3.heap.size b (fd (tyK s.data.toList k) p.data.toList (j + 1)) (.slice (some ⟨g', 0, none⟩) ((fd (tyK s.data.toList k) p.data.toList j).length + 1) cap') (w8.setCell ⟨w2.heap.size, 0, none⟩ (.slice (some ⟨g', 0, none⟩) ((fd (tyK s.data.toList k) p.data.toList j).length + 1) cap'))) := by rw [fd_yes HT.out HX.out]; exact hqa.out.push ((Below.refl _ _).alloc (Nat.le_refl _) _) hown' hgrow
              refine hC.out _ _ ht8 (fun hHeld => ?_)
              clear hC KC hown' hgrow hat hlt' hqa hqb x0 x1 x2 x3 y0 y1 y2 y3
              try simp only [Act.put, List.getElem_toArray, List.getElem_cons_zero, List.getElem_cons_succ, List.setIfInBounds_toArray, List.set_cons_zero, List.set_cons_succ]
              refine wpAnyH_take (i := 8) (v := (.pointer (some ⟨w2.heap.size, 0, none⟩))) rfl (by kernel_rfl) (by kernel_rfl) (by kernel_rfl) (fun _ _ _ h => h) (Or.inl ⟨by rfl, fun wS hSw => ?_⟩) hHeld ?_
              · first | rfl | (go_simp; done) | (go_simp; with_reducible rfl)
              try simp only [Act.put, List.getElem_toArray, List.getElem_cons_zero, List.getElem_cons_succ, List.setIfInBounds_toArray, List.set_cons_zero, List.set_cons_succ]
              refine wpAnyH_ready (rs := [9]) (by kernel_rfl) (by simp) ?_
              refine AllReadyH.cons rfl (fun KC hC => ?_) AllReadyH.nil
              go_simp
              refine hC.out _ _ hq8.out.ty (fun hHeld => ?_)
              clear hC KC
              try simp only [Act.put, List.getElem_toArray, List.getElem_cons_zero, List.getElem_cons_succ, List.setIfInBounds_toArray, List.set_cons_zero, List.set_cons_succ]
              refine wpAnyH_done (by kernel_rfl) ?_ _
              go_wp2
              refine ⟨⟨j + 1, by omega, by go_num, _, hq8⟩, ?_⟩
              simp [intOf]; omega
          · have heq : (tx (K, Bt, F) == p.toList) = false := by rw [Lib.toList_data]; simpa using htx
            have hq3 : Aside (Oq w2 w2.heap.size w3.heap.size b (fd (tyK s.data.toList k) p.data.toList (j + 1)) (.slice a1 (fd (tyK s.data.toList k) p.data.toList j).length c1) w7) := by rw [fd_no HT.out htx]; exact hq2.out
            clear htx hq2
            simp only [heq]
            go_wp2
            refine ⟨⟨j + 1, by omega, by go_num, _, hq3⟩, ?_⟩
            simp [intOf]; omega
        · have e : j = 20 := by omega
          subst e
          cases hty : ty p.data.toList with
          | some t =>
            have e1 : fd (tyK s.data.toList k) p.data.toList 20 = tyK s.data.toList (k + 1) := by rw [fd_end, tyK_snoc HW.out, hty]
            have e2 : (tyK s.data.toList (k + 1)).length = (tyK s.data.toList k).length + 1 := by rw [tyK_snoc HW.out, hty, List.length_append]; rfl
            rw [e1, e2] at hq1
            obtain ⟨d0, d1, d2, d3⟩ := hq1.out.cells
            have hall' : Aside (((wd s.data.toList).take (k + 1)).all (fun w => (ty w).isSome) = true) := by
              have h1 := hall.out
              show ((wd s.data.toList).take (k + 1)).all (fun w => (ty w).isSome) = true
              rw [List.take_add_one, HW.out, List.all_append, h1]
              simp [hty]
            have hx1 : (((tyK s.data.toList k).length + 1 : Nat) : Int) ≠ ((tyK s.data.toList k).length : Int) := by omega
            have hx2 : (((((tyK s.data.toList k).length : Int) + 1) == ((tyK s.data.toList k).length : Int))) = false := by rw [beq_eq_false_iff_ne]; omega
            clear e1 e2 hall HW hty
            go_wp2
            go_roundw
            case rel => exact ⟨k + 1, by omega, by go_num, hall', _, hq1⟩
            case measure => simp [intOf]; omega
          | none =>
            have e1 : fd (tyK s.data.toList k) p.data.toList 20 = tyK s.data.toList k := by rw [fd_end, hty, List.append_nil]
            rw [e1] at hq1
            obtain ⟨d0, d1, d2, d3⟩ := hq1.out.cells
            have hR : Aside (Below (rb w).heap.size (rb w) wr) := HB2.out.trans (hq1.out.bel.mono HB2.out.size)
            obtain ⟨x0, x1, x2, x3⟩ := rb_cells hR.out (by rw [rb_size]; omega)
            have HE : Aside (parseE s.data.toList = 6) := by
              have hne : s.data.toList ≠ [] := fun e => by
                have h1 : s.data.toList.length = s.size := by rw [Array.length_toList]; rfl
                have := H0.out
                rw [e] at h1; simp at h1; omega
              have hna : (wd s.data.toList).all (fun w => (ty w).isSome) = false := by
                rw [List.all_eq_false]
                exact ⟨_, List.mem_of_getElem? HW.out, by rw [hty]; simp⟩
              have := HL.out
              show parseE s.data.toList = 6
              unfold parseE
              rw [if_neg hne, if_neg (by omega), if_neg (by rw [hna]; simp)]
            clear e1 hall HW hty
            go_wp2
            try simp only [Exit.inBlock, Exit.then]
            obtain ⟨h1, h2⟩ := wr2_cells hR.out (by rw [rb_size]; omega) (.slice none 0 0) 6
            refine door18 (B := w.heap.size) (by rfl) h1 h2 ⟨_, _, rfl, HE.out.symm, ?_, wr2_below ((rb_below w).trans (hR.out.mono (by rw [rb_size]; omega))) _ _⟩
            rw [parseT_no (by rw [HE.out]; decide)]
            exact ⟨none, 0, rfl, fun h => absurd rfl h⟩
    · have e : k = ps.length := by omega
      subst e
      have hpn' : ps.length = (wd s.data.toList).length := by rw [← HPS.out, List.length_map]
      rw [hpn'] at hq hall
      rw [List.take_length] at hall
      obtain ⟨a, ca, hv⟩ := hq.out.form
      subst hv
      obtain ⟨d0, d1, d2, d3⟩ := hq.out.cells
      have hR : Aside (Below (rb w).heap.size (rb w) wr) := HB2.out.trans (hq.out.bel.mono HB2.out.size)
      obtain ⟨x0, x1, x2, x3⟩ := rb_cells hR.out (by rw [rb_size]; omega)
      have HE : Aside (parseE s.data.toList = 0 ∧ parseT s.data.toList = tyK s.data.toList (wd s.data.toList).length) := by
        have hne : s.data.toList ≠ [] := fun e => by
          have h1 : s.data.toList.length = s.size := by rw [Array.length_toList]; rfl
          have := H0.out
          rw [e] at h1; simp at h1; omega
        have := HL.out
        have hE : parseE s.data.toList = 0 := by unfold parseE; rw [if_neg hne, if_neg (by omega), if_pos hall.out]
        exact ⟨hE, by unfold parseT tyK; rw [if_neg hne, if_pos hE, List.take_length]⟩
      clear hall hpn'
      go_wp2
      try simp only [Exit.inBlock, Exit.then]
      obtain ⟨h1, h2⟩ := wr2_cells hR.out (by rw [rb_size]; omega) (.slice a (tyK s.data.toList (wd s.data.toList).length).length ca) 0
      refine door18 (B := w.heap.size) (by rfl) h1 h2 ⟨_, _, rfl, HE.out.1.symm, ?_, wr2_below ((rb_below w).trans (hR.out.mono (by rw [rb_size]; omega))) _ _⟩
      rw [HE.out.2]
      have hown := hq.out.own
      have hbs := hq.out.hb
      have hsz : (wr2 w wr (.slice a (tyK s.data.toList (wd s.data.toList).length).length ca) 0).heap.size = wr.heap.size := by simp [World.setCell]
      have hs2 := HB2.out.size
      rw [rb_size] at hs2
      refine (tys_owned (hown.kept (w' := wr2 w wr (.slice a (tyK s.data.toList (wd s.data.toList).length).length ca) 0) (row := some w.heap.size) ⟨rfl, rfl, rfl, by rw [hsz]; exact Nat.le_refl _, fun k _ hk => wr2_heap _ _ k (fun e => hk (by rw [e]))⟩ ?_) rfl).1
      cases e : Value.ownBlock (.slice a (tyK s.data.toList (wd s.data.toList).length).length ca) with
      | none => exact .inl rfl
      | some g => exact .inr (fun e' => by cases e'; have := (hown.lt _ e).1; omega)

/-- What the reference's Parse returns. -/
theorem rparse_val (s : ByteArray) (hs : s.size ≤ 600) (w : World) (hg : Gl w) :
    Calls Tryz.prog 18 #[.string s] w fun e w' => ∃ v, e = .returned (.agg #[v, .int .i64 (parseE s.data.toList)]) ∧ TysOf w' v (parseT s.data.toList) ∧ Below w.heap.size w w' := by
  have hlen : s.data.toList.length = s.size := by rw [Array.length_toList]; rfl
  have hnil : ∀ w', TysOf w' (.slice none 0 0) [] := fun w' => ⟨none, 0, rfl, fun h => absurd rfl h⟩
  rcases Nat.eq_zero_or_pos s.size with h0 | h0
  · have e : s = ⟨#[]⟩ := by
      obtain ⟨⟨l⟩⟩ := s
      cases l with
      | nil => rfl
      | cons a l => cases h0
    subst e
    refine (rparse_empty w).mono ?_
    rintro e w' ⟨rfl, hb⟩
    exact ⟨_, rfl, hnil w', hb⟩
  · by_cases hl : 64 < (wd s.data.toList).length
    · have hne : s.data.toList ≠ [] := fun e => by rw [e] at hlen; simp at hlen; omega
      have hE : parseE s.data.toList = 2 := by unfold parseE; rw [if_neg hne, if_pos hl]
      rw [parseT_no (by rw [hE]; decide), hE]
      refine (rparse_long s h0 hs hl w).mono ?_
      rintro e w' ⟨rfl, hb⟩
      exact ⟨_, rfl, hnil w', hb⟩
    · refine (rparse_main s h0 hs (by omega) w hg).mono ?_
      rintro e w' ⟨v, E, rfl, rfl, h1, h2⟩
      exact ⟨v, rfl, h1, h2⟩
end Go.Proofs.YtfcglnmfcniojaaGreatDoor
