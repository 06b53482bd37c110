/- What Text returns, whatever the types. Conditions: none. -/
import Derived.Test.YtfcglnmfcniojaaGreatDoorAc
import Derived.Test.YtfcglnmfcniojaaGreatDoorAd
import Derived.Defers
import Derived.OwnWalk
import Derived.Laws.AppendOwn
import Derived.Deep.LoopGhost
import Derived.WalkKit
import Derived.Maps.AppendAt
set_option linter.all false
namespace Go.Proofs.YtfcglnmfcniojaaGreatDoor
open Go.Eng Go.RowKit
set_option maxRecDepth 1000000

/-- Types as they lie in memory. -/
def TyAt (w : World) (a : Option Addr) (ts : List Ty) : Prop := ts ≠ [] → ∃ g o, a = some ⟨g, o, none⟩ ∧ g < w.heap.size ∧
  ∀ (j : Nat) (t : Ty), ts[j]? = some t → w.cell? ⟨g, o + j * 3, none⟩ = some (.int .i64 t.1) ∧ w.cell? ⟨g, o + j * 3 + 1, none⟩ = some (.int .i64 t.2.1) ∧ w.cell? ⟨g, o + j * 3 + 2, none⟩ = some (.int .i64 t.2.2)

/-- The world behind the box of the error. -/
abbrev bx (w : World) : World := w.alloc (.cells #[.int .i64 0] 25)
theorem box_bx {w : World} (hg : Gl w) : Box (bx w) w.heap.size 0 := ⟨hg.sz, by show (w.heap.push _)[w.heap.size]? = _; rw [Array.getElem?_push, if_pos rfl]⟩
theorem Box.below {w w' : World} {B : Nat} {e : Int} (h : Box w B e) {C : Nat} (hb : Below C w w') (hB : B < C) : Box w' B e := ⟨h.1, (hb.block B hB).trans h.2⟩
theorem bx_below (w : World) : Below w.heap.size w (bx w) := (Below.refl _ _).alloc (Nat.le_refl _) _
theorem bx_size (w : World) : (bx w).heap.size = w.heap.size + 1 := by show (w.heap.push _).size = _; rw [Array.size_push]

/-- The door, with a panic of need's. -/
theorem text_door_panic {w w1 : World} (hg : Gl w) (hB : Below (w.heap.size + 1) (bx w) w1) (e : Int) {tmps : Array Value} (h2 : tmps[2]? = some (.string ⟨⟨[]⟩⟩)) (h3 : tmps[3]? = some (.pointer (some ⟨w.heap.size, 0, none⟩))) :
    bodyPostD Tryz.prog Tryz.f15 (fun r w' => r = .returned (.tuple #[.string ⟨⟨[]⟩⟩, .int .i64 e]) ∧ Below w.heap.size w w') (.panic [{ v := failV e, recovered := false }])
      { tmps := tmps, defers := [{ target := .fn (.func 35) #[], args := #[.pointer (some ⟨w.heap.size, 0, none⟩)] }] } w1 := by
  have hbx : Box w1 w.heap.size 0 := (box_bx hg).below hB (by omega)
  have hg1 : Gl w1 := (hg.alloc _).below hB (by have := hg.sz; omega)
  refine leaves_cons (f := 35) (args := #[.pointer (some ⟨w.heap.size, 0, none⟩)]) (by simp) (by simp [go_sem]) ?_
  refine (caught_panic w1 hg1 w.heap.size hbx e).mono ?_
  rintro r m' w' ⟨⟨x, rfl⟩, rfl, hc, hb, _⟩
  have hB' : Below w.heap.size w w' := ((bx_below w).trans (hB.mono (by omega))).trans hb
  refine ⟨_, ?_, rfl, hB'⟩
  simp [results, Tryz.results15, go_sem, h2, h3, hc]

theorem box_set {w : World} {B : Nat} (h : Box w B 0) : Box (w.setCell ⟨B, 0, none⟩ (.int .i64 0)) B 0 := by
  refine ⟨h.1, ?_⟩
  simp only [World.setCell, Array.getElem?_modify, h.2]
  rfl
theorem box_cell {w : World} {B : Nat} {e : Int} (h : Box w B e) : w.cell? ⟨B, 0, none⟩ = some (.int .i64 e) ∧ w.frozen? ⟨B, 0, none⟩ = false := by
  constructor
  · simp only [World.cell?, h.2]; rfl
  · simp only [World.frozen?, h.2]; rfl
/-- The door, where the body has returned. -/
theorem text_door_at {w w1 : World} (hg : Gl w) (hbx : Box w1 w.heap.size 0) (hB : Below w.heap.size w w1) {s : ByteArray} {tmps : Array Value} (h2 : tmps[2]? = some (.string s)) (h3 : tmps[3]? = some (.pointer (some ⟨w.heap.size, 0, none⟩))) :
    bodyPostD Tryz.prog Tryz.f15 (fun r w' => r = .returned (.tuple #[.string s, .int .i64 0]) ∧ Below w.heap.size w w') .ret
      { tmps := tmps, defers := [{ target := .fn (.func 35) #[], args := #[.pointer (some ⟨w.heap.size, 0, none⟩)] }] } w1 := by
  refine leaves_cons (f := 35) (args := #[.pointer (some ⟨w.heap.size, 0, none⟩)]) (by simp) (by simp [go_sem]) ?_
  refine (caught_none _ (hg.since hB) w.heap.size hbx).mono ?_
  rintro r m' w' ⟨⟨x, rfl⟩, rfl, hc, hb, _⟩
  refine ⟨_, ?_, rfl, hB.trans hb⟩
  simp [results, Tryz.results15, go_sem, h2, h3, hc]
theorem text_door_ret {w w1 : World} (hg : Gl w) (hB : Below (w.heap.size + 1) (bx w) w1) {s : ByteArray} {tmps : Array Value} (h2 : tmps[2]? = some (.string s)) (h3 : tmps[3]? = some (.pointer (some ⟨w.heap.size, 0, none⟩))) :
    bodyPostD Tryz.prog Tryz.f15 (fun r w' => r = .returned (.tuple #[.string s, .int .i64 0]) ∧ Below w.heap.size w w') .ret
      { tmps := tmps, defers := [{ target := .fn (.func 35) #[], args := #[.pointer (some ⟨w.heap.size, 0, none⟩)] }] } (w1.setCell ⟨w.heap.size, 0, none⟩ (.int .i64 0)) :=
  text_door_at hg (box_set ((box_bx hg).below hB (by omega))) (((bx_below w).trans (hB.mono (by omega))).setCell (p := ⟨w.heap.size, 0, none⟩) (Nat.le_refl _) _) h2 h3

set_option maxHeartbeats 4000000 in
theorem text_long (a : Option Addr) (n cap : Nat) (w : World) (hg : Gl w) (hn : 64 < n) :
    Calls Tryz.prog 15 #[.slice a n cap] w fun e w' => e = .returned (.tuple #[.string ⟨⟨[]⟩⟩, .int .i64 2]) ∧ Below w.heap.size w w' := by
  have hn1 : decide ((n : Int) ≤ 64) = false := by simp; omega
  have HN := Lib.hid fun w => need_no 2 w
  go_enter_defers Tryz.func15, Tryz.ntmps15
  go_wp2_with (go_at_call 37; refine (HN.out _).mono ?_; rintro e w' ⟨rfl, rfl⟩)
  exact text_door_panic hg (Below.refl _ _) 2 rfl rfl
end Go.Proofs.YtfcglnmfcniojaaGreatDoor

namespace Go.Proofs.YtfcglnmfcniojaaGreatDoor
open Go.Eng Go.RowKit
set_option maxRecDepth 1000000

theorem info9 : (Tryz.prog.info? 9).map (fun i => (i.zero, i.size, i.bytes)) = some (some (.string ⟨#[]⟩), 1, 16) := by kernel_rfl
/-- The texts of the first k types. -/
def txs (ts : List Ty) (k : Nat) : List Value := (ts.take k).map fun t => .string ⟨⟨tx t⟩⟩

theorem txs_succ {ts : List Ty} {k : Nat} {t : Ty} (h : ts[k]? = some t) : txs ts (k + 1) = txs ts k ++ [.string ⟨⟨tx t⟩⟩] := by
  unfold txs
  rw [List.take_add_one, h]
  simp
theorem grown_of {w w' : World} (hb : Below w.heap.size w w') : w.grownBy w' none := ⟨hb.os, hb.tape, hb.output, hb.size, fun k hk _ => hb.block k hk⟩
theorem own_keep {w w1 : World} {base n sz : Nat} {e : TypeId} {v : Value} {xs : List Value} (h : w.ownsRow base e sz v n xs) (hb : Below w.heap.size w w1) : w1.ownsRow base e sz v n xs :=
  h.kept (grown_of hb) (by cases v.ownBlock <;> simp)
/-- Behind a call, and behind what grew. -/
theorem below_grow {w a c : World} {base sz : Nat} {e : TypeId} {v : Value} {n : Nat} {xs : List Value} (hB : Below w.heap.size w a) (ho : a.ownsRow base e sz v n xs) (hbase : w.heap.size ≤ base) (hg : a.grownBy c v.ownBlock) : Below w.heap.size w c :=
  ⟨hg.os.trans hB.os, hg.tape.trans hB.tape, hg.output.trans hB.output, Nat.le_trans hB.size hg.size, fun k hk => (hg.block k (Nat.lt_of_lt_of_le hk hB.size) (fun e => by have := (ho.lt k e.symm).1; omega)).trans (hB.block k hk)⟩
theorem below_grow' {w a c : World} {B base sz : Nat} {e : TypeId} {v : Value} {n : Nat} {xs : List Value} (hB : Below B w a) (hs : B ≤ w.heap.size) (ho : a.ownsRow base e sz v n xs) (hbase : B ≤ base) (hg : a.grownBy c v.ownBlock) : Below B w c :=
  ⟨hg.os.trans hB.os, hg.tape.trans hB.tape, hg.output.trans hB.output, Nat.le_trans hB.size hg.size, fun k hk => (hg.block k (Nat.lt_of_lt_of_le hk (Nat.le_trans hs hB.size)) (fun e => by have := (ho.lt k e.symm).1; omega)).trans (hB.block k hk)⟩
/-- The box of a type. -/
abbrev tbox (w : World) (K B F : Int) : World := w.alloc (.cells #[.int .i64 K, .int .i64 B, .int .i64 F] 36)
theorem tbox_below (w : World) (K B F : Int) : Below w.heap.size w (tbox w K B F) := (Below.refl _ _).alloc (Nat.le_refl _) _
theorem tbox_cells {w w2 : World} {K B F : Int} (h : Below (tbox w K B F).heap.size (tbox w K B F) w2) :
    w2.cell? ⟨w.heap.size, 0, none⟩ = some (.int .i64 K) ∧ w2.cell? ⟨w.heap.size, 1, none⟩ = some (.int .i64 B) ∧ w2.cell? ⟨w.heap.size, 2, none⟩ = some (.int .i64 F) := by
  have hs : w.heap.size < (tbox w K B F).heap.size := by show _ < (w.heap.push _).size; rw [Array.size_push]; omega
  refine ⟨?_, ?_, ?_⟩
  all_goals
    rw [h.cell (p := ⟨w.heap.size, _, none⟩) hs, World.cell?_alloc_at _ _ _ _ rfl]
    rfl

theorem TyAt.below {w w' : World} {a : Option Addr} {ts : List Ty} (h : TyAt w a ts) {B : Nat} (hb : Below B w w') (hB : ∀ g o, a = some ⟨g, o, none⟩ → g < B) : TyAt w' a ts := by
  intro hne
  obtain ⟨g, o, rfl, h1, h2⟩ := h hne
  have hg := hB g o rfl
  exact ⟨g, o, rfl, Nat.lt_of_lt_of_le h1 hb.size, fun j t ht => ⟨(hb.cell (p := ⟨g, _, none⟩) hg).trans (h2 j t ht).1, (hb.cell (p := ⟨g, _, none⟩) hg).trans (h2 j t ht).2.1, (hb.cell (p := ⟨g, _, none⟩) hg).trans (h2 j t ht).2.2⟩⟩

theorem jn_len : ∀ ts : List Ty, ts.all vT = true → (jn (ts.map tx)).length ≤ 4 * ts.length
  | [], _ => by simp [jn, Lib.join_nil]
  | [t], h => by
    simp only [List.all_cons, Bool.and_eq_true] at h
    have := tx_len h.1
    rw [List.map_cons, List.map_nil, jn_one]
    simp only [List.length_cons, List.length_nil]
    omega
  | t :: u :: ts, h => by
    have ih := jn_len (u :: ts) (by simp only [List.all_cons, Bool.and_eq_true] at h ⊢; exact h.2)
    simp only [List.all_cons, Bool.and_eq_true] at h
    have := tx_len h.1
    rw [List.map_cons, List.map_cons, jn_cons2]
    rw [List.map_cons] at ih
    simp only [List.length_append, List.length_cons] at ih ⊢
    omega

/-- The texts, joined. -/
theorem join_any (v : Value) (n base : Nat) (ts : List Ty) (W : World) (hn : n = ts.length) (h64 : n ≤ 64) (hv : ts.all vT = true) (hown : W.ownsRow base 9 1 v n (txs ts n)) :
    Calls Tryz.prog 40 #[v, .string ⟨#[32]⟩] W fun e w' => e = .returned (.string ⟨⟨jn (ts.map tx)⟩⟩) ∧ Below W.heap.size W w' := by
  have hat := fun g c (h : v = .slice (some ⟨g, 0, none⟩) n c) => World.ownsRow.cellAt (h ▸ hown)
  obtain ⟨_, ⟨rfl, h0⟩ | ⟨g, cap, cur, rfl, _, hg, hcap, _⟩⟩ := hown
  · rw [h0] at hn
    obtain rfl : ts = [] := List.eq_nil_of_length_eq_zero hn.symm
    refine (Tryz.strings_Join_none none 0 ⟨#[32]⟩ W).mono ?_
    rintro e w' ⟨rfl, rfl⟩
    exact ⟨rfl, Below.refl _ _⟩
  · have hcell := hat g cap rfl
    have hlen : (ts.map fun t => (⟨⟨tx t⟩⟩ : ByteArray)).length = n := by rw [List.length_map, hn]
    have hdata : (ts.map fun t => (⟨⟨tx t⟩⟩ : ByteArray)).map (·.data.toList) = ts.map tx := by rw [List.map_map]; rfl
    have key := Tryz.strings_Join g 0 cap (ts.map fun t => (⟨⟨tx t⟩⟩ : ByteArray)) ⟨#[32]⟩ W (fun j x hj => ?_) (Array.getElem?_eq_some_iff.1 hg).1 (by rw [hlen]; omega) (by rw [hlen]; exact hcap) (by
      rw [hdata]
      have := jn_len ts hv
      show (jn (ts.map tx)).length ≤ _
      omega)
    · rw [hlen, hdata] at key
      exact key
    · have hjn : j < n := by
        rw [← hlen]
        exact (List.getElem?_eq_some_iff.1 hj).1
      rw [Nat.zero_add, hcell j (by omega), txs, hn, List.take_length, List.getElem?_map]
      rw [List.getElem?_map] at hj
      cases ht : ts[j]? with
      | none => rw [ht] at hj; cases hj
      | some t => rw [ht] at hj; cases hj; rfl

set_option maxHeartbeats 4000000 in
theorem text_ok (b off cap : Nat) (ts : List Ty) (w : World) (hg : Gl w) (hn : ts.length ≤ 64) (hl : TyAt w (some ⟨b, off, none⟩) ts) (hb : b < w.heap.size) (hv : ts.all vT = true) :
    Calls Tryz.prog 15 #[.slice (some ⟨b, off, none⟩) ts.length cap] w fun e w' => e = .returned (.tuple #[.string ⟨⟨jn (ts.map tx)⟩⟩, .int .i64 0]) ∧ Below w.heap.size w w' := by
  have hn1 : decide ((ts.length : Int) ≤ 64) = true := by simp; omega
  have HN := Lib.hid fun e w => need_ok e w
  have HL : Aside (TyAt w (some ⟨b, off, none⟩) ts) := hl
  have HV : Aside (ts.all vT = true) := hv
  have HG : Aside (Gl w) := hg
  obtain ⟨i0, hi, hz0, hz1, hz2⟩ := info_parts info9
  obtain ⟨n, hnn⟩ : ∃ n, n = ts.length := ⟨_, rfl⟩
  rw [← hnn] at hn1 hn ⊢
  have HNN : Aside (n = ts.length) := hnn
  have hbx : b < (bx w).heap.size := by rw [bx_size]; omega
  clear hl hv hg hnn
  go_enter_defers Tryz.func15, Tryz.ntmps15
  go_wp2_with (go_at_call 37; refine (HN.out _ _).mono ?_; rintro e w' ⟨rfl, rfl⟩)
  go_loopw [4, 13] (fun v i wr => ∃ k : Nat, k ≤ n ∧ i = .int .i64 k ∧ Aside (wr.ownsRow (w.heap.size + 1) 9 1 v k (txs ts k)) ∧ Aside (Below (w.heap.size + 1) (bx w) wr)) (fun _ i _ => n - (intOf i).toNat)
  case atStart => exact ⟨0, Nat.zero_le _, rfl, World.ownsRow_nil _ _ _ _, Below.refl _ _⟩
  case round =>
    obtain ⟨k, hk, rfl, hown, hB⟩ := hrel
    by_cases hlt : k < n
    · obtain ⟨t, ht⟩ : ∃ t, ts[k]? = some t := ⟨_, List.getElem?_eq_getElem (by have := HNN.out; omega)⟩
      have hvt : vT t = true := List.all_eq_true.1 HV.out t (List.mem_of_getElem? ht)
      have HT : Aside (ts[k]? = some t) := ht
      obtain ⟨g, o, hgo, _, hcells⟩ := (HL.out.below (bx_below w) (fun g o e => by cases e; exact hb)).below hB.out (fun g o e => by cases e; omega) (fun e => by subst e; simp at ht)
      cases hgo
      obtain ⟨hc0, hc1, hc2⟩ := hcells k t ht
      obtain ⟨K, Bt, F⟩ := t
      simp only at hc0 hc1 hc2
      have HVAL : Hid (∀ W, Calls Tryz.prog 38 #[.agg #[.int .i64 K, .int .i64 Bt, .int .i64 F]] W fun e w' => e = .returned (.bool true) ∧ Below W.heap.size W w') := Lib.hid fun W => by
        have := valid_any K Bt F W
        rw [hvt] at this
        exact this
      have HTXT : Hid (∀ W, Gl W → Calls Tryz.prog 39 #[.agg #[.int .i64 K, .int .i64 Bt, .int .i64 F]] W fun e w' => e = .returned (.string ⟨⟨tx (K, Bt, F)⟩⟩) ∧ Below W.heap.size W w') := Lib.hid fun W hg => text_any (K, Bt, F) hvt W hg
      have hgr : Aside (Gl wr) := ((HG.out.alloc _).below hB.out (by have := HG.out.sz; omega))
      clear hcells ht hvt
      have hk0 : (0 : Int) ≤ (k : Int) := by omega
      have hk1 : (k : Int) < (n : Int) := by omega
      go_wp2_with (first
        | (go_at_call 38; refine (HVAL.out _).mono ?_; rintro e w2 ⟨rfl, hB2⟩; obtain ⟨d0, d1, d2⟩ := tbox_cells hB2)
        | (go_at_call 37; refine (HN.out _ _).mono ?_; rintro e w3 ⟨rfl, rfl⟩)
        | (go_at_call 39; refine (HTXT.out _ ((hgr.out.alloc _).since hB2)).mono ?_; rintro e w4 ⟨rfl, hB4⟩; have HC : Aside (Below wr.heap.size wr (w4.alloc (.cells #[.string ⟨⟨tx (K, Bt, F)⟩⟩] 9))) := step (step (step (tbox_below wr K Bt F) hB2) hB4) ((Below.refl _ _).alloc (Nat.le_refl _) _))
        | (at_builtin; refine wpList_append_own _ rfl _ _ 85 rfl (w.heap.size + 1) 9 i0 (.string ⟨#[]⟩) 1 16 Tryz.underlying85 hi hz0 hz1 hz2 rfl (by decide) _ _ _ rfl (own_keep hown.out HC.out) ⟨w4.heap.size, 0, none⟩ 1 1 [.string ⟨⟨tx (K, Bt, F)⟩⟩] rfl rfl (cell_one_new _ _ _) (by simp [Value.oneCell']) (by unfold maxLen; omega) (by omega) (by have h1 := hB.out.size; have h2 := HC.out.size; rw [bx_size] at h1; omega) ?_))
      intro v' w5 hown' hgrow _
      have R1 : Aside (w5.ownsRow (w.heap.size + 1) 9 1 v' (k + 1) (txs ts (k + 1))) := by rw [txs_succ HT.out]; exact hown'
      have R2 : Aside (Below (w.heap.size + 1) (bx w) w5) := below_grow' (hB.out.trans (HC.out.mono (by have h1 := hB.out.size; rw [bx_size] at h1; exact h1))) (by rw [bx_size]; omega) (own_keep hown.out HC.out) (Nat.le_refl _) hgrow
      clear hown' hgrow hown hB hB2 hB4 HC HVAL HTXT d0 d1 d2 hc0 hc1 hc2
      go_wp2
      go_roundw
      case rel => exact ⟨k + 1, by omega, by go_num, R1, R2⟩
      case measure => simp [intOf]; omega
    · have e : k = n := by omega
      subst e
      clear hlt
      have HJ := Lib.hid (join_any u4 k _ ts wr HNN.out hn HV.out hown.out)
      go_wp2_with (go_at_call 40; refine HJ.out.mono ?_; rintro e w6 ⟨rfl, hB6⟩; have HB6 : Aside (Below (w.heap.size + 1) (bx w) w6) := hB.out.trans (hB6.mono (by have h1 := hB.out.size; rw [bx_size] at h1; exact h1)); obtain ⟨d0, d1⟩ := box_cell ((box_bx HG.out).below HB6.out (by omega)))
      exact text_door_ret HG.out HB6.out rfl rfl
end Go.Proofs.YtfcglnmfcniojaaGreatDoor

namespace Go.Proofs.YtfcglnmfcniojaaGreatDoor
open Go.Eng Go.RowKit
set_option maxRecDepth 1000000

set_option maxHeartbeats 4000000 in
theorem text_bad (b off cap : Nat) (ts : List Ty) (w : World) (hg : Gl w) (hn : ts.length ≤ 64) (hl : TyAt w (some ⟨b, off, none⟩) ts) (hb : b < w.heap.size) (q : Nat) (tq : Ty) (hq : ts[q]? = some tq) (hv : (ts.take q).all vT = true) (hbad : vT tq = false) :
    Calls Tryz.prog 15 #[.slice (some ⟨b, off, none⟩) ts.length cap] w fun e w' => e = .returned (.tuple #[.string ⟨⟨[]⟩⟩, .int .i64 1]) ∧ Below w.heap.size w w' := by
  have hn1 : decide ((ts.length : Int) ≤ 64) = true := by simp; omega
  have HN := Lib.hid fun e w => need_ok e w
  have HL : Aside (TyAt w (some ⟨b, off, none⟩) ts) := hl
  have HV : Aside ((ts.take q).all vT = true) := hv
  have HQ : Aside (ts[q]? = some tq) := hq
  have hqn0 : q < ts.length := (List.getElem?_eq_some_iff.1 hq).1
  have HG : Aside (Gl w) := hg
  obtain ⟨i0, hi, hz0, hz1, hz2⟩ := info_parts info9
  obtain ⟨n, hnn⟩ : ∃ n, n = ts.length := ⟨_, rfl⟩
  rw [← hnn] at hn1 hn hqn0 ⊢
  have HNN : Aside (n = ts.length) := hnn
  have hbx : b < (bx w).heap.size := by rw [bx_size]; omega
  clear hl hv hg hnn hq
  go_enter_defers Tryz.func15, Tryz.ntmps15
  go_wp2_with (go_at_call 37; refine (HN.out _ _).mono ?_; rintro e w' ⟨rfl, rfl⟩)
  go_loopw [4, 13] (fun v i wr => ∃ k : Nat, k ≤ q ∧ i = .int .i64 k ∧ Aside (wr.ownsRow (w.heap.size + 1) 9 1 v k (txs ts k)) ∧ Aside (Below (w.heap.size + 1) (bx w) wr)) (fun _ i _ => n - (intOf i).toNat)
  case atStart => exact ⟨0, Nat.zero_le _, rfl, World.ownsRow_nil _ _ _ _, Below.refl _ _⟩
  case round =>
    obtain ⟨k, hk, rfl, hown, hB⟩ := hrel
    by_cases hlt : k < q
    · obtain ⟨t, ht⟩ : ∃ t, ts[k]? = some t := ⟨_, List.getElem?_eq_getElem (by have := HNN.out; omega)⟩
      have hvt : vT t = true := List.all_eq_true.1 HV.out t (List.mem_of_getElem? (i := k) (by rw [List.getElem?_take, if_pos hlt]; exact ht))
      have HT : Aside (ts[k]? = some t) := ht
      obtain ⟨g, o, hgo, _, hcells⟩ := (HL.out.below (bx_below w) (fun g o e => by cases e; exact hb)).below hB.out (fun g o e => by cases e; omega) (fun e => by subst e; simp at ht)
      cases hgo
      obtain ⟨hc0, hc1, hc2⟩ := hcells k t ht
      obtain ⟨K, Bt, F⟩ := t
      simp only at hc0 hc1 hc2
      have HVAL : Hid (∀ W, Calls Tryz.prog 38 #[.agg #[.int .i64 K, .int .i64 Bt, .int .i64 F]] W fun e w' => e = .returned (.bool true) ∧ Below W.heap.size W w') := Lib.hid fun W => by
        have := valid_any K Bt F W
        rw [hvt] at this
        exact this
      have HTXT : Hid (∀ W, Gl W → Calls Tryz.prog 39 #[.agg #[.int .i64 K, .int .i64 Bt, .int .i64 F]] W fun e w' => e = .returned (.string ⟨⟨tx (K, Bt, F)⟩⟩) ∧ Below W.heap.size W w') := Lib.hid fun W hg => text_any (K, Bt, F) hvt W hg
      have hgr : Aside (Gl wr) := ((HG.out.alloc _).below hB.out (by have := HG.out.sz; omega))
      clear hcells ht hvt
      have hk0 : (0 : Int) ≤ (k : Int) := by omega
      have hk1 : (k : Int) < (n : Int) := by omega
      go_wp2_with (first
        | (go_at_call 38; refine (HVAL.out _).mono ?_; rintro e w2 ⟨rfl, hB2⟩; obtain ⟨d0, d1, d2⟩ := tbox_cells hB2)
        | (go_at_call 37; refine (HN.out _ _).mono ?_; rintro e w3 ⟨rfl, rfl⟩)
        | (go_at_call 39; refine (HTXT.out _ ((hgr.out.alloc _).since hB2)).mono ?_; rintro e w4 ⟨rfl, hB4⟩; have HC : Aside (Below wr.heap.size wr (w4.alloc (.cells #[.string ⟨⟨tx (K, Bt, F)⟩⟩] 9))) := step (step (step (tbox_below wr K Bt F) hB2) hB4) ((Below.refl _ _).alloc (Nat.le_refl _) _))
        | (at_builtin; refine wpList_append_own _ rfl _ _ 85 rfl (w.heap.size + 1) 9 i0 (.string ⟨#[]⟩) 1 16 Tryz.underlying85 hi hz0 hz1 hz2 rfl (by decide) _ _ _ rfl (own_keep hown.out HC.out) ⟨w4.heap.size, 0, none⟩ 1 1 [.string ⟨⟨tx (K, Bt, F)⟩⟩] rfl rfl (cell_one_new _ _ _) (by simp [Value.oneCell']) (by unfold maxLen; omega) (by omega) (by have h1 := hB.out.size; have h2 := HC.out.size; rw [bx_size] at h1; omega) ?_))
      intro v' w5 hown' hgrow _
      have R1 : Aside (w5.ownsRow (w.heap.size + 1) 9 1 v' (k + 1) (txs ts (k + 1))) := by rw [txs_succ HT.out]; exact hown'
      have R2 : Aside (Below (w.heap.size + 1) (bx w) w5) := below_grow' (hB.out.trans (HC.out.mono (by have h1 := hB.out.size; rw [bx_size] at h1; exact h1))) (by rw [bx_size]; omega) (own_keep hown.out HC.out) (Nat.le_refl _) hgrow
      clear hown' hgrow hown hB hB2 hB4 HC HVAL HTXT d0 d1 d2 hc0 hc1 hc2
      go_wp2
      go_roundw
      case rel => exact ⟨k + 1, by omega, by go_num, R1, R2⟩
      case measure => simp [intOf]; omega
    · have e : k = q := by omega
      subst e
      obtain ⟨g, o, hgo, _, hcells⟩ := (HL.out.below (bx_below w) (fun g o e => by cases e; exact hb)).below hB.out (fun g o e => by cases e; omega) (fun e => by subst e; have := HQ.out; simp at this)
      cases hgo
      obtain ⟨hc0, hc1, hc2⟩ := hcells k tq HQ.out
      obtain ⟨K, Bt, F⟩ := tq
      simp only at hc0 hc1 hc2
      have HVAL : Hid (∀ W, Calls Tryz.prog 38 #[.agg #[.int .i64 K, .int .i64 Bt, .int .i64 F]] W fun e w' => e = .returned (.bool false) ∧ Below W.heap.size W w') := Lib.hid fun W => by
        have := valid_any K Bt F W
        rw [hbad] at this
        exact this
      have HNO := Lib.hid fun w => need_no 1 w
      clear hcells hbad
      have hk0 : (0 : Int) ≤ (k : Int) := by omega
      have hk1 : (k : Int) < (n : Int) := by omega
      go_wp2_with (first
        | (go_at_call 38; refine (HVAL.out _).mono ?_; rintro e w2 ⟨rfl, hB2⟩; obtain ⟨d0, d1, d2⟩ := tbox_cells hB2)
        | (go_at_call 37; refine (HNO.out _).mono ?_; rintro e w3 ⟨rfl, rfl⟩))
      exact text_door_panic HG.out (hB.out.trans ((step (tbox_below wr K Bt F) hB2).mono (by have h1 := hB.out.size; rw [bx_size] at h1; exact h1))) 1 rfl rfl
end Go.Proofs.YtfcglnmfcniojaaGreatDoor

namespace Go.Proofs.YtfcglnmfcniojaaGreatDoor
open Go.Eng Go.RowKit
set_option maxRecDepth 1000000

theorem text_nil (a : Option Addr) (cap : Nat) (w : World) (hg : Gl w) :
    Calls Tryz.prog 15 #[.slice a 0 cap] w fun e w' => e = .returned (.tuple #[.string ⟨⟨[]⟩⟩, .int .i64 0]) ∧ Below w.heap.size w w' := by
  have HN := Lib.hid fun e w => need_ok e w
  have HG : Aside (Gl w) := hg
  have HJ := Lib.hid fun w => Tryz.strings_Join_none none 0 ⟨#[32]⟩ w
  have hbc := box_cell (box_bx hg)
  obtain ⟨d0, d1⟩ := hbc
  clear hg
  go_enter_defers Tryz.func15, Tryz.ntmps15
  go_wp2_with (go_at_call 37; refine (HN.out _ _).mono ?_; rintro e w' ⟨rfl, rfl⟩)
  refine wp_loop_rounds 1 ?_
  rw [rounds_succ]
  go_wp2_with (go_at_call 40; refine (HJ.out _).mono ?_; rintro e w6 ⟨rfl, rfl⟩)
  exact text_door_at HG.out (box_bx HG.out) (bx_below w) rfl rfl

/-- Types that a value holds. -/
def TysOf (w : World) (v : Value) (ts : List Ty) : Prop := ∃ a c, v = .slice a ts.length c ∧ TyAt w a ts

theorem TyAt.since {w w' : World} {a : Option Addr} {ts : List Ty} (h : TyAt w a ts) {B : Nat} (hb : Below B w w') (hB : w.heap.size ≤ B) : TyAt w' a ts := by
  intro hne
  obtain ⟨g, o, rfl, h1, h2⟩ := h hne
  exact (h.below hb (fun g' o' e => by cases e; omega)) hne
theorem TysOf.since {w w' : World} {v : Value} {ts : List Ty} (h : TysOf w v ts) {B : Nat} (hb : Below B w w') (hB : w.heap.size ≤ B) : TysOf w' v ts := by
  obtain ⟨a, c, rfl, h1⟩ := h
  exact ⟨a, c, rfl, h1.since hb hB⟩

theorem first_bad (ts : List Ty) (h : ts.all vT = false) : ∃ (q : Nat) (t : Ty), ts[q]? = some t ∧ (ts.take q).all vT = true ∧ vT t = false := by
  induction ts with
  | nil => cases h
  | cons t ts ih =>
    cases ht : vT t with
    | false => exact ⟨0, t, rfl, rfl, ht⟩
    | true =>
      rw [List.all_cons, ht, Bool.true_and] at h
      obtain ⟨q, u, h1, h2, h3⟩ := ih h
      exact ⟨q + 1, u, h1, by rw [List.take_succ_cons, List.all_cons, ht, h2]; rfl, h3⟩

theorem text_val (v : Value) (ts : List Ty) (w : World) (hg : Gl w) (hv : TysOf w v ts) :
    Calls Tryz.prog 15 #[v] w fun e w' => e = .returned (.tuple #[.string ⟨⟨textS ts⟩⟩, .int .i64 (textE ts)]) ∧ Below w.heap.size w w' := by
  obtain ⟨a, c, rfl, hl⟩ := hv
  by_cases h64 : 64 < ts.length
  · have hE : textE ts = 2 := by unfold textE; rw [if_pos h64]
    rw [textS_no (by rw [hE]; decide), hE]
    exact text_long a ts.length c w hg h64
  · cases ts with
    | nil => exact text_nil a c w hg
    | cons t ts =>
      obtain ⟨g, o, rfl, hgs, _⟩ := hl (by simp)
      cases ha : (t :: ts).all vT with
      | true =>
        have hE : textE (t :: ts) = 0 := by unfold textE; rw [if_neg h64, if_pos ha]
        rw [textS, if_pos hE, hE]
        exact text_ok g o c (t :: ts) w hg (by omega) hl hgs ha
      | false =>
        have hE : textE (t :: ts) = 1 := by unfold textE; rw [if_neg h64, if_neg (by rw [ha]; simp)]
        rw [textS_no (by rw [hE]; decide), hE]
        obtain ⟨q, u, h1, h2, h3⟩ := first_bad _ ha
        exact text_bad g o c (t :: ts) w hg (by omega) hl hgs q u h1 h2 h3
end Go.Proofs.YtfcglnmfcniojaaGreatDoor
