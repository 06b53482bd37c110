/- What Parse returns, whatever the text of less than 4294967281 bytes; two lists of the same types are the same. Conditions: none. -/
import Derived.Test.YtfcglnmfcniojaaGreatDoorAf
import Derived.Test.YtfcglnmfcniojaaGreatDoorAa
import Derived.Test.YtfcglnmfcniojaaGreatDoorAe
import Derived.Deep.QuietTactic
import Derived.BigQuiet
set_option linter.all false
namespace Go.Proofs.YtfcglnmfcniojaaGreatDoor
open Go.Eng Go.RowKit
set_option maxRecDepth 1000000

/-- The door, with a panic of need's. -/
theorem parse_door_panic {w w1 : World} (hg : Gl w) (hB : Below (w.heap.size + 1) (bx w) w1) (e : Int) {tmps : Array Value} (h2 : tmps[2]? = some (.slice none 0 0)) (h3 : tmps[3]? = some (.pointer (some ⟨w.heap.size, 0, none⟩))) :
    bodyPostD Tryz.prog Tryz.f17 (fun r w' => ∃ v, r = .returned (.tuple #[v, .int .i64 e]) ∧ TysOf w' v [] ∧ Below w.heap.size w w') (.panic [{ v := failV e, recovered := false }])
      { tmps := tmps, defers := [{ target := .fn (.func 35) #[], args := #[.pointer (some ⟨w.heap.size, 0, none⟩)] }] } w1 := by
  have hbx : Box w1 w.heap.size 0 := (box_bx hg).below hB (by omega)
  have hg1 : Gl w1 := (hg.alloc _).below hB (by have := hg.sz; omega)
  refine leaves_cons (f := 35) (args := #[.pointer (some ⟨w.heap.size, 0, none⟩)]) (by simp) (by simp [go_sem]) ?_
  refine (caught_panic w1 hg1 w.heap.size hbx e).mono ?_
  rintro r m' w' ⟨⟨x, rfl⟩, rfl, hc, hb, _⟩
  have hB' : Below w.heap.size w w' := ((bx_below w).trans (hB.mono (by omega))).trans hb
  refine ⟨_, ?_, .slice none 0 0, rfl, ⟨none, 0, rfl, fun h => absurd rfl h⟩, hB'⟩
  simp [results, Tryz.results17, go_sem, h2, h3, hc]

/-- What is said of a value lasts where all but the box lasts. -/
theorem TysOf.beside {w w' : World} {v : Value} {ts : List Ty} {B : Nat} (h : TysOf w v ts) (hb : Beside B w w') (hB : ∀ g o c, v = .slice (some ⟨g, o, none⟩) ts.length c → g ≠ B) : TysOf w' v ts := by
  obtain ⟨a, c, rfl, h1⟩ := h
  refine ⟨a, c, rfl, fun hne => ?_⟩
  obtain ⟨g, o, rfl, hg, hc⟩ := h1 hne
  have e := hb.rest g hg (hB g o c rfl)
  have cell : ∀ o, w'.cell? ⟨g, o, none⟩ = w.cell? ⟨g, o, none⟩ := fun o => by simp only [World.cell?, e]
  exact ⟨g, o, rfl, Nat.lt_of_lt_of_le hg hb.below.size, fun j t ht => ⟨(cell _).trans (hc j t ht).1, (cell _).trans (hc j t ht).2.1, (cell _).trans (hc j t ht).2.2⟩⟩
theorem TysOf.set {w : World} {v : Value} {ts : List Ty} {B : Nat} (h : TysOf w v ts) (x : Value) (hB : ∀ g o c, v = .slice (some ⟨g, o, none⟩) ts.length c → g ≠ B) : TysOf (w.setCell ⟨B, 0, none⟩ x) v ts := by
  obtain ⟨a, c, rfl, h1⟩ := h
  refine ⟨a, c, rfl, fun hne => ?_⟩
  obtain ⟨g, o, rfl, hg, hc⟩ := h1 hne
  have hne := hB g o c rfl
  have cell : ∀ o, (w.setCell ⟨B, 0, none⟩ x).cell? ⟨g, o, none⟩ = w.cell? ⟨g, o, none⟩ := fun o => World.cell?_setCell_other _ _ _ _ (fun e => hne (by cases e; rfl))
  exact ⟨g, o, rfl, by simpa [World.setCell] using hg, fun j t ht => ⟨(cell _).trans (hc j t ht).1, (cell _).trans (hc j t ht).2.1, (cell _).trans (hc j t ht).2.2⟩⟩

/-- The door, where the body has returned. -/
theorem parse_door_at {w w1 : World} (hg : Gl w) (hbx : Box w1 w.heap.size 0) (hB : Below w.heap.size w w1) {v : Value} {ts : List Ty} (hv : TysOf w1 v ts) (hvB : ∀ g o c, v = .slice (some ⟨g, o, none⟩) ts.length c → g ≠ w.heap.size) {tmps : Array Value} (h2 : tmps[2]? = some v) (h3 : tmps[3]? = some (.pointer (some ⟨w.heap.size, 0, none⟩))) :
    bodyPostD Tryz.prog Tryz.f17 (fun r w' => ∃ v, r = .returned (.tuple #[v, .int .i64 0]) ∧ TysOf w' v ts ∧ Below w.heap.size w w') .ret
      { tmps := tmps, defers := [{ target := .fn (.func 35) #[], args := #[.pointer (some ⟨w.heap.size, 0, none⟩)] }] } w1 := by
  refine leaves_cons (f := 35) (args := #[.pointer (some ⟨w.heap.size, 0, none⟩)]) (by simp) (by simp [go_sem]) ?_
  refine (caught_none _ (hg.since hB) w.heap.size hbx).mono ?_
  rintro r m' w' ⟨⟨x, rfl⟩, rfl, hc, hb⟩
  refine ⟨_, ?_, v, rfl, hv.beside hb hvB, hB.trans hb.below⟩
  simp [results, Tryz.results17, go_sem, h2, h3, hc]
theorem parse_door_ret {w w1 : World} (hg : Gl w) (hB : Below (w.heap.size + 1) (bx w) w1) {v : Value} {ts : List Ty} (hv : TysOf w1 v ts) (hvB : ∀ g o c, v = .slice (some ⟨g, o, none⟩) ts.length c → g ≠ w.heap.size) {tmps : Array Value} (h2 : tmps[2]? = some v) (h3 : tmps[3]? = some (.pointer (some ⟨w.heap.size, 0, none⟩))) :
    bodyPostD Tryz.prog Tryz.f17 (fun r w' => ∃ v, r = .returned (.tuple #[v, .int .i64 0]) ∧ TysOf w' v ts ∧ Below w.heap.size w w') .ret
      { tmps := tmps, defers := [{ target := .fn (.func 35) #[], args := #[.pointer (some ⟨w.heap.size, 0, none⟩)] }] } (w1.setCell ⟨w.heap.size, 0, none⟩ (.int .i64 0)) :=
  parse_door_at hg (box_set ((box_bx hg).below hB (by omega))) (((bx_below w).trans (hB.mono (by omega))).setCell (p := ⟨w.heap.size, 0, none⟩) (Nat.le_refl _) _) (hv.set _ hvB) hvB h2 h3

theorem parse_empty (w : World) (hg : Gl w) : Calls Tryz.prog 17 #[.string ⟨#[]⟩] w fun e w' => ∃ v, e = .returned (.tuple #[v, .int .i64 0]) ∧ TysOf w' v [] ∧ Below w.heap.size w w' := by
  have HG : Aside (Gl w) := hg
  obtain ⟨d0, d1⟩ := box_cell (box_bx hg)
  clear hg
  go_enter_defers Tryz.func17, Tryz.ntmps17
  go_wp2
  exact parse_door_at HG.out (box_bx HG.out) (bx_below w) (v := .slice none 0 0) ⟨none, 0, rfl, fun h => absurd rfl h⟩ (fun g o c h => by cases h) rfl rfl

/-- strings.Split at blanks. -/
theorem split_call (s : ByteArray) (hs : s.size < 4294967281) (w : World) (hg : Gl w) :
    Calls Tryz.prog 43 #[.string s, .string ⟨#[32]⟩] w fun e w' => ∃ ps : List ByteArray, ps.map (·.data.toList) = wd s.data.toList ∧ e = .returned (.slice (some ⟨w.heap.size, 0, none⟩) ps.length ps.length) ∧ w' = w.alloc (.cells (ps.map Value.string).toArray 9) := by
  obtain ⟨m, hm⟩ := hg.g1
  refine (Tryz.strings_Split s ⟨#[32]⟩ m w hs hm (Nat.le_refl 1)).mono ?_
  rintro e w' ⟨rfl, rfl⟩
  refine ⟨_, splitB_wd s, ?_, rfl⟩
  have h1 := congrArg List.length (splitB_wd s)
  rw [List.length_map] at h1
  rw [h1, countB_wd]

set_option maxHeartbeats 4000000 in
theorem parse_long (s : ByteArray) (h0 : 0 < s.size) (hs : s.size < 4294967281) (hl : 64 < (wd s.data.toList).length) (w : World) (hg : Gl w) :
    Calls Tryz.prog 17 #[.string s] w fun e w' => ∃ v, e = .returned (.tuple #[v, .int .i64 2]) ∧ TysOf w' v [] ∧ Below w.heap.size w w' := by
  have HG : Aside (Gl w) := hg
  have HN := Lib.hid fun w => need_no 2 w
  have HS := Lib.hid fun w hg => split_call s hs w hg
  have hne : s.toList.isEmpty = false := empty_no h0
  have HL : Aside (64 < (wd s.data.toList).length) := hl
  clear hg hl
  go_enter_defers Tryz.func17, Tryz.ntmps17
  go_wp2_with (first
    | (go_at_call 43; refine (HS.out _ (HG.out.alloc _)).mono ?_; rintro e w2 ⟨ps, hps, rfl, rfl⟩; have hpl : decide ((ps.length : Int) ≤ 64) = false := by
        have := HL.out; rw [← hps, List.length_map] at this; simp; omega)
    | (go_at_call 37; refine (HN.out _).mono ?_; rintro e w' ⟨rfl, rfl⟩))
  exact parse_door_panic HG.out ((Below.refl _ _).alloc (by rw [bx_size]; omega) _) 2 rfl rfl
end Go.Proofs.YtfcglnmfcniojaaGreatDoor

namespace Go.Proofs.YtfcglnmfcniojaaGreatDoor
open Go.Eng Go.RowKit
set_option maxRecDepth 1000000

theorem info36 : (Tryz.prog.info? 36).map (fun i => (i.zero, i.size, i.bytes)) = some (some (.agg #[.int .i64 0, .int .i64 0, .int .i64 0]), 3, 24) := by kernel_rfl

/-- The cells of types. -/
def tcs (ts : List Ty) : List Value := ts.flatMap fun t => [.int .i64 t.1, .int .i64 t.2.1, .int .i64 t.2.2]
/-- The types of the first k words. -/
def tyK (l : List UInt8) (k : Nat) : List Ty := ((wd l).take k).filterMap ty
theorem tyK_succ {l : List UInt8} {k : Nat} {p : List UInt8} {t : Ty} (h : (wd l)[k]? = some p) (ht : ty p = some t) : tyK l (k + 1) = tyK l k ++ [t] := by
  unfold tyK
  rw [List.take_add_one, h, List.filterMap_append]
  simp [ht]
theorem tcs_app (a b : List Ty) : tcs (a ++ b) = tcs a ++ tcs b := by unfold tcs; rw [List.flatMap_append]
theorem tcs_one (K B F : Int) : tcs [(K, B, F)] = [.int .i64 K, .int .i64 B, .int .i64 F] := rfl

theorem news3 (w : World) (K B F : Int) {n : Nat} (hn : n = w.heap.size) : ∀ j u, [Value.int .i64 K, .int .i64 B, .int .i64 F][j]? = some u → (w.alloc (.cells #[.int .i64 K, .int .i64 B, .int .i64 F] 36)).cell? ((⟨n, 0, none⟩ : Addr).add j) = some u := by
  intro j u hj
  subst hn
  have e : (⟨w.heap.size, 0, none⟩ : Addr).add j = ⟨w.heap.size, 0 + j, none⟩ := by unfold Addr.add; split <;> simp_all
  rw [e, Nat.zero_add, World.cell?_alloc_at _ _ _ _ rfl]
  rcases j with _ | _ | _ | j
  · exact hj
  · exact hj
  · exact hj
  · simp at hj

theorem tbox_size (w : World) (K B F : Int) : (tbox w K B F).heap.size = w.heap.size + 1 := by show (w.heap.push _).size = _; rw [Array.size_push]
theorem tcs_at : ∀ (ts : List Ty) (j : Nat) (t : Ty), ts[j]? = some t → (tcs ts)[j * 3]? = some (.int .i64 t.1) ∧ (tcs ts)[j * 3 + 1]? = some (.int .i64 t.2.1) ∧ (tcs ts)[j * 3 + 2]? = some (.int .i64 t.2.2)
  | [], j, t, h => by simp at h
  | u :: ts, 0, t, h => by simp at h; subst h; exact ⟨rfl, rfl, rfl⟩
  | u :: ts, j + 1, t, h => by
    have ih := tcs_at ts j t (by simpa using h)
    have e : tcs (u :: ts) = .int .i64 u.1 :: .int .i64 u.2.1 :: .int .i64 u.2.2 :: tcs ts := rfl
    rw [e, show (j + 1) * 3 = j * 3 + 1 + 1 + 1 by omega]
    exact ih
theorem tcs_len (ts : List Ty) : (tcs ts).length = ts.length * 3 := by
  induction ts with
  | nil => rfl
  | cons t ts ih =>
    have e : tcs (t :: ts) = .int .i64 t.1 :: .int .i64 t.2.1 :: .int .i64 t.2.2 :: tcs ts := rfl
    rw [e]
    simp only [List.length_cons, ih]
    omega

theorem tys_owned {w : World} {base n : Nat} {v : Value} {ts : List Ty} (h : w.ownsRow base 36 3 v n (tcs ts)) (hn : n = ts.length) : TysOf w v ts ∧ ∀ g o c, v = .slice (some ⟨g, o, none⟩) ts.length c → base ≤ g := by
  have hat := fun g c (e : v = .slice (some ⟨g, 0, none⟩) n c) => World.ownsRow.cellAt (e ▸ h)
  subst hn
  obtain ⟨_, ⟨rfl, h0⟩ | ⟨g, cap, cur, rfl, hb, hg, hcap, _⟩⟩ := h
  · refine ⟨⟨none, 0, by rw [h0], fun hne => absurd (List.eq_nil_of_length_eq_zero h0) hne⟩, fun g o c e => by cases e⟩
  · have hcell := hat g cap rfl
    refine ⟨⟨some ⟨g, 0, none⟩, cap, rfl, fun _ => ⟨g, 0, rfl, (Array.getElem?_eq_some_iff.1 hg).1, fun j t ht => ?_⟩⟩, fun g' o c e => by cases e; exact hb⟩
    have hj : j < ts.length := (List.getElem?_eq_some_iff.1 ht).1
    obtain ⟨a, b, c⟩ := tcs_at ts j t ht
    rw [Nat.zero_add]
    exact ⟨(hcell _ (by omega)).trans a, (hcell _ (by omega)).trans b, (hcell _ (by omega)).trans c⟩

/-- typeOf, at the text of a type, and at another one. -/
theorem typeOf_yes {p : ByteArray} {K B F : Int} (h : ty p.data.toList = some (K, B, F)) (w : World) (hg : Gl w) : Calls Tryz.prog 44 #[.string p] w fun e w' => e = .returned (.tuple #[.agg #[.int .i64 K, .int .i64 B, .int .i64 F], .bool true]) ∧ Below w.heap.size w w' := by
  refine (typeOf_val p w hg).mono ?_
  rintro e w' ⟨⟨t, ok, rfl, ht⟩, hb⟩
  rw [h] at ht
  cases ok with
  | false => cases ht
  | true => cases ht; exact ⟨rfl, hb⟩
theorem typeOf_no {p : ByteArray} (h : ty p.data.toList = none) (w : World) (hg : Gl w) : Calls Tryz.prog 44 #[.string p] w fun e w' => (∃ K B F, e = .returned (.tuple #[.agg #[.int .i64 K, .int .i64 B, .int .i64 F], .bool false])) ∧ Below w.heap.size w w' := by
  refine (typeOf_val p w hg).mono ?_
  rintro e w' ⟨⟨t, ok, rfl, ht⟩, hb⟩
  rw [h] at ht
  cases ok with
  | false => exact ⟨⟨_, _, _, rfl⟩, hb⟩
  | true => cases ht

/-- The world behind the box and the words. -/
abbrev bw (w : World) (ps : List ByteArray) : World := (bx w).alloc (.cells (ps.map Value.string).toArray 9)
theorem bw_size (w : World) (ps : List ByteArray) : (bw w ps).heap.size = w.heap.size + 2 := by show ((w.heap.push _).push _).size = _; rw [Array.size_push, Array.size_push]
theorem bw_below (w : World) (ps : List ByteArray) : Below (w.heap.size + 1) (bx w) (bw w ps) := (Below.refl _ _).alloc (by rw [bx_size]; omega) _
theorem bw_cell {w : World} {ps : List ByteArray} {k : Nat} {p : ByteArray} (h : ps[k]? = some p) : (bw w ps).cell? ⟨w.heap.size + 1, k, none⟩ = some (.string p) := by
  rw [World.cell?_alloc_at _ _ _ _ (by rw [bx_size])]
  simp [h]

set_option maxHeartbeats 4000000 in
theorem parse_ok (s : ByteArray) (h0 : 0 < s.size) (hs : s.size < 4294967281) (hl : (wd s.data.toList).length ≤ 64) (hall : (wd s.data.toList).all (fun w => (ty w).isSome) = true) (w : World) (hg : Gl w) :
    Calls Tryz.prog 17 #[.string s] w fun e w' => ∃ v, e = .returned (.tuple #[v, .int .i64 0]) ∧ TysOf w' v (tyK s.data.toList (wd s.data.toList).length) ∧ Below w.heap.size w w' := by
  have HG : Aside (Gl w) := hg
  have HN := Lib.hid fun e w => need_ok e w
  have HS := Lib.hid fun w hg => split_call s hs w hg
  have hne : s.toList.isEmpty = false := empty_no h0
  have HL : Aside ((wd s.data.toList).length ≤ 64) := hl
  have HA : Aside ((wd s.data.toList).all (fun w => (ty w).isSome) = true) := hall
  obtain ⟨i0, hi, hz0, hz1, hz2⟩ := info_parts info36
  clear hg hl hall
  go_enter_defers Tryz.func17, Tryz.ntmps17
  go_wp2_with (first
    | (go_at_call 43; refine (HS.out _ (HG.out.alloc _)).mono ?_; rintro e w2 ⟨ps, hps, rfl, rfl⟩; have hpn : ps.length ≤ 64 := by
        have := HL.out; rw [← hps, List.length_map] at this; exact this
       have hpl : decide ((ps.length : Int) ≤ 64) = true := by simp; omega)
    | (go_at_call 37; refine (HN.out _ _).mono ?_; rintro e w' ⟨rfl, rfl⟩))
  have HP : Aside (ps.map (·.data.toList) = wd s.data.toList) := hps
  clear hps
  go_loopw [5, 20] (fun v i wr => ∃ k : Nat, k ≤ ps.length ∧ i = .int .i64 k ∧ Aside (wr.ownsRow (w.heap.size + 2) 36 3 v k (tcs (tyK s.data.toList k))) ∧ Aside (Below (w.heap.size + 2) (bw w ps) wr)) (fun _ i _ => ps.length - (intOf i).toNat)
  case atStart => exact ⟨0, Nat.zero_le _, rfl, World.ownsRow_nil _ _ _ _, Below.refl _ _⟩
  case round =>
    obtain ⟨k, hk, rfl, hown, hB⟩ := hrel
    by_cases hlt : k < ps.length
    · obtain ⟨p, hp⟩ : ∃ p, ps[k]? = some p := ⟨_, List.getElem?_eq_getElem hlt⟩
      have hw : (wd s.data.toList)[k]? = some p.data.toList := by rw [← HP.out, List.getElem?_map, hp]; rfl
      obtain ⟨⟨K, Bt, F⟩, hty⟩ := Option.isSome_iff_exists.1 (List.all_eq_true.1 HA.out p.data.toList (List.mem_of_getElem? hw))
      have HK : Aside (tyK s.data.toList (k + 1) = tyK s.data.toList k ++ [(K, Bt, F)]) := tyK_succ hw hty
      have hc := (hB.out.cell (p := ⟨w.heap.size + 1, k, none⟩) (by simp)).trans (bw_cell (w := w) hp)
      have HTY := Lib.hid fun W hg => typeOf_yes hty W hg
      have hsz : Aside (w.heap.size + 2 ≤ wr.heap.size) := by have h1 := hB.out.size; rw [bw_size] at h1; exact h1
      have hgr : Aside (Gl wr) := ((HG.out.alloc _).alloc _).below hB.out (by have := HG.out.sz; omega)
      clear hp hw hty
      have hk0 : (0 : Int) ≤ (k : Int) := by omega
      have hk1 : (k : Int) < (ps.length : Int) := by omega
      go_wp2_with (first
        | (go_at_call 44; refine (HTY.out _ hgr.out).mono ?_; rintro e w2 ⟨rfl, hB2⟩; obtain ⟨d0, d1, d2⟩ := tbox_cells (Below.refl _ (tbox w2 K Bt F)); have HC : Aside (Below wr.heap.size wr ((tbox w2 K Bt F).alloc (.cells #[.int .i64 K, .int .i64 Bt, .int .i64 F] 36))) := step (step hB2 (tbox_below w2 K Bt F)) ((Below.refl _ _).alloc (Nat.le_refl _) _))
        | (go_at_call 37; refine (HN.out _ _).mono ?_; rintro e w3 ⟨rfl, rfl⟩)
        | (at_builtin; refine wpList_append_own _ rfl _ _ 24 rfl (w.heap.size + 2) 36 i0 (.agg #[.int .i64 0, .int .i64 0, .int .i64 0]) 3 24 Tryz.underlying24 hi hz0 hz1 hz2 rfl (by decide) _ _ _ rfl (own_keep hown.out HC.out) ⟨w2.heap.size + 1, 0, none⟩ 1 1 [.int .i64 K, .int .i64 Bt, .int .i64 F] rfl rfl (news3 _ _ _ _ (tbox_size w2 K Bt F).symm) (by simp [Value.oneCell']) (by unfold maxLen; omega) (by omega) (Nat.le_trans hsz.out HC.out.size) ?_))
      intro v' w5 hown' hgrow _
      have R1 : Aside (w5.ownsRow (w.heap.size + 2) 36 3 v' (k + 1) (tcs (tyK s.data.toList (k + 1)))) := by rw [HK.out, tcs_app, tcs_one]; exact hown'
      have R2 : Aside (Below (w.heap.size + 2) (bw w ps) w5) := below_grow' (hB.out.trans (HC.out.mono hsz.out)) (by rw [bw_size]; omega) (own_keep hown.out HC.out) (Nat.le_refl _) hgrow
      clear hown' hgrow hown hB hB2 HC HTY d0 d1 d2 hc HK hgr
      go_wp2
      go_roundw
      case rel => exact ⟨k + 1, by omega, by go_num, R1, R2⟩
      case measure => simp [intOf]; omega
    · have e : k = ps.length := by omega
      subst e
      have hpn' : ps.length = (wd s.data.toList).length := by rw [← HP.out, List.length_map]
      have HB : Aside (Below (w.heap.size + 1) (bx w) wr) := (bw_below w ps).trans (hB.out.mono (by omega))
      obtain ⟨d0, d1⟩ := box_cell ((box_bx HG.out).below HB.out (by omega))
      have hlen : ps.length = (tyK s.data.toList (wd s.data.toList).length).length := by
        rw [hpn']
        unfold tyK
        rw [List.take_length]
        exact (map_back _ HA.out).2.2.symm
      obtain ⟨hT, hT2⟩ := tys_owned (ts := tyK s.data.toList (wd s.data.toList).length) (by rw [← hpn']; exact hown.out) hlen
      have HT : Aside (TysOf wr u5 (tyK s.data.toList (wd s.data.toList).length)) := hT
      have HT2 := Lib.hid hT2
      clear hT hT2 hown hB hlen
      go_wp2
      exact parse_door_ret HG.out HB.out HT.out (fun g o c e => by have := HT2.out g o c e; omega) rfl rfl
end Go.Proofs.YtfcglnmfcniojaaGreatDoor

namespace Go.Proofs.YtfcglnmfcniojaaGreatDoor
open Go.Eng Go.RowKit
set_option maxRecDepth 1000000

set_option maxHeartbeats 4000000 in
theorem parse_bad (s : ByteArray) (h0 : 0 < s.size) (hs : s.size < 4294967281) (hl : (wd s.data.toList).length ≤ 64) (q : Nat) (pq : List UInt8) (hq : (wd s.data.toList)[q]? = some pq) (hqn : ty pq = none) (hall : ((wd s.data.toList).take q).all (fun w => (ty w).isSome) = true) (w : World) (hg : Gl w) :
    Calls Tryz.prog 17 #[.string s] w fun e w' => ∃ v, e = .returned (.tuple #[v, .int .i64 6]) ∧ TysOf w' v [] ∧ Below w.heap.size w w' := by
  have HG : Aside (Gl w) := hg
  have HN := Lib.hid fun e w => need_ok e w
  have HS := Lib.hid fun w hg => split_call s hs w hg
  have hne : s.toList.isEmpty = false := empty_no h0
  have HL : Aside ((wd s.data.toList).length ≤ 64) := hl
  have HA : Aside (((wd s.data.toList).take q).all (fun w => (ty w).isSome) = true) := hall
  have HQ : Aside ((wd s.data.toList)[q]? = some pq) := hq
  have HQN : Aside (ty pq = none) := hqn
  obtain ⟨i0, hi, hz0, hz1, hz2⟩ := info_parts info36
  clear hg hl hall hq hqn
  go_enter_defers Tryz.func17, Tryz.ntmps17
  go_wp2_with (first
    | (go_at_call 43; refine (HS.out _ (HG.out.alloc _)).mono ?_; rintro e w2 ⟨ps, hps, rfl, rfl⟩; have hpn : ps.length ≤ 64 := by
        have := HL.out; rw [← hps, List.length_map] at this; exact this
       have hpl : decide ((ps.length : Int) ≤ 64) = true := by simp; omega)
    | (go_at_call 37; refine (HN.out _ _).mono ?_; rintro e w' ⟨rfl, rfl⟩))
  have HP : Aside (ps.map (·.data.toList) = wd s.data.toList) := hps
  have hqps : q < ps.length := by have := (List.getElem?_eq_some_iff.1 HQ.out).1; rw [← hps, List.length_map] at this; exact this
  clear hps
  go_loopw [5, 20] (fun v i wr => ∃ k : Nat, k ≤ q ∧ i = .int .i64 k ∧ Aside (wr.ownsRow (w.heap.size + 2) 36 3 v k (tcs (tyK s.data.toList k))) ∧ Aside (Below (w.heap.size + 2) (bw w ps) wr)) (fun _ i _ => ps.length - (intOf i).toNat)
  case atStart => exact ⟨0, Nat.zero_le _, rfl, World.ownsRow_nil _ _ _ _, Below.refl _ _⟩
  case round =>
    obtain ⟨k, hk, rfl, hown, hB⟩ := hrel
    by_cases hlt : k < q
    · obtain ⟨p, hp⟩ : ∃ p, ps[k]? = some p := ⟨_, List.getElem?_eq_getElem (by omega)⟩
      have hw : (wd s.data.toList)[k]? = some p.data.toList := by rw [← HP.out, List.getElem?_map, hp]; rfl
      obtain ⟨⟨K, Bt, F⟩, hty⟩ := Option.isSome_iff_exists.1 (List.all_eq_true.1 HA.out p.data.toList (List.mem_of_getElem? (i := k) (by rw [List.getElem?_take, if_pos hlt]; exact hw)))
      have HK : Aside (tyK s.data.toList (k + 1) = tyK s.data.toList k ++ [(K, Bt, F)]) := tyK_succ hw hty
      have hc := (hB.out.cell (p := ⟨w.heap.size + 1, k, none⟩) (by simp)).trans (bw_cell (w := w) hp)
      have HTY := Lib.hid fun W hg => typeOf_yes hty W hg
      have hsz : Aside (w.heap.size + 2 ≤ wr.heap.size) := by have h1 := hB.out.size; rw [bw_size] at h1; exact h1
      have hgr : Aside (Gl wr) := ((HG.out.alloc _).alloc _).below hB.out (by have := HG.out.sz; omega)
      clear hp hw hty
      have hk0 : (0 : Int) ≤ (k : Int) := by omega
      have hk1 : (k : Int) < (ps.length : Int) := by omega
      go_wp2_with (first
        | (go_at_call 44; refine (HTY.out _ hgr.out).mono ?_; rintro e w2 ⟨rfl, hB2⟩; obtain ⟨d0, d1, d2⟩ := tbox_cells (Below.refl _ (tbox w2 K Bt F)); have HC : Aside (Below wr.heap.size wr ((tbox w2 K Bt F).alloc (.cells #[.int .i64 K, .int .i64 Bt, .int .i64 F] 36))) := step (step hB2 (tbox_below w2 K Bt F)) ((Below.refl _ _).alloc (Nat.le_refl _) _))
        | (go_at_call 37; refine (HN.out _ _).mono ?_; rintro e w3 ⟨rfl, rfl⟩)
        | (at_builtin; refine wpList_append_own _ rfl _ _ 24 rfl (w.heap.size + 2) 36 i0 (.agg #[.int .i64 0, .int .i64 0, .int .i64 0]) 3 24 Tryz.underlying24 hi hz0 hz1 hz2 rfl (by decide) _ _ _ rfl (own_keep hown.out HC.out) ⟨w2.heap.size + 1, 0, none⟩ 1 1 [.int .i64 K, .int .i64 Bt, .int .i64 F] rfl rfl (news3 _ _ _ _ (tbox_size w2 K Bt F).symm) (by simp [Value.oneCell']) (by unfold maxLen; omega) (by omega) (Nat.le_trans hsz.out HC.out.size) ?_))
      intro v' w5 hown' hgrow _
      have R1 : Aside (w5.ownsRow (w.heap.size + 2) 36 3 v' (k + 1) (tcs (tyK s.data.toList (k + 1)))) := by rw [HK.out, tcs_app, tcs_one]; exact hown'
      have R2 : Aside (Below (w.heap.size + 2) (bw w ps) w5) := below_grow' (hB.out.trans (HC.out.mono hsz.out)) (by rw [bw_size]; omega) (own_keep hown.out HC.out) (Nat.le_refl _) hgrow
      clear hown' hgrow hown hB hB2 HC HTY d0 d1 d2 hc HK hgr
      go_wp2
      go_roundw
      case rel => exact ⟨k + 1, by omega, by go_num, R1, R2⟩
      case measure => simp [intOf]; omega
    · have e : k = q := by omega
      subst e
      obtain ⟨p, hp⟩ : ∃ p, ps[k]? = some p := ⟨_, List.getElem?_eq_getElem hqps⟩
      have hw : (wd s.data.toList)[k]? = some p.data.toList := by rw [← HP.out, List.getElem?_map, hp]; rfl
      have hpq : p.data.toList = pq := Option.some.inj (hw.symm.trans HQ.out)
      have hc := (hB.out.cell (p := ⟨w.heap.size + 1, k, none⟩) (by simp)).trans (bw_cell (w := w) hp)
      have HTY := Lib.hid fun W hg => typeOf_no (p := p) (by rw [hpq]; exact HQN.out) W hg
      have HNO := Lib.hid fun w => need_no 6 w
      have hsz : Aside (w.heap.size + 2 ≤ wr.heap.size) := by have h1 := hB.out.size; rw [bw_size] at h1; exact h1
      have hgr : Aside (Gl wr) := ((HG.out.alloc _).alloc _).below hB.out (by have := HG.out.sz; omega)
      clear hp hw hpq
      have hk0 : (0 : Int) ≤ (k : Int) := by omega
      have hk1 : (k : Int) < (ps.length : Int) := by omega
      go_wp2_with (first
        | (go_at_call 44; refine (HTY.out _ hgr.out).mono ?_; rintro e w2 ⟨⟨K, Bt, F, rfl⟩, hB2⟩; have HC : Aside (Below wr.heap.size wr (tbox w2 K Bt F)) := step hB2 (tbox_below w2 K Bt F))
        | (go_at_call 37; refine (HNO.out _).mono ?_; rintro e w3 ⟨rfl, rfl⟩))
      exact parse_door_panic HG.out ((bw_below w ps).trans ((hB.out.trans (HC.out.mono hsz.out)).mono (by omega))) 6 rfl rfl

theorem first_none (ws : List (List UInt8)) (h : ws.all (fun w => (ty w).isSome) = false) : ∃ (q : Nat) (w : List UInt8), ws[q]? = some w ∧ ty w = none ∧ (ws.take q).all (fun w => (ty w).isSome) = true := by
  induction ws with
  | nil => cases h
  | cons t ts ih =>
    cases ht : ty t with
    | none => exact ⟨0, t, rfl, ht, rfl⟩
    | some x =>
      rw [List.all_cons, ht, Option.isSome_some, Bool.true_and] at h
      obtain ⟨q, u, h1, h2, h3⟩ := ih h
      exact ⟨q + 1, u, h1, h2, by rw [List.take_succ_cons, List.all_cons, ht, h3]; rfl⟩

/-- What Parse returns. -/
theorem parse_val (s : ByteArray) (hs : s.size < 4294967281) (w : World) (hg : Gl w) :
    Calls Tryz.prog 17 #[.string s] w fun e w' => ∃ v, e = .returned (.tuple #[v, .int .i64 (parseE s.data.toList)]) ∧ TysOf w' v (parseT s.data.toList) ∧ Below w.heap.size w w' := by
  have hlen : s.data.toList.length = s.size := by rw [Array.length_toList]; rfl
  rcases Nat.eq_zero_or_pos s.size with h0 | h0
  · have e : s = ⟨#[]⟩ := by
      obtain ⟨⟨l⟩⟩ := s
      cases l with
      | nil => rfl
      | cons a l => cases h0
    subst e
    exact parse_empty w hg
  · have hne : s.data.toList ≠ [] := fun e => by rw [e] at hlen; simp at hlen; omega
    by_cases hl : 64 < (wd s.data.toList).length
    · have hE : parseE s.data.toList = 2 := by unfold parseE; rw [if_neg hne, if_pos hl]
      rw [parseT_no (by rw [hE]; decide), hE]
      exact parse_long s h0 hs hl w hg
    · cases ha : (wd s.data.toList).all (fun w => (ty w).isSome) with
      | true =>
        have hE : parseE s.data.toList = 0 := by unfold parseE; rw [if_neg hne, if_neg hl, if_pos ha]
        have hT : parseT s.data.toList = tyK s.data.toList (wd s.data.toList).length := by unfold parseT tyK; rw [if_neg hne, if_pos hE, List.take_length]
        rw [hT, hE]
        exact parse_ok s h0 hs (by omega) ha w hg
      | false =>
        have hE : parseE s.data.toList = 6 := by unfold parseE; rw [if_neg hne, if_neg hl, if_neg (by rw [ha]; simp)]
        rw [parseT_no (by rw [hE]; decide), hE]
        obtain ⟨q, pq, h1, h2, h3⟩ := first_none _ ha
        exact parse_bad s h0 hs (by omega) q pq h1 h2 h3 w hg
end Go.Proofs.YtfcglnmfcniojaaGreatDoor

namespace Go.Proofs.YtfcglnmfcniojaaGreatDoor
open Go.Eng Go.RowKit
set_option maxRecDepth 1000000

theorem below_drewN {B : Nat} {a w : World} (h : Below B a w) (n : Nat) : Below B a (w.drewN n) := ⟨h.os, h.tape, h.output, h.size, h.block⟩
theorem same_nil (a a' : Option Addr) (c c' : Nat) (w : World) : Calls Tryz.prog 11 #[.slice a 0 c, .slice a' 0 c'] w fun e w' => e = .returned (.bool true) ∧ w' = w := by
  go_enter Tryz.func11, Tryz.ntmps11
  go_wp2
  refine wp_loop_rounds 1 ?_
  rw [rounds_succ]
  go_wp2
  go_ret
  exact ⟨rfl, rfl⟩

set_option maxHeartbeats 4000000 in
theorem same_some (g o c g' o' c' n : Nat) (ts : List Ty) (hn : n = ts.length) (hn64 : n ≤ 64) (w : World) (hg : g < w.heap.size) (hg' : g' < w.heap.size)
    (ha : ∀ (j : Nat) (t : Ty), ts[j]? = some t → w.cell? ⟨g, o + j * 3, none⟩ = some (.int .i64 t.1) ∧ w.cell? ⟨g, o + j * 3 + 1, none⟩ = some (.int .i64 t.2.1) ∧ w.cell? ⟨g, o + j * 3 + 2, none⟩ = some (.int .i64 t.2.2))
    (hb : ∀ (j : Nat) (t : Ty), ts[j]? = some t → w.cell? ⟨g', o' + j * 3, none⟩ = some (.int .i64 t.1) ∧ w.cell? ⟨g', o' + j * 3 + 1, none⟩ = some (.int .i64 t.2.1) ∧ w.cell? ⟨g', o' + j * 3 + 2, none⟩ = some (.int .i64 t.2.2)) :
    Calls Tryz.prog 11 #[.slice (some ⟨g, o, none⟩) n c, .slice (some ⟨g', o', none⟩) n c'] w fun e w' => e = .returned (.bool true) ∧ Below w.heap.size w w' := by
  have HA := Lib.hid ha
  have HB := Lib.hid hb
  have HN : Aside (n = ts.length) := hn
  clear ha hb hn
  go_enter Tryz.func11, Tryz.ntmps11
  go_wp2
  go_loopw [5] (fun i wr => ∃ k : Nat, k ≤ n ∧ i = .int .i64 k ∧ Aside (Below w.heap.size w wr)) (fun i _ => n - (intOf i).toNat)
  case atStart => exact ⟨0, Nat.zero_le _, rfl, Below.refl _ _⟩
  case round =>
    obtain ⟨k, hk, rfl, hB⟩ := hrel
    by_cases hlt : k < n
    · obtain ⟨t, ht⟩ : ∃ t, ts[k]? = some t := ⟨_, List.getElem?_eq_getElem (by have := HN.out; omega)⟩
      obtain ⟨a0, a1, a2⟩ := HA.out k t ht
      obtain ⟨b0, b1, b2⟩ := HB.out k t ht
      obtain ⟨K, B, F⟩ := t
      simp only at a0 a1 a2 b0 b1 b2
      have c0 := (hB.out.cell (p := ⟨g, o + k * 3, none⟩) hg).trans a0
      have c1 := (hB.out.cell (p := ⟨g, o + k * 3 + 1, none⟩) hg).trans a1
      have c2 := (hB.out.cell (p := ⟨g, o + k * 3 + 2, none⟩) hg).trans a2
      have d0 := (hB.out.cell (p := ⟨g', o' + k * 3, none⟩) hg').trans b0
      have d1 := (hB.out.cell (p := ⟨g', o' + k * 3 + 1, none⟩) hg').trans b1
      have d2 := (hB.out.cell (p := ⟨g', o' + k * 3 + 2, none⟩) hg').trans b2
      clear ht a0 a1 a2 b0 b1 b2
      have hk0 : (0 : Int) ≤ (k : Int) := by omega
      have hk1 : (k : Int) < (n : Int) := by omega
      go_wp2_with fail
      go_quiet (fail)
      go_wp2
      go_roundw
      case rel => exact ⟨k + 1, by omega, by go_num, below_drewN hB.out _⟩
      case measure => simp [intOf]; omega
    · have e : k = n := by omega
      subst e
      go_wp2
      go_ret
      exact ⟨rfl, hB.out⟩

theorem same_yes (va vb : Value) (ts : List Ty) (h64 : ts.length ≤ 64) (w : World) (ha : TysOf w va ts) (hb : TysOf w vb ts) : Calls Tryz.prog 11 #[va, vb] w fun e w' => e = .returned (.bool true) ∧ Below w.heap.size w w' := by
  obtain ⟨a, c, rfl, h1⟩ := ha
  obtain ⟨a', c', rfl, h2⟩ := hb
  cases ts with
  | nil => exact (same_nil a a' c c' w).mono fun e w' ⟨h1, h2⟩ => ⟨h1, h2 ▸ Below.refl _ _⟩
  | cons t ts =>
    obtain ⟨g, o, rfl, hg, h3⟩ := h1 (by simp)
    obtain ⟨g', o', rfl, hg', h4⟩ := h2 (by simp)
    exact same_some g o c g' o' c' _ (t :: ts) rfl h64 w hg hg' h3 h4
end Go.Proofs.YtfcglnmfcniojaaGreatDoor
