/- A number is read as the plain words say. Conditions: texts of at most 20000 bytes. -/
import Derived.Test.YtilnhkflgfajcaaGreatDoorKf
import Derived.Lib.OthersKept
import Derived.BigRegion
set_option linter.all false
namespace Go.Proofs.YtilnhkflgfajcaaGreatDoor
open Go.Eng Go.RowKit
set_option maxRecDepth 1000000

noncomputable abbrev missV : Value := .iface 182 (.agg #[])
theorem want_ok (w : World) : Calls Tryz.prog 104 #[.bool true] w fun r w' => r = .returned (.tuple #[]) ∧ w' = w := by
  go_enter Tryz.func104, Tryz.ntmps104
  go_wp2
  go_end0
  exact ⟨rfl, rfl⟩
theorem want_no (w : World) : Calls Tryz.prog 104 #[.bool false] w fun r w' => r = .panicked [{ v := missV, recovered := false }] ∧ w' = w := by
  go_enter Tryz.func104, Tryz.ntmps104
  go_wp2
  exact ⟨rfl, rfl, rfl⟩
/-- A number's box; six stores into it. -/
abbrev nbox (v0 v1 v2 v3 v4 v5 : Value) : Obj := .cells #[v0, v1, v2, v3, v4, v5] 24 (0, 0)
def put6 (W : World) (N : Nat) (v0 v1 v2 v3 v4 v5 : Value) : World := (((((W.setCell ⟨N, 0, none⟩ v0).setCell ⟨N, 1, none⟩ v1).setCell ⟨N, 2, none⟩ v2).setCell ⟨N, 3, none⟩ v3).setCell ⟨N, 4, none⟩ v4).setCell ⟨N, 5, none⟩ v5
theorem put6_box {W : World} {N : Nat} {u0 u1 u2 u3 u4 u5 : Value} (h : W.heap[N]? = some (nbox u0 u1 u2 u3 u4 u5)) (v0 v1 v2 v3 v4 v5 : Value) : (put6 W N v0 v1 v2 v3 v4 v5).heap[N]? = some (nbox v0 v1 v2 v3 v4 v5) := by
  simp [put6, World.setCell, Array.getElem?_modify, h]
theorem put6_far {W : World} {N k : Nat} (hne : N ≠ k) (v0 v1 v2 v3 v4 v5 : Value) : (put6 W N v0 v1 v2 v3 v4 v5).heap[k]? = W.heap[k]? := by
  simp only [put6, World.setCell, Array.getElem?_modify, if_neg hne]
theorem put6_size (W : World) (N : Nat) (v0 v1 v2 v3 v4 v5 : Value) : (put6 W N v0 v1 v2 v3 v4 v5).heap.size = W.heap.size := by
  simp only [put6, World.setCell, Array.size_modify]
theorem box_cells {W : World} {N : Nat} {v0 v1 v2 v3 v4 v5 : Value} (e : W.heap[N]? = some (nbox v0 v1 v2 v3 v4 v5)) :
    (W.cell? ⟨N, 0, none⟩ = some v0 ∧ W.cell? ⟨N, 1, none⟩ = some v1 ∧ W.cell? ⟨N, 2, none⟩ = some v2 ∧ W.cell? ⟨N, 3, none⟩ = some v3 ∧ W.cell? ⟨N, 4, none⟩ = some v4 ∧ W.cell? ⟨N, 5, none⟩ = some v5) ∧
    (W.frozen? ⟨N, 0, none⟩ = false ∧ W.frozen? ⟨N, 1, none⟩ = false ∧ W.frozen? ⟨N, 2, none⟩ = false ∧ W.frozen? ⟨N, 3, none⟩ = false ∧ W.frozen? ⟨N, 4, none⟩ = false ∧ W.frozen? ⟨N, 5, none⟩ = false) := by
  refine ⟨⟨?_, ?_, ?_, ?_, ?_, ?_⟩, ?_, ?_, ?_, ?_, ?_, ?_⟩
  all_goals first
    | (simp only [World.cell?, e]; rfl)
    | (simp only [World.frozen?, e]; rfl)
theorem ret109 {R : Ending → World → Prop} {tmps : Array Value} {W : World} {N : Nat} {v0 v1 v2 v3 v4 v5 : Value} (h2 : tmps[10]? = some (.pointer (some ⟨N, 0, none⟩)))
    (hb : W.heap[N]? = some (nbox v0 v1 v2 v3 v4 v5)) (ho : v0.oneCell' = true ∧ v1.oneCell' = true ∧ v2.oneCell' = true ∧ v3.oneCell' = true ∧ v4.oneCell' = true ∧ v5.oneCell' = true) (hR : R (.returned (.agg #[v0, v1, v2, v3, v4, v5])) W) : bodyPost Tryz.prog Tryz.f109 R .ret { tmps := tmps, defers := [] } W := by
  obtain ⟨⟨c0, c1, c2, c3, c4, c5⟩, _⟩ := box_cells hb
  refine ⟨rfl, _, ?_, hR⟩
  simp [results, Tryz.results109, go_sem, h2, c0, c1, c2, c3, c4, c5]
theorem ret103 {R : Ending → World → Prop} {tmps : Array Value} {W : World} {N : Nat} {v0 v1 v2 v3 v4 v5 : Value} (h2 : tmps[2]? = some (.pointer (some ⟨N, 0, none⟩)))
    (hb : W.heap[N]? = some (nbox v0 v1 v2 v3 v4 v5)) (ho : v0.oneCell' = true ∧ v1.oneCell' = true ∧ v2.oneCell' = true ∧ v3.oneCell' = true ∧ v4.oneCell' = true ∧ v5.oneCell' = true) (hR : R (.returned (.agg #[v0, v1, v2, v3, v4, v5])) W) : bodyPost Tryz.prog Tryz.f103 R .ret { tmps := tmps, defers := [] } W := by
  obtain ⟨⟨c0, c1, c2, c3, c4, c5⟩, _⟩ := box_cells hb
  refine ⟨rfl, _, ?_, hR⟩
  simp [results, Tryz.results103, go_sem, h2, c0, c1, c2, c3, c4, c5]
theorem ret106 {R : Ending → World → Prop} {tmps : Array Value} {W : World} {N : Nat} {v0 v1 v2 v3 v4 v5 : Value} (h2 : tmps[2]? = some (.pointer (some ⟨N, 0, none⟩)))
    (hb : W.heap[N]? = some (nbox v0 v1 v2 v3 v4 v5)) (ho : v0.oneCell' = true ∧ v1.oneCell' = true ∧ v2.oneCell' = true ∧ v3.oneCell' = true ∧ v4.oneCell' = true ∧ v5.oneCell' = true) (hR : R (.returned (.agg #[v0, v1, v2, v3, v4, v5])) W) : bodyPost Tryz.prog Tryz.f106 R .ret { tmps := tmps, defers := [] } W := by
  obtain ⟨⟨c0, c1, c2, c3, c4, c5⟩, _⟩ := box_cells hb
  refine ⟨rfl, _, ?_, hR⟩
  simp [results, Tryz.results106, go_sem, h2, c0, c1, c2, c3, c4, c5]
theorem ret108 {R : Ending → World → Prop} {tmps : Array Value} {W : World} {N : Nat} {v0 v1 v2 v3 v4 v5 : Value} (h2 : tmps[2]? = some (.pointer (some ⟨N, 0, none⟩)))
    (hb : W.heap[N]? = some (nbox v0 v1 v2 v3 v4 v5)) (ho : v0.oneCell' = true ∧ v1.oneCell' = true ∧ v2.oneCell' = true ∧ v3.oneCell' = true ∧ v4.oneCell' = true ∧ v5.oneCell' = true) (hR : R (.returned (.agg #[v0, v1, v2, v3, v4, v5])) W) : bodyPost Tryz.prog Tryz.f108 R .ret { tmps := tmps, defers := [] } W := by
  obtain ⟨⟨c0, c1, c2, c3, c4, c5⟩, _⟩ := box_cells hb
  refine ⟨rfl, _, ?_, hR⟩
  simp [results, Tryz.results108, go_sem, h2, c0, c1, c2, c3, c4, c5]
theorem ret110 {R : Ending → World → Prop} {tmps : Array Value} {W : World} {N : Nat} {v0 v1 v2 v3 v4 v5 : Value} (h2 : tmps[2]? = some (.pointer (some ⟨N, 0, none⟩)))
    (hb : W.heap[N]? = some (nbox v0 v1 v2 v3 v4 v5)) (ho : v0.oneCell' = true ∧ v1.oneCell' = true ∧ v2.oneCell' = true ∧ v3.oneCell' = true ∧ v4.oneCell' = true ∧ v5.oneCell' = true) (hR : R (.returned (.agg #[v0, v1, v2, v3, v4, v5])) W) : bodyPost Tryz.prog Tryz.f110 R .ret { tmps := tmps, defers := [] } W := by
  obtain ⟨⟨c0, c1, c2, c3, c4, c5⟩, _⟩ := box_cells hb
  refine ⟨rfl, _, ?_, hR⟩
  simp [results, Tryz.results110, go_sem, h2, c0, c1, c2, c3, c4, c5]
/-- The box of what a kind of number gives. -/
abbrev nb0 : Obj := nbox (.int .i64 0) (.bool false) (.string ⟨#[]⟩) (.int .i64 0) (.string ⟨#[]⟩) (.int .i64 0)
theorem put6_sc {w : World} {B a N : Nat} {s p : ByteArray} (h : Sc w B a s p) (hN : N ≠ B) (v0 v1 v2 v3 v4 v5 : Value) : Sc (put6 w N v0 v1 v2 v3 v4 v5) B a s p := by
  obtain ⟨T, e⟩ := h
  exact ⟨T, (put6_far hN _ _ _ _ _ _).trans e⟩
theorem grown_alloc {w w' : World} {r : Option Nat} (h : w.grownBy w' r) (o : Obj) : w.grownBy (w'.alloc o) r :=
  ⟨h.os, h.tape, h.output, by show w.heap.size ≤ (w'.heap.push o).size; rw [Array.size_push]; have := h.size; omega, fun k hk hne => by
    rw [← h.block k hk hne]
    show (w'.heap.push o)[k]? = _
    rw [Array.getElem?_push, if_neg (by have := h.size; omega)]⟩
theorem Sc.alloc {w : World} {B a : Nat} {s p : ByteArray} (h : Sc w B a s p) (o : Obj) : Sc (w.alloc o) B a s p := by
  have hl := h.lt
  obtain ⟨T, e⟩ := h
  refine ⟨T, ?_⟩
  show (w.heap.push o)[B]? = _
  rw [Array.getElem?_push, if_neg (by omega)]
  exact e
theorem grown_far {w w' : World} {B N o : Nat} {v : Value} (h : w.grownBy w' (some B)) (hN : w.heap.size ≤ N) : w.grownBy (w'.setCell ⟨N, o, none⟩ v) (some B) :=
  ⟨h.os, h.tape, h.output, by show _ ≤ (w'.heap.modify _ _).size; rw [Array.size_modify]; exact h.size, fun k hk hne => by
    rw [← h.block k hk hne]
    simp only [World.setCell, Array.getElem?_modify]
    rw [if_neg (by omega)]⟩
theorem put6_grown {w w' : World} {B N : Nat} (h : w.grownBy w' (some B)) (hN : w.heap.size ≤ N) (v0 v1 v2 v3 v4 v5 : Value) : w.grownBy (put6 w' N v0 v1 v2 v3 v4 v5) (some B) := by
  unfold put6
  exact grown_far (grown_far (grown_far (grown_far (grown_far (grown_far h hN) hN) hN) hN) hN) hN
theorem Sc.far {w : World} {B a N o : Nat} {s p : ByteArray} {v : Value} (h : Sc w B a s p) (hN : N ≠ B) : Sc (w.setCell ⟨N, o, none⟩ v) B a s p := by
  obtain ⟨T, e⟩ := h
  refine ⟨T, ?_⟩
  simp only [World.setCell, Array.getElem?_modify]
  rw [if_neg hN]
  exact e
theorem hp_drop (t p : List UInt8) (s : ByteArray) (a : Nat) (hs : s.data.toList = t) (ha : a ≤ s.size) : (s.extract a s.size).data.toList = t.drop a := by
  rw [sub_list, hs]
  unfold sl
  rw [List.take_of_length_le]
  rw [List.length_drop]
  have : t.length = s.size := by rw [← hs]; simp
  omega
theorem slice_from {s : ByteArray} {a : Nat} (h2 : a ≤ s.size) (w : World) :
    (Instr.slice 9 (.string s) (some (.int .i64 (a : Int))) none none).run Tryz.prog w = .ok (.string (s.extract a s.size)) w := by
  rw [run_slice_string_from_if w 9 s .i64 _ Tryz.underlying9, if_pos ⟨by omega, by omega⟩]
  rfl

theorem ex_le {t : List UInt8} {m : UInt8} {a : Nat} (h : a ≤ t.length) : (ex t m a).2 ≤ t.length ∧ -1099511627776 ≤ (ex t m a).1 ∧ (ex t m a).1 ≤ 1099511627776 := by
  unfold ex
  split
  · rename_i hm
    have hlt : a < t.length := by
      rcases Nat.lt_or_ge a t.length with h1 | h1
      · exact h1
      · rw [List.getElem?_eq_none h1] at hm; cases hm
    have hj : sg t (a + 1) ≤ t.length := by
      unfold sg
      split
      · rename_i h1
        rcases Nat.lt_or_ge (a + 1) t.length with h2 | h2
        · omega
        · rw [List.getElem?_eq_none h2] at h1; simp at h1
      · omega
    show (if rn (dg false) t (sg t (a + 1)) = sg t (a + 1) then ((0 : Int), a) else _).2 ≤ _ ∧ _ ≤ (if rn (dg false) t (sg t (a + 1)) = sg t (a + 1) then ((0 : Int), a) else _).1 ∧ (if rn (dg false) t (sg t (a + 1)) = sg t (a + 1) then ((0 : Int), a) else _).1 ≤ _
    have hv := val_bounds (sl t (sg t (a + 1)) (rn (dg false) t (sg t (a + 1)))) fun b hb => mem_run b hb
    split
    · exact ⟨h, by omega, by omega⟩
    · refine ⟨rn_le _ _ _ hj, ?_⟩
      show -1099511627776 ≤ (if mi t (a + 1) then - val (sl t (sg t (a + 1)) (rn (dg false) t (sg t (a + 1)))) else val (sl t (sg t (a + 1)) (rn (dg false) t (sg t (a + 1))))) ∧ _ ≤ _
      split <;> omega
  · exact ⟨h, by omega, by omega⟩
theorem lead_len (l : List UInt8) : (lead l).length ≤ l.length := (List.dropWhile_suffix _).length_le
theorem trail_len (l : List UInt8) : (trail l).length ≤ l.length := by
  unfold trail
  rw [List.length_reverse]
  have := (List.dropWhile_suffix (l := l.reverse) (· == 48)).length_le
  simpa using this
theorem trimL_run (l : List UInt8) (s : ByteArray) (hs : s.data.toList = l) (W : World) : Calls Tryz.prog 33 #[.string s, .string ⟨#[48]⟩] W fun e w' => e = .returned (.string ⟨⟨lead l⟩⟩) ∧ w' = W := by
  have := Tryz.strings_TrimLeft_one s 48 (by decide) W
  rw [hs] at this
  exact this
theorem trimR_run (l : List UInt8) (s : ByteArray) (hs : s.data.toList = l) (hl : l.length ≤ 1000000) (W : World) : Calls Tryz.prog 168 #[.string s, .string ⟨#[48]⟩] W fun e w' => e = .returned (.string ⟨⟨trail l⟩⟩) ∧ w' = W := by
  have := Tryz.strings_TrimRight_one s 48 (by decide) W (by have : s.size = l.length := by rw [← hs]; simp
                                                            omega)
  rw [hs] at this
  exact this

theorem nb_keep {w4 w5 : World} {N B : Nat} (h : w4.heap[N]? = some nb0) (hne : N ≠ B) (h5 : w4.grownBy w5 (some B)) : w5.heap[N]? = some nb0 :=
  (h5.block N (Array.getElem?_eq_some_iff.1 h).1 (fun e => hne (Option.some.inj e))).trans h
theorem nb_new (w : World) : (w.alloc nb0).heap[w.heap.size]? = some nb0 := by
  show (w.heap.push nb0)[w.heap.size]? = _
  rw [Array.getElem?_push, if_pos rfl]
theorem wrap64_small {x : Int} (h0 : -9223372036854775808 ≤ x) (h1 : x < 9223372036854775808) : wrap64 x = x := by
  unfold wrap64
  omega
/-- The products of a number's exponent, each under a letter. -/
theorem num_wraps {un : Int} {d l k : Nat} (hu : un = 1 ∨ un = 4) (hd : d ≤ 20000) (hl : l ≤ 40000) (hk : k ≤ l) : ∃ P1 P2 : Int,
    wrap64 (un * (d : Int)) = P1 ∧ wrap64 (un * ((l : Int) - (k : Int))) = P2 ∧ 0 ≤ P1 ∧ P1 ≤ 80000 ∧ 0 ≤ P2 ∧ P2 ≤ 160000 ∧
    ∀ X : Int, X - un * (d : Int) + un * ((l : Int) - (k : Int)) = X - P1 + P2 := by
  rcases hu with rfl | rfl
  · exact ⟨1 * d, 1 * (l - k), wrap64_small (by omega) (by omega), wrap64_small (by omega) (by omega), by omega, by omega, by omega, by omega, fun _ => rfl⟩
  · exact ⟨4 * d, 4 * (l - k), wrap64_small (by omega) (by omega), wrap64_small (by omega) (by omega), by omega, by omega, by omega, by omega, fun _ => rfl⟩
end Go.Proofs.YtilnhkflgfajcaaGreatDoor

namespace Go.Proofs.YtilnhkflgfajcaaGreatDoor
open Go.Eng Go.RowKit
set_option maxRecDepth 1000000

set_option maxHeartbeats 8000000 in
theorem number_has (hex : Bool) (kd un : Int) (m : UInt8) (hm : 0 < m.toNat) (hu : un = 1 ∨ un = 4) {w : World} {B a : Nat} {s p : ByteArray} (h : Sc w B a s p) (hs : s.size ≤ 20000) (ha : a ≤ s.size) (hp : p.size ≤ 100) (hh : p.data.toList.isPrefixOf (s.data.toList.drop (rn (dg hex) s.data.toList a)) = true) :
    Calls Tryz.prog 109 #[.pointer (some ⟨B, 0, none⟩), .int .i64 kd, .int .i64 (bs hex), .int .u8 m.toNat, .int .i64 un] w fun e w' =>
      (match nm hex m un s.data.toList p.data.toList a with
      | some r => e = .returned (.agg #[.int .i64 kd, .bool false, .string ⟨⟨r.1⟩⟩, .int .i64 r.2.1, .string ⟨#[]⟩, .int .i64 0]) ∧ Sc w' B r.2.2 s p
      | none => e = .panicked [{ v := missV, recovered := false }] ∧ ∃ b, Sc w' B b s p) ∧ w.grownBy w' (some B) := by
  obtain ⟨a1, ha1⟩ : ∃ a1, a1 = rn (dg hex) s.data.toList a := ⟨_, rfl⟩
  have h1a : a ≤ a1 := by rw [ha1]; exact rn_ge _ _ _
  have h1n : a1 ≤ s.size := by rw [ha1]; simpa using rn_le (dg hex) s.data.toList a (by simpa using ha)
  obtain ⟨A, hA⟩ : ∃ A, A = (sl s.data.toList a a1).map lw := ⟨_, rfl⟩
  have HD1 := Lib.hid fun W (hW : Sc W B a s p) => digits_any hex hW hs ha
  rw [← ha1, ← hA] at HD1
  have HS : Aside (Sc w B a s p) := h
  have hlt := h.lt
  have HBW : Aside (B < w.heap.size) := hlt
  have HPF := Lib.hid fun W => Tryz.strings_HasPrefix (s.extract a1 s.size) p W
  rw [hp_drop s.data.toList p.data.toList s a1 rfl h1n] at HPF
  have hsf := slice_from h1n
  obtain ⟨R, hR⟩ : ∃ R, R = nm hex m un s.data.toList p.data.toList a := ⟨_, rfl⟩
  have HR : Aside (R = nm hex m un s.data.toList p.data.toList a) := hR
  rw [← hR]
  have HA1 : Aside (a1 = rn (dg hex) s.data.toList a) := ha1
  have HAA : Aside (A = (sl s.data.toList a a1).map lw) := hA
  clear h hR
  have hAl : A.length ≤ 20000 := by
    have := HAA.out
    rw [this, List.length_map, sl_len _ _ _ (by simpa using h1n)]
    omega
  rw [← ha1] at hh
  rw [show Lib.hasPrefix (s.data.toList.drop a1) p.data.toList = true from hh] at HPF
  have hb0 : a1 + p.size ≤ s.size := by
    have := (List.isPrefixOf_iff_prefix.1 hh).length_le
    rw [List.length_drop] at this
    have e1 : p.data.toList.length = p.size := by simp
    have e2 : s.data.toList.length = s.size := by simp
    omega
  obtain ⟨b1, hb1⟩ : ∃ b1, b1 = rn (dg hex) s.data.toList (a1 + p.size) := ⟨_, rfl⟩
  have h2a : a1 + p.size ≤ b1 := by rw [hb1]; exact rn_ge _ _ _
  have h2n : b1 ≤ s.size := by rw [hb1]; simpa using rn_le (dg hex) s.data.toList (a1 + p.size) (by simpa using hb0)
  obtain ⟨D, hD⟩ : ∃ D, D = (sl s.data.toList (a1 + p.size) b1).map lw := ⟨_, rfl⟩
  have HD2 := Lib.hid fun W (hW : Sc W B (a1 + p.size) s p) => digits_any hex hW hs hb0
  rw [← hb1, ← hD] at HD2
  have hDl : D.length ≤ 20000 := by
    rw [hD, List.length_map, sl_len _ _ _ (by simpa using h2n)]
    omega
  have HRv : Aside (R = if A ++ D = [] then none else
      some ((strip (A ++ D) D.length (ex s.data.toList m b1).1 un).1, (strip (A ++ D) D.length (ex s.data.toList m b1).1 un).2, (ex s.data.toList m b1).2)) := by
    show R = _
    rw [HR.out]
    exact nm_has ha1 hh hb1 hA hD
  have HEX := Lib.hid fun W (hW : Sc W B b1 s p) => exponent_any hm hW hs h2n
  have hexl := ex_le (m := m) (t := s.data.toList) (a := b1) (by simpa using h2n)
  obtain ⟨X, hX⟩ : ∃ X, X = ex s.data.toList m b1 := ⟨_, rfl⟩
  rw [← hX] at HRv HEX hexl
  obtain ⟨X1, X2⟩ := X
  obtain ⟨_, hx0, hx1⟩ := hexl
  simp only at hx0 hx1 HEX HRv
  clear hX hD hb1 hh ha1 hA hlt
  go_enter Tryz.func109, Tryz.ntmps109
  go_wp2_with (go_at_call 165; refine (HD1.out _ (HS.out.alloc _)).mono ?_; rintro e w2 ⟨rfl, hsc2, hgr2⟩; obtain ⟨d0, d1, d2, d3⟩ := hsc2.cells)
  go_quiet ((go_at_call 166; refine (HPF.out _).mono ?_; rintro e w2 ⟨rfl, rfl⟩; exact ⟨rfl, _, rfl⟩))
  go_wp2
  have hsc3 := hsc2.drew nq
  have hgr3 := grown_drew hgr2 nq
  have HSC3 : Aside (Sc (w2.drewN nq) B a1 s p) := hsc3
  have HGR3 : Aside ((w.alloc nb0).grownBy (w2.drewN nq) (some B)) := hgr3
  clear d0 d1 d2 d3 hsc3 hgr3 hsc2 hgr2
  generalize w2.drewN nq = w3 at *
  obtain ⟨d0, d1, d2, d3⟩ := HSC3.out.cells
  go_region
  have HSC4 : Aside (Sc ((w3.setCell ⟨B, 0, none⟩ (.int .i64 ((a1 : Int) + (p.size : Int)))).drew) B (a1 + p.size) s p) := by
    have := (HSC3.out.set (a1 + p.size)).drew 1
    push_cast at this
    exact this
  have HGR4 : Aside ((w.alloc nb0).grownBy ((w3.setCell ⟨B, 0, none⟩ (.int .i64 ((a1 : Int) + (p.size : Int)))).drew) (some B)) := grown_drew (grown_set HGR3.out _ _) 1
  clear d0 d1 d2 d3 HSC3 HGR3
  generalize (w3.setCell ⟨B, 0, none⟩ (.int .i64 ((a1 : Int) + (p.size : Int)))).drew = w4 at *
  have HNB : Aside (w4.heap[w.heap.size]? = some nb0) := nb_keep (nb_new w) (by have := HBW.out; omega) HGR4.out
  have HNE : Aside (w.heap.size ≠ B) := by have := HBW.out; show w.heap.size ≠ B; omega
  by_cases hem : A ++ D = []
  · have hA0 : A = [] := (List.append_eq_nil_iff.1 hem).1
    have hD0 : D = [] := (List.append_eq_nil_iff.1 hem).2
    subst hA0
    subst hD0
    have eR : R = none := by rw [HRv.out]; rfl
    subst eR
    go_wp2_with (first
      | (go_at_call 165; refine (HD2.out _ HSC4.out).mono ?_; rintro e w5 ⟨rfl, hsc5, hgr5⟩; obtain ⟨d0, d1, d2, d3⟩ := hsc5.cells)
      | (go_at_call 104; refine (want_no _).mono ?_; rintro e w6 ⟨rfl, rfl⟩))
    exact ⟨rfl, ⟨rfl, _, hsc5.set a1⟩, grown_set (grown_trans (grown_trans (grown_alloc (grown_refl w _) nb0) HGR4.out) hgr5) _ _⟩
  · cases hA0 : A.isEmpty
    · have hem0 := hem
      obtain ⟨L, hL⟩ : ∃ L, L = lead (A ++ D) := ⟨_, rfl⟩
      obtain ⟨K, hK⟩ : ∃ K, K = trail L := ⟨_, rfl⟩
      obtain ⟨F, hF⟩ : ∃ F : Int, F = if K = [] then 0 else max (-1073741824) (min (X1 - un * (D.length : Int) + un * ((L.length : Int) - K.length)) 1073741824) := ⟨_, rfl⟩
      have eR : R = some (K, F, X2) := by
        rw [HRv.out, if_neg hem, hF, hK, hL]
        rfl
      subst eR
      have hLl : L.length ≤ 40000 := by
        have := lead_len (A ++ D)
        try rw [List.length_append] at this
        rw [hL]
        have : (D : List UInt8).length ≤ 20000 := hDl
        omega
      have hKl : K.length ≤ L.length := by rw [hK]; exact trail_len L
      have HTL := Lib.hid fun W => trimL_run (A ++ D) (⟨⟨A⟩⟩ ++ ⟨⟨D⟩⟩) (by simp [ByteArray.data_append]) W
      have HTR := Lib.hid fun W => trimR_run L ⟨⟨L⟩⟩ rfl (by omega) W
      rw [← hL] at HTL
      rw [← hK] at HTR
      obtain ⟨P1, P2, w1, w4', hp1, hp2, hp3, hp4, eP⟩ := num_wraps (un := un) (d := D.length) (l := L.length) (k := K.length) hu hDl hLl hKl
      rw [eP] at hF
      have hcat : ¬ (9223372036854775807 : Int) < (A.length : Int) + (D.length : Int) := by omega
      clear hem hL hK eP
      cases hK0 : K.isEmpty
      · have hK0' : K ≠ [] := by intro e; subst e; cases hK0
        have hF2 : F = max (-1073741824) (min (X1 - P1 + P2) 1073741824) := by rw [hF, if_neg hK0']
        have HF : Aside (F = max (-1073741824) (min (X1 - P1 + P2) 1073741824)) := hF2
        clear hF hF2 hK0' hu
        go_wp2_with (first
          | (go_at_call 165; refine (HD2.out _ HSC4.out).mono ?_; rintro e w5 ⟨rfl, hsc5, hgr5⟩; obtain ⟨d0, d1, d2, d3⟩ := hsc5.cells)
          | (go_at_call 104; refine (want_ok _).mono ?_; rintro e w6 ⟨rfl, rfl⟩)
          | (go_at_call 167; refine (HEX.out _ hsc5).mono ?_; rintro e w7 ⟨rfl, hsc7, hgr7⟩; have nb7 := nb_keep (nb_keep HNB.out HNE.out hgr5) HNE.out hgr7; obtain ⟨⟨q0, q1, q2, q3, q4, q5⟩, z0, z1, z2, z3, z4, z5⟩ := box_cells nb7)
          | (go_at_call 33; refine (HTL.out _).mono ?_; rintro e w8 ⟨rfl, rfl⟩)
          | (go_at_call 168; refine (HTR.out _).mono ?_; rintro e w9 ⟨rfl, rfl⟩))
        refine ret109 (N := w.heap.size) (v0 := .int .i64 kd) (v1 := .bool false) (v2 := .string ⟨⟨K⟩⟩) (v3 := .int .i64 F) (v4 := .string ⟨#[]⟩) (v5 := .int .i64 0) (by kernel_rfl) ?_ (by simp [Value.oneCell']) ?_
        · rw [HF.out]
          exact put6_box (nb7) _ _ _ _ _ _
        · exact ⟨⟨rfl, put6_sc hsc7 HNE.out _ _ _ _ _ _⟩, put6_grown (grown_trans (grown_trans (grown_trans (grown_alloc (grown_refl w _) nb0) HGR4.out) hgr5) hgr7) (Nat.le_refl _) _ _ _ _ _ _⟩
      · have hK0' : K = [] := List.isEmpty_iff.1 hK0
        subst hK0'
        have hF2 : F = 0 := by rw [hF]; rfl
        subst hF2
        clear hF hK0 hu
        go_wp2_with (first
          | (go_at_call 165; refine (HD2.out _ HSC4.out).mono ?_; rintro e w5 ⟨rfl, hsc5, hgr5⟩; obtain ⟨d0, d1, d2, d3⟩ := hsc5.cells)
          | (go_at_call 104; refine (want_ok _).mono ?_; rintro e w6 ⟨rfl, rfl⟩)
          | (go_at_call 167; refine (HEX.out _ hsc5).mono ?_; rintro e w7 ⟨rfl, hsc7, hgr7⟩; have nb7 := nb_keep (nb_keep HNB.out HNE.out hgr5) HNE.out hgr7; obtain ⟨⟨q0, q1, q2, q3, q4, q5⟩, z0, z1, z2, z3, z4, z5⟩ := box_cells nb7)
          | (go_at_call 33; refine (HTL.out _).mono ?_; rintro e w8 ⟨rfl, rfl⟩)
          | (go_at_call 168; refine (HTR.out _).mono ?_; rintro e w9 ⟨rfl, rfl⟩))
        refine ret109 (N := w.heap.size) (v0 := .int .i64 kd) (v1 := .bool false) (v2 := .string ⟨⟨[]⟩⟩) (v3 := .int .i64 0) (v4 := .string ⟨#[]⟩) (v5 := .int .i64 0) (by kernel_rfl) ?_ (by simp [Value.oneCell']) ?_
        · exact put6_box (nb7) _ _ _ _ _ _
        · exact ⟨⟨rfl, put6_sc hsc7 HNE.out _ _ _ _ _ _⟩, put6_grown (grown_trans (grown_trans (grown_trans (grown_alloc (grown_refl w _) nb0) HGR4.out) hgr5) hgr7) (Nat.le_refl _) _ _ _ _ _ _⟩
    · have hA0' : A = [] := List.isEmpty_iff.1 hA0
      subst hA0'
      have hD0 : D.isEmpty = false := by
        cases D with
        | nil => exact absurd rfl hem
        | cons _ _ => rfl
      obtain ⟨L, hL⟩ : ∃ L, L = lead ([] ++ D) := ⟨_, rfl⟩
      obtain ⟨K, hK⟩ : ∃ K, K = trail L := ⟨_, rfl⟩
      obtain ⟨F, hF⟩ : ∃ F : Int, F = if K = [] then 0 else max (-1073741824) (min (X1 - un * (D.length : Int) + un * ((L.length : Int) - K.length)) 1073741824) := ⟨_, rfl⟩
      have eR : R = some (K, F, X2) := by
        rw [HRv.out, if_neg hem, hF, hK, hL]
        rfl
      subst eR
      have hLl : L.length ≤ 40000 := by
        have := lead_len ([] ++ D)
        try rw [List.length_append] at this
        rw [hL]
        have : (D : List UInt8).length ≤ 20000 := hDl
        omega
      have hKl : K.length ≤ L.length := by rw [hK]; exact trail_len L
      have HTL := Lib.hid fun W => trimL_run ([] ++ D) (⟨⟨[]⟩⟩ ++ ⟨⟨D⟩⟩) (by simp [ByteArray.data_append]) W
      have HTR := Lib.hid fun W => trimR_run L ⟨⟨L⟩⟩ rfl (by omega) W
      rw [← hL] at HTL
      rw [← hK] at HTR
      obtain ⟨P1, P2, w1, w4', hp1, hp2, hp3, hp4, eP⟩ := num_wraps (un := un) (d := D.length) (l := L.length) (k := K.length) hu hDl hLl hKl
      rw [eP] at hF
      have hcat : ¬ (9223372036854775807 : Int) < (([] : List UInt8).length : Int) + (D.length : Int) := by omega
      clear hem hL hK eP
      cases hK0 : K.isEmpty
      · have hK0' : K ≠ [] := by intro e; subst e; cases hK0
        have hF2 : F = max (-1073741824) (min (X1 - P1 + P2) 1073741824) := by rw [hF, if_neg hK0']
        have HF : Aside (F = max (-1073741824) (min (X1 - P1 + P2) 1073741824)) := hF2
        clear hF hF2 hK0' hu
        go_wp2_with (first
          | (go_at_call 165; refine (HD2.out _ HSC4.out).mono ?_; rintro e w5 ⟨rfl, hsc5, hgr5⟩; obtain ⟨d0, d1, d2, d3⟩ := hsc5.cells)
          | (go_at_call 104; refine (want_ok _).mono ?_; rintro e w6 ⟨rfl, rfl⟩)
          | (go_at_call 167; refine (HEX.out _ hsc5).mono ?_; rintro e w7 ⟨rfl, hsc7, hgr7⟩; have nb7 := nb_keep (nb_keep HNB.out HNE.out hgr5) HNE.out hgr7; obtain ⟨⟨q0, q1, q2, q3, q4, q5⟩, z0, z1, z2, z3, z4, z5⟩ := box_cells nb7)
          | (go_at_call 33; refine (HTL.out _).mono ?_; rintro e w8 ⟨rfl, rfl⟩)
          | (go_at_call 168; refine (HTR.out _).mono ?_; rintro e w9 ⟨rfl, rfl⟩))
        refine ret109 (N := w.heap.size) (v0 := .int .i64 kd) (v1 := .bool false) (v2 := .string ⟨⟨K⟩⟩) (v3 := .int .i64 F) (v4 := .string ⟨#[]⟩) (v5 := .int .i64 0) (by kernel_rfl) ?_ (by simp [Value.oneCell']) ?_
        · rw [HF.out]
          exact put6_box (nb7) _ _ _ _ _ _
        · exact ⟨⟨rfl, put6_sc hsc7 HNE.out _ _ _ _ _ _⟩, put6_grown (grown_trans (grown_trans (grown_trans (grown_alloc (grown_refl w _) nb0) HGR4.out) hgr5) hgr7) (Nat.le_refl _) _ _ _ _ _ _⟩
      · have hK0' : K = [] := List.isEmpty_iff.1 hK0
        subst hK0'
        have hF2 : F = 0 := by rw [hF]; rfl
        subst hF2
        clear hF hK0 hu
        go_wp2_with (first
          | (go_at_call 165; refine (HD2.out _ HSC4.out).mono ?_; rintro e w5 ⟨rfl, hsc5, hgr5⟩; obtain ⟨d0, d1, d2, d3⟩ := hsc5.cells)
          | (go_at_call 104; refine (want_ok _).mono ?_; rintro e w6 ⟨rfl, rfl⟩)
          | (go_at_call 167; refine (HEX.out _ hsc5).mono ?_; rintro e w7 ⟨rfl, hsc7, hgr7⟩; have nb7 := nb_keep (nb_keep HNB.out HNE.out hgr5) HNE.out hgr7; obtain ⟨⟨q0, q1, q2, q3, q4, q5⟩, z0, z1, z2, z3, z4, z5⟩ := box_cells nb7)
          | (go_at_call 33; refine (HTL.out _).mono ?_; rintro e w8 ⟨rfl, rfl⟩)
          | (go_at_call 168; refine (HTR.out _).mono ?_; rintro e w9 ⟨rfl, rfl⟩))
        refine ret109 (N := w.heap.size) (v0 := .int .i64 kd) (v1 := .bool false) (v2 := .string ⟨⟨[]⟩⟩) (v3 := .int .i64 0) (v4 := .string ⟨#[]⟩) (v5 := .int .i64 0) (by kernel_rfl) ?_ (by simp [Value.oneCell']) ?_
        · exact put6_box (nb7) _ _ _ _ _ _
        · exact ⟨⟨rfl, put6_sc hsc7 HNE.out _ _ _ _ _ _⟩, put6_grown (grown_trans (grown_trans (grown_trans (grown_alloc (grown_refl w _) nb0) HGR4.out) hgr5) hgr7) (Nat.le_refl _) _ _ _ _ _ _⟩
end Go.Proofs.YtilnhkflgfajcaaGreatDoor

namespace Go.Proofs.YtilnhkflgfajcaaGreatDoor
open Go.Eng Go.RowKit
set_option maxRecDepth 1000000

set_option maxHeartbeats 8000000 in
theorem number_no (hex : Bool) (kd un : Int) (m : UInt8) (hm : 0 < m.toNat) (hu : un = 1 ∨ un = 4) {w : World} {B a : Nat} {s p : ByteArray} (h : Sc w B a s p) (hs : s.size ≤ 20000) (ha : a ≤ s.size) (hp : p.size ≤ 100) (hh : p.data.toList.isPrefixOf (s.data.toList.drop (rn (dg hex) s.data.toList a)) = false) :
    Calls Tryz.prog 109 #[.pointer (some ⟨B, 0, none⟩), .int .i64 kd, .int .i64 (bs hex), .int .u8 m.toNat, .int .i64 un] w fun e w' =>
      (match nm hex m un s.data.toList p.data.toList a with
      | some r => e = .returned (.agg #[.int .i64 kd, .bool false, .string ⟨⟨r.1⟩⟩, .int .i64 r.2.1, .string ⟨#[]⟩, .int .i64 0]) ∧ Sc w' B r.2.2 s p
      | none => e = .panicked [{ v := missV, recovered := false }] ∧ ∃ b, Sc w' B b s p) ∧ w.grownBy w' (some B) := by
  obtain ⟨a1, ha1⟩ : ∃ a1, a1 = rn (dg hex) s.data.toList a := ⟨_, rfl⟩
  have h1a : a ≤ a1 := by rw [ha1]; exact rn_ge _ _ _
  have h1n : a1 ≤ s.size := by rw [ha1]; simpa using rn_le (dg hex) s.data.toList a (by simpa using ha)
  obtain ⟨A, hA⟩ : ∃ A, A = (sl s.data.toList a a1).map lw := ⟨_, rfl⟩
  have HD1 := Lib.hid fun W (hW : Sc W B a s p) => digits_any hex hW hs ha
  rw [← ha1, ← hA] at HD1
  have HS : Aside (Sc w B a s p) := h
  have hlt := h.lt
  have HBW : Aside (B < w.heap.size) := hlt
  have HPF := Lib.hid fun W => Tryz.strings_HasPrefix (s.extract a1 s.size) p W
  rw [hp_drop s.data.toList p.data.toList s a1 rfl h1n] at HPF
  have hsf := slice_from h1n
  obtain ⟨R, hR⟩ : ∃ R, R = nm hex m un s.data.toList p.data.toList a := ⟨_, rfl⟩
  have HR : Aside (R = nm hex m un s.data.toList p.data.toList a) := hR
  rw [← hR]
  have HA1 : Aside (a1 = rn (dg hex) s.data.toList a) := ha1
  have HAA : Aside (A = (sl s.data.toList a a1).map lw) := hA
  clear h hR
  have hAl : A.length ≤ 20000 := by
    have := HAA.out
    rw [this, List.length_map, sl_len _ _ _ (by simpa using h1n)]
    omega
  rw [← ha1] at hh
  rw [show Lib.hasPrefix (s.data.toList.drop a1) p.data.toList = false from hh] at HPF
  have HRv : Aside (R = if A = [] then none else
      some ((strip A 0 (ex s.data.toList m a1).1 un).1, (strip A 0 (ex s.data.toList m a1).1 un).2, (ex s.data.toList m a1).2)) := by
    show R = _
    rw [HR.out]
    exact nm_none ha1 hh hA
  have HEX := Lib.hid fun W (hW : Sc W B a1 s p) => exponent_any hm hW hs h1n
  have hexl := ex_le (m := m) (t := s.data.toList) (a := a1) (by simpa using h1n)
  obtain ⟨X, hX⟩ : ∃ X, X = ex s.data.toList m a1 := ⟨_, rfl⟩
  rw [← hX] at HRv HEX hexl
  obtain ⟨X1, X2⟩ := X
  obtain ⟨_, hx0, hx1⟩ := hexl
  simp only at hx0 hx1 HEX HRv
  clear hX hh ha1 hA hlt
  go_enter Tryz.func109, Tryz.ntmps109
  go_wp2_with (go_at_call 165; refine (HD1.out _ (HS.out.alloc _)).mono ?_; rintro e w2 ⟨rfl, hsc2, hgr2⟩; obtain ⟨d0, d1, d2, d3⟩ := hsc2.cells)
  go_quiet ((go_at_call 166; refine (HPF.out _).mono ?_; rintro e w2 ⟨rfl, rfl⟩; exact ⟨rfl, _, rfl⟩))
  have HSC4 : Aside (Sc (w2.drewN nq) B a1 s p) := hsc2.drew nq
  have HGR4 : Aside ((w.alloc nb0).grownBy (w2.drewN nq) (some B)) := grown_drew hgr2 nq
  clear d0 d1 d2 d3 hsc2 hgr2
  generalize w2.drewN nq = w4 at *
  have HNB : Aside (w4.heap[w.heap.size]? = some nb0) := nb_keep (nb_new w) (by have := HBW.out; omega) HGR4.out
  have HNE : Aside (w.heap.size ≠ B) := by have := HBW.out; show w.heap.size ≠ B; omega
  by_cases hem : A = []
  · subst hem
    have eR : R = none := by rw [HRv.out]; rfl
    subst eR
    go_wp2_with (go_at_call 104; refine (want_no _).mono ?_; rintro e w6 ⟨rfl, rfl⟩)
    exact ⟨rfl, ⟨rfl, _, HSC4.out⟩, (grown_trans (grown_alloc (grown_refl w _) nb0) HGR4.out)⟩
  · cases hA0 : A.isEmpty
    · have hem0 := hem
      have hDl : ([] : List UInt8).length ≤ 20000 := by decide
      obtain ⟨L, hL⟩ : ∃ L, L = lead (A) := ⟨_, rfl⟩
      obtain ⟨K, hK⟩ : ∃ K, K = trail L := ⟨_, rfl⟩
      obtain ⟨F, hF⟩ : ∃ F : Int, F = if K = [] then 0 else max (-1073741824) (min (X1 - un * ((([] : List UInt8).length : Nat) : Int) + un * ((L.length : Int) - K.length)) 1073741824) := ⟨_, rfl⟩
      have eR : R = some (K, F, X2) := by
        rw [HRv.out, if_neg hem, hF, hK, hL]
        rfl
      subst eR
      have hLl : L.length ≤ 40000 := by
        have := lead_len (A)
        try rw [List.length_append] at this
        rw [hL]
        have : (([]) : List UInt8).length ≤ 20000 := hDl
        omega
      have hKl : K.length ≤ L.length := by rw [hK]; exact trail_len L
      have HTL := Lib.hid fun W => trimL_run (A) (⟨⟨A⟩⟩ ++ ⟨#[]⟩) (by simp [ByteArray.data_append]) W
      have HTR := Lib.hid fun W => trimR_run L ⟨⟨L⟩⟩ rfl (by omega) W
      rw [← hL] at HTL
      rw [← hK] at HTR
      obtain ⟨P1, P2, w1, w4', hp1, hp2, hp3, hp4, eP⟩ := num_wraps (un := un) (d := (([] : List UInt8).length : Nat)) (l := L.length) (k := K.length) hu hDl hLl hKl
      rw [eP] at hF
      have hP0 : P1 = 0 := by rw [← w1]; simp [wrap64]
      subst hP0
      rw [Int.sub_zero] at hF
      have hcat : ¬ (9223372036854775807 : Int) < (A.length : Int) + ((([] : List UInt8).length : Nat) : Int) := by omega
      clear hem hL hK eP
      cases hK0 : K.isEmpty
      · have hK0' : K ≠ [] := by intro e; subst e; cases hK0
        have hF2 : F = max (-1073741824) (min (X1 + P2) 1073741824) := by rw [hF, if_neg hK0']
        have HF : Aside (F = max (-1073741824) (min (X1 + P2) 1073741824)) := hF2
        clear hF hF2 hK0' hu
        go_wp2_with (first
          | (go_at_call 104; refine (want_ok _).mono ?_; rintro e w6 ⟨rfl, rfl⟩)
          | (go_at_call 167; refine (HEX.out _ HSC4.out).mono ?_; rintro e w7 ⟨rfl, hsc7, hgr7⟩; have nb7 := nb_keep HNB.out HNE.out hgr7; obtain ⟨⟨q0, q1, q2, q3, q4, q5⟩, z0, z1, z2, z3, z4, z5⟩ := box_cells nb7)
          | (go_at_call 33; refine (HTL.out _).mono ?_; rintro e w8 ⟨rfl, rfl⟩)
          | (go_at_call 168; refine (HTR.out _).mono ?_; rintro e w9 ⟨rfl, rfl⟩))
        refine ret109 (N := w.heap.size) (v0 := .int .i64 kd) (v1 := .bool false) (v2 := .string ⟨⟨K⟩⟩) (v3 := .int .i64 F) (v4 := .string ⟨#[]⟩) (v5 := .int .i64 0) (by kernel_rfl) ?_ (by simp [Value.oneCell']) ?_
        · rw [HF.out]
          exact put6_box (nb7) _ _ _ _ _ _
        · exact ⟨⟨rfl, put6_sc hsc7 HNE.out _ _ _ _ _ _⟩, put6_grown (grown_trans (grown_trans (grown_alloc (grown_refl w _) nb0) HGR4.out) hgr7) (Nat.le_refl _) _ _ _ _ _ _⟩
      · have hK0' : K = [] := List.isEmpty_iff.1 hK0
        subst hK0'
        have hF2 : F = 0 := by rw [hF]; rfl
        subst hF2
        clear hF hK0 hu
        go_wp2_with (first
          | (go_at_call 104; refine (want_ok _).mono ?_; rintro e w6 ⟨rfl, rfl⟩)
          | (go_at_call 167; refine (HEX.out _ HSC4.out).mono ?_; rintro e w7 ⟨rfl, hsc7, hgr7⟩; have nb7 := nb_keep HNB.out HNE.out hgr7; obtain ⟨⟨q0, q1, q2, q3, q4, q5⟩, z0, z1, z2, z3, z4, z5⟩ := box_cells nb7)
          | (go_at_call 33; refine (HTL.out _).mono ?_; rintro e w8 ⟨rfl, rfl⟩)
          | (go_at_call 168; refine (HTR.out _).mono ?_; rintro e w9 ⟨rfl, rfl⟩))
        refine ret109 (N := w.heap.size) (v0 := .int .i64 kd) (v1 := .bool false) (v2 := .string ⟨⟨[]⟩⟩) (v3 := .int .i64 0) (v4 := .string ⟨#[]⟩) (v5 := .int .i64 0) (by kernel_rfl) ?_ (by simp [Value.oneCell']) ?_
        · exact put6_box (nb7) _ _ _ _ _ _
        · exact ⟨⟨rfl, put6_sc hsc7 HNE.out _ _ _ _ _ _⟩, put6_grown (grown_trans (grown_trans (grown_alloc (grown_refl w _) nb0) HGR4.out) hgr7) (Nat.le_refl _) _ _ _ _ _ _⟩
    · exact absurd (List.isEmpty_iff.1 hA0) hem
theorem number_any (hex : Bool) (kd un : Int) (m : UInt8) (hm : 0 < m.toNat) (hu : un = 1 ∨ un = 4) {w : World} {B a : Nat} {s p : ByteArray} (h : Sc w B a s p) (hs : s.size ≤ 20000) (ha : a ≤ s.size) (hp : p.size ≤ 100) :
    Calls Tryz.prog 109 #[.pointer (some ⟨B, 0, none⟩), .int .i64 kd, .int .i64 (bs hex), .int .u8 m.toNat, .int .i64 un] w fun e w' =>
      (match nm hex m un s.data.toList p.data.toList a with
      | some r => e = .returned (.agg #[.int .i64 kd, .bool false, .string ⟨⟨r.1⟩⟩, .int .i64 r.2.1, .string ⟨#[]⟩, .int .i64 0]) ∧ Sc w' B r.2.2 s p
      | none => e = .panicked [{ v := missV, recovered := false }] ∧ ∃ b, Sc w' B b s p) ∧ w.grownBy w' (some B) := by
  cases hh : p.data.toList.isPrefixOf (s.data.toList.drop (rn (dg hex) s.data.toList a)) with
  | true => exact number_has hex kd un m hm hu h hs ha hp hh
  | false => exact number_no hex kd un m hm hu h hs ha hp hh
end Go.Proofs.YtilnhkflgfajcaaGreatDoor
