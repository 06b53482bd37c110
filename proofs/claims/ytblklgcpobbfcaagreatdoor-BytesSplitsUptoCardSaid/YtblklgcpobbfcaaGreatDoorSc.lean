/- Sorted lists without repetitions; where instructions jump; what Targets, ints and has return. Conditions: none. -/
import Derived.Lib.SlicesCompact
import Derived.Test.YtblklgcpobbfcaaGreatDoorSb
import Derived.Test.YtblklgcpobbfcaaGreatDoorSa
import Derived.Sort.OwnSortedInts
import Derived.Lib.RowBridge
set_option linter.all false
namespace Go.Proofs.YtblklgcpobbfcaaGreatDoor
open Go Go.Lib

/-! A sorted list without its repetitions; the numbers up to a bound that a list has. -/
theorem up_uniq : ∀ {l m : List Int}, l.Pairwise (· < ·) → m.Pairwise (· < ·) → (∀ x, x ∈ l ↔ x ∈ m) → l = m
  | [], [], _, _, _ => rfl
  | [], b :: m, _, _, h => by have := (h b).2 (by simp); simp at this
  | a :: l, [], _, _, h => by have := (h a).1 (by simp); simp at this
  | a :: l, b :: m, hl, hm, h => by
    rw [List.pairwise_cons] at hl hm
    have hab : a = b := by
      have h1 := (h a).1 (by simp)
      have h2 := (h b).2 (by simp)
      rcases List.mem_cons.1 h1 with e | e
      · exact e
      · rcases List.mem_cons.1 h2 with e2 | e2
        · exact e2.symm
        · have := hm.1 a e
          have := hl.1 b e2
          omega
    subst hab
    congr 1
    refine up_uniq hl.2 hm.2 fun x => ⟨fun hx => ?_, fun hx => ?_⟩
    · rcases List.mem_cons.1 ((h x).1 (List.mem_cons_of_mem _ hx)) with e | e
      · have := hl.1 x hx
        omega
      · exact e
    · rcases List.mem_cons.1 ((h x).2 (List.mem_cons_of_mem _ hx)) with e | e
      · have := hm.1 x hx
        omega
      · exact e

theorem compact_up (d : Array Int) (hd : ∀ i j, i ≤ j → j < d.size → d[i]! ≤ d[j]!) : ∀ m, m ≤ d.size → (compactUpTo d m).Pairwise (· < ·) ∧ ∀ x, x ∈ compactUpTo d m ↔ ∃ j, j < m ∧ x = d[j]!
  | 0, _ => by
    have e : compactUpTo d 0 = [] := rfl
    rw [e]
    exact ⟨List.Pairwise.nil, fun x => ⟨fun h => by simp at h, fun ⟨j, hj, _⟩ => absurd hj (Nat.not_lt_zero _)⟩⟩
  | m + 1, hm => by
    obtain ⟨h1, h2⟩ := compact_up d hd m (by omega)
    rw [compactUpTo_succ]
    by_cases hk : keeps d m = true
    · rw [if_pos hk]
      refine ⟨?_, fun x => ?_⟩
      · rw [List.pairwise_append]
        refine ⟨h1, by simp, fun a ha b hb => ?_⟩
        rw [List.mem_singleton] at hb
        subst hb
        obtain ⟨j, hj, rfl⟩ := (h2 a).1 ha
        have hne : d[m]! ≠ d[m - 1]! := by
          have := of_decide_eq_true hk
          exact this.resolve_left (by omega)
        have e1 := hd j (m - 1) (by omega) (by omega)
        have e2 := hd (m - 1) m (by omega) (by omega)
        omega
      · rw [List.mem_append, List.mem_singleton, h2]
        constructor
        · rintro (⟨j, hj, rfl⟩ | rfl)
          · exact ⟨j, by omega, rfl⟩
          · exact ⟨m, by omega, rfl⟩
        · rintro ⟨j, hj, rfl⟩
          by_cases e : j = m
          · subst e; exact .inr rfl
          · exact .inl ⟨j, by omega, rfl⟩
    · rw [if_neg hk, List.append_nil]
      refine ⟨h1, fun x => ?_⟩
      rw [h2]
      have hk' : ¬ (m = 0 ∨ d[m]! ≠ d[m - 1]!) := fun h => hk (decide_eq_true h)
      constructor
      · rintro ⟨j, hj, rfl⟩
        exact ⟨j, by omega, rfl⟩
      · rintro ⟨j, hj, rfl⟩
        by_cases e : j = m
        · subst e
          have h3 : d[j]! = d[j - 1]! := Decidable.byContradiction fun h => hk' (.inr h)
          exact ⟨j - 1, by omega, h3⟩
        · exact ⟨j, by omega, rfl⟩

/-- What sorting and compacting leave. -/
def sc (zs : List Int) : List Int := compact (zs.mergeSort fun x y => decide (x ≤ y))
theorem sc_up (zs : List Int) : (sc zs).Pairwise (· < ·) ∧ ∀ x, x ∈ sc zs ↔ x ∈ zs := by
  unfold sc
  have hs : (zs.mergeSort fun x y => decide (x ≤ y)).Pairwise (fun x y => decide (x ≤ y) = true) := List.pairwise_mergeSort (fun a b c h1 h2 => by simp at *; omega) (fun a b => by simp; omega) zs
  have hm : ∀ x, x ∈ (zs.mergeSort fun x y => decide (x ≤ y)) ↔ x ∈ zs := fun x => List.mem_mergeSort
  generalize (zs.mergeSort fun x y => decide (x ≤ y)) = ys at hs hm ⊢
  have hget : ∀ i, i < ys.length → ys.toArray[i]! = ys.getD i 0 := fun i hi => by simp [hi]
  obtain ⟨h1, h2⟩ := compact_up ys.toArray (fun i j hij hj => by
    have hj' : j < ys.length := by simpa using hj
    rw [hget i (by omega), hget j hj']
    rcases Nat.lt_or_eq_of_le hij with h | h
    · have := List.pairwise_iff_getElem.1 hs i j (by omega) hj' h
      simp only [decide_eq_true_eq] at this
      simpa [show i < ys.length by omega, hj'] using this
    · subst h; omega) ys.length (by simp)
  refine ⟨h1, fun x => ?_⟩
  show x ∈ compactUpTo _ _ ↔ _
  rw [h2, ← hm x]
  constructor
  · rintro ⟨j, hj, rfl⟩
    rw [hget j hj]
    simp [hj]
  · intro hx
    obtain ⟨j, hj, e⟩ := List.getElem_of_mem hx
    exact ⟨j, hj, by rw [hget j hj]; simp [hj, e]⟩

/-- The numbers below a bound that a list has. -/
def below (zs : List Int) (k : Nat) : List Int := ((List.range k).filter fun (n : Nat) => zs.contains (n : Int)).map fun (n : Nat) => (n : Int)
theorem below_succ (zs : List Int) (k : Nat) : below zs (k + 1) = below zs k ++ (if zs.contains (k : Int) = true then [(k : Int)] else []) := by
  unfold below
  rw [List.range_succ, List.filter_append, List.map_append]
  congr 1
  by_cases h : zs.contains (k : Int) = true
  · rw [if_pos h]
    simp only [List.filter_cons, h, if_true, List.filter_nil, List.map_cons, List.map_nil]
  · rw [if_neg h]
    simp only [List.filter_cons, h, if_false, List.filter_nil, List.map_nil, Bool.false_eq_true]
theorem below_len (zs : List Int) (k : Nat) : (below zs k).length ≤ k := by
  unfold below
  rw [List.length_map]
  exact Nat.le_trans (List.length_filter_le _ _) (by simp)
/-- Both are the same, where the bound lies above all of them. -/
theorem sc_below (zs : List Int) (k : Nat) (h : ∀ x ∈ zs, 0 ≤ x ∧ x < k) : sc zs = below zs k := by
  obtain ⟨h1, h2⟩ := sc_up zs
  refine up_uniq h1 ?_ fun x => ?_
  · unfold below
    rw [List.pairwise_map]
    exact (List.pairwise_lt_range.filter _).imp fun h => by omega
  · rw [h2]
    unfold below
    simp only [List.mem_map, List.mem_filter, List.mem_range, List.contains_iff_mem]
    constructor
    · intro hx
      obtain ⟨h3, h4⟩ := h x hx
      exact ⟨x.toNat, ⟨by omega, by rwa [Int.toNat_of_nonneg h3]⟩, Int.toNat_of_nonneg h3⟩
    · rintro ⟨n, ⟨_, h5⟩, rfl⟩
      exact h5
end Go.Proofs.YtblklgcpobbfcaaGreatDoor

namespace Go.Proofs.YtblklgcpobbfcaaGreatDoor
open Go.Eng Go.RowKit
set_option maxRecDepth 1000000

/-! Jumps. -/
theorem jumps_22 (x0 x1 x2 x3 x4 x5 x6 nx : Int) (w : World) (h1 : 0 ≤ nx ∧ nx ≤ 100000) (h2 : 0 ≤ x0 ∧ x0 ≤ 65535) :
    Calls Tryz.prog 43 #[insV 22 x0 x1 x2 x3 x4 x5 x6, .int .i64 nx] w fun e w' => e = .returned (.tuple #[.int .i64 (nx + x0), .bool true]) ∧ Below w.heap.size w w' := by
  obtain ⟨h1a, h1b⟩ := h1
  obtain ⟨h2a, h2b⟩ := h2
  go_enter Tryz.func43, Tryz.ntmps43
  go_wp2
  go_ret2
  exact ⟨rfl, (Below.refl _ _).alloc (Nat.le_refl _) _⟩
theorem jumps_23 (x0 x1 x2 x3 x4 x5 x6 nx : Int) (w : World) (h1 : 0 ≤ nx ∧ nx ≤ 100000) (h2 : 0 ≤ x1 ∧ x1 ≤ 65535) :
    Calls Tryz.prog 43 #[insV 23 x0 x1 x2 x3 x4 x5 x6, .int .i64 nx] w fun e w' => e = .returned (.tuple #[.int .i64 (nx + x1), .bool true]) ∧ Below w.heap.size w w' := by
  obtain ⟨h1a, h1b⟩ := h1
  obtain ⟨h2a, h2b⟩ := h2
  go_enter Tryz.func43, Tryz.ntmps43
  go_wp2
  go_ret2
  exact ⟨rfl, (Below.refl _ _).alloc (Nat.le_refl _) _⟩
theorem jumps_no (o x0 x1 x2 x3 x4 x5 x6 nx : Int) (w : World) (h1 : o ≠ 22) (h2 : o ≠ 23) :
    Calls Tryz.prog 43 #[insV o x0 x1 x2 x3 x4 x5 x6, .int .i64 nx] w fun e w' => e = .returned (.tuple #[.int .i64 0, .bool false]) ∧ Below w.heap.size w w' := by
  go_enter Tryz.func43, Tryz.ntmps43
  go_wp2
  go_ret2
  exact ⟨rfl, (Below.refl _ _).alloc (Nat.le_refl _) _⟩
theorem rjumps_22 (w : World) : Calls Tryz.prog 46 #[.int .i64 22] w fun e w' => e = .returned (.tuple #[.int .i64 0, .bool true]) ∧ w' = w := by
  go_enter Tryz.func46, Tryz.ntmps46
  go_wp2
  go_ret2
  exact ⟨rfl, rfl⟩
theorem rjumps_23 (w : World) : Calls Tryz.prog 46 #[.int .i64 23] w fun e w' => e = .returned (.tuple #[.int .i64 1, .bool true]) ∧ w' = w := by
  go_enter Tryz.func46, Tryz.ntmps46
  go_wp2
  go_ret2
  exact ⟨rfl, rfl⟩
theorem rjumps_no (o : Int) (w : World) (h1 : o ≠ 22) (h2 : o ≠ 23) : Calls Tryz.prog 46 #[.int .i64 o] w fun e w' => e = .returned (.tuple #[.int .i64 1, .bool false]) ∧ w' = w := by
  have h3 : (o == 23) = false := by simpa using h2
  go_enter Tryz.func46, Tryz.ntmps46
  go_wp2
  go_ret2
  exact ⟨rfl, rfl⟩

/-- Where an instruction leads. -/
noncomputable def jmp (C : Nat → Int) (a : Nat) : List Int := if opA C a = 22 then [(a : Int) + 3 + xA C a 0] else if opA C a = 23 then [(a : Int) + 4 + xA C a 1] else []
noncomputable def tgs (C : Nat → Int) (L : List Nat) : List Int := L.flatMap (jmp C)
theorem tgs_snoc (C : Nat → Int) (L : List Nat) (a : Nat) : tgs C (L ++ [a]) = tgs C L ++ jmp C a := by simp [tgs]
theorem tgs_take {C : Nat → Int} {L : List Nat} {k a : Nat} (h : L[k]? = some a) : tgs C (L.take (k + 1)) = tgs C (L.take k) ++ jmp C a := by
  rw [List.take_add_one, h, Option.toList_some, tgs_snoc]
theorem jmp_len (C : Nat → Int) (a : Nat) : (jmp C a).length ≤ 1 := by
  unfold jmp
  split
  · simp
  · split <;> simp
theorem tgs_len (C : Nat → Int) : ∀ L : List Nat, (tgs C L).length ≤ L.length
  | [] => by simp [tgs]
  | a :: L => by
    have h1 := tgs_len C L
    have h2 := jmp_len C a
    have e : tgs C (a :: L) = jmp C a ++ tgs C L := by simp [tgs]
    rw [e, List.length_append, List.length_cons]
    omega
theorem okV100 {v : Int} (h : okV 100 v = true) : 0 ≤ v ∧ v ≤ 65535 := by
  simp only [okV, loK, hiK, Bool.and_eq_true, decide_eq_true_eq] at h
  simpa using h
theorem dec_op {C : Nat → Int} {n a : Nat} (h : Dec C n a) : ∀ j, j < 7 → opOk (opA C a) j (xAt (xA C a 0) (xA C a 1) (xA C a 2) (xA C a 3) (xA C a 4) (xA C a 5) (xA C a 6) j) = true := by
  obtain ⟨h1, _, h3⟩ := h
  rw [okX_in h1] at h3
  exact fun j hj => List.all_eq_true.1 h3 j (List.mem_range.2 hj)
theorem kd22 : (kd 22)[0]? = some 100 := by kernel_rfl
theorem kd23 : (kd 23)[1]? = some 100 := by kernel_rfl
theorem dec_22 {C : Nat → Int} {n a : Nat} (h : Dec C n a) (ho : opA C a = 22) : 0 ≤ xA C a 0 ∧ xA C a 0 ≤ 65535 := by
  have h1 := dec_op h 0 (by omega)
  rw [ho] at h1
  unfold opOk at h1
  rw [kd22] at h1
  exact okV100 h1
theorem dec_23 {C : Nat → Int} {n a : Nat} (h : Dec C n a) (ho : opA C a = 23) : 0 ≤ xA C a 1 ∧ xA C a 1 ≤ 65535 := by
  have h1 := dec_op h 1 (by omega)
  rw [ho] at h1
  unfold opOk at h1
  rw [kd23] at h1
  exact okV100 h1
theorem sz22 : sz 22 = 3 := rfl
theorem sz23 : sz 23 = 4 := rfl
theorem jmp_range {C : Nat → Int} {n a : Nat} (h : Dec C n a) (hn : n ≤ 60000) (x : Int) (hx : x ∈ jmp C a) : 0 ≤ x ∧ x ≤ 200000 := by
  have h2 := h.2.1
  unfold jmp at hx
  split at hx
  · rename_i ho
    have := dec_22 h ho
    rw [ho, sz22] at h2
    rw [List.mem_singleton] at hx
    omega
  · split at hx
    · rename_i ho
      have := dec_23 h ho
      rw [ho, sz23] at h2
      rw [List.mem_singleton] at hx
      omega
    · simp at hx
theorem good_dec {C : Nat → Int} {n : Nat} {L : List Nat} (h : Good C n L) {k a : Nat} (hk : L[k]? = some a) : a < n ∧ Dec C n a := by
  obtain ⟨h1, h2, _⟩ := h.next k a hk
  exact ⟨h1, h2⟩
theorem tgs_range {C : Nat → Int} {n : Nat} {L : List Nat} (h : Good C n L) (hn : n ≤ 60000) : ∀ x ∈ tgs C L, 0 ≤ x ∧ x ≤ 200000 := by
  intro x hx
  simp only [tgs, List.mem_flatMap] at hx
  obtain ⟨a, ha, hx⟩ := hx
  obtain ⟨k, hk, e⟩ := List.getElem_of_mem ha
  exact jmp_range (good_dec h (k := k) (by rw [List.getElem?_eq_getElem hk, e])).2 hn x hx

/-! Sorting and compacting a list that the call owns. -/
abbrev OwnZ (w : World) (base : Nat) (v : Value) (zs : List Int) : Prop := w.ownsRow base 3 1 v zs.length (zs.map (Value.int .i64))
theorem OwnZ.holds {w : World} {base : Nat} {g c : Nat} {zs : List Int} (h : OwnZ w base (.slice (some ⟨g, 0, none⟩) zs.length c) zs) : ∃ cur, w.heap[g]? = some (.cells cur 3 (0, 0)) ∧ base ≤ g ∧ zs.length ≤ c ∧ c ≤ maxLen ∧ cur.size = c * 1 ∧ Sort.Holds (Value.int .i64) w g 0 zs.toArray := by
  rcases h.2 with ⟨h1, _⟩ | ⟨g', cap, cur, h1, hb, hg, hn, hm, hs, ht⟩
  · cases h1
  · cases h1
    exact ⟨cur, hg, hb, hn, hm, hs, holds_of_blockI hg (by simpa using ht)⟩
theorem sort_own {w : World} {base : Nat} {v : Value} {zs : List Int} (h : OwnZ w base v zs) (hl : zs.length ≤ 60000) :
    Calls Tryz.prog 44 #[v] w fun e w' => e = .returned (.tuple #[]) ∧ w'.ownsRow base 3 1 v zs.length ((zs.mergeSort fun x y => decide (x ≤ y)).map (Value.int .i64)) ∧ w.grownBy w' v.ownBlock := by
  rcases Nat.eq_zero_or_pos zs.length with h0 | hp
  · obtain rfl := List.eq_nil_of_length_eq_zero h0
    obtain ⟨a, c, rfl⟩ := own_form h
    refine (Tryz.slices_Sort_int_none a c w).mono ?_
    rintro e w' ⟨rfl, rfl⟩
    exact ⟨rfl, by rw [show (([] : List Int).mergeSort fun x y => decide (x ≤ y)) = [] by simp]; exact h, ⟨rfl, rfl, rfl, Nat.le_refl _, fun _ _ _ => rfl⟩⟩
  · obtain ⟨g, c, rfl, hlt, _, _⟩ := own_some h hp
    obtain ⟨cur, hg, hb, hn, hm, hs, hH⟩ := OwnZ.holds h
    refine (Tryz.slices_Sort_int g 0 c zs w hH hlt (by omega)).mono ?_
    rintro e w' ⟨rfl, q, os, rfl⟩
    exact ⟨rfl, ownsRow_sortedI (by simp) hb hg hn hm hs, grownBy_sortedI _⟩
theorem compact_own {w : World} {base : Nat} {v : Value} {zs : List Int} (h : OwnZ w base v zs) (hl : zs.length ≤ 60000) :
    Calls Tryz.prog 45 #[v] w fun e w' => ∃ v', e = .returned v' ∧ OwnZ w' base v' (Lib.compact zs) ∧ w.grownBy w' v.ownBlock := by
  rcases Nat.eq_zero_or_pos zs.length with h0 | hp
  · obtain rfl := List.eq_nil_of_length_eq_zero h0
    obtain ⟨a, c, rfl⟩ := own_form h
    refine (Tryz.slices_Compact_int_empty a c w).mono ?_
    rintro e w' ⟨rfl, rfl⟩
    exact ⟨_, rfl, h, ⟨rfl, rfl, rfl, Nat.le_refl _, fun _ _ _ => rfl⟩⟩
  · obtain ⟨g, c, rfl, hlt, _, _⟩ := own_some h hp
    obtain ⟨cur, hg, hb, hn, hm, hs, hH⟩ := OwnZ.holds h
    refine (Tryz.slices_Compact_int g 0 c zs w hH (by omega) hn).mono ?_
    rintro e w' ⟨rfl, q, rfl⟩
    have hcl := Lib.compact_length_le zs
    refine ⟨_, rfl, ⟨by simp, .inr ⟨g, c, _, rfl, hb, heap_sortedI (os := #[]) _ hg |>.trans rfl, by omega, hm, by simp [Sort.putCells, hs], ?_⟩⟩, grownBy_sortedI (os := #[]) _⟩
    have ht := take_putCellsI cur (Lib.compact zs ++ List.replicate (zs.length - (Lib.compact zs).length) 0) (by simp; omega)
    have h1 := congrArg (List.take (Lib.compact zs).length) ht
    rw [List.take_take] at h1
    rw [Nat.mul_one]
    have h2 : min (Lib.compact zs).length (Lib.compact zs ++ List.replicate (zs.length - (Lib.compact zs).length) 0).length = (Lib.compact zs).length := by simp
    rw [h2] at h1
    rw [h1, List.map_append]
    simp

/-! Lists of numbers. -/
theorem OwnZ.at' {w : World} {base : Nat} {al : Option Addr} {cl : Nat} {zs : List Int} (h : OwnZ w base (.slice al zs.length cl) zs) {k : Nat} {z : Int} (hk : zs[k]? = some z) : ∃ g, al = some ⟨g, 0, none⟩ ∧ g < w.heap.size ∧ w.cell? ⟨g, k, none⟩ = some (.int .i64 z) := by
  have hlt := (List.getElem?_eq_some_iff.1 hk).1
  obtain ⟨g, c, e, h1, _, h2⟩ := own_some h (by omega)
  cases e
  refine ⟨g, rfl, h1, ?_⟩
  rw [h2 k (by omega), List.getElem?_map, hk]
  rfl
set_option maxHeartbeats 4000000 in
theorem ints_eq {w : World} {b1 b2 : Nat} {v v' : Value} {zs : List Int} (h : OwnZ w b1 v zs) (h' : OwnZ w b2 v' zs) (hl : zs.length ≤ 60000) :
    Calls Tryz.prog 26 #[v, v'] w fun e w' => e = .returned (.bool true) ∧ Below w.heap.size w w' := by
  obtain ⟨a, c, rfl⟩ := own_form h
  obtain ⟨a', c', rfl⟩ := own_form h'
  have H1 := Lib.hid h
  have H2 := Lib.hid h'
  clear h h'
  go_enter Tryz.func26, Tryz.ntmps26
  go_wp2
  go_loopw [5] (fun i wr => ∃ k : Nat, k ≤ zs.length ∧ i = .int .i64 k ∧ Aside (Below w.heap.size w wr)) (fun i _ => zs.length - (intOf i).toNat)
  case atStart => exact ⟨0, Nat.zero_le _, rfl, Below.refl _ _⟩
  case round =>
    obtain ⟨k, hk, rfl, hB⟩ := hrel
    by_cases hlt : k < zs.length
    · obtain ⟨z, hz⟩ : ∃ z, zs[k]? = some z := ⟨_, List.getElem?_eq_getElem hlt⟩
      obtain ⟨g, rfl, hg, c1⟩ := OwnZ.at' H1.out hz
      obtain ⟨g', rfl, hg', c2⟩ := OwnZ.at' H2.out hz
      have d1 := (hB.out.cell (p := ⟨g, k, none⟩) hg).trans c1
      have d2 := (hB.out.cell (p := ⟨g', k, none⟩) hg').trans c2
      clear c1 c2
      have hk0 : (0 : Int) ≤ (k : Int) := by omega
      have hk1 : (k : Int) < (zs.length : Int) := by omega
      go_wp2_with fail
      go_quiet (fail)
      go_wp2
      go_roundw
      case rel => exact ⟨k + 1, by omega, by go_num, below_drewN hB.out _⟩
      case measure => simp [intOf]; omega
    · have e : k = zs.length := by omega
      subst e
      go_wp2
      go_ret
      exact ⟨rfl, hB.out⟩
set_option maxHeartbeats 4000000 in
theorem has_any {w : World} {base : Nat} {v : Value} {zs : List Int} (h : OwnZ w base v zs) (hl : zs.length ≤ 60000) (z : Int) :
    Calls Tryz.prog 47 #[v, .int .i64 z] w fun e w' => e = .returned (.bool (zs.contains z)) ∧ w' = w := by
  obtain ⟨a, c, rfl⟩ := own_form h
  have H1 := Lib.hid h
  clear h
  go_enter Tryz.func47, Tryz.ntmps47
  go_wp2
  go_loopw [5] (fun i wr => ∃ k : Nat, k ≤ zs.length ∧ i = .int .i64 k ∧ Aside (∀ j x, j < k → zs[j]? = some x → x ≠ z) ∧ wr = w) (fun i _ => zs.length - (intOf i).toNat)
  case atStart => exact ⟨0, Nat.zero_le _, rfl, fun j x hj => absurd hj (Nat.not_lt_zero _), rfl⟩
  case round =>
    obtain ⟨k, hk, rfl, hno, rfl⟩ := hrel
    by_cases hlt : k < zs.length
    · obtain ⟨x, hx⟩ : ∃ x, zs[k]? = some x := ⟨_, List.getElem?_eq_getElem hlt⟩
      obtain ⟨g, rfl, hg, c1⟩ := OwnZ.at' H1.out hx
      have HX : Aside (zs[k]? = some x) := hx
      clear hx
      have hk0 : (0 : Int) ≤ (k : Int) := by omega
      have hk1 : (k : Int) < (zs.length : Int) := by omega
      by_cases hxz : x = z
      · subst hxz
        have hcon : zs.contains x = true := by rw [List.contains_iff_mem]; exact List.mem_of_getElem? HX.out
        go_wp2
        go_ret
        exact ⟨by rw [hcon]; rfl, rfl⟩
      · have hb : (x == z) = false := by simpa using hxz
        have HNE : Aside (x ≠ z) := hxz
        clear hxz
        go_wp2
        go_roundw
        case rel =>
          refine ⟨k + 1, by omega, by go_num, fun j y hj hy => ?_, trivial⟩
          rcases Nat.lt_or_eq_of_le (Nat.le_of_lt_succ hj) with h1 | h1
          · exact hno.out j y h1 hy
          · subst h1
            rw [HX.out] at hy
            cases hy
            exact HNE.out
        case measure => simp [intOf]; omega
    · have e : k = zs.length := by omega
      subst e
      have hcon : zs.contains z = false := by
        rw [List.contains_eq_mem]
        refine decide_eq_false fun hm => ?_
        obtain ⟨j, hj, e⟩ := List.getElem_of_mem hm
        exact hno.out j z hj (by rw [List.getElem?_eq_getElem hj, e]) rfl
      go_wp2
      go_ret
      exact ⟨by rw [hcon]; rfl, rfl⟩
end Go.Proofs.YtblklgcpobbfcaaGreatDoor

namespace Go.Proofs.YtblklgcpobbfcaaGreatDoor
open Go.Eng Go.RowKit
set_option maxRecDepth 1000000

theorem OwnN.at'' {w : World} {base : Nat} {al : Option Addr} {cl : Nat} {L : List Nat} (h : OwnN w base (.slice al L.length cl) L) {k a : Nat} (hk : L[k]? = some a) : ∃ g, al = some ⟨g, 0, none⟩ ∧ g < w.heap.size ∧ w.cell? ⟨g, k, none⟩ = some (.int .i64 a) := by
  have hlt := (List.getElem?_eq_some_iff.1 hk).1
  obtain ⟨g, c, e, h1, _, h2⟩ := own_some h (by omega)
  cases e
  refine ⟨g, rfl, h1, ?_⟩
  rw [h2 k (by omega), List.getElem?_map, hk]
  rfl
theorem OwnI.at'' {w : World} {base : Nat} {al : Option Addr} {cl : Nat} {C : Nat → Int} {L : List Nat} (h : OwnI w base (.slice al L.length cl) C L) {k a : Nat} (hk : L[k]? = some a) :
    ∃ g, al = some ⟨g, 0, none⟩ ∧ g < w.heap.size ∧ w.cell? ⟨g, k * 8, none⟩ = some (.int .i64 (opA C a)) ∧ w.cell? ⟨g, k * 8 + 1, none⟩ = some (.int .i64 (xA C a 0)) ∧ w.cell? ⟨g, k * 8 + 2, none⟩ = some (.int .i64 (xA C a 1)) ∧ w.cell? ⟨g, k * 8 + 3, none⟩ = some (.int .i64 (xA C a 2)) ∧
      w.cell? ⟨g, k * 8 + 4, none⟩ = some (.int .i64 (xA C a 3)) ∧ w.cell? ⟨g, k * 8 + 5, none⟩ = some (.int .i64 (xA C a 4)) ∧ w.cell? ⟨g, k * 8 + 6, none⟩ = some (.int .i64 (xA C a 5)) ∧ w.cell? ⟨g, k * 8 + 7, none⟩ = some (.int .i64 (xA C a 6)) := by
  have hlt := (List.getElem?_eq_some_iff.1 hk).1
  obtain ⟨g, c, e, h1, _, h2⟩ := own_some h (by omega)
  cases e
  have key : ∀ j, j < 8 → w.cell? ⟨g, k * 8 + j, none⟩ = some (.int .i64 ((iI C a).getD j 0)) := fun j hj => by
    rw [h2 _ (by omega), List.getElem?_map]
    have hl : k * 8 + j < (II C L).length := by rw [II_len]; omega
    have := II_get C L k j a hk hj
    rw [List.getD_eq_getElem?_getD, List.getElem?_eq_getElem hl, Option.getD_some] at this
    rw [List.getElem?_eq_getElem hl, Option.map_some, this]
  exact ⟨g, rfl, h1, key 0 (by omega), key 1 (by omega), key 2 (by omega), key 3 (by omega), key 4 (by omega), key 5 (by omega), key 6 (by omega), key 7 (by omega)⟩

/-- What jumps says of an instruction. -/
theorem jumps_at {C : Nat → Int} {n a : Nat} (hd : Dec C n a) (hn : n ≤ 60000) : ∃ (t : Int) (q : Bool), jmp C a = (bif q then [t] else []) ∧
    ∀ w, Calls Tryz.prog 43 #[insA' C a, .int .i64 (a + sz (opA C a))] w fun e w' => e = .returned (.tuple #[.int .i64 t, .bool q]) ∧ Below w.heap.size w w' := by
  have h2 := hd.2.1
  have hp := sz_pos hd.1
  by_cases h22 : opA C a = 22
  · have hr := dec_22 hd h22
    refine ⟨(a : Int) + 3 + xA C a 0, true, by unfold jmp; rw [if_pos h22]; rfl, fun w => ?_⟩
    unfold insA'
    rw [h22, sz22]
    rw [h22, sz22] at h2
    exact jumps_22 _ _ _ _ _ _ _ _ w (by omega) hr
  · by_cases h23 : opA C a = 23
    · have hr := dec_23 hd h23
      refine ⟨(a : Int) + 4 + xA C a 1, true, by unfold jmp; rw [if_neg h22, if_pos h23]; rfl, fun w => ?_⟩
      unfold insA'
      rw [h23, sz23]
      rw [h23, sz23] at h2
      exact jumps_23 _ _ _ _ _ _ _ _ w (by omega) hr
    · refine ⟨0, false, by unfold jmp; rw [if_neg h22, if_neg h23]; rfl, fun w => ?_⟩
      exact jumps_no _ _ _ _ _ _ _ _ _ w (by omega) (by omega)

theorem targets_bad {v : Value} {n : Nat} {C : Nat → Int} {w : World} {L : List Nat} {b : Nat} (hg : Gl w) (hc : CodeArg w v n C) (hn : n ≤ 60000) (h : Fails C n L b) :
    Calls Tryz.prog 22 #[v] w fun e w' => e = .returned (.tuple #[.slice none 0 0, .int .i64 6]) ∧ Below w.heap.size w w' := by
  have H1 := Lib.hid (split_bad hg hc hn h)
  clear hg hc h
  go_enter Tryz.func22, Tryz.ntmps22
  go_wp2_with (go_at_call 21; refine H1.out.mono ?_; rintro e w1 ⟨rfl, hb1⟩)
  go_ret2
  exact ⟨rfl, hb1⟩
theorem targets_long (ad : Option Addr) (n cap : Nat) (w : World) (hn : 60000 < n) :
    Calls Tryz.prog 22 #[.slice ad n cap] w fun e w' => e = .returned (.tuple #[.slice none 0 0, .int .i64 2]) ∧ w' = w := by
  have H1 := Lib.hid (split_long ad n cap w hn)
  go_enter Tryz.func22, Tryz.ntmps22
  go_wp2_with (go_at_call 21; refine H1.out.mono ?_; rintro e w1 ⟨rfl, rfl⟩)
  go_ret2
  exact ⟨rfl, rfl⟩

set_option maxHeartbeats 8000000 in
theorem targets_good {v : Value} {n : Nat} {C : Nat → Int} {w : World} {L : List Nat} (hg : Gl w) (hc : CodeArg w v n C) (hn : n ≤ 60000) (h : Good C n L) :
    Calls Tryz.prog 22 #[v] w fun e w' => ∃ v', e = .returned (.tuple #[v', .int .i64 0]) ∧ OwnZ w' w.heap.size v' (sc (tgs C L)) ∧ Below w.heap.size w w' := by
  have H1 := Lib.hid (split_good hg hc hn h)
  have HG : Aside (Gl w) := hg
  have HGOOD : Aside (Good C n L) := h
  have hlen := h.len
  clear hg hc h
  go_enter Tryz.func22, Tryz.ntmps22
  go_wp2_with (go_at_call 21; refine H1.out.mono ?_; clear H1; rintro e w1 ⟨vl, va, rfl, hl1, ha1, hb1⟩; obtain ⟨al, cl, rfl⟩ := own_form hl1; obtain ⟨aa, ca, rfl⟩ := own_form ha1; have HB1 : Aside (Below w.heap.size w w1) := hb1; have HL1 : Aside (OwnI w1 w.heap.size (.slice al L.length cl) C L) := hl1; have HN1 : Aside (OwnN w1 w.heap.size (.slice aa L.length ca) L) := ha1; clear hb1 hl1 ha1)
  go_loopw [7, 25] (fun o i wr => ∃ k : Nat, k ≤ L.length ∧ i = .int .i64 k ∧ Aside (OwnZ wr w1.heap.size o (tgs C (L.take k))) ∧ Aside (Below w1.heap.size w1 wr)) (fun _ i _ => L.length - (intOf i).toNat)
  case atStart => exact ⟨0, Nat.zero_le _, rfl, World.ownsRow_nil _ _ _ _, Below.refl _ _⟩
  case round =>
    obtain ⟨k, hk, rfl, hown, hB⟩ := hrel
    by_cases hlt : k < L.length
    · obtain ⟨a, ha⟩ : ∃ a, L[k]? = some a := ⟨_, List.getElem?_eq_getElem hlt⟩
      obtain ⟨han, had⟩ := good_dec HGOOD.out ha
      obtain ⟨t, q, hjmp, hjc⟩ := jumps_at had hn
      have HJ := Lib.hid hjc
      have HTK : Aside (tgs C (L.take (k + 1)) = tgs C (L.take k) ++ (bif q then [t] else [])) := by show _ = _; rw [tgs_take ha, hjmp]
      have hop : opA C a < 27 := had.1
      have hsz2 := had.2.1
      have hszp := sz_pos had.1
      obtain ⟨gn, rfl, hgn, cn⟩ := OwnN.at'' HN1.out ha
      obtain ⟨gl, rfl, hgl, cl0, cl1, cl2, cl3, cl4, cl5, cl6, cl7⟩ := OwnI.at'' HL1.out ha
      have HSZ := Lib.hid fun (W : World) (hW : Gl W) => size_yes (opA C a : Int) W hW (by omega) (by omega)
      have hGr : Aside (Gl wr) := HG.out.below (HB1.out.trans (hB.out.mono HB1.out.size))
      have dn := (hB.out.cell (p := ⟨gn, k, none⟩) hgn).trans cn
      have d0 := (hB.out.cell (p := ⟨gl, k * 8, none⟩) hgl).trans cl0
      have d1 := (hB.out.cell (p := ⟨gl, k * 8 + 1, none⟩) hgl).trans cl1
      have d2 := (hB.out.cell (p := ⟨gl, k * 8 + 2, none⟩) hgl).trans cl2
      have d3 := (hB.out.cell (p := ⟨gl, k * 8 + 3, none⟩) hgl).trans cl3
      have d4 := (hB.out.cell (p := ⟨gl, k * 8 + 4, none⟩) hgl).trans cl4
      have d5 := (hB.out.cell (p := ⟨gl, k * 8 + 5, none⟩) hgl).trans cl5
      have d6 := (hB.out.cell (p := ⟨gl, k * 8 + 6, none⟩) hgl).trans cl6
      have d7 := (hB.out.cell (p := ⟨gl, k * 8 + 7, none⟩) hgl).trans cl7
      have hgn' : gn < wr.heap.size := Nat.lt_of_lt_of_le hgn hB.out.size
      clear cn cl0 cl1 cl2 cl3 cl4 cl5 cl6 cl7 hjc hjmp ha
      have hk0 : (0 : Int) ≤ (k : Int) := by omega
      have hk1 : (k : Int) < (L.length : Int) := by omega
      have hws : IntKind.i64.wrap ((a : Int) + sz (opA C a)) = (a : Int) + sz (opA C a) := by rw [IntKind.wrap_i64]; omega
      have hws2 : wrap64 ((a : Int) + sz (opA C a)) = (a : Int) + sz (opA C a) := by unfold wrap64; omega
      go_wp2_with (go_at_call 9; refine (HSZ.out _ (hGr.out.alloc _)).mono ?_; rintro e w2 ⟨he, hb2⟩; rw [Int.toNat_natCast] at he; subst he; have HB2 : Aside (Below (wr.alloc (.cells #[.int .i64 (opA C a), .int .i64 (xA C a 0), .int .i64 (xA C a 1), .int .i64 (xA C a 2), .int .i64 (xA C a 3), .int .i64 (xA C a 4), .int .i64 (xA C a 5), .int .i64 (xA C a 6)] 38)).heap.size (wr.alloc (.cells #[.int .i64 (opA C a), .int .i64 (xA C a 0), .int .i64 (xA C a 1), .int .i64 (xA C a 2), .int .i64 (xA C a 3), .int .i64 (xA C a 4), .int .i64 (xA C a 5), .int .i64 (xA C a 6)] 38)) w2) := hb2; clear hb2 HSZ d0 d1 d2 d3 d4 d5 d6 d7)
      have hX2 : wr.heap.size < w2.heap.size := by have := HB2.out.size; rw [World.size_alloc] at this; omega
      obtain ⟨x0, x1, x2, x3, x4, x5, x6, x7⟩ := xcells ((HB2.out.block wr.heap.size (by simp)).trans (World.alloc_heap_new wr _))
      have yn := ((((Below.refl _ wr).alloc (Nat.le_refl _) _).trans (HB2.out.mono (by simp))).cell (p := ⟨gn, k, none⟩) hgn').trans dn
      have hgn2 : gn < w2.heap.size := by omega
      have HBW : Aside (Below wr.heap.size wr w2) := ((Below.refl _ wr).alloc (Nat.le_refl _) _).trans (HB2.out.mono (by simp))
      clear HB2 dn
      refine wp_region_held_drew (S := fun W => Below w2.heap.size w2 W) (by kernel_rfl) (Below.refl _ _).drew (fun hHeld => ?_)
      refine wpAnyH_take (i := 0) (v := (insA' C a)) rfl (by kernel_rfl) (by kernel_rfl) (by kernel_rfl) (fun _ _ _ h => h) (Or.inl ⟨by rfl, fun wS hSw => ?_⟩) hHeld ?_
      · have g0 := (hSw.cell (p := ⟨wr.heap.size, 0, none⟩) hX2).trans x0; have g1 := (hSw.cell (p := ⟨wr.heap.size, 1, none⟩) hX2).trans x1; have g2 := (hSw.cell (p := ⟨wr.heap.size, 2, none⟩) hX2).trans x2; have g3 := (hSw.cell (p := ⟨wr.heap.size, 3, none⟩) hX2).trans x3; have g4 := (hSw.cell (p := ⟨wr.heap.size, 4, none⟩) hX2).trans x4; have g5 := (hSw.cell (p := ⟨wr.heap.size, 5, none⟩) hX2).trans x5; have g6 := (hSw.cell (p := ⟨wr.heap.size, 6, none⟩) hX2).trans x6; have g7 := (hSw.cell (p := ⟨wr.heap.size, 7, none⟩) hX2).trans x7
        first | rfl | (go_simp; done) | (go_simp; with_reducible rfl)
      try simp only [Act.put, List.getElem_toArray, List.getElem_cons_zero, List.getElem_cons_succ, List.setIfInBounds_toArray, List.set_cons_zero, List.set_cons_succ]
      refine wpAnyH_take (i := 1) (v := (.slice (some ⟨gn, 0, none⟩) L.length ca)) rfl (by kernel_rfl) (by kernel_rfl) (by kernel_rfl) (fun _ _ _ h => h) (Or.inl ⟨by rfl, fun wS hSw => ?_⟩) hHeld ?_
      · skip
        first | rfl | (go_simp; done) | (go_simp; with_reducible rfl)
      try simp only [Act.put, List.getElem_toArray, List.getElem_cons_zero, List.getElem_cons_succ, List.setIfInBounds_toArray, List.set_cons_zero, List.set_cons_succ]
      refine wpAnyH_take (i := 2) (v := (.int .i64 k)) rfl (by kernel_rfl) (by kernel_rfl) (by kernel_rfl) (fun _ _ _ h => h) (Or.inl ⟨by rfl, fun wS hSw => ?_⟩) hHeld ?_
      · skip
        first | rfl | (go_simp; done) | (go_simp; with_reducible rfl)
      try simp only [Act.put, List.getElem_toArray, List.getElem_cons_zero, List.getElem_cons_succ, List.setIfInBounds_toArray, List.set_cons_zero, List.set_cons_succ]
      refine wpAnyH_take (i := 3) (v := (.pointer (some ⟨gn, k, none⟩))) rfl (by kernel_rfl) (by kernel_rfl) (by kernel_rfl) (fun _ _ _ h => h) (Or.inl ⟨by rfl, fun wS hSw => ?_⟩) hHeld ?_
      · skip
        first | rfl | (go_simp; done) | (go_simp; with_reducible rfl)
      try simp only [Act.put, List.getElem_toArray, List.getElem_cons_zero, List.getElem_cons_succ, List.setIfInBounds_toArray, List.set_cons_zero, List.set_cons_succ]
      refine wpAnyH_take (i := 4) (v := (.int .i64 a)) rfl (by kernel_rfl) (by kernel_rfl) (by kernel_rfl) (fun _ _ _ h => h) (Or.inl ⟨by rfl, fun wS hSw => ?_⟩) hHeld ?_
      · have gg := (hSw.cell (p := ⟨gn, k, none⟩) hgn2).trans yn
        first | rfl | (go_simp; done) | (go_simp; with_reducible rfl)
      try simp only [Act.put, List.getElem_toArray, List.getElem_cons_zero, List.getElem_cons_succ, List.setIfInBounds_toArray, List.set_cons_zero, List.set_cons_succ]
      refine wpAnyH_take (i := 5) (v := (.int .i64 (sz (opA C a)))) rfl (by kernel_rfl) (by kernel_rfl) (by kernel_rfl) (fun _ _ _ h => h) (Or.inl ⟨by rfl, fun wS hSw => ?_⟩) hHeld ?_
      · skip
        first | rfl | (go_simp; done) | (go_simp; with_reducible rfl)
      try simp only [Act.put, List.getElem_toArray, List.getElem_cons_zero, List.getElem_cons_succ, List.setIfInBounds_toArray, List.set_cons_zero, List.set_cons_succ]
      refine wpAnyH_take (i := 6) (v := (.int .i64 (a + sz (opA C a)))) rfl (by kernel_rfl) (by kernel_rfl) (by kernel_rfl) (fun _ _ _ h => h) (Or.inl ⟨by rfl, fun wS hSw => ?_⟩) hHeld ?_
      · skip
        first | rfl | (go_simp; done) | (go_simp; with_reducible rfl)
      try simp only [Act.put, List.getElem_toArray, List.getElem_cons_zero, List.getElem_cons_succ, List.setIfInBounds_toArray, List.set_cons_zero, List.set_cons_succ]
      refine wpAnyH_ready (rs := [7]) (by kernel_rfl) (by simp) ?_
      refine AllReadyH.cons rfl (fun KC hC => ?_) AllReadyH.nil
      go_simp
      go_at_call 43; refine (HJ.out _).mono ?_; rintro e w4 ⟨rfl, hb4⟩
      have hH4 : Below w2.heap.size w2 w4 := hHeld.trans (hb4.mono hHeld.size)
      refine hC.out _ _ hH4 (fun hHeld => ?_)
      clear hC KC
      try simp only [Act.put, List.getElem_toArray, List.getElem_cons_zero, List.getElem_cons_succ, List.setIfInBounds_toArray, List.set_cons_zero, List.set_cons_succ]
      refine wpAnyH_take (i := 8) (v := (.tuple #[.int .i64 t, .bool q])) rfl (by kernel_rfl) (by kernel_rfl) (by kernel_rfl) (fun _ _ _ h => h) (Or.inl ⟨by rfl, fun wS hSw => ?_⟩) hHeld ?_
      · skip
        first | rfl | (go_simp; done) | (go_simp; with_reducible rfl)
      try simp only [Act.put, List.getElem_toArray, List.getElem_cons_zero, List.getElem_cons_succ, List.setIfInBounds_toArray, List.set_cons_zero, List.set_cons_succ]
      refine wpAnyH_take (i := 9) (v := (.int .i64 t)) rfl (by kernel_rfl) (by kernel_rfl) (by kernel_rfl) (fun _ _ _ h => h) (Or.inl ⟨by rfl, fun wS hSw => ?_⟩) hHeld ?_
      · skip
        first | rfl | (go_simp; done) | (go_simp; with_reducible rfl)
      try simp only [Act.put, List.getElem_toArray, List.getElem_cons_zero, List.getElem_cons_succ, List.setIfInBounds_toArray, List.set_cons_zero, List.set_cons_succ]
      refine wpAnyH_take (i := 10) (v := (.bool q)) rfl (by kernel_rfl) (by kernel_rfl) (by kernel_rfl) (fun _ _ _ h => h) (Or.inl ⟨by rfl, fun wS hSw => ?_⟩) hHeld ?_
      · skip
        first | rfl | (go_simp; done) | (go_simp; with_reducible rfl)
      try simp only [Act.put, List.getElem_toArray, List.getElem_cons_zero, List.getElem_cons_succ, List.setIfInBounds_toArray, List.set_cons_zero, List.set_cons_succ]
      refine wpAnyH_take (i := 11) (v := (.int .i64 t)) rfl (by kernel_rfl) (by kernel_rfl) (by kernel_rfl) (fun _ _ _ h => h) (Or.inl ⟨by rfl, fun wS hSw => ?_⟩) hHeld ?_
      · skip
        first | rfl | (go_simp; done) | (go_simp; with_reducible rfl)
      try simp only [Act.put, List.getElem_toArray, List.getElem_cons_zero, List.getElem_cons_succ, List.setIfInBounds_toArray, List.set_cons_zero, List.set_cons_succ]
      refine wpAnyH_take (i := 12) (v := (.bool q)) rfl (by kernel_rfl) (by kernel_rfl) (by kernel_rfl) (fun _ _ _ h => h) (Or.inl ⟨by rfl, fun wS hSw => ?_⟩) hHeld ?_
      · skip
        first | rfl | (go_simp; done) | (go_simp; with_reducible rfl)
      try simp only [Act.put, List.getElem_toArray, List.getElem_cons_zero, List.getElem_cons_succ, List.setIfInBounds_toArray, List.set_cons_zero, List.set_cons_succ]
      refine wpAnyH_done (by kernel_rfl) ?_ _
      have HBX : Aside (Below wr.heap.size wr w4) := HBW.out.trans (hH4.mono (by omega))
      have HOW : Aside (OwnZ w4 w1.heap.size _ (tgs C (L.take k))) := own_at hown.out (fun k _ h => HBX.out.block k h)
      have HB4 : Aside (Below w1.heap.size w1 w4) := hB.out.trans (HBX.out.mono hB.out.size)
      have htl : (tgs C (L.take k)).length < 60000 := by have h1 := tgs_len C (L.take k); rw [List.length_take] at h1; omega
      clear hHeld hH4 hb4 x0 x1 x2 x3 x4 x5 x6 x7 yn hown HBW
      cases q with
      | true =>
        go_wp2_with (at_builtin; refine append50_one (by rfl) _ _ rfl w1.heap.size _ (tgs C (L.take k)) rfl (HOW.out.alloc _) w4.heap.size t (0, 0) rfl (World.alloc_heap_new _ _) (by omega) (by have := HB4.out.size; simp; omega) ?_; intro v5 w5 ho5 hg5; have HO5 : Aside (OwnZ w5 w1.heap.size v5 (tgs C (L.take (k + 1)))) := (by show OwnZ w5 w1.heap.size v5 (tgs C (L.take (k + 1))); rw [HTK.out]; exact ho5); have HB5 : Aside (Below w1.heap.size w1 w5) := below_stepG (HB4.out.alloc HB4.out.size _) hg5 (own_lowest HOW.out); clear ho5 hg5)
        refine ⟨⟨k + 1, by omega, by go_num, HO5.out, HB5.out⟩, ?_⟩
        simp [intOf]; omega
      | false =>
        have HTF : Aside (tgs C (L.take (k + 1)) = tgs C (L.take k)) := by
          show _ = _
          rw [HTK.out]
          exact List.append_nil _
        go_wp2
        refine ⟨⟨k + 1, by omega, by go_num, by rw [HTF.out]; exact HOW.out, HB4.out⟩, ?_⟩
        simp [intOf]; omega
    · have e : k = L.length := by omega
      subst e
      rw [List.take_length] at hown
      have htl := tgs_len C L
      go_wp2_with (first
        | (go_at_call 44; refine (sort_own hown.out (by omega)).mono ?_; rintro e w3 ⟨rfl, ho3, hg3⟩; have ho3' := ho3; rw [← List.length_mergeSort (le := fun x y => decide (x ≤ y)) (tgs C L)] at ho3'; have HO3 := Lib.hid ho3'; clear ho3'; have HB3 : Aside (Below w1.heap.size w1 w3) := below_stepG hB.out hg3 (own_lowest hown.out); clear ho3 hg3)
        | (go_at_call 45; refine (compact_own HO3.out (by rw [List.length_mergeSort]; omega)).mono ?_; rintro e w4 ⟨v4, rfl, ho4, hg4⟩; have HB4 : Aside (Below w1.heap.size w1 w4) := below_stepG HB3.out hg4 (own_lowest HO3.out)))
      go_ret2
      exact ⟨_, rfl, own_base ho4 HB1.out.size, HB1.out.trans (HB4.out.mono HB1.out.size)⟩
end Go.Proofs.YtblklgcpobbfcaaGreatDoor
