/- The deferred calls of splitted; the iterator over a code; a code with another one behind it. Conditions: none. -/
import Derived.Test.YtblklgcpobbfcaaGreatDoorOc
import Derived.Test.YtblklgcpobbfcaaGreatDoorOd
import Derived.Test.YtblklgcpobbfcaaGreatDoorEd
import Derived.Laws.OwnMore
import Derived.OwnWalkIn
import Derived.TacticsInMore
import Derived.LoopNIn
import Derived.LoopIn
set_option linter.all false
namespace Go.Proofs.YtblklgcpobbfcaaGreatDoor
open Go.Eng Go.RowKit
set_option maxRecDepth 1000000

/-! The deferred call that makes of a panic an error and a place. -/
noncomputable def bxE (e : Int) : ABlk := .cells [.int .i64 e] 22 .rw
noncomputable def bxN (b : Int) : ABlk := .cells [.int .i64 b] 3 .rw
noncomputable def failA (e a : Int) : AVal := .iface 171 (.agg [.int .i64 e, .int .i64 a])
noncomputable def GB (e0 : TypeId) (e b : Int) : AHeap := ((G0 e0).new (bxE e)).new (bxN b)

/-- A deferred call: how the frame below is left, and what the boxes hold. -/
noncomputable def dOut (n : Nat) : DR → Option (AMode × Option AVal × Option AVal × Bool)
  | .ret u H' => some (u, H'.cellAt 11 0, H'.cellAt 12 0, Nat.ble n H'.low)
  | _ => none
theorem dOut_ret {n : Nat} {r : DR} {u : AMode} {v v2 : Option AVal} (h : dOut n r = some (u, v, v2, true)) : ∃ H', r = .ret u H' ∧ H'.cellAt 11 0 = v ∧ H'.cellAt 12 0 = v2 ∧ n ≤ H'.low := by
  cases r <;> simp only [dOut, reduceCtorEq, Option.some.injEq, Prod.mk.injEq] at h
  obtain ⟨rfl, h2, h3, h4⟩ := h
  exact ⟨_, rfl, h2, h3, Nat.le_of_ble_eq_true h4⟩
theorem caught_pan (e0 : TypeId) (e a : Int) : dOut 11 (dcallE Tryz.prog (cfun Tryz.prog 55) [.ptr 11 0, .ptr 12 0] (.pan [⟨failA e a, false⟩]) (GB e0 0 0) (tab Tryz.prog 20)) = some (.pan [⟨failA e a, true⟩], some (.int .i64 e), some (.int .i64 a), true) := by kernel_rfl
theorem caught_ret (e0 : TypeId) : dOut 11 (dcallE Tryz.prog (cfun Tryz.prog 55) [.ptr 11 0, .ptr 12 0] .ret (GB e0 0 0) (tab Tryz.prog 20)) = some (.ret, some (.int .i64 0), some (.int .i64 0), true) := by kernel_rfl

/-- A box, as it lies in memory. -/
def Bx1 (w : World) (B : Nat) (t : TypeId) (e : Int) : Prop := w.heap[B]? = some (.cells #[.int .i64 e] t (0, 0))
theorem Bx1.cell {w : World} {B : Nat} {t : TypeId} {e : Int} (h : Bx1 w B t e) : w.cell? ⟨B, 0, none⟩ = some (.int .i64 e) ∧ w.frozen? ⟨B, 0, none⟩ = false := by
  have h : w.heap[B]? = some (.cells #[.int .i64 e] t (0, 0)) := h
  refine ⟨?_, ?_⟩
  all_goals first
    | (simp only [World.cell?, h]; rfl)
    | (simp only [World.frozen?, h]; rfl)

theorem G0_get (e0 : TypeId) (b : Nat) : (G0 e0).get b = if b = 0 then some (.cells opsL e0 .sh) else none := by
  show Tr.get (path b) (Tr.put (path 0) _ .leaf) = _
  by_cases h0 : b = 0
  · subst h0; rw [Go.Eng.Tr.get_put_self]; simp
  · rw [Go.Eng.Tr.get_put_ne _ _ _ _ (path_ne h0), if_neg h0, Go.Eng.Tr.get_leaf]

theorem boxes_rel {w : World} (hg : Gl w) {E N : Nat} {e b : Int} (hE : Bx1 w E 22 e) (hN : Bx1 w N 3 b) (h0 : 0 < E) (hEN : E < N) :
    ∃ e0 ρ, WRel Tryz.prog ρ (GB e0 e b) w ∧ ρ 11 = some ⟨E, 0, 1⟩ ∧ ρ 12 = some ⟨N, 0, 1⟩ ∧ ∀ b p, b < 11 → ρ b = some p → p.r = b := by
  obtain ⟨e0, hw⟩ := hg.rel
  have hgl : ∀ b q, globEmb Tryz.prog b = some q → q.r = b ∧ b < 11 := by
    intro b q h
    unfold globEmb at h
    split at h
    · rename_i hlt
      cases h
      exact ⟨rfl, Nat.lt_of_lt_of_eq hlt (by kernel_rfl)⟩
    · cases h
  have h1 : WRel Tryz.prog (fun b => if b = 11 then some ⟨E, 0, 1⟩ else globEmb Tryz.prog b) ((G0 e0).new (bxE e)) w := by
    refine wrel_add (H := G0 e0) (x := bxE e) (p := ⟨E, 0, 1⟩) hw rfl hE (.cells rfl (fun j v hj => ?_) (fun _ => ⟨by simp, by simp, fun k _ h => by omega⟩)) ?_
    · rcases j with _ | j
      · simp only [List.getElem?_cons_zero, Option.some.injEq] at hj
        subst hj
        exact ⟨_, rfl, .int _ _⟩
      · simp at hj
    · intro b q y h hg
      rw [G0_get] at hg
      split at hg
      · rename_i hb
        have := (hgl b q h).1
        show q.r ≠ E
        omega
      · cases hg
  refine ⟨e0, fun b => if b = 12 then some ⟨N, 0, 1⟩ else if b = 11 then some ⟨E, 0, 1⟩ else globEmb Tryz.prog b, wrel_add (H := (G0 e0).new (bxE e)) (x := bxN b) (p := ⟨N, 0, 1⟩) h1 rfl hN (.cells rfl (fun j v hj => ?_) (fun _ => ⟨by simp, by simp, fun k _ h => by omega⟩)) ?_, by simp, by simp, ?_⟩
  · rcases j with _ | j
    · simp only [List.getElem?_cons_zero, Option.some.injEq] at hj
      subst hj
      exact ⟨_, rfl, .int _ _⟩
    · simp at hj
  · intro b q y h hg
    show q.r ≠ N
    by_cases hb : b = 11
    · subst hb
      simp only [if_true, Option.some.injEq] at h
      subst h
      show E ≠ N
      omega
    · rw [if_neg hb] at h
      rw [AHeap.get_new, if_neg (by show ¬ b = 11; exact hb), G0_get] at hg
      split at hg
      · have := (hgl b q h).1
        omega
      · cases hg
  · intro b p hlt h
    simp only [show b ≠ 12 by omega, show b ≠ 11 by omega, if_false] at h
    exact (hgl b p h).1

theorem cell_of {ρ : Emb} {H : AHeap} {w : World} (hw : WRel Tryz.prog ρ H w) {i B : Nat} {e : Int} (hp : ρ i = some ⟨B, 0, 1⟩) (h : H.cellAt i 0 = some (.int .i64 e)) : w.cell? ⟨B, 0, none⟩ = some (.int .i64 e) := by
  unfold AHeap.cellAt at h
  split at h
  · rename_i cs t wr hg
    obtain ⟨o, ho, hB⟩ := hw.blk hg hp
    cases hB with
    | cells hd hc _ =>
      rename_i arr lo hi
      have h' : cs[0]? = some (AVal.int .i64 e) := by
        cases cs with
        | nil => cases h
        | cons a l => exact h
      obtain ⟨x, h1, h2⟩ := hc 0 _ h'
      cases h2
      simp only [World.cell?, ho]
      simpa using h1
  · cases h

/-- Of what was there nothing but two blocks have turned. -/
structure Beside (E N : Nat) (w w' : World) : Prop where
  os : w'.os = w.os
  tape : w'.tape = w.tape
  output : w'.output = w.output
  size : w.heap.size ≤ w'.heap.size
  rest : ∀ r, r < w.heap.size → r ≠ E → r ≠ N → w'.heap[r]? = w.heap[r]?

theorem beside_of {ρ ρ' : Emb} {e0 : TypeId} {e b : Int} {H' : AHeap} {w w' : World} {E N : Nat} (hst : Stp Tryz.prog ρ (GB e0 e b) w ρ' H' w') (hl : 11 ≤ H'.low) (hE : ρ 11 = some ⟨E, 0, 1⟩) (hN : ρ 12 = some ⟨N, 0, 1⟩) (hw : WRel Tryz.prog ρ (GB e0 e b) w) :
    Beside E N w w' := by
  refine ⟨hst.os, hst.tape, hst.output, hst.size, fun r hlt h1 h2 => hst.frame r hlt fun b p hown hbp hpr => ?_⟩
  have hb : b < 13 := hw.lt hbp
  by_cases h11 : b = 11
  · subst h11
    rw [hE] at hbp
    cases hbp
    exact absurd hpr.symm h1
  · by_cases h12 : b = 12
    · subst h12
      rw [hN] at hbp
      cases hbp
      exact absurd hpr.symm h2
    · omega

theorem caught_panic (w : World) (hg : Gl w) (E N : Nat) (hE : Bx1 w E 22 0) (hN : Bx1 w N 3 0) (h0 : 0 < E) (hEN : E < N) (e a : Int) :
    CallsD Tryz.prog 55 #[.pointer (some ⟨E, 0, none⟩), .pointer (some ⟨N, 0, none⟩)] (.panicking [{ v := failV e a, recovered := false }]) w fun r m' w' =>
      (∃ x, r = .returned x) ∧ m' = .panicking [{ v := failV e a, recovered := true }] ∧ w'.cell? ⟨E, 0, none⟩ = some (.int .i64 e) ∧ w'.cell? ⟨N, 0, none⟩ = some (.int .i64 a) ∧ Beside E N w w' := by
  obtain ⟨e0, ρ, hw, hp, hq, hr⟩ := boxes_rel hg hE hN h0 hEN
  obtain ⟨H', h1, h2, h3, h4⟩ := dOut_ret (caught_pan e0 e a)
  have hS : Sound Tryz.prog (Go.Eng.tab Tryz.prog 20) := sound fits 20
  have hv : VRel ρ (failA e a) (failV e a) := .iface _ (.agg (.cons (.int _ _) (.cons (.int _ _) .nil)))
  have key := dcall_callsD fits hS (f := 55) (args := [.ptr 11 0, .ptr 12 0]) (args' := #[.pointer (some ⟨E, 0, none⟩), .pointer (some ⟨N, 0, none⟩)]) (m := .panicking [{ v := failV e a, recovered := false }]) hw (.cons (.ptr hp) (.cons (.ptr hq) .nil)) (.pan (.cons hv .nil)) h1
  intro c cs hm
  obtain ⟨r, m', w', fr, ⟨hx, ρ', hm', hst⟩, h⟩ := key c cs hm
  refine ⟨r, m', w', fr, ⟨hx, ?_, ?_, ?_, ?_⟩, h⟩
  · cases hm' with
    | pan hs =>
      cases hs with
      | cons hv' hs' =>
        cases hs'
        cases hv' with
        | iface _ hv' =>
          cases hv' with
          | agg hv' =>
            cases hv' with
            | cons h1 h2 =>
              cases h1
              cases h2 with
              | cons h1 h2 =>
                cases h1
                cases h2
                rfl
  · exact cell_of hst.wrel ((hst.ext 11 (by show 11 < 13; omega)).trans hp) h2
  · exact cell_of hst.wrel ((hst.ext 12 (by show 12 < 13; omega)).trans hq) h3
  · exact beside_of hst h4 hp hq hw

theorem caught_none (w : World) (hg : Gl w) (E N : Nat) (hE : Bx1 w E 22 0) (hN : Bx1 w N 3 0) (h0 : 0 < E) (hEN : E < N) :
    CallsD Tryz.prog 55 #[.pointer (some ⟨E, 0, none⟩), .pointer (some ⟨N, 0, none⟩)] .returning w fun r m' w' =>
      (∃ x, r = .returned x) ∧ m' = .returning ∧ w'.cell? ⟨E, 0, none⟩ = some (.int .i64 0) ∧ w'.cell? ⟨N, 0, none⟩ = some (.int .i64 0) ∧ Beside E N w w' := by
  obtain ⟨e0, ρ, hw, hp, hq, hr⟩ := boxes_rel hg hE hN h0 hEN
  obtain ⟨H', h1, h2, h3, h4⟩ := dOut_ret (caught_ret e0)
  have hS : Sound Tryz.prog (Go.Eng.tab Tryz.prog 20) := sound fits 20
  have key := dcall_callsD fits hS (f := 55) (args := [.ptr 11 0, .ptr 12 0]) (args' := #[.pointer (some ⟨E, 0, none⟩), .pointer (some ⟨N, 0, none⟩)]) (m := .returning) hw (.cons (.ptr hp) (.cons (.ptr hq) .nil)) .ret h1
  intro c cs hm
  obtain ⟨r, m', w', fr, ⟨hx, ρ', hm', hst⟩, h⟩ := key c cs hm
  refine ⟨r, m', w', fr, ⟨hx, ?_, ?_, ?_, ?_⟩, h⟩
  · cases hm'
    rfl
  · exact cell_of hst.wrel ((hst.ext 11 (by show 11 < 13; omega)).trans hp) h2
  · exact cell_of hst.wrel ((hst.ext 12 (by show 12 < 13; omega)).trans hq) h3
  · exact beside_of hst h4 hp hq hw

/-- The deferred closure that empties the lists. -/
theorem cleanD_ok (E L A : Nat) (u : FrameMode) (w : World) (h : w.cell? ⟨E, 0, none⟩ = some (.int .i64 0)) : CallsD Tryz.prog 79 #[.pointer (some ⟨E, 0, none⟩), .pointer (some ⟨L, 0, none⟩), .pointer (some ⟨A, 0, none⟩)] u w fun r u' w' => u' = u ∧ r = .returned (.tuple #[]) ∧ w' = w := by
  go_enter_d Tryz.func79, Tryz.ntmps79
  go_wp2
  go_end0
  exact ⟨rfl, rfl⟩
theorem cleanD_no (E L A : Nat) (e : Int) (v1 v2 : Value) (u : FrameMode) (w : World) (h : w.cell? ⟨E, 0, none⟩ = some (.int .i64 e)) (he : e ≠ 0) (h1 : w.cell? ⟨L, 0, none⟩ = some v1) (h2 : w.cell? ⟨A, 0, none⟩ = some v2) (f1 : w.frozen? ⟨L, 0, none⟩ = false) (f2 : w.frozen? ⟨A, 0, none⟩ = false) (hla : (⟨L, 0, none⟩ : Addr) ≠ ⟨A, 0, none⟩) :
    CallsD Tryz.prog 79 #[.pointer (some ⟨E, 0, none⟩), .pointer (some ⟨L, 0, none⟩), .pointer (some ⟨A, 0, none⟩)] u w fun r u' w' => u' = u ∧ r = .returned (.tuple #[]) ∧ w' = (w.setCell ⟨L, 0, none⟩ (.slice none 0 0)).setCell ⟨A, 0, none⟩ (.slice none 0 0) := by
  have hx1 : ¬ e = 0 := he
  have hx2 : (e != 0) = true := by simpa using he
  have h3 : (w.setCell ⟨L, 0, none⟩ (.slice none 0 0)).cell? ⟨A, 0, none⟩ = some v2 := (World.cell?_setCell_other _ _ _ _ (fun e => hla (by rw [e]))).trans h2
  go_enter_d Tryz.func79, Tryz.ntmps79
  go_wp2
  go_end0
  exact ⟨rfl, rfl⟩
end Go.Proofs.YtblklgcpobbfcaaGreatDoor

namespace Go.Proofs.YtblklgcpobbfcaaGreatDoor
open Go.Eng Go.RowKit
set_option maxRecDepth 1000000

/-! The cells of instructions, one behind the other. -/
noncomputable def iI (C : Nat → Int) (a : Nat) : List Int := [(opA C a : Int), xA C a 0, xA C a 1, xA C a 2, xA C a 3, xA C a 4, xA C a 5, xA C a 6]
noncomputable def II (C : Nat → Int) (L : List Nat) : List Int := L.flatMap (iI C)
theorem iI_len (C : Nat → Int) (a : Nat) : (iI C a).length = 8 := rfl
theorem II_cons (C : Nat → Int) (a : Nat) (L : List Nat) : II C (a :: L) = iI C a ++ II C L := by simp [II]
theorem II_app (C : Nat → Int) (L M : List Nat) : II C (L ++ M) = II C L ++ II C M := by simp [II]
theorem II_snoc (C : Nat → Int) (L : List Nat) (a : Nat) : II C (L ++ [a]) = II C L ++ iI C a := by simp [II]
theorem II_len (C : Nat → Int) (L : List Nat) : (II C L).length = L.length * 8 := by
  induction L with
  | nil => rfl
  | cons a L ih => rw [II_cons, List.length_append, iI_len, ih, List.length_cons]; omega
theorem II_get (C : Nat → Int) : ∀ (L : List Nat) (i j : Nat) (a : Nat), L[i]? = some a → j < 8 → (II C L).getD (i * 8 + j) 0 = (iI C a).getD j 0
  | [], i, j, a, h, _ => by simp at h
  | b :: L, 0, j, a, h, hj => by
    simp only [List.getElem?_cons_zero, Option.some.injEq] at h
    subst h
    rw [II_cons]
    simp only [Nat.zero_mul, Nat.zero_add, List.getD_eq_getElem?_getD]
    rw [List.getElem?_append_left (by rw [iI_len]; exact hj)]
  | b :: L, i + 1, j, a, h, hj => by
    have ih := II_get C L i j a (by simpa using h) hj
    rw [II_cons]
    simp only [List.getD_eq_getElem?_getD] at ih ⊢
    rw [List.getElem?_append_right (by rw [iI_len]; omega), iI_len, show (i + 1) * 8 + j - 8 = i * 8 + j by omega]
    exact ih
theorem II_congr {C C' : Nat → Int} {L : List Nat} (h : ∀ a ∈ L, iI C a = iI C' a) : II C L = II C' L := by
  induction L with
  | nil => rfl
  | cons a L ih => rw [II_cons, II_cons, h a (by simp), ih (fun b hb => h b (by simp [hb]))]
theorem iI_congr {C C' : Nat → Int} {a : Nat} (h27 : opA C a < 27) (h : ∀ j, a ≤ j → (j : Int) < a + sz (opA C a) → C j = C' j) : iI C a = iI C' a := by
  have hp := sz_pos h27
  unfold iI
  rw [opA_congr (h a (Nat.le_refl _) (by omega))]
  simp only [xA_congr h27 h]
theorem II_shift (C : Nat → Int) (m : Nat) (L : List Nat) : II (fun j => C (j + m)) L = II C (L.map (· + m)) := by
  induction L with
  | nil => rfl
  | cons a L ih =>
    rw [II_cons, ih, List.map_cons, II_cons]
    congr 1
    unfold iI
    simp only [xA_shift]
    rfl

/-! Lists of instructions and of numbers that a call has made. -/
abbrev OwnI (w : World) (base : Nat) (v : Value) (C : Nat → Int) (L : List Nat) : Prop := w.ownsRow base 38 8 v L.length ((II C L).map (Value.int .i64))
abbrev OwnN (w : World) (base : Nat) (v : Value) (L : List Nat) : Prop := w.ownsRow base 3 1 v L.length (L.map fun (a : Nat) => Value.int .i64 a)

theorem own_form {w : World} {base : Nat} {e : TypeId} {size n : Nat} {v : Value} {xs : List Value} (h : w.ownsRow base e size v n xs) : ∃ a c, v = .slice a n c := by
  obtain ⟨_, ⟨rfl, rfl⟩ | ⟨g, cap, cur, rfl, _⟩⟩ := h
  · exact ⟨_, _, rfl⟩
  · exact ⟨_, _, rfl⟩
theorem own_some {w : World} {base : Nat} {e : TypeId} {size n : Nat} {v : Value} {xs : List Value} (h : w.ownsRow base e size v n xs) (hn : 0 < n) : ∃ g c, v = .slice (some ⟨g, 0, none⟩) n c ∧ g < w.heap.size ∧ base ≤ g ∧ ∀ j, j < n * size → w.cell? ⟨g, j, none⟩ = xs[j]? := by
  rcases h.2 with ⟨rfl, rfl⟩ | ⟨g, cap, cur, rfl, hb, hg, _⟩
  · omega
  · exact ⟨g, cap, rfl, (Array.getElem?_eq_some_iff.1 hg).1, hb, fun j hj => h.cellAt j hj⟩
/-- Two rows of unlike elements lie in two blocks. -/
theorem own_apart {w : World} {b1 b2 s1 s2 n1 n2 : Nat} {e1 e2 : TypeId} {v1 v2 : Value} {x1 x2 : List Value} (h1 : w.ownsRow b1 e1 s1 v1 n1 x1) (h2 : w.ownsRow b2 e2 s2 v2 n2 x2) (he : e1 ≠ e2) : v2.ownBlock = none ∨ v2.ownBlock ≠ v1.ownBlock := by
  obtain ⟨_, ⟨rfl, rfl⟩ | ⟨g, cap, cur, rfl, hb, hg, _⟩⟩ := h2
  · exact .inl rfl
  · refine .inr ?_
    obtain ⟨_, ⟨rfl, rfl⟩ | ⟨g', cap', cur', rfl, hb', hg', _⟩⟩ := h1
    · simp [Value.ownBlock]
    · intro e
      simp only [Value.ownBlock, Option.some.injEq] at e
      rw [e, hg'] at hg
      cases hg
      exact he rfl
theorem OwnI.lies {w : World} {base : Nat} {v : Value} {C : Nat → Int} {L : List Nat} (h : OwnI w base v C L) (hn : 0 < L.length) : ∃ g c, v = .slice (some ⟨g, 0, none⟩) L.length c ∧ Lies w g 0 L.length (fun j => (II C L).getD j 0) := by
  obtain ⟨g, c, rfl, hlt, _, hc⟩ := own_some h hn
  refine ⟨g, c, rfl, hlt, fun j hj => ?_⟩
  rw [Nat.zero_add, hc j hj]
  have : j < (II C L).length := by rw [II_len]; exact hj
  simp [this]
end Go.Proofs.YtblklgcpobbfcaaGreatDoor

namespace Go.Proofs.YtblklgcpobbfcaaGreatDoor
open Go.Eng Go.RowKit
set_option maxRecDepth 1000000

/-! The plain law of a code with another one behind it. -/
/-- What Split finds. -/
def Good (C : Nat → Int) (n : Nat) (L : List Nat) : Prop := Seg C n 0 L n
def Fails (C : Nat → Int) (n : Nat) (L : List Nat) (b : Nat) : Prop := Seg C n 0 L b ∧ b < n ∧ ¬ Dec C n b
theorem Good.not {C : Nat → Int} {n : Nat} {L M : List Nat} {b : Nat} (h : Good C n L) (k : Fails C n M b) : False := k.2.2 (Seg.reach' h (Nat.le_refl _) k.1 k.2.1)
theorem Good.uniq {C : Nat → Int} {n : Nat} {L M : List Nat} (h : Good C n L) (k : Good C n M) : L = M := Seg.uniq' h (Nat.le_refl _) k (Nat.le_refl _)

theorem both_good {C D B : Nat → Int} {n m : Nat} {L M : List Nat} (h1 : ∀ j, j < n → B j = C j) (h2 : ∀ j, j < m → B (j + n) = D j) (h : Good C n L) (k : Good D m M) : Good B (n + m) (L ++ M.map (· + n)) := by
  have a1 : Seg B (n + m) 0 L n := Seg.congr h (by omega) (fun j hj => (h1 j hj).symm)
  have a2 : Seg (fun j => B (j + n)) m 0 M m := Seg.congr k (Nat.le_refl _) (fun j hj => (h2 j hj).symm)
  have a3 := Seg.shift a2
  rw [Nat.zero_add, Nat.add_comm m n] at a3
  exact a1.app a3
theorem both_bad {C D B : Nat → Int} {n m : Nat} {L M K : List Nat} {b : Nat} (h1 : ∀ j, j < n → B j = C j) (h2 : ∀ j, j < m → B (j + n) = D j) (h : Good C n L) (k : Fails D m M b) (g : Good B (n + m) K) : False := by
  have a1 : Seg B (n + m) 0 L n := Seg.congr h (by omega) (fun j hj => (h1 j hj).symm)
  have a2 : Seg (fun j => B (j + n)) m 0 M b := Seg.congr k.1 (Nat.le_refl _) (fun j hj => (h2 j hj).symm)
  have a3 := Seg.shift a2
  rw [Nat.zero_add, Nat.add_comm m n] at a3
  have hd : Dec B (n + m) (b + n) := Seg.reach' g (Nat.le_refl _) (a1.app a3) (by have := k.2.1; omega)
  rw [Nat.add_comm n m] at hd
  have hd' : Dec (fun j => B (j + n)) m b := Dec.shift.2 hd
  obtain ⟨e1, e2, _⟩ := id hd'
  exact k.2.2 (hd'.congr (fun j hj hj2 => h2 j (by omega)) e2)
/-- The instructions of both. -/
theorem both_II {C D B : Nat → Int} {n m : Nat} {L M : List Nat} (h1 : ∀ j, j < n → B j = C j) (h2 : ∀ j, j < m → B (j + n) = D j) (h : Good C n L) (k : Good D m M) : II B (L ++ M.map (· + n)) = II C L ++ II D M := by
  have dec : ∀ {C : Nat → Int} {n a b : Nat} {L : List Nat}, Seg C n a L b → ∀ x ∈ L, x < n ∧ Dec C n x := by
    intro C n a b L hs
    induction hs with
    | nil a => intro x hx; simp at hx
    | cons h hd _ ih =>
      intro x hx
      rcases List.mem_cons.1 hx with rfl | hx
      · exact ⟨h, hd⟩
      · exact ih x hx
  rw [II_app, ← II_shift]
  congr 1
  · refine II_congr fun a ha => ?_
    obtain ⟨_, e1, e2, _⟩ := dec h a ha
    exact (iI_congr e1 (fun j _ hj => (h1 j (by omega)).symm)).symm
  · refine II_congr fun a ha => ?_
    obtain ⟨_, e1, e2, _⟩ := dec k a ha
    exact (iI_congr e1 (fun j _ hj => (h2 j (by omega)).symm)).symm
end Go.Proofs.YtblklgcpobbfcaaGreatDoor

namespace Go.Proofs.YtblklgcpobbfcaaGreatDoor
open Go.Eng Go.RowKit
theorem wide_fn (f : FuncId) : Fence.wide.fn f ↔ True := Iff.rfl
theorem wide_depth : Fence.wide.depth = none := rfl
attribute [local go_sem] Oper.semAt_some wide_fn wide_depth
set_option maxRecDepth 1000000

theorem rest_in {g off n cap b : Nat} (hn : n < 9223372036854775808) (hb : b < n) (w : World) : Calls Tryz.prog 78 #[.agg #[.slice (some ⟨g, off, none⟩) n cap, .int .i64 b]] w fun e w' => ∃ d : Int, 0 < d ∧ e = .returned (.int .i64 d) ∧ Below w.heap.size w w' := by
  refine (rest_any g off n cap b w).mono ?_
  rintro e w' ⟨rfl, hB⟩
  exact ⟨_, by rw [wrap_rest hn hb]; omega, rfl, hB⟩
theorem rest_end {g off n cap : Nat} (w : World) : Calls Tryz.prog 78 #[.agg #[.slice (some ⟨g, off, none⟩) n cap, .int .i64 n]] w fun e w' => e = .returned (.int .i64 0) ∧ Below w.heap.size w w' := by
  refine (rest_any g off n cap n w).mono ?_
  rintro e w' ⟨rfl, hB⟩
  refine ⟨?_, hB⟩
  rw [show (n : Int) - n = 0 by omega, show wrap64 0 = 0 by unfold wrap64; omega]

open Classical in
/-- How far the reader has come: for the loop's measure. -/
noncomputable def rdPos (R : Nat) (w : World) : Nat := match w.cell? ⟨R, 1, none⟩ with
  | some (.int _ z) => z.toNat
  | _ => 0
theorem rdPos_eq {w : World} {R g off n cap b : Nat} {nx : Int} (h : RdAt w R g off n cap b nx) : rdPos R w = b := by
  unfold rdPos
  rw [h.cells.2.1]
  simp

/-- What a call of ins changes: the reader's block alone. -/
theorem set_grown {w w' : World} {R : Nat} {v : Value} (hb : Below w.heap.size (w.setCell ⟨R, 2, none⟩ v) w') : w.grownBy w' (some R) := by
  have hs : (w.setCell ⟨R, 2, none⟩ v).heap.size = w.heap.size := by simp [World.setCell]
  refine ⟨hb.os, hb.tape, hb.output, by rw [← hs]; exact hb.size, fun k hk hne => ?_⟩
  rw [hb.block k hk]
  exact Below.heap_setCell w ⟨R, 2, none⟩ v k (fun e => hne (by rw [e]))
theorem grown_trans {a b c : World} {r : Option Nat} (h : a.grownBy b r) (k : b.grownBy c r) : a.grownBy c r :=
  ⟨k.os.trans h.os, k.tape.trans h.tape, k.output.trans h.output, Nat.le_trans h.size k.size, fun i hi hne => (k.block i (Nat.lt_of_lt_of_le hi h.size) hne).trans (h.block i hi hne)⟩
theorem grown_below {a b : World} (h : Below a.heap.size a b) (r : Option Nat) : a.grownBy b r := ⟨h.os, h.tape, h.output, h.size, fun k hk _ => h.block k hk⟩
theorem grown_set (a : World) (R i : Nat) (v : Value) : a.grownBy (a.setCell ⟨R, i, none⟩ v) (some R) :=
  ⟨rfl, rfl, rfl, by simp [World.setCell], fun k _ hne => Below.heap_setCell a ⟨R, i, none⟩ v k (fun e => hne (by rw [e]))⟩
theorem RdAt.set2 {w w' : World} {R g off n cap at' : Nat} {nx v : Int} (h : RdAt w R g off n cap at' nx) (hb : Below w.heap.size (w.setCell ⟨R, 2, none⟩ (.int .i64 v)) w') : RdAt w' R g off n cap at' v := by
  refine ⟨?_⟩
  rw [hb.block R h.lt]
  simp only [World.setCell, Array.getElem?_modify, h.box]
  rfl
theorem RdAt.set1 {w : World} {R g off n cap at' at'' : Nat} {nx : Int} (h : RdAt w R g off n cap at' nx) : RdAt (w.setCell ⟨R, 1, none⟩ (.int .i64 at'')) R g off n cap at'' nx := by
  refine ⟨?_⟩
  simp only [World.setCell, Array.getElem?_modify, h.box]
  rfl

/-- What lies still while the iterator runs. -/
structure Stay (n₀ B g off n cap : Nat) (C : Nat → Int) (w : World) : Prop where
  gl : Gl w
  code : CodeAt w g off n C
  box : w.heap[B]? = some (.cells #[.slice (some ⟨g, off, none⟩) n cap] 40 (0, 0))
  pos : 0 < n₀
  gn : g < n₀
  sz : n₀ ≤ w.heap.size
theorem Stay.kept {n₀ B g off n cap : Nat} {C : Nat → Int} {w w' : World} (h : Stay n₀ B g off n cap C w) (hb : Below n₀ w w') (hB : w'.heap[B]? = w.heap[B]?) : Stay n₀ B g off n cap C w' := by
  obtain ⟨a, e, l, h1, h2⟩ := h.gl
  exact ⟨⟨a, e, l, by rw [hb.block 0 h.pos]; exact h1, h2⟩, h.code.below hb h.gn, hB.trans h.box, h.pos, h.gn, Nat.le_trans h.sz hb.size⟩
theorem Stay.grown {n₀ B g off n cap R : Nat} {C : Nat → Int} {w w' : World} (h : Stay n₀ B g off n cap C w) (hg : w.grownBy w' (some R)) (hR : n₀ ≤ R) (hBR : B ≠ R) : Stay n₀ B g off n cap C w' :=
  h.kept ⟨hg.os, hg.tape, hg.output, hg.size, fun k hk => hg.block k (Nat.lt_of_lt_of_le hk h.sz) (fun e => by have := Option.some.inj e; omega)⟩
    (hg.block B (Array.getElem?_eq_some_iff.1 h.box).1 (fun e => hBR (Option.some.inj e)))

set_option maxHeartbeats 4000000 in
/-- The iterator: its places are those of the instructions; where there is none it panics. -/
theorem it93 (g off n cap B n₀ : Nat) (C : Nat → Int) (w : World) (hn : n < 9223372036854775808) (hst : Stay n₀ B g off n cap C w) :
    SeqPan Fence.wide 0 Tryz.prog 93 #[.pointer (some ⟨B, 0, none⟩)] (fun b : Nat => #[.int .i64 b, insA' C b]) (fun k => k < n₀ ∨ k = B) (fun pre b => Seg C n 0 pre b ∧ b < n ∧ Dec C n b)
      (fun xs => Seg C n 0 xs n) (fun vs xs => ∃ b, Seg C n 0 xs b ∧ b < n ∧ ¬ Dec C n b ∧ vs = [failV 6 b]) w := by
  intro l J W hW hl hwl hJ hY h0
  have hBlt : B < w.heap.size := (Array.getElem?_eq_some_iff.1 hst.box).1
  have hwW := hW.size
  have hsn := hst.sz
  have HST : Aside (Stay n₀ B g off n cap C W) := hst.kept (hW.mono hst.sz) (hW.block B hBlt)
  have HJ := Lib.hid hJ
  have HY := Lib.hid hY
  have H0 : Aside (J [] W) := h0
  have hcb : W.cell? ⟨B, 0, none⟩ = some (.slice (some ⟨g, off, none⟩) n cap) := by
    have := HST.out.box
    simp only [World.cell?, this]
    rfl
  clear hst hW hJ hY h0
  show CallsIn Fence.wide 0 Tryz.prog 93 #[.func (.yield l) #[] #[], .pointer (some ⟨B, 0, none⟩)] W _
  refine callsIn_of_wp Tryz.func93 rfl trivial ?_ rfl
  simp only [Tryz.ntmps93, List.size_toArray, List.length_cons, List.length_nil, Nat.reduceAdd, Nat.reduceSub, Array.replicate_succ, Array.replicate_zero, List.push_toArray, List.append_toArray, List.nil_append, List.cons_append]
  gi_wp2
  gi_loopw [4] (fun _ wr => ∃ (pre : List Nat) (b : Nat) (nx : Int), Aside (Seg C n 0 pre b) ∧ b ≤ n ∧ Aside (RdAt wr W.heap.size g off n cap b nx) ∧ Aside (J pre wr) ∧ Aside (Stay n₀ B g off n cap C wr)) (fun _ wr => n - rdPos W.heap.size wr)
  case atStart =>
    refine ⟨[], 0, 0, .nil _, Nat.zero_le _, ⟨?_⟩, HJ.out _ _ _ H0.out (Nat.le_refl _) (grown_below ((Below.refl _ _).alloc (Nat.le_refl _) _) _), HST.out.grown (grown_below ((Below.refl _ _).alloc (Nat.le_refl _) _) _) (by omega) (by omega)⟩
    show (W.heap.push _)[W.heap.size]? = _
    rw [Array.getElem?_push, if_pos rfl]
    rfl
  case round =>
    obtain ⟨pre, b, nx, hseg, hbn, hrd, hj, hs⟩ := hrel
    obtain ⟨r0, r1, r2, r3⟩ := hrd.out.cells
    have hRw : W.heap.size < wr.heap.size := hrd.out.lt
    by_cases hlt : b < n
    · have HRST := Lib.hid fun W => rest_in (g := g) (off := off) (cap := cap) hn hlt W
      by_cases hd : Dec C n b
      · have HINS := Lib.hid (fun w1 (hr : RdAt w1 W.heap.size g off n cap b nx) (hs : Stay n₀ B g off n cap C w1) => ins_yes W.heap.size g off n cap b nx C w1 hs.gl hr hs.code hn hlt (by omega) hd)
        have HWO := Lib.hid fun w1 => want_ok 6 b w1
        gi_wp2_with (first
          | (gi_at_call 78; refine (callsIn_wide.2 (HRST.out _)).mono ?_; rintro e w1 ⟨d, hd0, rfl, hb1⟩)
          | (gi_at_call 41; refine (callsIn_wide.2 (HINS.out _ (hrd.out.below hb1 hRw) (hs.out.grown (grown_below hb1 _) (by omega) (by omega)))).mono ?_; rintro e w2 ⟨rfl, hb2⟩; have HR2 : Aside (RdAt w2 W.heap.size g off n cap b (b + sz (opA C b))) := (hrd.out.below hb1 hRw).set2 hb2; obtain ⟨q0, q1, q2, q3⟩ := HR2.out.cells; have q4 : ∀ o, (w2.alloc o).cell? ⟨W.heap.size, 1, none⟩ = some (.int .i64 b) := fun o => (World.cell?_alloc_some _ _ _ (by rw [q1]; rfl)).trans q1)
          | (gi_at_call 59; refine (callsIn_wide.2 (HWO.out _)).mono ?_; rintro e w3 ⟨rfl, rfl⟩))
        have HR3 := HR2.out.below ((Below.refl _ _).alloc (Nat.le_refl _) (.cells #[.int .i64 (opA C b), .int .i64 (xA C b 0), .int .i64 (xA C b 1), .int .i64 (xA C b 2), .int .i64 (xA C b 3), .int .i64 (xA C b 4), .int .i64 (xA C b 5), .int .i64 (xA C b 6)] 38)) HR2.out.lt
        have hg3 : wr.grownBy (w2.alloc (.cells #[.int .i64 (opA C b), .int .i64 (xA C b 0), .int .i64 (xA C b 1), .int .i64 (xA C b 2), .int .i64 (xA C b 3), .int .i64 (xA C b 4), .int .i64 (xA C b 5), .int .i64 (xA C b 6)] 38)) (some W.heap.size) :=
          grown_trans (grown_trans (grown_below hb1 _) (set_grown hb2)) (grown_below ((Below.refl _ _).alloc (Nat.le_refl _) _) _)
        clear q0 q1 q2 q3 q4
        generalize w2.alloc (.cells #[.int .i64 (opA C b), .int .i64 (xA C b 0), .int .i64 (xA C b 1), .int .i64 (xA C b 2), .int .i64 (xA C b 3), .int .i64 (xA C b 4), .int .i64 (xA C b 5), .int .i64 (xA C b 6)] 38) = w3 at *
        have hs3 := hs.out.grown hg3 (by omega) (by omega)
        have hj3 := HJ.out _ _ _ hj.out (by omega) hg3
        have hsz3 := hg3.size
        obtain ⟨fn, tmps, assign, body, hy, hR⟩ := HY.out pre b w3 ⟨hseg.out, hlt, hd⟩ hj3 (by omega)
        obtain ⟨e1, e2, e3⟩ := lnA_eq hd
        rw [hy, Oper.uponIn_round]
        refine ⟨fun h => (by cases h), hR.mono ?_⟩
        rintro e W4 ⟨rfl, hj4, hk4⟩
        have HR4 : Aside (RdAt W4 W.heap.size g off n cap b (b + sz (opA C b))) := ⟨(hk4.block _ (.inr rfl) (by omega)).trans HR3.box⟩
        have hs4 := hs3.kept (hk4.below (n := n₀) (by omega) (fun k hk => .inl (.inl hk))) (hk4.block B (.inl (.inr rfl)) (by omega))
        obtain ⟨q0, q1, q2, q3⟩ := HR4.out.cells
        have q3' : W4.frozen? ⟨W.heap.size, 1, none⟩ = false := by
          have := HR4.out.box
          simp only [World.frozen?, this]
          rfl
        gi_wp2
        have hint : (b : Int) + sz (opA C b) = ((b + lnA C b : Nat) : Int) := by omega
        have hR5 := RdAt.set1 (at'' := b + lnA C b) HR4.out
        rw [hint] at *
        refine ⟨⟨pre ++ [b], b + lnA C b, _, hseg.out.snoc hlt hd, by omega, hR5, HJ.out _ _ _ hj4 (by have := hk4.size; omega) (grown_set _ _ _ _), hs4.grown (grown_set _ _ _ _) (by omega) (by omega)⟩, ?_⟩
        rw [rdPos_eq hR5, rdPos_eq hrd.out]
        omega
      · have HINS := Lib.hid (fun w1 (hr : RdAt w1 W.heap.size g off n cap b nx) (hs : Stay n₀ B g off n cap C w1) => ins_no W.heap.size g off n cap b nx C w1 hs.gl hr hs.code hn hlt (by omega) hd)
        have HWN := Lib.hid fun w1 => want_no 6 b w1
        gi_wp2_with (first
          | (gi_at_call 78; refine (callsIn_wide.2 (HRST.out _)).mono ?_; rintro e w1 ⟨d, hd0, rfl, hb1⟩)
          | (gi_at_call 41; refine (callsIn_wide.2 (HINS.out _ (hrd.out.below hb1 hRw) (hs.out.grown (grown_below hb1 _) (by omega) (by omega)))).mono ?_; rintro e w2 ⟨op, x0, x1, x2, x3, x4, x5, x6, v, rfl, hb2⟩; have HR2 : Aside (RdAt w2 W.heap.size g off n cap b v) := (hrd.out.below hb1 hRw).set2 hb2; obtain ⟨q0, q1, q2, q3⟩ := HR2.out.cells; have q4 : ∀ o, (w2.alloc o).cell? ⟨W.heap.size, 1, none⟩ = some (.int .i64 b) := fun o => (World.cell?_alloc_some _ _ _ (by rw [q1]; rfl)).trans q1)
          | (gi_at_call 59; refine (callsIn_wide.2 (HWN.out _)).mono ?_; rintro e w3 ⟨rfl, rfl⟩))
        exact ⟨rfl, .inr ⟨_, rfl, pre, ⟨b, hseg.out, hlt, hd, rfl⟩, HJ.out _ _ _ hj.out (by omega) (grown_trans (grown_trans (grown_below hb1 _) (set_grown hb2)) (grown_below ((Below.refl _ _).alloc (Nat.le_refl _) _) _))⟩⟩
    · have e : b = n := by omega
      subst e
      have HRST := Lib.hid fun W => rest_end (g := g) (off := off) (n := b) (cap := cap) W
      gi_wp2_with (gi_at_call 78; refine (callsIn_wide.2 (HRST.out _)).mono ?_; rintro e w1 ⟨rfl, hb1⟩)
      go_end0
      exact .inl ⟨⟨_, rfl⟩, pre, hseg.out, HJ.out _ _ _ hj.out (by omega) (grown_below hb1 _)⟩

theorem rest_nil (a : Option Addr) (c : Nat) (w : World) : Calls Tryz.prog 78 #[.agg #[.slice a 0 c, .int .i64 0]] w fun e w' => e = .returned (.int .i64 0) ∧ Below w.heap.size w w' := by
  go_enter Tryz.func78, Tryz.ntmps78
  go_wp2
  go_ret
  exact ⟨rfl, (Below.refl _ _).alloc (Nat.le_refl _) _⟩

set_option maxHeartbeats 4000000 in
/-- The iterator over an empty code. -/
theorem it93_nil (a : Option Addr) (cap B n₀ : Nat) (C : Nat → Int) (w : World) (hB : w.heap[B]? = some (.cells #[.slice a 0 cap] 40 (0, 0))) :
    SeqPan Fence.wide 0 Tryz.prog 93 #[.pointer (some ⟨B, 0, none⟩)] (fun b : Nat => #[.int .i64 b, insA' C b]) (fun k => k < n₀ ∨ k = B) (fun pre b => Seg C 0 0 pre b ∧ b < 0 ∧ Dec C 0 b)
      (fun xs => Seg C 0 0 xs 0) (fun vs xs => ∃ b, Seg C 0 0 xs b ∧ b < 0 ∧ ¬ Dec C 0 b ∧ vs = [failV 6 b]) w := by
  intro l J W hW hl hwl hJ hY h0
  have hBlt : B < w.heap.size := (Array.getElem?_eq_some_iff.1 hB).1
  have HJ := Lib.hid hJ
  have H0 : Aside (J [] W) := h0
  have hcb : W.cell? ⟨B, 0, none⟩ = some (.slice a 0 cap) := by
    have := (hW.block B hBlt).trans hB
    simp only [World.cell?, this]
    rfl
  clear hB hW hJ hY h0
  show CallsIn Fence.wide 0 Tryz.prog 93 #[.func (.yield l) #[] #[], .pointer (some ⟨B, 0, none⟩)] W _
  refine callsIn_of_wp Tryz.func93 rfl trivial ?_ rfl
  simp only [Tryz.ntmps93, List.size_toArray, List.length_cons, List.length_nil, Nat.reduceAdd, Nat.reduceSub, Array.replicate_succ, Array.replicate_zero, List.push_toArray, List.append_toArray, List.nil_append, List.cons_append]
  gi_wp2
  gi_loopw [4] (fun _ wr => Aside (wr.heap[W.heap.size]? = some (.cells #[.slice a 0 cap, .int .i64 0, .int .i64 0] 93 (0, 0))) ∧ Aside (J [] wr)) (fun _ wr => 0)
  case atStart =>
    refine ⟨?_, HJ.out _ _ _ H0.out (Nat.le_refl _) (grown_below ((Below.refl _ _).alloc (Nat.le_refl _) _) _)⟩
    show (W.heap.push _)[W.heap.size]? = _
    rw [Array.getElem?_push, if_pos rfl]
  case round =>
    obtain ⟨hrd, hj⟩ := hrel
    have r0 : wr.cell? ⟨W.heap.size, 0, none⟩ = some (.slice a 0 cap) := by
      have := hrd.out
      simp only [World.cell?, this]
      rfl
    have r1 : wr.cell? ⟨W.heap.size, 1, none⟩ = some (.int .i64 0) := by
      have := hrd.out
      simp only [World.cell?, this]
      rfl
    have hRw : W.heap.size < wr.heap.size := (Array.getElem?_eq_some_iff.1 hrd.out).1
    have HRST := Lib.hid fun W => rest_nil a cap W
    gi_wp2_with (gi_at_call 78; refine (callsIn_wide.2 (HRST.out _)).mono ?_; rintro e w1 ⟨rfl, hb1⟩)
    go_end0
    exact .inl ⟨⟨_, rfl⟩, [], .nil _, HJ.out _ _ _ hj.out (by omega) (grown_below hb1 _)⟩
end Go.Proofs.YtblklgcpobbfcaaGreatDoor
