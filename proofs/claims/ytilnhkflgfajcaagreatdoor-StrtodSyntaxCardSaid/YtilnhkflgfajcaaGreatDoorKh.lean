/- The kinds of numbers, try, split, points, Split: what they return. Conditions: none. -/
import Derived.Test.YtilnhkflgfajcaaGreatDoorKg
import Derived.Defers
import Derived.Recover
import Derived.Laws.EntriesVeiled
set_option linter.all false
namespace Go.Proofs.YtilnhkflgfajcaaGreatDoor
open Go.Eng Go.RowKit
set_option maxRecDepth 1000000

abbrev wInfinity : List UInt8 := [105, 110, 102, 105, 110, 105, 116, 121]
abbrev wInf : List UInt8 := [105, 110, 102]
abbrev wNan : List UInt8 := [110, 97, 110]
abbrev wHex : List UInt8 := [48, 120]
/-- What a kind of number takes: its kind, digits, exponent, payload, and where it ends. -/
def kin (j : Nat) (t p : List UInt8) (a : Nat) : Option (Int × List UInt8 × Int × List UInt8 × Nat) :=
  match j with
  | 0 => if wd t a wInfinity then some (3, [], 0, [], a + 8) else if wd t a wInf then some (3, [], 0, [], a + 3) else none
  | 1 => if wd t a wNan then some (4, [], 0, (pl t (a + 3)).1, (pl t (a + 3)).2) else none
  | 2 => if wd t a wHex then (nm true 112 4 t p (a + 2)).map fun r => (2, r.1, r.2.1, [], r.2.2) else none
  | _ => (nm false 101 1 t p a).map fun r => (1, r.1, r.2.1, [], r.2.2)
theorem wd_le {t w : List UInt8} {a : Nat} (h : wd t a w = true) (ha : a ≤ t.length) : a + w.length ≤ t.length := by
  unfold wd at h
  have := congrArg List.length (beq_iff_eq.1 h)
  rw [List.length_map, List.length_take, List.length_drop] at this
  omega
/-- How a kind of number ends. -/
def KPost (r : Option (Int × List UInt8 × Int × List UInt8 × Nat)) (B : Nat) (s p : ByteArray) (w : World) (e : Ending) (w' : World) : Prop :=
  (match r with
    | some r => e = .returned (.agg #[.int .i64 r.1, .bool false, .string ⟨⟨r.2.1⟩⟩, .int .i64 r.2.2.1, .string ⟨⟨r.2.2.2.1⟩⟩, .int .i64 0]) ∧ Sc w' B r.2.2.2.2 s p
    | none => e = .panicked [{ v := missV, recovered := false }] ∧ ∃ b, Sc w' B b s p) ∧ w.grownBy w' (some B)
theorem sz (s : ByteArray) : s.data.toList.length = s.size := by simp

set_option maxHeartbeats 2000000 in
theorem kind0 {w : World} {B a : Nat} {s p : ByteArray} (h : Sc w B a s p) (hs : s.size ≤ 20000) (ha : a ≤ s.size) :
    Calls Tryz.prog 103 #[.pointer (some ⟨B, 0, none⟩)] w (KPost (kin 0 s.data.toList p.data.toList a) B s p w) := by
  have HS : Aside (Sc w B a s p) := h
  have HBW : Aside (B < w.heap.size) := h.lt
  have HNE : Aside (w.heap.size ≠ B) := by have := HBW.out; show w.heap.size ≠ B; omega
  obtain ⟨R, hR⟩ : ∃ R, R = kin 0 s.data.toList p.data.toList a := ⟨_, rfl⟩
  rw [← hR]
  clear h
  have HW1 := Lib.hid fun W (hW : Sc W B a s p) => word_any (v := ⟨#[105, 110, 102, 105, 110, 105, 116, 121]⟩) hW hs ha (by decide)
  have HW2 := Lib.hid fun W (hW : Sc W B a s p) => word_any (v := ⟨#[105, 110, 102]⟩) hW hs ha (by decide)
  cases h1 : wd s.data.toList a wInfinity
  · rw [show wd s.data.toList a (⟨#[105, 110, 102, 105, 110, 105, 116, 121]⟩ : ByteArray).data.toList = false from h1] at HW1
    cases h2 : wd s.data.toList a wInf
    · rw [show wd s.data.toList a (⟨#[105, 110, 102]⟩ : ByteArray).data.toList = false from h2] at HW2
      have eR : R = none := by rw [hR]; simp only [kin, h1, h2]; rfl
      subst eR
      clear h1 h2 hR
      simp only [Bool.false_eq_true, if_false] at HW1 HW2
      go_enter Tryz.func103, Tryz.ntmps103
      go_wp2_with (first
        | (go_at_call 105; (with_reducible refine (HW1.out _ (HS.out.alloc nb0)).mono ?_); rintro e w2 ⟨rfl, hsc2, hgr2⟩; clear HW1)
        | (go_at_call 105; (with_reducible refine (HW2.out _ hsc2).mono ?_); rintro e w3 ⟨rfl, hsc3, hgr3⟩; clear HW2)
        | (go_at_call 104; refine (want_no _).mono ?_; rintro e w6 ⟨rfl, rfl⟩))
      exact ⟨rfl, ⟨rfl, _, hsc3⟩, grown_trans (grown_trans (grown_alloc (grown_refl w _) nb0) hgr2) hgr3⟩
    · rw [show wd s.data.toList a (⟨#[105, 110, 102]⟩ : ByteArray).data.toList = true from h2] at HW2
      have eR : R = some (3, [], 0, [], a + 3) := by rw [hR]; simp only [kin, h1, h2]; rfl
      subst eR
      clear h1 h2 hR
      simp only [Bool.false_eq_true, if_false] at HW1
      simp only [if_true] at HW2
      go_enter Tryz.func103, Tryz.ntmps103
      go_wp2_with (first
        | (go_at_call 105; (with_reducible refine (HW1.out _ (HS.out.alloc nb0)).mono ?_); rintro e w2 ⟨rfl, hsc2, hgr2⟩; clear HW1; have nbk := nb_keep (nb_new w) HNE.out hgr2)
        | (go_at_call 105; (with_reducible refine (HW2.out _ hsc2).mono ?_); rintro e w3 ⟨rfl, hsc3, hgr3⟩; clear HW2; have nb := nb_keep nbk HNE.out hgr3; obtain ⟨⟨q0, q1, q2, q3, q4, q5⟩, z0, z1, z2, z3, z4, z5⟩ := box_cells nb)
        | (go_at_call 104; refine (want_ok _).mono ?_; rintro e w6 ⟨rfl, rfl⟩))
      refine ret103 (N := w.heap.size) (v0 := .int .i64 3) (v1 := .bool false) (v2 := .string ⟨#[]⟩) (v3 := .int .i64 0) (v4 := .string ⟨#[]⟩) (v5 := .int .i64 0) (by kernel_rfl) ?_ (by simp [Value.oneCell']) ?_
      · exact put6_box nb _ _ _ _ _ _
      · exact ⟨⟨rfl, put6_sc hsc3 HNE.out _ _ _ _ _ _⟩, put6_grown (grown_trans (grown_trans (grown_alloc (grown_refl w _) nb0) hgr2) hgr3) (Nat.le_refl _) _ _ _ _ _ _⟩
  · rw [show wd s.data.toList a (⟨#[105, 110, 102, 105, 110, 105, 116, 121]⟩ : ByteArray).data.toList = true from h1] at HW1
    have eR : R = some (3, [], 0, [], a + 8) := by rw [hR]; simp only [kin, h1]; rfl
    subst eR
    clear h1 hR
    simp only [if_true] at HW1
    go_enter Tryz.func103, Tryz.ntmps103
    go_wp2_with (first
      | (go_at_call 105; (with_reducible refine (HW1.out _ (HS.out.alloc nb0)).mono ?_); rintro e w2 ⟨rfl, hsc2, hgr2⟩; clear HW1; have nb := nb_keep (nb_new w) HNE.out hgr2; obtain ⟨⟨q0, q1, q2, q3, q4, q5⟩, z0, z1, z2, z3, z4, z5⟩ := box_cells nb)
      | (go_at_call 104; refine (want_ok _).mono ?_; rintro e w6 ⟨rfl, rfl⟩))
    refine ret103 (N := w.heap.size) (v0 := .int .i64 3) (v1 := .bool false) (v2 := .string ⟨#[]⟩) (v3 := .int .i64 0) (v4 := .string ⟨#[]⟩) (v5 := .int .i64 0) (by kernel_rfl) ?_ (by simp [Value.oneCell']) ?_
    · exact put6_box nb _ _ _ _ _ _
    · exact ⟨⟨rfl, put6_sc hsc2 HNE.out _ _ _ _ _ _⟩, put6_grown (grown_trans (grown_alloc (grown_refl w _) nb0) hgr2) (Nat.le_refl _) _ _ _ _ _ _⟩
set_option maxHeartbeats 2000000 in
theorem kind1 {w : World} {B a : Nat} {s p : ByteArray} (h : Sc w B a s p) (hs : s.size ≤ 20000) (ha : a ≤ s.size) :
    Calls Tryz.prog 106 #[.pointer (some ⟨B, 0, none⟩)] w (KPost (kin 1 s.data.toList p.data.toList a) B s p w) := by
  have HS : Aside (Sc w B a s p) := h
  have HBW : Aside (B < w.heap.size) := h.lt
  have HNE : Aside (w.heap.size ≠ B) := by have := HBW.out; show w.heap.size ≠ B; omega
  obtain ⟨R, hR⟩ : ∃ R, R = kin 1 s.data.toList p.data.toList a := ⟨_, rfl⟩
  rw [← hR]
  clear h
  have HW1 := Lib.hid fun W (hW : Sc W B a s p) => word_any (v := ⟨#[110, 97, 110]⟩) hW hs ha (by decide)
  cases h1 : wd s.data.toList a wNan
  · rw [show wd s.data.toList a (⟨#[110, 97, 110]⟩ : ByteArray).data.toList = false from h1] at HW1
    have eR : R = none := by rw [hR]; simp only [kin, h1]; rfl
    subst eR
    clear h1 hR
    simp only [Bool.false_eq_true, if_false] at HW1
    go_enter Tryz.func106, Tryz.ntmps106
    go_wp2_with (first
      | (go_at_call 105; (with_reducible refine (HW1.out _ (HS.out.alloc nb0)).mono ?_); rintro e w2 ⟨rfl, hsc2, hgr2⟩; clear HW1)
      | (go_at_call 104; refine (want_no _).mono ?_; rintro e w6 ⟨rfl, rfl⟩))
    exact ⟨rfl, ⟨rfl, _, hsc2⟩, grown_trans (grown_alloc (grown_refl w _) nb0) hgr2⟩
  · rw [show wd s.data.toList a (⟨#[110, 97, 110]⟩ : ByteArray).data.toList = true from h1] at HW1
    have hl := wd_le h1 (by simpa using ha)
    rw [sz] at hl
    have hl3 : a + 3 ≤ s.size := hl
    have HP := Lib.hid fun W (hW : Sc W B (a + 3) s p) => payload_any hW hs hl3
    obtain ⟨X, hX⟩ : ∃ X, X = pl s.data.toList (a + 3) := ⟨_, rfl⟩
    have eR : R = some (4, [], 0, X.1, X.2) := by rw [hR, hX]; simp only [kin, h1]; rfl
    subst eR
    rw [← hX] at HP
    clear h1 hR hX hl hl3
    simp only [if_true] at HW1
    go_enter Tryz.func106, Tryz.ntmps106
    go_wp2_with (first
      | (go_at_call 105; (with_reducible refine (HW1.out _ (HS.out.alloc nb0)).mono ?_); rintro e w2 ⟨rfl, hsc2, hgr2⟩; clear HW1)
      | (go_at_call 104; refine (want_ok _).mono ?_; rintro e w6 ⟨rfl, rfl⟩)
      | (go_at_call 107; refine (HP.out _ hsc2).mono ?_; rintro e w3 ⟨rfl, hsc3, hgr3⟩; have nb := nb_keep (nb_keep (nb_new w) HNE.out hgr2) HNE.out hgr3; obtain ⟨⟨q0, q1, q2, q3, q4, q5⟩, z0, z1, z2, z3, z4, z5⟩ := box_cells nb))
    refine ret106 (N := w.heap.size) (v0 := .int .i64 4) (v1 := .bool false) (v2 := .string ⟨#[]⟩) (v3 := .int .i64 0) (v4 := .string ⟨⟨X.1⟩⟩) (v5 := .int .i64 0) (by kernel_rfl) ?_ (by simp [Value.oneCell']) ?_
    · exact put6_box nb _ _ _ _ _ _
    · exact ⟨⟨rfl, put6_sc hsc3 HNE.out _ _ _ _ _ _⟩, put6_grown (grown_trans (grown_trans (grown_alloc (grown_refl w _) nb0) hgr2) hgr3) (Nat.le_refl _) _ _ _ _ _ _⟩
set_option maxHeartbeats 2000000 in
theorem kind2 {w : World} {B a : Nat} {s p : ByteArray} (h : Sc w B a s p) (hs : s.size ≤ 20000) (ha : a ≤ s.size) (hp : p.size ≤ 100) :
    Calls Tryz.prog 108 #[.pointer (some ⟨B, 0, none⟩)] w (KPost (kin 2 s.data.toList p.data.toList a) B s p w) := by
  have HS : Aside (Sc w B a s p) := h
  have HBW : Aside (B < w.heap.size) := h.lt
  have HNE : Aside (w.heap.size ≠ B) := by have := HBW.out; show w.heap.size ≠ B; omega
  obtain ⟨R, hR⟩ : ∃ R, R = kin 2 s.data.toList p.data.toList a := ⟨_, rfl⟩
  rw [← hR]
  clear h
  have HW1 := Lib.hid fun W (hW : Sc W B a s p) => word_any (v := ⟨#[48, 120]⟩) hW hs ha (by decide)
  cases h1 : wd s.data.toList a wHex
  · rw [show wd s.data.toList a (⟨#[48, 120]⟩ : ByteArray).data.toList = false from h1] at HW1
    have eR : R = none := by rw [hR]; simp only [kin, h1]; rfl
    subst eR
    clear h1 hR
    simp only [Bool.false_eq_true, if_false] at HW1
    go_enter Tryz.func108, Tryz.ntmps108
    go_wp2_with (first
      | (go_at_call 105; (with_reducible refine (HW1.out _ (HS.out.alloc nb0)).mono ?_); rintro e w2 ⟨rfl, hsc2, hgr2⟩; clear HW1)
      | (go_at_call 104; refine (want_no _).mono ?_; rintro e w6 ⟨rfl, rfl⟩))
    exact ⟨rfl, ⟨rfl, _, hsc2⟩, grown_trans (grown_alloc (grown_refl w _) nb0) hgr2⟩
  · rw [show wd s.data.toList a (⟨#[48, 120]⟩ : ByteArray).data.toList = true from h1] at HW1
    have hl := wd_le h1 (by simpa using ha)
    rw [sz] at hl
    have hl3 : a + 2 ≤ s.size := hl
    have HN := Lib.hid fun W (hW : Sc W B (a + 2) s p) => number_any true 2 4 112 (by decide) (.inr rfl) hW hs hl3 hp
    obtain ⟨X, hX⟩ : ∃ X, X = nm true 112 4 s.data.toList p.data.toList (a + 2) := ⟨_, rfl⟩
    rw [← hX] at HN
    have eR : R = X.map fun r => (2, r.1, r.2.1, [], r.2.2) := by rw [hR, hX]; simp only [kin, h1]; rfl
    subst eR
    clear h1 hR hX hl hl3
    simp only [if_true] at HW1
    cases X with
    | none =>
      go_enter Tryz.func108, Tryz.ntmps108
      go_wp2_with (first
        | (go_at_call 105; (with_reducible refine (HW1.out _ (HS.out.alloc nb0)).mono ?_); rintro e w2 ⟨rfl, hsc2, hgr2⟩; clear HW1)
        | (go_at_call 104; refine (want_ok _).mono ?_; rintro e w6 ⟨rfl, rfl⟩)
        | (go_at_call 109; refine (HN.out _ hsc2).mono ?_; rintro e w3 ⟨hres, hgr3⟩; obtain ⟨rfl, b, hsc3⟩ := hres))
      exact ⟨rfl, ⟨rfl, _, hsc3⟩, grown_trans (grown_trans (grown_alloc (grown_refl w _) nb0) hgr2) hgr3⟩
    | some X =>
      go_enter Tryz.func108, Tryz.ntmps108
      go_wp2_with (first
        | (go_at_call 105; (with_reducible refine (HW1.out _ (HS.out.alloc nb0)).mono ?_); rintro e w2 ⟨rfl, hsc2, hgr2⟩; clear HW1)
        | (go_at_call 104; refine (want_ok _).mono ?_; rintro e w6 ⟨rfl, rfl⟩)
        | (go_at_call 109; refine (HN.out _ hsc2).mono ?_; rintro e w3 ⟨hres, hgr3⟩; obtain ⟨rfl, hsc3⟩ := hres; have nb := nb_keep (nb_keep (nb_new w) HNE.out hgr2) HNE.out hgr3; obtain ⟨⟨q0, q1, q2, q3, q4, q5⟩, z0, z1, z2, z3, z4, z5⟩ := box_cells nb))
      refine ret108 (N := w.heap.size) (v0 := .int .i64 2) (v1 := .bool false) (v2 := .string ⟨⟨X.1⟩⟩) (v3 := .int .i64 X.2.1) (v4 := .string ⟨#[]⟩) (v5 := .int .i64 0) (by kernel_rfl) ?_ (by simp [Value.oneCell']) ?_
      · exact put6_box nb _ _ _ _ _ _
      · exact ⟨⟨rfl, put6_sc hsc3 HNE.out _ _ _ _ _ _⟩, put6_grown (grown_trans (grown_trans (grown_alloc (grown_refl w _) nb0) hgr2) hgr3) (Nat.le_refl _) _ _ _ _ _ _⟩
set_option maxHeartbeats 2000000 in
theorem kind3 {w : World} {B a : Nat} {s p : ByteArray} (h : Sc w B a s p) (hs : s.size ≤ 20000) (ha : a ≤ s.size) (hp : p.size ≤ 100) :
    Calls Tryz.prog 110 #[.pointer (some ⟨B, 0, none⟩)] w (KPost (kin 3 s.data.toList p.data.toList a) B s p w) := by
  have HS : Aside (Sc w B a s p) := h
  have HBW : Aside (B < w.heap.size) := h.lt
  have HNE : Aside (w.heap.size ≠ B) := by have := HBW.out; show w.heap.size ≠ B; omega
  obtain ⟨R, hR⟩ : ∃ R, R = kin 3 s.data.toList p.data.toList a := ⟨_, rfl⟩
  rw [← hR]
  clear h
  have HN := Lib.hid fun W (hW : Sc W B a s p) => number_any false 1 1 101 (by decide) (.inl rfl) hW hs ha hp
  obtain ⟨X, hX⟩ : ∃ X, X = nm false 101 1 s.data.toList p.data.toList a := ⟨_, rfl⟩
  rw [← hX] at HN
  have eR : R = X.map fun r => (1, r.1, r.2.1, [], r.2.2) := by rw [hR, hX]; rfl
  subst eR
  clear hR hX
  cases X with
  | none =>
    go_enter Tryz.func110, Tryz.ntmps110
    go_wp2_with (first
      | (go_at_call 109; refine (HN.out _ (HS.out.alloc nb0)).mono ?_; rintro e w3 ⟨hres, hgr3⟩; obtain ⟨rfl, b, hsc3⟩ := hres))
    exact ⟨rfl, ⟨rfl, _, hsc3⟩, grown_trans (grown_alloc (grown_refl w _) nb0) hgr3⟩
  | some X =>
    go_enter Tryz.func110, Tryz.ntmps110
    go_wp2_with (first
      | (go_at_call 109; refine (HN.out _ (HS.out.alloc nb0)).mono ?_; rintro e w3 ⟨hres, hgr3⟩; obtain ⟨rfl, hsc3⟩ := hres; have nb := nb_keep (nb_new w) HNE.out hgr3; obtain ⟨⟨q0, q1, q2, q3, q4, q5⟩, z0, z1, z2, z3, z4, z5⟩ := box_cells nb))
    refine ret110 (N := w.heap.size) (v0 := .int .i64 1) (v1 := .bool false) (v2 := .string ⟨⟨X.1⟩⟩) (v3 := .int .i64 X.2.1) (v4 := .string ⟨#[]⟩) (v5 := .int .i64 0) (by kernel_rfl) ?_ (by simp [Value.oneCell']) ?_
    · exact put6_box nb _ _ _ _ _ _
    · exact ⟨⟨rfl, put6_sc hsc3 HNE.out _ _ _ _ _ _⟩, put6_grown (grown_trans (grown_alloc (grown_refl w _) nb0) hgr3) (Nat.le_refl _) _ _ _ _ _ _⟩
end Go.Proofs.YtilnhkflgfajcaaGreatDoor

namespace Go.Proofs.YtilnhkflgfajcaaGreatDoor
open Go.Eng Go.RowKit
set_option maxRecDepth 1000000

/-- The boxes of a try: the reader's, the kind's, the number's, whether it is one, where the reader was. -/
structure TryBx (w0 W : World) (B back : Nat) (v0 v1 v2 v3 v4 v5 : Value) (ok : Bool) : Prop where
  r : W.heap[w0.heap.size]? = some (.cells #[.pointer (some ⟨B, 0, none⟩)] 93 (0, 0))
  x : W.heap[w0.heap.size + 2]? = some (nbox v0 v1 v2 v3 v4 v5)
  ok : W.heap[w0.heap.size + 3]? = some (.cells #[.bool ok] 4 (0, 0))
  at_ : W.heap[w0.heap.size + 4]? = some (.cells #[.int .i64 back] 3 (0, 0))
  g : w0.grownBy W (some B)
  lt : B < w0.heap.size

theorem one_cell {W : World} {N : Nat} {v : Value} {T : TypeId} (e : W.heap[N]? = some (.cells #[v] T (0, 0))) : W.cell? ⟨N, 0, none⟩ = some v ∧ W.frozen? ⟨N, 0, none⟩ = false := by
  constructor
  · simp only [World.cell?, e]; rfl
  · simp only [World.frozen?, e]; rfl

theorem at_alloc {W : World} {k : Nat} {x : Obj} (h : W.heap[k]? = some x) (o : Obj) : (W.alloc o).heap[k]? = some x := by
  show (W.heap.push o)[k]? = _
  rw [Array.getElem?_push, if_neg (by have := (Array.getElem?_eq_some_iff.1 h).1; omega)]
  exact h
theorem TryBx.alloc {w0 W : World} {B back : Nat} {v0 v1 v2 v3 v4 v5 : Value} {ok : Bool} (h : TryBx w0 W B back v0 v1 v2 v3 v4 v5 ok) (o : Obj) : TryBx w0 (W.alloc o) B back v0 v1 v2 v3 v4 v5 ok :=
  ⟨at_alloc h.r o, at_alloc h.x o, at_alloc h.ok o, at_alloc h.at_ o, grown_alloc h.g o, h.lt⟩
theorem one_set {W : World} {N : Nat} {u : Value} {T : TypeId} (h : W.heap[N]? = some (.cells #[u] T (0, 0))) (v : Value) : (W.setCell ⟨N, 0, none⟩ v).heap[N]? = some (.cells #[v] T (0, 0)) := by
  simp [World.setCell, Array.getElem?_modify, h]
theorem set_far {W : World} {N k o : Nat} {v : Value} (hne : N ≠ k) : (W.setCell ⟨N, o, none⟩ v).heap[k]? = W.heap[k]? := by
  simp only [World.setCell, Array.getElem?_modify, if_neg hne]
theorem miss_run (w : World) : (Instr.typeAssert missV 20 182 true).run Tryz.prog w = .ok (.tuple #[.agg #[], .bool true]) w := by kernel_rfl
theorem catch_idle (a0 a1 a2 a3 : Value) (w : World) :
    CallsD Tryz.prog 111 #[a0, a1, a2, a3] .returning w fun e u' w' => e = .returned (.tuple #[]) ∧ u' = .returning ∧ w' = w := by
  refine callsD_of_wpS Tryz.func111 rfl fun c₀ cs hu => ?_
  apply wpS_seq
  apply wpS_region
  simp [wpOpsS, go_sem, recoverD, hu, Tryz.ntmps111, Exit.thenS]
  refine wpS_of_wp ?_
  rw [show (#[a0, a1, a2, a3] ++ ((Array.replicate 20 undef).setIfInBounds 3 Value.nilIface).setIfInBounds 0 Value.nilIface) = #[a0, a1, a2, a3, .nilIface, undef, undef, .nilIface, undef, undef, undef, undef, undef, undef, undef, undef, undef, undef, undef, undef, undef, undef, undef, undef] from by kernel_rfl]
  go_wp2
  exact ⟨rfl, c₀.mode, rfl, .tuple #[], results_none rfl _ _ _, rfl, hu, rfl⟩

set_option maxHeartbeats 2000000 in
theorem catch_pan {w0 W : World} {B back b : Nat} {s p : ByteArray} {v0 v1 v2 v3 v4 v5 : Value} {ok : Bool} (h : TryBx w0 W B back v0 v1 v2 v3 v4 v5 ok) (hb : Sc W B b s p) :
    CallsD Tryz.prog 111 #[.pointer (some ⟨w0.heap.size + 4, 0, none⟩), .pointer (some ⟨w0.heap.size, 0, none⟩), .pointer (some ⟨w0.heap.size + 2, 0, none⟩), .pointer (some ⟨w0.heap.size + 3, 0, none⟩)]
      (.panicking [{ v := missV, recovered := false }]) W fun e u' w' => e = .returned (.tuple #[]) ∧ u' = .panicking [{ v := missV, recovered := true }] ∧ Sc w' B back s p ∧
        w'.heap[w0.heap.size + 2]? = some nb0 ∧ w'.heap[w0.heap.size + 3]? = some (.cells #[.bool false] 4 (0, 0)) ∧ w0.grownBy w' (some B) := by
  have HH : Aside (TryBx w0 (W.alloc (.cells #[] 182)) B back v0 v1 v2 v3 v4 v5 ok) := h.alloc _
  have HB : Aside (Sc (W.alloc (.cells #[] 182)) B b s p) := hb.alloc _
  obtain ⟨r0, r1⟩ := one_cell HH.out.r
  obtain ⟨⟨q0, q1, q2, q3, q4, q5⟩, z0, z1, z2, z3, z4, z5⟩ := box_cells HH.out.x
  obtain ⟨k0, k1⟩ := one_cell HH.out.ok
  obtain ⟨p0, p1⟩ := one_cell HH.out.at_
  obtain ⟨c0, c1, c2, c3⟩ := HB.out.cells
  have hlt := h.lt
  have hn1 : ¬ B = w0.heap.size + 2 := by omega
  have hn2 : ¬ B = w0.heap.size + 3 := by omega
  clear h hb
  refine callsD_of_wpS Tryz.func111 rfl fun c₀ cs hu => ?_
  apply wpS_seq
  apply wpS_region
  simp [wpOpsS, go_sem, recoverD, hu, Tryz.ntmps111, Exit.thenS]
  refine wpS_of_wp ?_
  rw [show (#[Value.pointer (some ⟨w0.heap.size + 4, 0, none⟩), .pointer (some ⟨w0.heap.size, 0, none⟩), .pointer (some ⟨w0.heap.size + 2, 0, none⟩), .pointer (some ⟨w0.heap.size + 3, 0, none⟩)] ++ ((Array.replicate 20 undef).setIfInBounds 3 missV).setIfInBounds 0 missV) = #[.pointer (some ⟨w0.heap.size + 4, 0, none⟩), .pointer (some ⟨w0.heap.size, 0, none⟩), .pointer (some ⟨w0.heap.size + 2, 0, none⟩), .pointer (some ⟨w0.heap.size + 3, 0, none⟩), missV, undef, undef, missV, undef, undef, undef, undef, undef, undef, undef, undef, undef, undef, undef, undef, undef, undef, undef, undef] from by kernel_rfl]
  have hta := miss_run
  go_wp2
  have e1 : ∀ k, k ≠ B → ((W.alloc (.cells #[] 182)).setCell ⟨B, 0, none⟩ (.int .i64 back)).heap[k]? = (W.alloc (.cells #[] 182)).heap[k]? := fun k hk => set_far (fun e => hk e.symm)
  refine ⟨rfl, _, rfl, .tuple #[], results_none rfl _ _ _, rfl, rfl, ?_, ?_, ?_, ?_⟩
  · exact (put6_sc (HB.out.set back) (by omega) _ _ _ _ _ _).far (by omega)
  · rw [set_far (by omega)]
    exact put6_box ((e1 _ (by omega)).trans HH.out.x) _ _ _ _ _ _
  · refine one_set (u := .bool ok) ?_ _
    exact (put6_far (by omega) _ _ _ _ _ _).trans ((e1 _ (by omega)).trans HH.out.ok)
  · exact grown_far (put6_grown (grown_set HH.out.g _ _) (by omega) _ _ _ _ _ _) (by omega)
end Go.Proofs.YtilnhkflgfajcaaGreatDoor

namespace Go.Proofs.YtilnhkflgfajcaaGreatDoor
open Go.Eng Go.RowKit
set_option maxRecDepth 1000000

/-- The value of a number that was taken. -/
abbrev numV (r : Int × List UInt8 × Int × List UInt8 × Nat) : Value := .agg #[.int .i64 r.1, .bool false, .string ⟨⟨r.2.1⟩⟩, .int .i64 r.2.2.1, .string ⟨⟨r.2.2.2.1⟩⟩, .int .i64 0]
abbrev zeroV : Value := .agg #[.int .i64 0, .bool false, .string ⟨#[]⟩, .int .i64 0, .string ⟨#[]⟩, .int .i64 0]
def TPost (r : Option (Int × List UInt8 × Int × List UInt8 × Nat)) (B a : Nat) (s p : ByteArray) (w : World) (e : Ending) (w' : World) : Prop :=
  (match r with
    | some r => e = .returned (.tuple #[numV r, .bool true]) ∧ Sc w' B r.2.2.2.2 s p
    | none => e = .returned (.tuple #[zeroV, .bool false]) ∧ Sc w' B a s p) ∧ w.grownBy w' (some B)

theorem TryBx.grown {w0 W W' : World} {B back : Nat} {v0 v1 v2 v3 v4 v5 : Value} {ok : Bool} (h : TryBx w0 W B back v0 v1 v2 v3 v4 v5 ok) (hg : W.grownBy W' (some B)) : TryBx w0 W' B back v0 v1 v2 v3 v4 v5 ok := by
  have hlt := h.lt
  have key : ∀ {k : Nat} {x : Obj}, w0.heap.size ≤ k → W.heap[k]? = some x → W'.heap[k]? = some x := fun {k x} hk e =>
    (hg.block k (Array.getElem?_eq_some_iff.1 e).1 (fun e => by have := Option.some.inj e; omega)).trans e
  exact ⟨key (Nat.le_refl _) h.r, key (by omega) h.x, key (by omega) h.ok, key (by omega) h.at_, grown_trans h.g hg, hlt⟩
abbrev tryW (w : World) (B a : Nat) (f : FuncId) : World := ((((w.alloc (.cells #[.pointer (some ⟨B, 0, none⟩)] 93 (0, 0))).alloc (.cells #[.func (.func f) #[] #[]] 101 (0, 0))).alloc nb0).alloc (.cells #[.bool false] 4 (0, 0))).alloc (.cells #[.int .i64 a] 3 (0, 0))
theorem new_at (W : World) (o : Obj) {n : Nat} (h : n = W.heap.size) : (W.alloc o).heap[n]? = some o := by
  subst h
  show (W.heap.push o)[W.heap.size]? = _
  rw [Array.getElem?_push, if_pos rfl]
theorem tryW_bx {w : World} {B a : Nat} {f : FuncId} (h : B < w.heap.size) : TryBx w (tryW w B a f) B a (.int .i64 0) (.bool false) (.string ⟨#[]⟩) (.int .i64 0) (.string ⟨#[]⟩) (.int .i64 0) false where
  r := at_alloc (at_alloc (at_alloc (at_alloc (new_at _ _ rfl) _) _) _) _
  x := at_alloc (at_alloc (new_at _ _ (by simp [World.size_alloc])) _) _
  ok := at_alloc (new_at _ _ (by simp [World.size_alloc])) _
  at_ := new_at _ _ (by simp [World.size_alloc])
  g := grown_alloc (grown_alloc (grown_alloc (grown_alloc (grown_alloc (grown_refl w _) _) _) _) _) _
  lt := h
theorem tryW_sc {w : World} {B a : Nat} {s p : ByteArray} {f : FuncId} (h : Sc w B a s p) (b : Nat) : Sc (tryW w B b f) B a s p := ((((h.alloc _).alloc _).alloc _).alloc _).alloc _
set_option maxHeartbeats 4000000 in
theorem try_none {f : FuncId} {w : World} {B a : Nat} {s p : ByteArray} (h : Sc w B a s p)
    (hc : ∀ args w, (callFunc f args).run Tryz.prog w = .ok (.enter f args) w) (hk : ∀ W, Sc W B a s p → Calls Tryz.prog f #[.pointer (some ⟨B, 0, none⟩)] W (KPost none B s p W)) :
    Calls Tryz.prog 46 #[.pointer (some ⟨B, 0, none⟩), .agg #[.func (.func f) #[] #[]]] w (TPost none B a s p w) := by
  have hmf : ∀ (fn : Fn) (first cap : Array Value) (w : World), (Instr.makeFunc fn first cap).run Tryz.prog w = .ok (.func fn first cap) w := fun _ _ _ _ => rfl
  have HK := Lib.hid hk
  have HS : Aside (Sc w B a s p) := h
  have HLT : Aside (B < w.heap.size) := h.lt
  obtain ⟨c0, _, _, _⟩ := ((((h.alloc (.cells #[.pointer (some ⟨B, 0, none⟩)] 93 (0, 0))).alloc (.cells #[.func (.func f) #[] #[]] 101 (0, 0))).alloc nb0).alloc (.cells #[.bool false] 4 (0, 0))).cells
  clear h hk
  go_enter_defers Tryz.func46, Tryz.ntmps46
  go_wp2
  refine (HK.out _ (tryW_sc HS.out a)).mono ?_
  rintro e w2 ⟨⟨rfl, b, hsc2⟩, hgr2⟩
  have hbx := (tryW_bx (a := a) (f := f) HLT.out).grown hgr2
  clear c0 hc
  refine leaves_cons (f := 111) (args := #[.pointer (some ⟨w.heap.size + 4, 0, none⟩), .pointer (some ⟨w.heap.size, 0, none⟩), .pointer (some ⟨w.heap.size + 2, 0, none⟩), .pointer (some ⟨w.heap.size + 3, 0, none⟩)]) (by simp) (by simp [go_sem]) ?_
  refine (catch_pan hbx hsc2).mono ?_
  rintro e u' w3 ⟨rfl, rfl, hsc3, hx3, hok3, hgr3⟩
  obtain ⟨⟨q0, q1, q2, q3, q4, q5⟩, _⟩ := box_cells hx3
  obtain ⟨k0, _⟩ := one_cell hok3
  simp [Leaves, settle, results, Tryz.results46, go_sem, q0, q1, q2, q3, q4, q5, k0]
  exact ⟨⟨rfl, hsc3⟩, hgr3⟩
set_option maxHeartbeats 4000000 in
theorem try_some {f : FuncId} {r : Int × List UInt8 × Int × List UInt8 × Nat} {w : World} {B a : Nat} {s p : ByteArray} (h : Sc w B a s p)
    (hc : ∀ args w, (callFunc f args).run Tryz.prog w = .ok (.enter f args) w) (hk : ∀ W, Sc W B a s p → Calls Tryz.prog f #[.pointer (some ⟨B, 0, none⟩)] W (KPost (some r) B s p W)) :
    Calls Tryz.prog 46 #[.pointer (some ⟨B, 0, none⟩), .agg #[.func (.func f) #[] #[]]] w (TPost (some r) B a s p w) := by
  have hmf : ∀ (fn : Fn) (first cap : Array Value) (w : World), (Instr.makeFunc fn first cap).run Tryz.prog w = .ok (.func fn first cap) w := fun _ _ _ _ => rfl
  have HK := Lib.hid hk
  have HS : Aside (Sc w B a s p) := h
  have HLT : Aside (B < w.heap.size) := h.lt
  obtain ⟨c0, _, _, _⟩ := ((((h.alloc (.cells #[.pointer (some ⟨B, 0, none⟩)] 93 (0, 0))).alloc (.cells #[.func (.func f) #[] #[]] 101 (0, 0))).alloc nb0).alloc (.cells #[.bool false] 4 (0, 0))).cells
  clear h hk
  go_enter_defers Tryz.func46, Tryz.ntmps46
  go_wp2
  refine (HK.out _ (tryW_sc HS.out a)).mono ?_
  rintro e w2 ⟨⟨rfl, hsc2⟩, hgr2⟩
  have hbx := (tryW_bx (a := a) (f := f) HLT.out).grown hgr2
  have HBX : Aside (TryBx w w2 B a (.int .i64 0) (.bool false) (.string ⟨#[]⟩) (.int .i64 0) (.string ⟨#[]⟩) (.int .i64 0) false) := hbx
  obtain ⟨⟨q0, q1, q2, q3, q4, q5⟩, z0, z1, z2, z3, z4, z5⟩ := box_cells (show w2.heap[w.heap.size + 1 + 1]? = _ from hbx.x)
  obtain ⟨k0, k1⟩ := one_cell (show w2.heap[w.heap.size + 1 + 1 + 1]? = _ from hbx.ok)
  clear c0 hc hbx
  go_wp2
  have hx3 : ((put6 w2 (w.heap.size + 1 + 1) (.int .i64 r.1) (.bool false) (.string ⟨⟨r.2.1⟩⟩) (.int .i64 r.2.2.1) (.string ⟨⟨r.2.2.2.1⟩⟩) (.int .i64 0)).setCell ⟨w.heap.size + 1 + 1 + 1, 0, none⟩ (.bool true)).heap[w.heap.size + 1 + 1]? = some (nbox (.int .i64 r.1) (.bool false) (.string ⟨⟨r.2.1⟩⟩) (.int .i64 r.2.2.1) (.string ⟨⟨r.2.2.2.1⟩⟩) (.int .i64 0)) := by
    rw [set_far (by omega)]
    exact put6_box HBX.out.x _ _ _ _ _ _
  have hok3 : ((put6 w2 (w.heap.size + 1 + 1) (.int .i64 r.1) (.bool false) (.string ⟨⟨r.2.1⟩⟩) (.int .i64 r.2.2.1) (.string ⟨⟨r.2.2.2.1⟩⟩) (.int .i64 0)).setCell ⟨w.heap.size + 1 + 1 + 1, 0, none⟩ (.bool true)).heap[w.heap.size + 1 + 1 + 1]? = some (.cells #[.bool true] 4 (0, 0)) :=
    one_set (u := .bool false) ((put6_far (by omega) _ _ _ _ _ _).trans HBX.out.ok) _
  have hsc3 : Sc ((put6 w2 (w.heap.size + 1 + 1) (.int .i64 r.1) (.bool false) (.string ⟨⟨r.2.1⟩⟩) (.int .i64 r.2.2.1) (.string ⟨⟨r.2.2.2.1⟩⟩) (.int .i64 0)).setCell ⟨w.heap.size + 1 + 1 + 1, 0, none⟩ (.bool true)) B r.2.2.2.2 s p :=
    (put6_sc hsc2 (by have := HLT.out; omega) _ _ _ _ _ _).far (by have := HLT.out; omega)
  have hgr3 : w.grownBy ((put6 w2 (w.heap.size + 1 + 1) (.int .i64 r.1) (.bool false) (.string ⟨⟨r.2.1⟩⟩) (.int .i64 r.2.2.1) (.string ⟨⟨r.2.2.2.1⟩⟩) (.int .i64 0)).setCell ⟨w.heap.size + 1 + 1 + 1, 0, none⟩ (.bool true)) (some B) :=
    grown_far (put6_grown HBX.out.g (by omega) _ _ _ _ _ _) (by omega)
  refine leaves_cons (f := 111) (args := #[.pointer (some ⟨w.heap.size + 4, 0, none⟩), .pointer (some ⟨w.heap.size, 0, none⟩), .pointer (some ⟨w.heap.size + 2, 0, none⟩), .pointer (some ⟨w.heap.size + 3, 0, none⟩)]) (by simp) (by simp [go_sem]) ?_
  refine (catch_idle _ _ _ _ _).mono ?_
  rintro e u' w3 ⟨rfl, rfl, rfl⟩
  obtain ⟨⟨j0, j1, j2, j3, j4, j5⟩, _⟩ := box_cells hx3
  obtain ⟨l0, _⟩ := one_cell hok3
  clear q0 q1 q2 q3 q4 q5 z0 z1 z2 z3 z4 z5 k0 k1 hx3 hok3
  have hsc3' := hsc3
  have hgr3' := hgr3
  unfold put6 at j0 j1 j2 j3 j4 j5 l0
  generalize hW : (put6 w2 (w.heap.size + 1 + 1) (.int .i64 r.1) (.bool false) (.string ⟨⟨r.2.1⟩⟩) (.int .i64 r.2.2.1) (.string ⟨⟨r.2.2.2.1⟩⟩) (.int .i64 0)).setCell ⟨w.heap.size + 1 + 1 + 1, 0, none⟩ (.bool true) = W3 at hsc3' hgr3'
  unfold put6 at hW
  rw [hW] at j0 j1 j2 j3 j4 j5 l0 ⊢
  simp [Leaves, settle, results, Tryz.results46, go_sem, j0, j1, j2, j3, j4, j5, l0]
  exact ⟨⟨rfl, hsc3'⟩, hgr3'⟩
end Go.Proofs.YtilnhkflgfajcaaGreatDoor

namespace Go.Proofs.YtilnhkflgfajcaaGreatDoor
open Go.Eng Go.RowKit
set_option maxRecDepth 1000000

/-- What the kinds of numbers take, the first that takes. -/
def kall (t p : List UInt8) (a : Nat) : Option (Int × List UInt8 × Int × List UInt8 × Nat) :=
  match kin 0 t p a with
  | some r => some r
  | none => match kin 1 t p a with
    | some r => some r
    | none => match kin 2 t p a with
      | some r => some r
      | none => kin 3 t p a
/-- The number at the beginning of a text: its sign, and what it takes. -/
def spl (t p : List UInt8) : Option (Bool × Int × List UInt8 × Int × List UInt8 × Nat) :=
  (kall t p (sg t (rn wh t 0))).map fun r => (mi t (rn wh t 0), r)
def splV : Option (Bool × Int × List UInt8 × Int × List UInt8 × Nat) → Value
  | some (neg, r) => .agg #[.int .i64 r.1, .bool neg, .string ⟨⟨r.2.1⟩⟩, .int .i64 r.2.2.1, .string ⟨⟨r.2.2.2.1⟩⟩, .int .i64 r.2.2.2.2]
  | none => zeroV
def whN (n : Int) : Bool := decide ((9 ≤ n ∧ n ≤ 13) ∨ n = 32)
theorem wh_lw (b : UInt8) : wh b = whN ((lw b).toNat : Int) := by
  unfold wh whN
  rw [lw_nat]
  have := b.toNat_lt
  rw [decide_eq_decide]
  split <;> omega
theorem pk_wh {t : List UInt8} {a : Nat} {b : UInt8} (h : t[a]? = some b) : whN (pk t a) = wh b := by
  unfold pk
  rw [h, wh_lw]
theorem pk_wh_end {t : List UInt8} {a : Nat} (h : t.length ≤ a) : whN (pk t a) = false := by
  unfold pk
  rw [List.getElem?_eq_none h]
  decide
theorem sg_le {t : List UInt8} {a : Nat} (h : a ≤ t.length) : sg t a ≤ t.length := by
  unfold sg
  split
  · rename_i h1
    rcases Nat.lt_or_ge a t.length with h2 | h2
    · omega
    · rw [List.getElem?_eq_none h2] at h1
      simp at h1
  · exact h
noncomputable abbrev kindV (f : FuncId) : Value := .agg #[.func (.func f) #[] #[]]
noncomputable abbrev kindsV : Value := .agg #[.func (.func 103) #[] #[], .func (.func 106) #[] #[], .func (.func 108) #[] #[], .func (.func 110) #[] #[]]
noncomputable abbrev kindsB : Obj := .cells #[.func (.func 103) #[] #[], .func (.func 106) #[] #[], .func (.func 108) #[] #[], .func (.func 110) #[] #[]] 102 (0, 0)
theorem kinds_any (w : World) : Calls Tryz.prog 45 #[] w fun e w' => e = .returned kindsV ∧ w' = w.alloc kindsB := by
  go_enter Tryz.func45, Tryz.ntmps45
  go_wp2
  exact bodyPost_ret (v := kindsV) (by simp [results, Tryz.results45, go_sem]) rfl ⟨rfl, rfl⟩
/-- A try of a kind. -/
theorem try_kind {f : FuncId} {r : Option (Int × List UInt8 × Int × List UInt8 × Nat)} {w : World} {B a : Nat} {s p : ByteArray} (h : Sc w B a s p)
    (hc : ∀ args w, (callFunc f args).run Tryz.prog w = .ok (.enter f args) w) (hk : ∀ W, Sc W B a s p → Calls Tryz.prog f #[.pointer (some ⟨B, 0, none⟩)] W (KPost r B s p W)) :
    Calls Tryz.prog 46 #[.pointer (some ⟨B, 0, none⟩), .agg #[.func (.func f) #[] #[]]] w (TPost r B a s p w) := by
  cases r with
  | none => exact try_none h hc hk
  | some r => exact try_some h hc hk
theorem ent103 (args : Array Value) (w : World) : (callFunc 103 args).run Tryz.prog w = .ok (.enter 103 args) w := by simp [go_sem, Tryz.func103]
theorem ent106 (args : Array Value) (w : World) : (callFunc 106 args).run Tryz.prog w = .ok (.enter 106 args) w := by simp [go_sem, Tryz.func106]
theorem ent108 (args : Array Value) (w : World) : (callFunc 108 args).run Tryz.prog w = .ok (.enter 108 args) w := by simp [go_sem, Tryz.func108]
theorem ent110 (args : Array Value) (w : World) : (callFunc 110 args).run Tryz.prog w = .ok (.enter 110 args) w := by simp [go_sem, Tryz.func110]
theorem tryj {j : Nat} {f : FuncId} (hj : (j = 0 ∧ f = 103) ∨ (j = 1 ∧ f = 106) ∨ (j = 2 ∧ f = 108) ∨ (j = 3 ∧ f = 110)) {w : World} {B a : Nat} {s p : ByteArray} (h : Sc w B a s p) (hs : s.size ≤ 20000) (ha : a ≤ s.size) (hp : p.size ≤ 100) :
    Calls Tryz.prog 46 #[.pointer (some ⟨B, 0, none⟩), .agg #[.func (.func f) #[] #[]]] w (TPost (kin j s.data.toList p.data.toList a) B a s p w) := by
  rcases hj with ⟨rfl, rfl⟩ | ⟨rfl, rfl⟩ | ⟨rfl, rfl⟩ | ⟨rfl, rfl⟩
  · exact try_kind h ent103 fun W hW => kind0 hW hs ha
  · exact try_kind h ent106 fun W hW => kind1 hW hs ha
  · exact try_kind h ent108 fun W hW => kind2 hW hs ha hp
  · exact try_kind h ent110 fun W hW => kind3 hW hs ha hp
end Go.Proofs.YtilnhkflgfajcaaGreatDoor

namespace Go.Proofs.YtilnhkflgfajcaaGreatDoor
open Go.Eng Go.RowKit
set_option maxRecDepth 1000000

/-- The world in which a reader has been made. -/
abbrev scnW (w : World) (s p : ByteArray) : World := (w.alloc nb0).alloc (.cells #[.int .i64 0, .string s, .string p] 97 (0, 0))
theorem scn_sc (w : World) (s p : ByteArray) : Sc (scnW w s p) (w.heap.size + 1) 0 s p := ⟨_, new_at _ _ (by simp [World.size_alloc])⟩
theorem scn_below {w w' : World} {s p : ByteArray} (h : (scnW w s p).grownBy w' (some (w.heap.size + 1))) : Below w.heap.size w w' where
  os := h.os
  tape := h.tape
  output := h.output
  size := by have := h.size; simp [World.size_alloc] at this; omega
  block := fun k hk => by
    rw [h.block k (by simp [World.size_alloc]; omega) (fun e => by have := Option.some.inj e; omega)]
    show ((w.heap.push _).push _)[k]? = _
    rw [Array.getElem?_push, if_neg (by simp; omega), Array.getElem?_push, if_neg (by omega)]
theorem scn_box {w w' : World} {s p : ByteArray} (h : (scnW w s p).grownBy w' (some (w.heap.size + 1))) : w'.heap[w.heap.size]? = some nb0 :=
  (h.block _ (by simp [World.size_alloc]; omega) (fun e => by have := Option.some.inj e; omega)).trans (at_alloc (new_at _ _ rfl) _)
theorem ix0 (w : World) : (Instr.index 102 kindsV (.int .i64 0)).run Tryz.prog w = .ok (kindV 103) w := by kernel_rfl
theorem ix1 (w : World) : (Instr.index 102 kindsV (.int .i64 1)).run Tryz.prog w = .ok (kindV 106) w := by kernel_rfl
theorem ix2 (w : World) : (Instr.index 102 kindsV (.int .i64 2)).run Tryz.prog w = .ok (kindV 108) w := by kernel_rfl
theorem ix3 (w : World) : (Instr.index 102 kindsV (.int .i64 3)).run Tryz.prog w = .ok (kindV 110) w := by kernel_rfl

theorem ret14 {R : Ending → World → Prop} {tmps : Array Value} {W : World} {N : Nat} {v0 v1 v2 v3 v4 v5 : Value} {b : Bool} (h4 : tmps[4]? = some (.pointer (some ⟨N, 0, none⟩))) (h5 : tmps[5]? = some (.bool b))
    (hb : W.heap[N]? = some (nbox v0 v1 v2 v3 v4 v5)) (ho : v0.oneCell' = true ∧ v1.oneCell' = true ∧ v2.oneCell' = true ∧ v3.oneCell' = true ∧ v4.oneCell' = true ∧ v5.oneCell' = true) (hR : R (.returned (.tuple #[.agg #[v0, v1, v2, v3, v4, v5], .bool b])) W) : bodyPost Tryz.prog Tryz.f14 R .ret { tmps := tmps, defers := [] } W := by
  obtain ⟨⟨c0, c1, c2, c3, c4, c5⟩, _⟩ := box_cells hb
  refine ⟨rfl, _, ?_, hR⟩
  simp [results, Tryz.results14, go_sem, h4, h5, c0, c1, c2, c3, c4, c5]
theorem cells_set {W : World} {N o : Nat} {arr : Array Value} {T : TypeId} {l : Nat × Nat} (h : W.heap[N]? = some (.cells arr T l)) (v : Value) : (W.setCell ⟨N, o, none⟩ v).heap[N]? = some (.cells (arr.setIfInBounds o v) T l) := by
  simp [World.setCell, Array.getElem?_modify, h]
/-- Two stores into a number's box. -/
theorem set_1_5 {W : World} {N : Nat} {v0 v1 v2 v3 v4 v5 : Value} (h : W.heap[N]? = some (nbox v0 v1 v2 v3 v4 v5)) (a b : Value) : (((W.setCell ⟨N, 1, none⟩ a).setCell ⟨N, 5, none⟩ b).drew).heap[N]? = some (nbox v0 a v2 v3 v4 b) :=
  cells_set (o := 5) (cells_set (o := 1) h a) b
theorem set_1_5_far {W : World} {N k : Nat} (hne : N ≠ k) (a b : Value) : (((W.setCell ⟨N, 1, none⟩ a).setCell ⟨N, 5, none⟩ b).drew).heap[k]? = W.heap[k]? := by
  show ((W.setCell ⟨N, 1, none⟩ a).setCell ⟨N, 5, none⟩ b).heap[k]? = _
  rw [set_far hne, set_far hne]
def SPost (R : Option (Bool × Int × List UInt8 × Int × List UInt8 × Nat)) (w : World) (e : Ending) (w' : World) : Prop :=
  e = .returned (.tuple #[splV R, .bool R.isSome]) ∧ Below w.heap.size w w'

theorem below_far {w w' : World} {n : Nat} (h : Below n w w') (v0 v1 v2 v3 v4 v5 : Value) : Below n w (put6 w' n v0 v1 v2 v3 v4 v5) := by
  unfold put6
  exact (((((h.setCell (Nat.le_refl _) _).setCell (Nat.le_refl _) _).setCell (Nat.le_refl _) _).setCell (Nat.le_refl _) _).setCell (Nat.le_refl _) _).setCell (Nat.le_refl _) _
theorem kin_snoc {t p : List UInt8} {a j : Nat} (h : ∀ x, x < j → kin x t p a = none) (hj : kin j t p a = none) : ∀ x, x < j + 1 → kin x t p a = none := fun x hx => by
  rcases Nat.lt_or_eq_of_le (Nat.le_of_lt_succ hx) with h1 | h1
  · exact h x h1
  · rw [h1]; exact hj
set_option maxHeartbeats 8000000 in
theorem split_any {s p : ByteArray} (hs : s.size ≤ 20000) (hp : p.size ≤ 100) (w : World) :
    Calls Tryz.prog 14 #[.string p, .string s] w (SPost (spl s.data.toList p.data.toList) w) := by
  obtain ⟨r, hr⟩ : ∃ r, r = rn wh s.data.toList 0 := ⟨_, rfl⟩
  have hrn : r ≤ s.size := by rw [hr]; simpa using rn_le wh s.data.toList 0 (Nat.zero_le _)
  obtain ⟨a, ha⟩ : ∃ a, a = sg s.data.toList r := ⟨_, rfl⟩
  have han : a ≤ s.size := by rw [ha]; simpa using sg_le (t := s.data.toList) (a := r) (by simpa using hrn)
  obtain ⟨neg, hneg⟩ : ∃ neg, neg = mi s.data.toList r := ⟨_, rfl⟩
  have HR : Aside (r = rn wh s.data.toList 0) := hr
  have hspl : spl s.data.toList p.data.toList = (kall s.data.toList p.data.toList a).map fun x => (neg, x) := by
    subst hneg; subst ha; subst hr; rfl
  obtain ⟨R, hRR⟩ : ∃ R, R = spl s.data.toList p.data.toList := ⟨_, rfl⟩
  rw [← hRR] at hspl ⊢
  have HSP : Aside (R = (kall s.data.toList p.data.toList a).map fun x => (neg, x)) := hspl
  have HSI := Lib.hid fun W (hW : Sc W (w.heap.size + 1) r s p) => sign_any hW hs hrn
  rw [← ha, ← hneg] at HSI
  have HP0 := Lib.hid (peek_any (scn_sc w s p) hs (Nat.zero_le _))
  have HT := Lib.hid fun j f (hj : (j = 0 ∧ f = 103) ∨ (j = 1 ∧ f = 106) ∨ (j = 2 ∧ f = 108) ∨ (j = 3 ∧ f = 110)) W (hW : Sc W (w.heap.size + 1) a s p) => tryj hj hW hs han hp
  have I0 := ix0
  have I1 := ix1
  have I2 := ix2
  have I3 := ix3
  clear hspl hRR hr ha hneg
  have HKN := Lib.hid kinds_any
  go_enter Tryz.func14, Tryz.ntmps14
  go_wp2_with (go_at_call 43; (with_reducible refine HP0.out.mono ?_); rintro e w2 ⟨rfl, m0, rfl⟩)
  go_loopw [7] (fun b wr => ∃ k : Nat, k ≤ s.size ∧ b = .int .u8 (pk s.data.toList k) ∧ Aside (r = rn wh s.data.toList k) ∧ Aside (Sc wr (w.heap.size + 1) k s p) ∧ Aside ((scnW w s p).grownBy wr (some (w.heap.size + 1)))) (fun _ wr => s.size - atW wr (w.heap.size + 1))
  case atStart => exact ⟨0, Nat.zero_le _, rfl, HR.out, (scn_sc w s p).drew _, grown_drew (grown_refl _ _) _⟩
  case round =>
    obtain ⟨k, hk, rfl, hrk, hsc, hgr⟩ := hrel
    have hpk := pk_lt s.data.toList k
    obtain ⟨n, hn⟩ : ∃ n, n = pk s.data.toList k := ⟨_, rfl⟩
    have HN : Aside (n = pk s.data.toList k) := hn
    rw [← hn] at hpk ⊢
    clear hn
    obtain ⟨hn0, hn1⟩ := hpk
    obtain ⟨d0, d1, _, d3⟩ := hsc.out.cells
    cases hd : whN n
    · have hrk2 : r = k := by
        rw [hrk.out]
        rcases Nat.lt_or_ge k s.size with hlt | hge
        · obtain ⟨b, hb⟩ : ∃ b, s.data.toList[k]? = some b := ⟨_, List.getElem?_eq_getElem (by simpa using hlt)⟩
          exact rn_stop hb (by rw [← pk_wh hb, ← HN.out, hd])
        · exact rn_end (by simpa using hge)
      subst hrk2
      unfold whN at hd
      have hd := of_decide_eq_false hd
      have n32 : n ≠ 32 := fun e => hd (.inr e)
      have hd1 : ¬ (9 ≤ n ∧ n ≤ 13) := fun h => hd (.inl h)
      have HD : Aside (¬ (9 ≤ n ∧ n ≤ 13)) := hd1
      have b32 : (n == 32) = false := by simpa using n32
      clear hd hd1 n32
      by_cases q1 : 9 ≤ n
      · have q2 : ¬ n ≤ 13 := fun h => HD.out ⟨q1, h⟩
        go_wp2_with (first
          | (go_at_call 44; (with_reducible refine (HSI.out _ hsc.out).mono ?_); rintro e w5 ⟨rfl, hsc5, hgr5⟩)
          | (go_at_call 45; (with_reducible refine (HKN.out _).mono ?_); rintro e w6 ⟨rfl, rfl⟩))
        have hsc6 := hsc5.alloc kindsB
        have hgr6 := grown_alloc (grown_trans hgr.out hgr5) kindsB
        clear hsc hgr hsc5 hgr5 d0 d1 d3 HN hrk q1 b32 hn0 hn1 HD HSI HKN
        generalize w5.alloc kindsB = w6 at *
        clear w5
        rename_i wr0
        go_loopw [43] (fun i wr => ∃ j : Nat, j ≤ 4 ∧ i = .int .i64 j ∧ Aside (∀ x, x < j → kin x s.data.toList p.data.toList a = none) ∧ Aside (Sc wr (w.heap.size + 1) a s p) ∧ Aside ((scnW w s p).grownBy wr (some (w.heap.size + 1)))) (fun i _ => 4 - (intOf i).toNat)
        case atStart => exact ⟨0, Nat.zero_le _, rfl, fun x hx => absurd hx (Nat.not_lt_zero _), hsc6, hgr6⟩
        case round =>
          obtain ⟨j, hj4, rfl, hall, hsc, hgr⟩ := hrel
          clear hsc6 hgr6
          have hj5 : j = 0 ∨ j = 1 ∨ j = 2 ∨ j = 3 ∨ j = 4 := by omega
          clear hj4
          rcases hj5 with rfl | rfl | rfl | rfl | rfl
          · have HTJ := Lib.hid fun W (hW : Sc W (w.heap.size + 1) a s p) => HT.out 0 103 (by decide) W hW
            obtain ⟨X, hX⟩ : ∃ X, X = kin 0 s.data.toList p.data.toList a := ⟨_, rfl⟩
            have HX : Aside (X = kin 0 s.data.toList p.data.toList a) := hX
            rw [← hX] at HTJ
            clear hX
            cases X with
            | none =>
              go_wp2_with (go_at_call 46; refine (HTJ.out _ (hsc.out.alloc (.cells #[.func (.func 103) #[] #[]] 101 (0, 0)))).mono ?_; rintro e w7 ⟨⟨rfl, hsc7⟩, hgr7⟩)
              go_roundw
              case rel => exact ⟨1, by omega, rfl, kin_snoc hall.out HX.out.symm, hsc7.alloc _, grown_alloc (grown_trans (grown_alloc hgr.out _) hgr7) _⟩
              case measure => simp [intOf]
            | some X =>
              go_wp2_with (go_at_call 46; refine (HTJ.out _ (hsc.out.alloc (.cells #[.func (.func 103) #[] #[]] 101 (0, 0)))).mono ?_; rintro e w7 ⟨⟨rfl, hsc7⟩, hgr7⟩)
              have HSC8 : Aside (Sc (w7.alloc (nbox (.int .i64 X.1) (.bool false) (.string ⟨⟨X.2.1⟩⟩) (.int .i64 X.2.2.1) (.string ⟨⟨X.2.2.2.1⟩⟩) (.int .i64 0))) (w.heap.size + 1) X.2.2.2.2 s p) := hsc7.alloc _
              have HGR8 : Aside ((scnW w s p).grownBy (w7.alloc (nbox (.int .i64 X.1) (.bool false) (.string ⟨⟨X.2.1⟩⟩) (.int .i64 X.2.2.1) (.string ⟨⟨X.2.2.2.1⟩⟩) (.int .i64 0))) (some (w.heap.size + 1))) := grown_alloc (grown_trans (grown_alloc hgr.out _) hgr7) _
              have HB8 : Aside ((w7.alloc (nbox (.int .i64 X.1) (.bool false) (.string ⟨⟨X.2.1⟩⟩) (.int .i64 X.2.2.1) (.string ⟨⟨X.2.2.2.1⟩⟩) (.int .i64 0))).heap[w7.heap.size]? = some (nbox (.int .i64 X.1) (.bool false) (.string ⟨⟨X.2.1⟩⟩) (.int .i64 X.2.2.1) (.string ⟨⟨X.2.2.2.1⟩⟩) (.int .i64 0))) := new_at _ _ rfl
              have hN7 : w.heap.size + 1 < w7.heap.size := hsc7.lt
              clear hsc7 hgr7 hsc hgr
              generalize w7.alloc (nbox (.int .i64 X.1) (.bool false) (.string ⟨⟨X.2.1⟩⟩) (.int .i64 X.2.2.1) (.string ⟨⟨X.2.2.2.1⟩⟩) (.int .i64 0)) = w8 at *
              generalize w7.heap.size = N at *
              have hb8 := HB8.out
              have hn8 := scn_box HGR8.out
              obtain ⟨⟨q0, q1, q2, q3, q4, q5⟩, z0, z1, z2, z3, z4, z5⟩ := box_cells hb8
              obtain ⟨d0, d1, _, d3⟩ := HSC8.out.cells
              have HN7 : Aside (w.heap.size + 1 < N) := hN7
              clear hb8 hn8 hN7
              have hne : ¬ N = w.heap.size + 1 := by have := HN7.out; omega
              have hne2 : ¬ w.heap.size + 1 = N := by have := HN7.out; omega
              go_region
              have HB9 : Aside ((((w8.setCell ⟨N, 1, none⟩ (.bool neg)).setCell ⟨N, 5, none⟩ (.int .i64 X.2.2.2.2)).drew).heap[N]? = some (nbox (.int .i64 X.1) (.bool neg) (.string ⟨⟨X.2.1⟩⟩) (.int .i64 X.2.2.1) (.string ⟨⟨X.2.2.2.1⟩⟩) (.int .i64 X.2.2.2.2))) := set_1_5 HB8.out _ _
              have HN9 : Aside ((((w8.setCell ⟨N, 1, none⟩ (.bool neg)).setCell ⟨N, 5, none⟩ (.int .i64 X.2.2.2.2)).drew).heap[w.heap.size]? = some nb0) := (set_1_5_far (by have := HN7.out; omega) _ _).trans (scn_box HGR8.out)
              have HGR9 : Aside ((scnW w s p).grownBy (((w8.setCell ⟨N, 1, none⟩ (.bool neg)).setCell ⟨N, 5, none⟩ (.int .i64 X.2.2.2.2)).drew) (some (w.heap.size + 1))) := grown_drew (grown_far (grown_far HGR8.out (by have := HN7.out; simp [World.size_alloc]; omega)) (by have := HN7.out; simp [World.size_alloc]; omega)) 1
              clear q0 q1 q2 q3 q4 q5 z0 z1 z2 z3 z4 z5 d0 d1 d3 HB8 HGR8 HSC8 hne hne2
              generalize ((w8.setCell ⟨N, 1, none⟩ (.bool neg)).setCell ⟨N, 5, none⟩ (.int .i64 X.2.2.2.2)).drew = w9 at *
              obtain ⟨⟨q0, q1, q2, q3, q4, q5⟩, _⟩ := box_cells HB9.out
              obtain ⟨⟨y0, y1, y2, y3, y4, y5⟩, z0, z1, z2, z3, z4, z5⟩ := box_cells HN9.out
              have eR : R = some (neg, X) := by
                rw [HSP.out]
                unfold kall
                skip
                rw [HX.out.symm]
                rfl
              subst eR
              go_wp2
              refine ret14 (N := w.heap.size) (b := true) (v0 := .int .i64 X.1) (v1 := .bool neg) (v2 := .string ⟨⟨X.2.1⟩⟩) (v3 := .int .i64 X.2.2.1) (v4 := .string ⟨⟨X.2.2.2.1⟩⟩) (v5 := .int .i64 X.2.2.2.2) (by kernel_rfl) (by kernel_rfl) ?_ (by simp [Value.oneCell']) ?_
              · exact put6_box HN9.out _ _ _ _ _ _
              · exact ⟨rfl, below_far (scn_below HGR9.out) _ _ _ _ _ _⟩
          · have HTJ := Lib.hid fun W (hW : Sc W (w.heap.size + 1) a s p) => HT.out 1 106 (by decide) W hW
            obtain ⟨X, hX⟩ : ∃ X, X = kin 1 s.data.toList p.data.toList a := ⟨_, rfl⟩
            have HX : Aside (X = kin 1 s.data.toList p.data.toList a) := hX
            rw [← hX] at HTJ
            clear hX
            cases X with
            | none =>
              go_wp2_with (go_at_call 46; refine (HTJ.out _ (hsc.out.alloc (.cells #[.func (.func 106) #[] #[]] 101 (0, 0)))).mono ?_; rintro e w7 ⟨⟨rfl, hsc7⟩, hgr7⟩)
              go_roundw
              case rel => exact ⟨2, by omega, rfl, kin_snoc hall.out HX.out.symm, hsc7.alloc _, grown_alloc (grown_trans (grown_alloc hgr.out _) hgr7) _⟩
              case measure => simp [intOf]
            | some X =>
              go_wp2_with (go_at_call 46; refine (HTJ.out _ (hsc.out.alloc (.cells #[.func (.func 106) #[] #[]] 101 (0, 0)))).mono ?_; rintro e w7 ⟨⟨rfl, hsc7⟩, hgr7⟩)
              have HSC8 : Aside (Sc (w7.alloc (nbox (.int .i64 X.1) (.bool false) (.string ⟨⟨X.2.1⟩⟩) (.int .i64 X.2.2.1) (.string ⟨⟨X.2.2.2.1⟩⟩) (.int .i64 0))) (w.heap.size + 1) X.2.2.2.2 s p) := hsc7.alloc _
              have HGR8 : Aside ((scnW w s p).grownBy (w7.alloc (nbox (.int .i64 X.1) (.bool false) (.string ⟨⟨X.2.1⟩⟩) (.int .i64 X.2.2.1) (.string ⟨⟨X.2.2.2.1⟩⟩) (.int .i64 0))) (some (w.heap.size + 1))) := grown_alloc (grown_trans (grown_alloc hgr.out _) hgr7) _
              have HB8 : Aside ((w7.alloc (nbox (.int .i64 X.1) (.bool false) (.string ⟨⟨X.2.1⟩⟩) (.int .i64 X.2.2.1) (.string ⟨⟨X.2.2.2.1⟩⟩) (.int .i64 0))).heap[w7.heap.size]? = some (nbox (.int .i64 X.1) (.bool false) (.string ⟨⟨X.2.1⟩⟩) (.int .i64 X.2.2.1) (.string ⟨⟨X.2.2.2.1⟩⟩) (.int .i64 0))) := new_at _ _ rfl
              have hN7 : w.heap.size + 1 < w7.heap.size := hsc7.lt
              clear hsc7 hgr7 hsc hgr
              generalize w7.alloc (nbox (.int .i64 X.1) (.bool false) (.string ⟨⟨X.2.1⟩⟩) (.int .i64 X.2.2.1) (.string ⟨⟨X.2.2.2.1⟩⟩) (.int .i64 0)) = w8 at *
              generalize w7.heap.size = N at *
              have hb8 := HB8.out
              have hn8 := scn_box HGR8.out
              obtain ⟨⟨q0, q1, q2, q3, q4, q5⟩, z0, z1, z2, z3, z4, z5⟩ := box_cells hb8
              obtain ⟨d0, d1, _, d3⟩ := HSC8.out.cells
              have HN7 : Aside (w.heap.size + 1 < N) := hN7
              clear hb8 hn8 hN7
              have hne : ¬ N = w.heap.size + 1 := by have := HN7.out; omega
              have hne2 : ¬ w.heap.size + 1 = N := by have := HN7.out; omega
              go_region
              have HB9 : Aside ((((w8.setCell ⟨N, 1, none⟩ (.bool neg)).setCell ⟨N, 5, none⟩ (.int .i64 X.2.2.2.2)).drew).heap[N]? = some (nbox (.int .i64 X.1) (.bool neg) (.string ⟨⟨X.2.1⟩⟩) (.int .i64 X.2.2.1) (.string ⟨⟨X.2.2.2.1⟩⟩) (.int .i64 X.2.2.2.2))) := set_1_5 HB8.out _ _
              have HN9 : Aside ((((w8.setCell ⟨N, 1, none⟩ (.bool neg)).setCell ⟨N, 5, none⟩ (.int .i64 X.2.2.2.2)).drew).heap[w.heap.size]? = some nb0) := (set_1_5_far (by have := HN7.out; omega) _ _).trans (scn_box HGR8.out)
              have HGR9 : Aside ((scnW w s p).grownBy (((w8.setCell ⟨N, 1, none⟩ (.bool neg)).setCell ⟨N, 5, none⟩ (.int .i64 X.2.2.2.2)).drew) (some (w.heap.size + 1))) := grown_drew (grown_far (grown_far HGR8.out (by have := HN7.out; simp [World.size_alloc]; omega)) (by have := HN7.out; simp [World.size_alloc]; omega)) 1
              clear q0 q1 q2 q3 q4 q5 z0 z1 z2 z3 z4 z5 d0 d1 d3 HB8 HGR8 HSC8 hne hne2
              generalize ((w8.setCell ⟨N, 1, none⟩ (.bool neg)).setCell ⟨N, 5, none⟩ (.int .i64 X.2.2.2.2)).drew = w9 at *
              obtain ⟨⟨q0, q1, q2, q3, q4, q5⟩, _⟩ := box_cells HB9.out
              obtain ⟨⟨y0, y1, y2, y3, y4, y5⟩, z0, z1, z2, z3, z4, z5⟩ := box_cells HN9.out
              have eR : R = some (neg, X) := by
                rw [HSP.out]
                unfold kall
                rw [hall.out 0 (by omega)]
                rw [HX.out.symm]
                rfl
              subst eR
              go_wp2
              refine ret14 (N := w.heap.size) (b := true) (v0 := .int .i64 X.1) (v1 := .bool neg) (v2 := .string ⟨⟨X.2.1⟩⟩) (v3 := .int .i64 X.2.2.1) (v4 := .string ⟨⟨X.2.2.2.1⟩⟩) (v5 := .int .i64 X.2.2.2.2) (by kernel_rfl) (by kernel_rfl) ?_ (by simp [Value.oneCell']) ?_
              · exact put6_box HN9.out _ _ _ _ _ _
              · exact ⟨rfl, below_far (scn_below HGR9.out) _ _ _ _ _ _⟩
          · have HTJ := Lib.hid fun W (hW : Sc W (w.heap.size + 1) a s p) => HT.out 2 108 (by decide) W hW
            obtain ⟨X, hX⟩ : ∃ X, X = kin 2 s.data.toList p.data.toList a := ⟨_, rfl⟩
            have HX : Aside (X = kin 2 s.data.toList p.data.toList a) := hX
            rw [← hX] at HTJ
            clear hX
            cases X with
            | none =>
              go_wp2_with (go_at_call 46; refine (HTJ.out _ (hsc.out.alloc (.cells #[.func (.func 108) #[] #[]] 101 (0, 0)))).mono ?_; rintro e w7 ⟨⟨rfl, hsc7⟩, hgr7⟩)
              go_roundw
              case rel => exact ⟨3, by omega, rfl, kin_snoc hall.out HX.out.symm, hsc7.alloc _, grown_alloc (grown_trans (grown_alloc hgr.out _) hgr7) _⟩
              case measure => simp [intOf]
            | some X =>
              go_wp2_with (go_at_call 46; refine (HTJ.out _ (hsc.out.alloc (.cells #[.func (.func 108) #[] #[]] 101 (0, 0)))).mono ?_; rintro e w7 ⟨⟨rfl, hsc7⟩, hgr7⟩)
              have HSC8 : Aside (Sc (w7.alloc (nbox (.int .i64 X.1) (.bool false) (.string ⟨⟨X.2.1⟩⟩) (.int .i64 X.2.2.1) (.string ⟨⟨X.2.2.2.1⟩⟩) (.int .i64 0))) (w.heap.size + 1) X.2.2.2.2 s p) := hsc7.alloc _
              have HGR8 : Aside ((scnW w s p).grownBy (w7.alloc (nbox (.int .i64 X.1) (.bool false) (.string ⟨⟨X.2.1⟩⟩) (.int .i64 X.2.2.1) (.string ⟨⟨X.2.2.2.1⟩⟩) (.int .i64 0))) (some (w.heap.size + 1))) := grown_alloc (grown_trans (grown_alloc hgr.out _) hgr7) _
              have HB8 : Aside ((w7.alloc (nbox (.int .i64 X.1) (.bool false) (.string ⟨⟨X.2.1⟩⟩) (.int .i64 X.2.2.1) (.string ⟨⟨X.2.2.2.1⟩⟩) (.int .i64 0))).heap[w7.heap.size]? = some (nbox (.int .i64 X.1) (.bool false) (.string ⟨⟨X.2.1⟩⟩) (.int .i64 X.2.2.1) (.string ⟨⟨X.2.2.2.1⟩⟩) (.int .i64 0))) := new_at _ _ rfl
              have hN7 : w.heap.size + 1 < w7.heap.size := hsc7.lt
              clear hsc7 hgr7 hsc hgr
              generalize w7.alloc (nbox (.int .i64 X.1) (.bool false) (.string ⟨⟨X.2.1⟩⟩) (.int .i64 X.2.2.1) (.string ⟨⟨X.2.2.2.1⟩⟩) (.int .i64 0)) = w8 at *
              generalize w7.heap.size = N at *
              have hb8 := HB8.out
              have hn8 := scn_box HGR8.out
              obtain ⟨⟨q0, q1, q2, q3, q4, q5⟩, z0, z1, z2, z3, z4, z5⟩ := box_cells hb8
              obtain ⟨d0, d1, _, d3⟩ := HSC8.out.cells
              have HN7 : Aside (w.heap.size + 1 < N) := hN7
              clear hb8 hn8 hN7
              have hne : ¬ N = w.heap.size + 1 := by have := HN7.out; omega
              have hne2 : ¬ w.heap.size + 1 = N := by have := HN7.out; omega
              go_region
              have HB9 : Aside ((((w8.setCell ⟨N, 1, none⟩ (.bool neg)).setCell ⟨N, 5, none⟩ (.int .i64 X.2.2.2.2)).drew).heap[N]? = some (nbox (.int .i64 X.1) (.bool neg) (.string ⟨⟨X.2.1⟩⟩) (.int .i64 X.2.2.1) (.string ⟨⟨X.2.2.2.1⟩⟩) (.int .i64 X.2.2.2.2))) := set_1_5 HB8.out _ _
              have HN9 : Aside ((((w8.setCell ⟨N, 1, none⟩ (.bool neg)).setCell ⟨N, 5, none⟩ (.int .i64 X.2.2.2.2)).drew).heap[w.heap.size]? = some nb0) := (set_1_5_far (by have := HN7.out; omega) _ _).trans (scn_box HGR8.out)
              have HGR9 : Aside ((scnW w s p).grownBy (((w8.setCell ⟨N, 1, none⟩ (.bool neg)).setCell ⟨N, 5, none⟩ (.int .i64 X.2.2.2.2)).drew) (some (w.heap.size + 1))) := grown_drew (grown_far (grown_far HGR8.out (by have := HN7.out; simp [World.size_alloc]; omega)) (by have := HN7.out; simp [World.size_alloc]; omega)) 1
              clear q0 q1 q2 q3 q4 q5 z0 z1 z2 z3 z4 z5 d0 d1 d3 HB8 HGR8 HSC8 hne hne2
              generalize ((w8.setCell ⟨N, 1, none⟩ (.bool neg)).setCell ⟨N, 5, none⟩ (.int .i64 X.2.2.2.2)).drew = w9 at *
              obtain ⟨⟨q0, q1, q2, q3, q4, q5⟩, _⟩ := box_cells HB9.out
              obtain ⟨⟨y0, y1, y2, y3, y4, y5⟩, z0, z1, z2, z3, z4, z5⟩ := box_cells HN9.out
              have eR : R = some (neg, X) := by
                rw [HSP.out]
                unfold kall
                rw [hall.out 0 (by omega), hall.out 1 (by omega)]
                rw [HX.out.symm]
                rfl
              subst eR
              go_wp2
              refine ret14 (N := w.heap.size) (b := true) (v0 := .int .i64 X.1) (v1 := .bool neg) (v2 := .string ⟨⟨X.2.1⟩⟩) (v3 := .int .i64 X.2.2.1) (v4 := .string ⟨⟨X.2.2.2.1⟩⟩) (v5 := .int .i64 X.2.2.2.2) (by kernel_rfl) (by kernel_rfl) ?_ (by simp [Value.oneCell']) ?_
              · exact put6_box HN9.out _ _ _ _ _ _
              · exact ⟨rfl, below_far (scn_below HGR9.out) _ _ _ _ _ _⟩
          · have HTJ := Lib.hid fun W (hW : Sc W (w.heap.size + 1) a s p) => HT.out 3 110 (by decide) W hW
            obtain ⟨X, hX⟩ : ∃ X, X = kin 3 s.data.toList p.data.toList a := ⟨_, rfl⟩
            have HX : Aside (X = kin 3 s.data.toList p.data.toList a) := hX
            rw [← hX] at HTJ
            clear hX
            cases X with
            | none =>
              go_wp2_with (go_at_call 46; refine (HTJ.out _ (hsc.out.alloc (.cells #[.func (.func 110) #[] #[]] 101 (0, 0)))).mono ?_; rintro e w7 ⟨⟨rfl, hsc7⟩, hgr7⟩)
              go_roundw
              case rel => exact ⟨4, by omega, rfl, kin_snoc hall.out HX.out.symm, hsc7.alloc _, grown_alloc (grown_trans (grown_alloc hgr.out _) hgr7) _⟩
              case measure => simp [intOf]
            | some X =>
              go_wp2_with (go_at_call 46; refine (HTJ.out _ (hsc.out.alloc (.cells #[.func (.func 110) #[] #[]] 101 (0, 0)))).mono ?_; rintro e w7 ⟨⟨rfl, hsc7⟩, hgr7⟩)
              have HSC8 : Aside (Sc (w7.alloc (nbox (.int .i64 X.1) (.bool false) (.string ⟨⟨X.2.1⟩⟩) (.int .i64 X.2.2.1) (.string ⟨⟨X.2.2.2.1⟩⟩) (.int .i64 0))) (w.heap.size + 1) X.2.2.2.2 s p) := hsc7.alloc _
              have HGR8 : Aside ((scnW w s p).grownBy (w7.alloc (nbox (.int .i64 X.1) (.bool false) (.string ⟨⟨X.2.1⟩⟩) (.int .i64 X.2.2.1) (.string ⟨⟨X.2.2.2.1⟩⟩) (.int .i64 0))) (some (w.heap.size + 1))) := grown_alloc (grown_trans (grown_alloc hgr.out _) hgr7) _
              have HB8 : Aside ((w7.alloc (nbox (.int .i64 X.1) (.bool false) (.string ⟨⟨X.2.1⟩⟩) (.int .i64 X.2.2.1) (.string ⟨⟨X.2.2.2.1⟩⟩) (.int .i64 0))).heap[w7.heap.size]? = some (nbox (.int .i64 X.1) (.bool false) (.string ⟨⟨X.2.1⟩⟩) (.int .i64 X.2.2.1) (.string ⟨⟨X.2.2.2.1⟩⟩) (.int .i64 0))) := new_at _ _ rfl
              have hN7 : w.heap.size + 1 < w7.heap.size := hsc7.lt
              clear hsc7 hgr7 hsc hgr
              generalize w7.alloc (nbox (.int .i64 X.1) (.bool false) (.string ⟨⟨X.2.1⟩⟩) (.int .i64 X.2.2.1) (.string ⟨⟨X.2.2.2.1⟩⟩) (.int .i64 0)) = w8 at *
              generalize w7.heap.size = N at *
              have hb8 := HB8.out
              have hn8 := scn_box HGR8.out
              obtain ⟨⟨q0, q1, q2, q3, q4, q5⟩, z0, z1, z2, z3, z4, z5⟩ := box_cells hb8
              obtain ⟨d0, d1, _, d3⟩ := HSC8.out.cells
              have HN7 : Aside (w.heap.size + 1 < N) := hN7
              clear hb8 hn8 hN7
              have hne : ¬ N = w.heap.size + 1 := by have := HN7.out; omega
              have hne2 : ¬ w.heap.size + 1 = N := by have := HN7.out; omega
              go_region
              have HB9 : Aside ((((w8.setCell ⟨N, 1, none⟩ (.bool neg)).setCell ⟨N, 5, none⟩ (.int .i64 X.2.2.2.2)).drew).heap[N]? = some (nbox (.int .i64 X.1) (.bool neg) (.string ⟨⟨X.2.1⟩⟩) (.int .i64 X.2.2.1) (.string ⟨⟨X.2.2.2.1⟩⟩) (.int .i64 X.2.2.2.2))) := set_1_5 HB8.out _ _
              have HN9 : Aside ((((w8.setCell ⟨N, 1, none⟩ (.bool neg)).setCell ⟨N, 5, none⟩ (.int .i64 X.2.2.2.2)).drew).heap[w.heap.size]? = some nb0) := (set_1_5_far (by have := HN7.out; omega) _ _).trans (scn_box HGR8.out)
              have HGR9 : Aside ((scnW w s p).grownBy (((w8.setCell ⟨N, 1, none⟩ (.bool neg)).setCell ⟨N, 5, none⟩ (.int .i64 X.2.2.2.2)).drew) (some (w.heap.size + 1))) := grown_drew (grown_far (grown_far HGR8.out (by have := HN7.out; simp [World.size_alloc]; omega)) (by have := HN7.out; simp [World.size_alloc]; omega)) 1
              clear q0 q1 q2 q3 q4 q5 z0 z1 z2 z3 z4 z5 d0 d1 d3 HB8 HGR8 HSC8 hne hne2
              generalize ((w8.setCell ⟨N, 1, none⟩ (.bool neg)).setCell ⟨N, 5, none⟩ (.int .i64 X.2.2.2.2)).drew = w9 at *
              obtain ⟨⟨q0, q1, q2, q3, q4, q5⟩, _⟩ := box_cells HB9.out
              obtain ⟨⟨y0, y1, y2, y3, y4, y5⟩, z0, z1, z2, z3, z4, z5⟩ := box_cells HN9.out
              have eR : R = some (neg, X) := by
                rw [HSP.out]
                unfold kall
                rw [hall.out 0 (by omega), hall.out 1 (by omega), hall.out 2 (by omega)]
                rw [HX.out.symm]
                rfl
              subst eR
              go_wp2
              refine ret14 (N := w.heap.size) (b := true) (v0 := .int .i64 X.1) (v1 := .bool neg) (v2 := .string ⟨⟨X.2.1⟩⟩) (v3 := .int .i64 X.2.2.1) (v4 := .string ⟨⟨X.2.2.2.1⟩⟩) (v5 := .int .i64 X.2.2.2.2) (by kernel_rfl) (by kernel_rfl) ?_ (by simp [Value.oneCell']) ?_
              · exact put6_box HN9.out _ _ _ _ _ _
              · exact ⟨rfl, below_far (scn_below HGR9.out) _ _ _ _ _ _⟩
          · have eR : R = none := by
              rw [HSP.out]
              unfold kall
              rw [hall.out 0 (by omega), hall.out 1 (by omega), hall.out 2 (by omega), hall.out 3 (by omega)]
              rfl
            subst eR
            have hb := scn_box hgr.out
            obtain ⟨⟨q0, q1, q2, q3, q4, q5⟩, z0, z1, z2, z3, z4, z5⟩ := box_cells hb
            go_wp2
            refine ret14 (N := w.heap.size) (b := false) (v0 := .int .i64 0) (v1 := .bool false) (v2 := .string ⟨#[]⟩) (v3 := .int .i64 0) (v4 := .string ⟨#[]⟩) (v5 := .int .i64 0) (by kernel_rfl) (by kernel_rfl) ?_ (by simp [Value.oneCell']) ?_
            · exact put6_box hb _ _ _ _ _ _
            · exact ⟨rfl, below_far (scn_below hgr.out) _ _ _ _ _ _⟩
      · skip
        go_wp2_with (first
          | (go_at_call 44; (with_reducible refine (HSI.out _ hsc.out).mono ?_); rintro e w5 ⟨rfl, hsc5, hgr5⟩)
          | (go_at_call 45; (with_reducible refine (HKN.out _).mono ?_); rintro e w6 ⟨rfl, rfl⟩))
        have hsc6 := hsc5.alloc kindsB
        have hgr6 := grown_alloc (grown_trans hgr.out hgr5) kindsB
        clear hsc hgr hsc5 hgr5 d0 d1 d3 HN hrk q1 b32 hn0 hn1 HD HSI HKN
        generalize w5.alloc kindsB = w6 at *
        clear w5
        rename_i wr0
        go_loopw [43] (fun i wr => ∃ j : Nat, j ≤ 4 ∧ i = .int .i64 j ∧ Aside (∀ x, x < j → kin x s.data.toList p.data.toList a = none) ∧ Aside (Sc wr (w.heap.size + 1) a s p) ∧ Aside ((scnW w s p).grownBy wr (some (w.heap.size + 1)))) (fun i _ => 4 - (intOf i).toNat)
        case atStart => exact ⟨0, Nat.zero_le _, rfl, fun x hx => absurd hx (Nat.not_lt_zero _), hsc6, hgr6⟩
        case round =>
          obtain ⟨j, hj4, rfl, hall, hsc, hgr⟩ := hrel
          clear hsc6 hgr6
          have hj5 : j = 0 ∨ j = 1 ∨ j = 2 ∨ j = 3 ∨ j = 4 := by omega
          clear hj4
          rcases hj5 with rfl | rfl | rfl | rfl | rfl
          · have HTJ := Lib.hid fun W (hW : Sc W (w.heap.size + 1) a s p) => HT.out 0 103 (by decide) W hW
            obtain ⟨X, hX⟩ : ∃ X, X = kin 0 s.data.toList p.data.toList a := ⟨_, rfl⟩
            have HX : Aside (X = kin 0 s.data.toList p.data.toList a) := hX
            rw [← hX] at HTJ
            clear hX
            cases X with
            | none =>
              go_wp2_with (go_at_call 46; refine (HTJ.out _ (hsc.out.alloc (.cells #[.func (.func 103) #[] #[]] 101 (0, 0)))).mono ?_; rintro e w7 ⟨⟨rfl, hsc7⟩, hgr7⟩)
              go_roundw
              case rel => exact ⟨1, by omega, rfl, kin_snoc hall.out HX.out.symm, hsc7.alloc _, grown_alloc (grown_trans (grown_alloc hgr.out _) hgr7) _⟩
              case measure => simp [intOf]
            | some X =>
              go_wp2_with (go_at_call 46; refine (HTJ.out _ (hsc.out.alloc (.cells #[.func (.func 103) #[] #[]] 101 (0, 0)))).mono ?_; rintro e w7 ⟨⟨rfl, hsc7⟩, hgr7⟩)
              have HSC8 : Aside (Sc (w7.alloc (nbox (.int .i64 X.1) (.bool false) (.string ⟨⟨X.2.1⟩⟩) (.int .i64 X.2.2.1) (.string ⟨⟨X.2.2.2.1⟩⟩) (.int .i64 0))) (w.heap.size + 1) X.2.2.2.2 s p) := hsc7.alloc _
              have HGR8 : Aside ((scnW w s p).grownBy (w7.alloc (nbox (.int .i64 X.1) (.bool false) (.string ⟨⟨X.2.1⟩⟩) (.int .i64 X.2.2.1) (.string ⟨⟨X.2.2.2.1⟩⟩) (.int .i64 0))) (some (w.heap.size + 1))) := grown_alloc (grown_trans (grown_alloc hgr.out _) hgr7) _
              have HB8 : Aside ((w7.alloc (nbox (.int .i64 X.1) (.bool false) (.string ⟨⟨X.2.1⟩⟩) (.int .i64 X.2.2.1) (.string ⟨⟨X.2.2.2.1⟩⟩) (.int .i64 0))).heap[w7.heap.size]? = some (nbox (.int .i64 X.1) (.bool false) (.string ⟨⟨X.2.1⟩⟩) (.int .i64 X.2.2.1) (.string ⟨⟨X.2.2.2.1⟩⟩) (.int .i64 0))) := new_at _ _ rfl
              have hN7 : w.heap.size + 1 < w7.heap.size := hsc7.lt
              clear hsc7 hgr7 hsc hgr
              generalize w7.alloc (nbox (.int .i64 X.1) (.bool false) (.string ⟨⟨X.2.1⟩⟩) (.int .i64 X.2.2.1) (.string ⟨⟨X.2.2.2.1⟩⟩) (.int .i64 0)) = w8 at *
              generalize w7.heap.size = N at *
              have hb8 := HB8.out
              have hn8 := scn_box HGR8.out
              obtain ⟨⟨q0, q1, q2, q3, q4, q5⟩, z0, z1, z2, z3, z4, z5⟩ := box_cells hb8
              obtain ⟨d0, d1, _, d3⟩ := HSC8.out.cells
              have HN7 : Aside (w.heap.size + 1 < N) := hN7
              clear hb8 hn8 hN7
              have hne : ¬ N = w.heap.size + 1 := by have := HN7.out; omega
              have hne2 : ¬ w.heap.size + 1 = N := by have := HN7.out; omega
              go_region
              have HB9 : Aside ((((w8.setCell ⟨N, 1, none⟩ (.bool neg)).setCell ⟨N, 5, none⟩ (.int .i64 X.2.2.2.2)).drew).heap[N]? = some (nbox (.int .i64 X.1) (.bool neg) (.string ⟨⟨X.2.1⟩⟩) (.int .i64 X.2.2.1) (.string ⟨⟨X.2.2.2.1⟩⟩) (.int .i64 X.2.2.2.2))) := set_1_5 HB8.out _ _
              have HN9 : Aside ((((w8.setCell ⟨N, 1, none⟩ (.bool neg)).setCell ⟨N, 5, none⟩ (.int .i64 X.2.2.2.2)).drew).heap[w.heap.size]? = some nb0) := (set_1_5_far (by have := HN7.out; omega) _ _).trans (scn_box HGR8.out)
              have HGR9 : Aside ((scnW w s p).grownBy (((w8.setCell ⟨N, 1, none⟩ (.bool neg)).setCell ⟨N, 5, none⟩ (.int .i64 X.2.2.2.2)).drew) (some (w.heap.size + 1))) := grown_drew (grown_far (grown_far HGR8.out (by have := HN7.out; simp [World.size_alloc]; omega)) (by have := HN7.out; simp [World.size_alloc]; omega)) 1
              clear q0 q1 q2 q3 q4 q5 z0 z1 z2 z3 z4 z5 d0 d1 d3 HB8 HGR8 HSC8 hne hne2
              generalize ((w8.setCell ⟨N, 1, none⟩ (.bool neg)).setCell ⟨N, 5, none⟩ (.int .i64 X.2.2.2.2)).drew = w9 at *
              obtain ⟨⟨q0, q1, q2, q3, q4, q5⟩, _⟩ := box_cells HB9.out
              obtain ⟨⟨y0, y1, y2, y3, y4, y5⟩, z0, z1, z2, z3, z4, z5⟩ := box_cells HN9.out
              have eR : R = some (neg, X) := by
                rw [HSP.out]
                unfold kall
                skip
                rw [HX.out.symm]
                rfl
              subst eR
              go_wp2
              refine ret14 (N := w.heap.size) (b := true) (v0 := .int .i64 X.1) (v1 := .bool neg) (v2 := .string ⟨⟨X.2.1⟩⟩) (v3 := .int .i64 X.2.2.1) (v4 := .string ⟨⟨X.2.2.2.1⟩⟩) (v5 := .int .i64 X.2.2.2.2) (by kernel_rfl) (by kernel_rfl) ?_ (by simp [Value.oneCell']) ?_
              · exact put6_box HN9.out _ _ _ _ _ _
              · exact ⟨rfl, below_far (scn_below HGR9.out) _ _ _ _ _ _⟩
          · have HTJ := Lib.hid fun W (hW : Sc W (w.heap.size + 1) a s p) => HT.out 1 106 (by decide) W hW
            obtain ⟨X, hX⟩ : ∃ X, X = kin 1 s.data.toList p.data.toList a := ⟨_, rfl⟩
            have HX : Aside (X = kin 1 s.data.toList p.data.toList a) := hX
            rw [← hX] at HTJ
            clear hX
            cases X with
            | none =>
              go_wp2_with (go_at_call 46; refine (HTJ.out _ (hsc.out.alloc (.cells #[.func (.func 106) #[] #[]] 101 (0, 0)))).mono ?_; rintro e w7 ⟨⟨rfl, hsc7⟩, hgr7⟩)
              go_roundw
              case rel => exact ⟨2, by omega, rfl, kin_snoc hall.out HX.out.symm, hsc7.alloc _, grown_alloc (grown_trans (grown_alloc hgr.out _) hgr7) _⟩
              case measure => simp [intOf]
            | some X =>
              go_wp2_with (go_at_call 46; refine (HTJ.out _ (hsc.out.alloc (.cells #[.func (.func 106) #[] #[]] 101 (0, 0)))).mono ?_; rintro e w7 ⟨⟨rfl, hsc7⟩, hgr7⟩)
              have HSC8 : Aside (Sc (w7.alloc (nbox (.int .i64 X.1) (.bool false) (.string ⟨⟨X.2.1⟩⟩) (.int .i64 X.2.2.1) (.string ⟨⟨X.2.2.2.1⟩⟩) (.int .i64 0))) (w.heap.size + 1) X.2.2.2.2 s p) := hsc7.alloc _
              have HGR8 : Aside ((scnW w s p).grownBy (w7.alloc (nbox (.int .i64 X.1) (.bool false) (.string ⟨⟨X.2.1⟩⟩) (.int .i64 X.2.2.1) (.string ⟨⟨X.2.2.2.1⟩⟩) (.int .i64 0))) (some (w.heap.size + 1))) := grown_alloc (grown_trans (grown_alloc hgr.out _) hgr7) _
              have HB8 : Aside ((w7.alloc (nbox (.int .i64 X.1) (.bool false) (.string ⟨⟨X.2.1⟩⟩) (.int .i64 X.2.2.1) (.string ⟨⟨X.2.2.2.1⟩⟩) (.int .i64 0))).heap[w7.heap.size]? = some (nbox (.int .i64 X.1) (.bool false) (.string ⟨⟨X.2.1⟩⟩) (.int .i64 X.2.2.1) (.string ⟨⟨X.2.2.2.1⟩⟩) (.int .i64 0))) := new_at _ _ rfl
              have hN7 : w.heap.size + 1 < w7.heap.size := hsc7.lt
              clear hsc7 hgr7 hsc hgr
              generalize w7.alloc (nbox (.int .i64 X.1) (.bool false) (.string ⟨⟨X.2.1⟩⟩) (.int .i64 X.2.2.1) (.string ⟨⟨X.2.2.2.1⟩⟩) (.int .i64 0)) = w8 at *
              generalize w7.heap.size = N at *
              have hb8 := HB8.out
              have hn8 := scn_box HGR8.out
              obtain ⟨⟨q0, q1, q2, q3, q4, q5⟩, z0, z1, z2, z3, z4, z5⟩ := box_cells hb8
              obtain ⟨d0, d1, _, d3⟩ := HSC8.out.cells
              have HN7 : Aside (w.heap.size + 1 < N) := hN7
              clear hb8 hn8 hN7
              have hne : ¬ N = w.heap.size + 1 := by have := HN7.out; omega
              have hne2 : ¬ w.heap.size + 1 = N := by have := HN7.out; omega
              go_region
              have HB9 : Aside ((((w8.setCell ⟨N, 1, none⟩ (.bool neg)).setCell ⟨N, 5, none⟩ (.int .i64 X.2.2.2.2)).drew).heap[N]? = some (nbox (.int .i64 X.1) (.bool neg) (.string ⟨⟨X.2.1⟩⟩) (.int .i64 X.2.2.1) (.string ⟨⟨X.2.2.2.1⟩⟩) (.int .i64 X.2.2.2.2))) := set_1_5 HB8.out _ _
              have HN9 : Aside ((((w8.setCell ⟨N, 1, none⟩ (.bool neg)).setCell ⟨N, 5, none⟩ (.int .i64 X.2.2.2.2)).drew).heap[w.heap.size]? = some nb0) := (set_1_5_far (by have := HN7.out; omega) _ _).trans (scn_box HGR8.out)
              have HGR9 : Aside ((scnW w s p).grownBy (((w8.setCell ⟨N, 1, none⟩ (.bool neg)).setCell ⟨N, 5, none⟩ (.int .i64 X.2.2.2.2)).drew) (some (w.heap.size + 1))) := grown_drew (grown_far (grown_far HGR8.out (by have := HN7.out; simp [World.size_alloc]; omega)) (by have := HN7.out; simp [World.size_alloc]; omega)) 1
              clear q0 q1 q2 q3 q4 q5 z0 z1 z2 z3 z4 z5 d0 d1 d3 HB8 HGR8 HSC8 hne hne2
              generalize ((w8.setCell ⟨N, 1, none⟩ (.bool neg)).setCell ⟨N, 5, none⟩ (.int .i64 X.2.2.2.2)).drew = w9 at *
              obtain ⟨⟨q0, q1, q2, q3, q4, q5⟩, _⟩ := box_cells HB9.out
              obtain ⟨⟨y0, y1, y2, y3, y4, y5⟩, z0, z1, z2, z3, z4, z5⟩ := box_cells HN9.out
              have eR : R = some (neg, X) := by
                rw [HSP.out]
                unfold kall
                rw [hall.out 0 (by omega)]
                rw [HX.out.symm]
                rfl
              subst eR
              go_wp2
              refine ret14 (N := w.heap.size) (b := true) (v0 := .int .i64 X.1) (v1 := .bool neg) (v2 := .string ⟨⟨X.2.1⟩⟩) (v3 := .int .i64 X.2.2.1) (v4 := .string ⟨⟨X.2.2.2.1⟩⟩) (v5 := .int .i64 X.2.2.2.2) (by kernel_rfl) (by kernel_rfl) ?_ (by simp [Value.oneCell']) ?_
              · exact put6_box HN9.out _ _ _ _ _ _
              · exact ⟨rfl, below_far (scn_below HGR9.out) _ _ _ _ _ _⟩
          · have HTJ := Lib.hid fun W (hW : Sc W (w.heap.size + 1) a s p) => HT.out 2 108 (by decide) W hW
            obtain ⟨X, hX⟩ : ∃ X, X = kin 2 s.data.toList p.data.toList a := ⟨_, rfl⟩
            have HX : Aside (X = kin 2 s.data.toList p.data.toList a) := hX
            rw [← hX] at HTJ
            clear hX
            cases X with
            | none =>
              go_wp2_with (go_at_call 46; refine (HTJ.out _ (hsc.out.alloc (.cells #[.func (.func 108) #[] #[]] 101 (0, 0)))).mono ?_; rintro e w7 ⟨⟨rfl, hsc7⟩, hgr7⟩)
              go_roundw
              case rel => exact ⟨3, by omega, rfl, kin_snoc hall.out HX.out.symm, hsc7.alloc _, grown_alloc (grown_trans (grown_alloc hgr.out _) hgr7) _⟩
              case measure => simp [intOf]
            | some X =>
              go_wp2_with (go_at_call 46; refine (HTJ.out _ (hsc.out.alloc (.cells #[.func (.func 108) #[] #[]] 101 (0, 0)))).mono ?_; rintro e w7 ⟨⟨rfl, hsc7⟩, hgr7⟩)
              have HSC8 : Aside (Sc (w7.alloc (nbox (.int .i64 X.1) (.bool false) (.string ⟨⟨X.2.1⟩⟩) (.int .i64 X.2.2.1) (.string ⟨⟨X.2.2.2.1⟩⟩) (.int .i64 0))) (w.heap.size + 1) X.2.2.2.2 s p) := hsc7.alloc _
              have HGR8 : Aside ((scnW w s p).grownBy (w7.alloc (nbox (.int .i64 X.1) (.bool false) (.string ⟨⟨X.2.1⟩⟩) (.int .i64 X.2.2.1) (.string ⟨⟨X.2.2.2.1⟩⟩) (.int .i64 0))) (some (w.heap.size + 1))) := grown_alloc (grown_trans (grown_alloc hgr.out _) hgr7) _
              have HB8 : Aside ((w7.alloc (nbox (.int .i64 X.1) (.bool false) (.string ⟨⟨X.2.1⟩⟩) (.int .i64 X.2.2.1) (.string ⟨⟨X.2.2.2.1⟩⟩) (.int .i64 0))).heap[w7.heap.size]? = some (nbox (.int .i64 X.1) (.bool false) (.string ⟨⟨X.2.1⟩⟩) (.int .i64 X.2.2.1) (.string ⟨⟨X.2.2.2.1⟩⟩) (.int .i64 0))) := new_at _ _ rfl
              have hN7 : w.heap.size + 1 < w7.heap.size := hsc7.lt
              clear hsc7 hgr7 hsc hgr
              generalize w7.alloc (nbox (.int .i64 X.1) (.bool false) (.string ⟨⟨X.2.1⟩⟩) (.int .i64 X.2.2.1) (.string ⟨⟨X.2.2.2.1⟩⟩) (.int .i64 0)) = w8 at *
              generalize w7.heap.size = N at *
              have hb8 := HB8.out
              have hn8 := scn_box HGR8.out
              obtain ⟨⟨q0, q1, q2, q3, q4, q5⟩, z0, z1, z2, z3, z4, z5⟩ := box_cells hb8
              obtain ⟨d0, d1, _, d3⟩ := HSC8.out.cells
              have HN7 : Aside (w.heap.size + 1 < N) := hN7
              clear hb8 hn8 hN7
              have hne : ¬ N = w.heap.size + 1 := by have := HN7.out; omega
              have hne2 : ¬ w.heap.size + 1 = N := by have := HN7.out; omega
              go_region
              have HB9 : Aside ((((w8.setCell ⟨N, 1, none⟩ (.bool neg)).setCell ⟨N, 5, none⟩ (.int .i64 X.2.2.2.2)).drew).heap[N]? = some (nbox (.int .i64 X.1) (.bool neg) (.string ⟨⟨X.2.1⟩⟩) (.int .i64 X.2.2.1) (.string ⟨⟨X.2.2.2.1⟩⟩) (.int .i64 X.2.2.2.2))) := set_1_5 HB8.out _ _
              have HN9 : Aside ((((w8.setCell ⟨N, 1, none⟩ (.bool neg)).setCell ⟨N, 5, none⟩ (.int .i64 X.2.2.2.2)).drew).heap[w.heap.size]? = some nb0) := (set_1_5_far (by have := HN7.out; omega) _ _).trans (scn_box HGR8.out)
              have HGR9 : Aside ((scnW w s p).grownBy (((w8.setCell ⟨N, 1, none⟩ (.bool neg)).setCell ⟨N, 5, none⟩ (.int .i64 X.2.2.2.2)).drew) (some (w.heap.size + 1))) := grown_drew (grown_far (grown_far HGR8.out (by have := HN7.out; simp [World.size_alloc]; omega)) (by have := HN7.out; simp [World.size_alloc]; omega)) 1
              clear q0 q1 q2 q3 q4 q5 z0 z1 z2 z3 z4 z5 d0 d1 d3 HB8 HGR8 HSC8 hne hne2
              generalize ((w8.setCell ⟨N, 1, none⟩ (.bool neg)).setCell ⟨N, 5, none⟩ (.int .i64 X.2.2.2.2)).drew = w9 at *
              obtain ⟨⟨q0, q1, q2, q3, q4, q5⟩, _⟩ := box_cells HB9.out
              obtain ⟨⟨y0, y1, y2, y3, y4, y5⟩, z0, z1, z2, z3, z4, z5⟩ := box_cells HN9.out
              have eR : R = some (neg, X) := by
                rw [HSP.out]
                unfold kall
                rw [hall.out 0 (by omega), hall.out 1 (by omega)]
                rw [HX.out.symm]
                rfl
              subst eR
              go_wp2
              refine ret14 (N := w.heap.size) (b := true) (v0 := .int .i64 X.1) (v1 := .bool neg) (v2 := .string ⟨⟨X.2.1⟩⟩) (v3 := .int .i64 X.2.2.1) (v4 := .string ⟨⟨X.2.2.2.1⟩⟩) (v5 := .int .i64 X.2.2.2.2) (by kernel_rfl) (by kernel_rfl) ?_ (by simp [Value.oneCell']) ?_
              · exact put6_box HN9.out _ _ _ _ _ _
              · exact ⟨rfl, below_far (scn_below HGR9.out) _ _ _ _ _ _⟩
          · have HTJ := Lib.hid fun W (hW : Sc W (w.heap.size + 1) a s p) => HT.out 3 110 (by decide) W hW
            obtain ⟨X, hX⟩ : ∃ X, X = kin 3 s.data.toList p.data.toList a := ⟨_, rfl⟩
            have HX : Aside (X = kin 3 s.data.toList p.data.toList a) := hX
            rw [← hX] at HTJ
            clear hX
            cases X with
            | none =>
              go_wp2_with (go_at_call 46; refine (HTJ.out _ (hsc.out.alloc (.cells #[.func (.func 110) #[] #[]] 101 (0, 0)))).mono ?_; rintro e w7 ⟨⟨rfl, hsc7⟩, hgr7⟩)
              go_roundw
              case rel => exact ⟨4, by omega, rfl, kin_snoc hall.out HX.out.symm, hsc7.alloc _, grown_alloc (grown_trans (grown_alloc hgr.out _) hgr7) _⟩
              case measure => simp [intOf]
            | some X =>
              go_wp2_with (go_at_call 46; refine (HTJ.out _ (hsc.out.alloc (.cells #[.func (.func 110) #[] #[]] 101 (0, 0)))).mono ?_; rintro e w7 ⟨⟨rfl, hsc7⟩, hgr7⟩)
              have HSC8 : Aside (Sc (w7.alloc (nbox (.int .i64 X.1) (.bool false) (.string ⟨⟨X.2.1⟩⟩) (.int .i64 X.2.2.1) (.string ⟨⟨X.2.2.2.1⟩⟩) (.int .i64 0))) (w.heap.size + 1) X.2.2.2.2 s p) := hsc7.alloc _
              have HGR8 : Aside ((scnW w s p).grownBy (w7.alloc (nbox (.int .i64 X.1) (.bool false) (.string ⟨⟨X.2.1⟩⟩) (.int .i64 X.2.2.1) (.string ⟨⟨X.2.2.2.1⟩⟩) (.int .i64 0))) (some (w.heap.size + 1))) := grown_alloc (grown_trans (grown_alloc hgr.out _) hgr7) _
              have HB8 : Aside ((w7.alloc (nbox (.int .i64 X.1) (.bool false) (.string ⟨⟨X.2.1⟩⟩) (.int .i64 X.2.2.1) (.string ⟨⟨X.2.2.2.1⟩⟩) (.int .i64 0))).heap[w7.heap.size]? = some (nbox (.int .i64 X.1) (.bool false) (.string ⟨⟨X.2.1⟩⟩) (.int .i64 X.2.2.1) (.string ⟨⟨X.2.2.2.1⟩⟩) (.int .i64 0))) := new_at _ _ rfl
              have hN7 : w.heap.size + 1 < w7.heap.size := hsc7.lt
              clear hsc7 hgr7 hsc hgr
              generalize w7.alloc (nbox (.int .i64 X.1) (.bool false) (.string ⟨⟨X.2.1⟩⟩) (.int .i64 X.2.2.1) (.string ⟨⟨X.2.2.2.1⟩⟩) (.int .i64 0)) = w8 at *
              generalize w7.heap.size = N at *
              have hb8 := HB8.out
              have hn8 := scn_box HGR8.out
              obtain ⟨⟨q0, q1, q2, q3, q4, q5⟩, z0, z1, z2, z3, z4, z5⟩ := box_cells hb8
              obtain ⟨d0, d1, _, d3⟩ := HSC8.out.cells
              have HN7 : Aside (w.heap.size + 1 < N) := hN7
              clear hb8 hn8 hN7
              have hne : ¬ N = w.heap.size + 1 := by have := HN7.out; omega
              have hne2 : ¬ w.heap.size + 1 = N := by have := HN7.out; omega
              go_region
              have HB9 : Aside ((((w8.setCell ⟨N, 1, none⟩ (.bool neg)).setCell ⟨N, 5, none⟩ (.int .i64 X.2.2.2.2)).drew).heap[N]? = some (nbox (.int .i64 X.1) (.bool neg) (.string ⟨⟨X.2.1⟩⟩) (.int .i64 X.2.2.1) (.string ⟨⟨X.2.2.2.1⟩⟩) (.int .i64 X.2.2.2.2))) := set_1_5 HB8.out _ _
              have HN9 : Aside ((((w8.setCell ⟨N, 1, none⟩ (.bool neg)).setCell ⟨N, 5, none⟩ (.int .i64 X.2.2.2.2)).drew).heap[w.heap.size]? = some nb0) := (set_1_5_far (by have := HN7.out; omega) _ _).trans (scn_box HGR8.out)
              have HGR9 : Aside ((scnW w s p).grownBy (((w8.setCell ⟨N, 1, none⟩ (.bool neg)).setCell ⟨N, 5, none⟩ (.int .i64 X.2.2.2.2)).drew) (some (w.heap.size + 1))) := grown_drew (grown_far (grown_far HGR8.out (by have := HN7.out; simp [World.size_alloc]; omega)) (by have := HN7.out; simp [World.size_alloc]; omega)) 1
              clear q0 q1 q2 q3 q4 q5 z0 z1 z2 z3 z4 z5 d0 d1 d3 HB8 HGR8 HSC8 hne hne2
              generalize ((w8.setCell ⟨N, 1, none⟩ (.bool neg)).setCell ⟨N, 5, none⟩ (.int .i64 X.2.2.2.2)).drew = w9 at *
              obtain ⟨⟨q0, q1, q2, q3, q4, q5⟩, _⟩ := box_cells HB9.out
              obtain ⟨⟨y0, y1, y2, y3, y4, y5⟩, z0, z1, z2, z3, z4, z5⟩ := box_cells HN9.out
              have eR : R = some (neg, X) := by
                rw [HSP.out]
                unfold kall
                rw [hall.out 0 (by omega), hall.out 1 (by omega), hall.out 2 (by omega)]
                rw [HX.out.symm]
                rfl
              subst eR
              go_wp2
              refine ret14 (N := w.heap.size) (b := true) (v0 := .int .i64 X.1) (v1 := .bool neg) (v2 := .string ⟨⟨X.2.1⟩⟩) (v3 := .int .i64 X.2.2.1) (v4 := .string ⟨⟨X.2.2.2.1⟩⟩) (v5 := .int .i64 X.2.2.2.2) (by kernel_rfl) (by kernel_rfl) ?_ (by simp [Value.oneCell']) ?_
              · exact put6_box HN9.out _ _ _ _ _ _
              · exact ⟨rfl, below_far (scn_below HGR9.out) _ _ _ _ _ _⟩
          · have eR : R = none := by
              rw [HSP.out]
              unfold kall
              rw [hall.out 0 (by omega), hall.out 1 (by omega), hall.out 2 (by omega), hall.out 3 (by omega)]
              rfl
            subst eR
            have hb := scn_box hgr.out
            obtain ⟨⟨q0, q1, q2, q3, q4, q5⟩, z0, z1, z2, z3, z4, z5⟩ := box_cells hb
            go_wp2
            refine ret14 (N := w.heap.size) (b := false) (v0 := .int .i64 0) (v1 := .bool false) (v2 := .string ⟨#[]⟩) (v3 := .int .i64 0) (v4 := .string ⟨#[]⟩) (v5 := .int .i64 0) (by kernel_rfl) (by kernel_rfl) ?_ (by simp [Value.oneCell']) ?_
            · exact put6_box hb _ _ _ _ _ _
            · exact ⟨rfl, below_far (scn_below hgr.out) _ _ _ _ _ _⟩
    · have hlt : k < s.size := by
        rcases Nat.lt_or_ge k s.size with hlt | hge
        · exact hlt
        · rw [HN.out, pk_wh_end (by simpa using hge)] at hd
          cases hd
      have hrk2 : r = rn wh s.data.toList (k + 1) := by
        obtain ⟨b, hb⟩ : ∃ b, s.data.toList[k]? = some b := ⟨_, List.getElem?_eq_getElem (by simpa using hlt)⟩
        rw [hrk.out]
        exact rn_step hb (by rw [← pk_wh hb, ← HN.out, hd])
      have HRK : Aside (r = rn wh s.data.toList (k + 1)) := hrk2
      have HPK := Lib.hid fun W (hW : Sc W (w.heap.size + 1) (k + 1) s p) => peek_any hW hs hlt
      unfold whN at hd
      have hd := of_decide_eq_true hd
      clear hrk2
      rcases hd with ⟨h1, h2⟩ | h1
      · have q := h1
        go_wp2_with (go_at_call 43; refine (HPK.out _ (by have := hsc.out.set (k + 1); push_cast at this; exact this)).mono ?_; rintro e w2 ⟨rfl, m1, rfl⟩)
        go_roundw
        case rel => exact ⟨k + 1, by omega, rfl, HRK.out, (by have := (hsc.out.set (k + 1)).drew m1; push_cast at this; exact this), grown_drew (grown_set hgr.out _ _) _⟩
        case measure =>
          have e1 := hsc.out.atW
          have e2 : atW ((wr.setCell ⟨w.heap.size + 1, 0, none⟩ (.int .i64 ((k : Int) + 1))).drewN m1) (w.heap.size + 1) = k + 1 := by
            have := (hsc.out.set (k + 1)).drew m1
            push_cast at this
            exact this.atW
          rw [e1, e2]
          omega
      · subst h1
        go_wp2_with (go_at_call 43; refine (HPK.out _ (by have := hsc.out.set (k + 1); push_cast at this; exact this)).mono ?_; rintro e w2 ⟨rfl, m1, rfl⟩)
        go_roundw
        case rel => exact ⟨k + 1, by omega, rfl, HRK.out, (by have := (hsc.out.set (k + 1)).drew m1; push_cast at this; exact this), grown_drew (grown_set hgr.out _ _) _⟩
        case measure =>
          have e1 := hsc.out.atW
          have e2 : atW ((wr.setCell ⟨w.heap.size + 1, 0, none⟩ (.int .i64 ((k : Int) + 1))).drewN m1) (w.heap.size + 1) = k + 1 := by
            have := (hsc.out.set (k + 1)).drew m1
            push_cast at this
            exact this.atW
          rw [e1, e2]
          omega
end Go.Proofs.YtilnhkflgfajcaaGreatDoor

namespace Go.Proofs.YtilnhkflgfajcaaGreatDoor
open Go.Eng Go.RowKit
set_option maxRecDepth 1000000

/-- What no point has. -/
def badN (v : Int) : Bool := decide (v ≤ 32 ∨ v = 43 ∨ v = 45 ∨ (48 ≤ v ∧ v ≤ 57) ∨ (97 ≤ v ∧ v ≤ 122))
def bad (b : UInt8) : Bool := badN ((lw b).toNat : Int)
/-- Can it be a point? -/
def isP (p : List UInt8) : Bool := !p.any bad && (decide (1 ≤ p.length) && decide (p.length ≤ 4))

theorem bad_any (b : UInt8) (w : World) : Calls Tryz.prog 41 #[.int .i32 b.toNat] w fun e w' => e = .returned (.bool (bad b)) ∧ w = w' := by
  have HL := Lib.hid letter_any
  have hb : b.toNat < 256 := b.toNat_lt
  obtain ⟨v, hv⟩ : ∃ v : Int, v = ((lw b).toNat : Int) := ⟨_, rfl⟩
  have hv0 : 0 ≤ v := by omega
  have hv1 : v < 256 := by have := (lw b).toNat_lt; omega
  have e : bad b = badN v := by rw [hv]; rfl
  have HL2 := Lib.hid fun W => letter_any b W
  rw [← hv] at HL2
  rw [e]
  have hwr : IntKind.u8.wrap (b.toNat : Int) = b.toNat := by rw [IntKind.wrap_u8]; omega
  clear hv e HL
  by_cases g1 : v ≤ 32
  · have e : badN v = true := by unfold badN; exact decide_eq_true (.inl g1)
    rw [e]
    clear e
    go_enter Tryz.func41, Tryz.ntmps41
    go_wp2_with (go_at_call 42; refine (HL2.out _).mono ?_; rintro e w2 ⟨rfl, rfl⟩)
    go_ret
    exact ⟨rfl, rfl⟩
  by_cases g2 : v = 43
  · have e : badN v = true := by unfold badN; exact decide_eq_true (.inr (.inl g2))
    subst g2
    rw [e]
    clear e
    go_enter Tryz.func41, Tryz.ntmps41
    go_wp2_with (go_at_call 42; refine (HL2.out _).mono ?_; rintro e w2 ⟨rfl, rfl⟩)
    go_ret
    exact ⟨rfl, rfl⟩
  by_cases g3 : v = 45
  · have e : badN v = true := by unfold badN; exact decide_eq_true (.inr (.inr (.inl g3)))
    subst g3
    rw [e]
    clear e
    go_enter Tryz.func41, Tryz.ntmps41
    go_wp2_with (go_at_call 42; refine (HL2.out _).mono ?_; rintro e w2 ⟨rfl, rfl⟩)
    go_ret
    exact ⟨rfl, rfl⟩
  have b2 : (v == 43) = false := by simpa using g2
  have b3 : (v == 45) = false := by simpa using g3
  by_cases g4 : 48 ≤ v
  · by_cases g5 : v ≤ 57
    · have e : badN v = true := by unfold badN; exact decide_eq_true (.inr (.inr (.inr (.inl ⟨g4, g5⟩))))
      rw [e]
      clear e g2 g3
      go_enter Tryz.func41, Tryz.ntmps41
      go_wp2_with (go_at_call 42; refine (HL2.out _).mono ?_; rintro e w2 ⟨rfl, rfl⟩)
      go_ret
      exact ⟨rfl, rfl⟩
    · by_cases g6 : 97 ≤ v
      · by_cases g7 : v ≤ 122
        · have e : badN v = true := by unfold badN; exact decide_eq_true (.inr (.inr (.inr (.inr ⟨g6, g7⟩))))
          rw [e]
          clear e g2 g3
          go_enter Tryz.func41, Tryz.ntmps41
          go_wp2_with (go_at_call 42; refine (HL2.out _).mono ?_; rintro e w2 ⟨rfl, rfl⟩)
          go_ret
          exact ⟨rfl, rfl⟩
        · have e : badN v = false := by unfold badN; exact decide_eq_false (by omega)
          rw [e]
          clear e g2 g3
          go_enter Tryz.func41, Tryz.ntmps41
          go_wp2_with (go_at_call 42; refine (HL2.out _).mono ?_; rintro e w2 ⟨rfl, rfl⟩)
          go_ret
          exact ⟨by simp [g1, g5, g7], rfl⟩
      · have e : badN v = false := by unfold badN; exact decide_eq_false (by omega)
        rw [e]
        clear e g2 g3
        go_enter Tryz.func41, Tryz.ntmps41
        go_wp2_with (go_at_call 42; refine (HL2.out _).mono ?_; rintro e w2 ⟨rfl, rfl⟩)
        go_ret
        exact ⟨by simp [g1, g5], rfl⟩
  · have e : badN v = false := by unfold badN; exact decide_eq_false (by omega)
    have g6 : ¬ 97 ≤ v := by omega
    rw [e]
    clear e g2 g3
    go_enter Tryz.func41, Tryz.ntmps41
    go_wp2_with (go_at_call 42; refine (HL2.out _).mono ?_; rintro e w2 ⟨rfl, rfl⟩)
    go_ret
    exact ⟨by simp [g1], rfl⟩

set_option maxHeartbeats 2000000 in
theorem isPoint_any (p : ByteArray) (hp : p.size ≤ 9223372036854775807) (w : World) : Calls Tryz.prog 13 #[.string p] w fun e w' => e = .returned (.bool (isP p.data.toList)) ∧ Below w.heap.size w w' := by
  have kc := fun w => Lib.run_convert_string_bytes (P := Tryz.prog) w 9 53 5 p Tryz.underlying9 Tryz.underlying53 Tryz.underlying5
  have HB := Lib.hid bad_any
  obtain ⟨R, hR⟩ : ∃ R, R = isP p.data.toList := ⟨_, rfl⟩
  have HR : Aside (R = isP p.data.toList) := hR
  rw [← hR]
  clear hR
  have hcell : ∀ k b, p.data.toList[k]? = some b → (Lib.bytesWorld w 5 p).cell? ⟨w.heap.size, k, none⟩ = some (.int .u8 b.toNat) := fun k b h => bytes_cells w p.data.toList k b h
  have HC := Lib.hid hcell
  have HBW : Aside (Below w.heap.size w (Lib.bytesWorld w 5 p)) := ⟨rfl, rfl, rfl, by rw [Lib.bytesWorld_size]; omega, fun k hk => Lib.bytesWorld_at_old w 5 _ k hk⟩
  clear hcell
  go_enter Tryz.func13, Tryz.ntmps13
  go_wp2
  go_loop [9] (fun i => ∃ k : Nat, k ≤ p.size ∧ i = .int .i64 k ∧ Aside (∀ j b, j < k → p.data.toList[j]? = some b → bad b = false)) (fun i => p.size - (intOf i).toNat)
  case atStart => exact ⟨0, Nat.zero_le _, rfl, fun j b hj => absurd hj (Nat.not_lt_zero _)⟩
  case round =>
    obtain ⟨k, hk, rfl, hall⟩ := hrel
    rcases Nat.lt_or_ge k p.size with hlt | hge
    · obtain ⟨b, hb⟩ : ∃ b, p.data.toList[k]? = some b := ⟨_, List.getElem?_eq_getElem (by simpa using hlt)⟩
      have hcl := HC.out k b hb
      have HBB : Aside (p.data.toList[k]? = some b) := hb
      have hk1 : (k : Int) < (p.size : Int) := by omega
      have hb256 : b.toNat < 256 := b.toNat_lt
      have HBD := Lib.hid fun W => HB.out b W
      clear hb
      cases hbd : bad b
      · have HBF : Aside (bad b = false) := hbd
        rw [hbd] at HBD
        clear hbd
        go_wp2_with (go_at_call 41; refine (HBD.out _).mono ?_; rintro e w2 ⟨rfl, rfl⟩)
        go_round
        case rel =>
          refine ⟨k + 1, by omega, by go_num, fun j c hj hc => ?_⟩
          rcases Nat.lt_or_eq_of_le (Nat.le_of_lt_succ hj) with h1 | h1
          · exact hall.out j c h1 hc
          · rw [h1, HBB.out] at hc
            cases hc
            exact HBF.out
        case measure => simp [intOf]; omega
      · have hRf : R = false := by
          rw [HR.out]
          unfold isP
          rw [List.any_eq_true.2 ⟨b, List.mem_of_getElem? HBB.out, hbd⟩]
          rfl
        subst hRf
        rw [hbd] at HBD
        clear hbd
        go_wp2_with (go_at_call 41; refine (HBD.out _).mono ?_; rintro e w2 ⟨rfl, rfl⟩)
        go_ret
        exact ⟨rfl, HBW.out⟩
    · have ek : k = p.size := by omega
      subst ek
      have hany : p.data.toList.any bad = false := by
        rw [List.any_eq_false]
        intro b hb
        obtain ⟨j, hj, e⟩ := List.getElem_of_mem hb
        rw [hall.out j b (by simpa using hj) (by rw [← e]; exact List.getElem?_eq_getElem hj)]
        simp
      have eR : R = (decide (1 ≤ p.size) && decide (p.size ≤ 4)) := by
        rw [HR.out]
        unfold isP
        rw [hany]
        simp
      clear hany
      by_cases g1 : 1 ≤ p.size
      · by_cases g4 : p.size ≤ 4
        · have e : R = true := by rw [eR]; simp [g1, g4]
          subst e
          clear eR
          go_wp2
          go_ret
          exact ⟨by simp; omega, HBW.out⟩
        · have e : R = false := by rw [eR]; simp [g4]
          subst e
          clear eR
          go_wp2
          go_ret
          exact ⟨by simp; omega, HBW.out⟩
      · have e : R = false := by rw [eR]; simp [g1]
        subst e
        clear eR
        go_wp2
        go_ret
        exact ⟨rfl, HBW.out⟩
end Go.Proofs.YtilnhkflgfajcaaGreatDoor

namespace Go.Proofs.YtilnhkflgfajcaaGreatDoor
open Go.Eng Go.RowKit
set_option maxRecDepth 1000000

theorem ret6 {R : Ending → World → Prop} {tmps : Array Value} {W : World} {N : Nat} {v0 v1 v2 v3 v4 v5 : Value} {b : Int} (h4 : tmps[4]? = some (.pointer (some ⟨N, 0, none⟩))) (h5 : tmps[5]? = some (.int .i64 b))
    (hb : W.heap[N]? = some (nbox v0 v1 v2 v3 v4 v5)) (ho : v0.oneCell' = true ∧ v1.oneCell' = true ∧ v2.oneCell' = true ∧ v3.oneCell' = true ∧ v4.oneCell' = true ∧ v5.oneCell' = true) (hR : R (.returned (.tuple #[.agg #[v0, v1, v2, v3, v4, v5], .int .i64 b])) W) : bodyPost Tryz.prog Tryz.f6 R .ret { tmps := tmps, defers := [] } W := by
  obtain ⟨⟨c0, c1, c2, c3, c4, c5⟩, _⟩ := box_cells hb
  refine ⟨rfl, _, ?_, hR⟩
  simp [results, Tryz.results6, go_sem, h4, h5, c0, c1, c2, c3, c4, c5]
def told (X : Option (Bool × Int × List UInt8 × Int × List UInt8 × Nat)) : Option (Bool × Int × List UInt8 × Int × List UInt8 × Nat) × Int := match X with
  | some r => (some r, 0)
  | none => (none, 5)
/-- What Split returns: the number, and the error. -/
def spE (p s : List UInt8) : Option (Bool × Int × List UInt8 × Int × List UInt8 × Nat) × Int :=
  if isP p then (if 20000 < s.length then (none, 2) else told (spl s p)) else (none, 1)
def XPost (E : Option (Bool × Int × List UInt8 × Int × List UInt8 × Nat) × Int) (w : World) (e : Ending) (w' : World) : Prop :=
  e = .returned (.tuple #[splV E.1, .int .i64 E.2]) ∧ Below w.heap.size w w'

theorem kept_nb {w w2 : World} (h : Below (w.alloc nb0).heap.size (w.alloc nb0) w2) : w2.heap[w.heap.size]? = some nb0 :=
  (h.block _ (by simp [World.size_alloc])).trans (nb_new w)
theorem nb_below {w w2 : World} (h : Below (w.alloc nb0).heap.size (w.alloc nb0) w2) : Below w.heap.size w w2 :=
  ((Below.refl _ _).alloc (Nat.le_refl _) nb0).trans (h.mono (by simp [World.size_alloc]))
theorem kept_lt {w w2 w3 : World} (h : Below (w.alloc nb0).heap.size (w.alloc nb0) w2) (h3 : Below w2.heap.size w2 w3) : w.heap.size < w3.heap.size := by
  have h1 := h.size
  have h2 := h3.size
  simp [World.size_alloc] at h1
  omega
theorem kept_lt1 {w w2 : World} (h : Below (w.alloc nb0).heap.size (w.alloc nb0) w2) : w.heap.size < w2.heap.size := by
  have h1 := h.size
  simp [World.size_alloc] at h1
  omega
theorem kept_nb2 {w w2 w3 : World} (h : Below (w.alloc nb0).heap.size (w.alloc nb0) w2) (h3 : Below w2.heap.size w2 w3) : w3.heap[w.heap.size]? = some nb0 :=
  (h3.block _ (by have := h.size; simp [World.size_alloc] at this; omega)).trans (kept_nb h)
set_option maxHeartbeats 2000000 in
theorem Split_any (p s : ByteArray) (hp : p.size ≤ 9223372036854775807) (hs : s.size ≤ 9223372036854775807) (w : World) : Calls Tryz.prog 6 #[.string p, .string s] w (XPost (spE p.data.toList s.data.toList) w) := by
  have HIP := Lib.hid fun W => isPoint_any p hp W
  obtain ⟨E, hE⟩ : ∃ E, E = spE p.data.toList s.data.toList := ⟨_, rfl⟩
  rw [← hE]
  cases hip : isP p.data.toList
  · rw [hip] at HIP
    have e : E = (none, 1) := by rw [hE]; unfold spE; rw [hip]; rfl
    subst e
    clear hE hip
    go_enter Tryz.func6, Tryz.ntmps6
    go_wp2_with (go_at_call 13; refine (HIP.out _).mono ?_; rintro e w2 ⟨rfl, hb2⟩; have hx := kept_nb hb2; obtain ⟨⟨y0, y1, y2, y3, y4, y5⟩, z0, z1, z2, z3, z4, z5⟩ := box_cells hx)
    refine ret6 (N := w.heap.size) (b := 1) (v0 := .int .i64 0) (v1 := .bool false) (v2 := .string ⟨#[]⟩) (v3 := .int .i64 0) (v4 := .string ⟨#[]⟩) (v5 := .int .i64 0) (by kernel_rfl) (by kernel_rfl) ?_ (by simp [Value.oneCell']) ?_
    · exact put6_box hx _ _ _ _ _ _
    · exact ⟨rfl, below_far (nb_below hb2) _ _ _ _ _ _⟩
  · rw [hip] at HIP
    rcases Nat.lt_or_ge 20000 s.size with hlim | hlim
    · have e : E = (none, 2) := by rw [hE]; unfold spE; rw [hip, if_pos rfl, if_pos (by simpa using hlim)]
      subst e
      clear hE hip
      go_enter Tryz.func6, Tryz.ntmps6
      go_wp2_with (go_at_call 13; refine (HIP.out _).mono ?_; rintro e w2 ⟨rfl, hb2⟩; have hx := kept_nb hb2; obtain ⟨⟨y0, y1, y2, y3, y4, y5⟩, z0, z1, z2, z3, z4, z5⟩ := box_cells hx)
      refine ret6 (N := w.heap.size) (b := 2) (v0 := .int .i64 0) (v1 := .bool false) (v2 := .string ⟨#[]⟩) (v3 := .int .i64 0) (v4 := .string ⟨#[]⟩) (v5 := .int .i64 0) (by kernel_rfl) (by kernel_rfl) ?_ (by simp [Value.oneCell']) ?_
      · exact put6_box hx _ _ _ _ _ _
      · exact ⟨rfl, below_far (nb_below hb2) _ _ _ _ _ _⟩
    · have hp4 : p.size ≤ 100 := by
        unfold isP at hip
        simp at hip
        omega
      have HSP := Lib.hid fun W => split_any hlim hp4 W
      obtain ⟨X, hX⟩ : ∃ X, X = spl s.data.toList p.data.toList := ⟨_, rfl⟩
      rw [← hX] at HSP
      have eE : E = told X := by
        rw [hE, hX]
        unfold spE
        rw [hip, if_pos rfl, if_neg (by simpa using hlim)]
      clear hE hip hX
      cases X with
      | none =>
        have eE2 : E = (none, 5) := eE
        clear eE
        subst eE2
        have HSN := Lib.hid fun W => show Calls Tryz.prog 14 #[.string p, .string s] W (fun e w' => e = .returned (.tuple #[zeroV, .bool false]) ∧ Below W.heap.size W w') from HSP.out W
        clear HSP
        go_enter Tryz.func6, Tryz.ntmps6
        go_wp2_with (first
          | (go_at_call 13; refine (HIP.out _).mono ?_; rintro e w2 ⟨rfl, hb2⟩)
          | (go_at_call 14; refine (HSN.out _).mono ?_; rintro e w3 ⟨rfl, hb3⟩; have hx := kept_nb2 hb2 hb3; obtain ⟨⟨y0, y1, y2, y3, y4, y5⟩, z0, z1, z2, z3, z4, z5⟩ := box_cells hx; have hlt3 := kept_lt hb2 hb3))
        refine ret6 (N := w.heap.size) (b := 5) (v0 := .int .i64 0) (v1 := .bool false) (v2 := .string ⟨#[]⟩) (v3 := .int .i64 0) (v4 := .string ⟨#[]⟩) (v5 := .int .i64 0) (by kernel_rfl) (by kernel_rfl) ?_ (by simp [Value.oneCell']) ?_
        · exact at_alloc (put6_box hx _ _ _ _ _ _) _
        · exact ⟨rfl, (below_far ((nb_below hb2).trans (hb3.mono (Nat.le_of_lt (kept_lt1 hb2)))) _ _ _ _ _ _).alloc (by rw [put6_size]; exact Nat.le_of_lt hlt3) _⟩
      | some X =>
        have eE2 : E = (some X, 0) := eE
        clear eE
        subst eE2
        obtain ⟨neg, X⟩ := X
        have HSN := Lib.hid fun W => show Calls Tryz.prog 14 #[.string p, .string s] W (fun e w' => e = .returned (.tuple #[.agg #[.int .i64 X.1, .bool neg, .string ⟨⟨X.2.1⟩⟩, .int .i64 X.2.2.1, .string ⟨⟨X.2.2.2.1⟩⟩, .int .i64 X.2.2.2.2], .bool true]) ∧ Below W.heap.size W w') from HSP.out W
        clear HSP
        go_enter Tryz.func6, Tryz.ntmps6
        go_wp2_with (first
          | (go_at_call 13; refine (HIP.out _).mono ?_; rintro e w2 ⟨rfl, hb2⟩)
          | (go_at_call 14; refine (HSN.out _).mono ?_; rintro e w3 ⟨rfl, hb3⟩; have hx := kept_nb2 hb2 hb3; obtain ⟨⟨y0, y1, y2, y3, y4, y5⟩, z0, z1, z2, z3, z4, z5⟩ := box_cells hx; have hlt3 := kept_lt hb2 hb3))
        refine ret6 (N := w.heap.size) (b := 0) (v0 := .int .i64 X.1) (v1 := .bool neg) (v2 := .string ⟨⟨X.2.1⟩⟩) (v3 := .int .i64 X.2.2.1) (v4 := .string ⟨⟨X.2.2.2.1⟩⟩) (v5 := .int .i64 X.2.2.2.2) (by kernel_rfl) (by kernel_rfl) ?_ (by simp [Value.oneCell']) ?_
        · exact at_alloc (put6_box hx _ _ _ _ _ _) _
        · exact ⟨rfl, (below_far ((nb_below hb2).trans (hb3.mono (Nat.le_of_lt (kept_lt1 hb2)))) _ _ _ _ _ _).alloc (by rw [put6_size]; exact Nat.le_of_lt hlt3) _⟩
end Go.Proofs.YtilnhkflgfajcaaGreatDoor
