/- What typeOf returns, whatever the text. Conditions: none. -/
import Derived.Test.YtfcglnmfcniojaaGreatDoorAa
import Derived.Test.YtfcglnmfcniojaaGreatDoorAe
import Derived.Deep.RegionHeld3
import Derived.Outline
import Derived.Lib.Hide
import Derived.BigQuiet
import Derived.Deep.QuietTactic
import Derived.Lib.AtoiErrMem
set_option linter.all false
namespace Go.Proofs.YtfcglnmfcniojaaGreatDoor
open Go.Eng Go.RowKit
set_option maxRecDepth 1000000

noncomputable def sq1 : Code → Code
  | .seq a _ => a
  | c => c
noncomputable def sq2 : Code → Code
  | .seq _ b => b
  | c => c
noncomputable abbrev bd44 : Code := Tryz.f44.body.getD .skip
noncomputable abbrev rg44 : Code := sq1 (sq2 (sq2 (sq2 (sq2 (sq2 (sq2 bd44))))))

/-- What holds while the last statement is carried out: the type's box, the result's box. -/
structure S44 (W : World) (B : Nat) (K n F : Int) (W1 : World) : Prop where
  c0 : W1.cell? ⟨B + 1, 0, none⟩ = some (.int .i64 K)
  c1 : W1.cell? ⟨B + 1, 1, none⟩ = some (.int .i64 n)
  c2 : W1.cell? ⟨B + 1, 2, none⟩ = some (.int .i64 F)
  r : ∃ x y z, W1.heap[B]? = some (.cells #[x, y, z] 36 (0, 0))
  g : Gl W1
  b : Below B W W1
theorem S44.step {W : World} {B : Nat} {K n F : Int} {W1 W2 : World} (h : S44 W B K n F W1) (hb : Below W1.heap.size W1 W2) : S44 W B K n F W2 := by
  obtain ⟨x, y, z, hr⟩ := h.r
  have hB : B < W1.heap.size := (Array.getElem?_eq_some_iff.1 hr).1
  have hB1 : B + 1 < W1.heap.size := World.block_lt_of_cell? W1 ⟨B + 1, 0, none⟩ h.c0
  exact ⟨(hb.cell (p := ⟨B + 1, 0, none⟩) hB1).trans h.c0, (hb.cell (p := ⟨B + 1, 1, none⟩) hB1).trans h.c1, (hb.cell (p := ⟨B + 1, 2, none⟩) hB1).trans h.c2, ⟨x, y, z, (hb.block B hB).trans hr⟩, h.g.since hb, h.b.trans (hb.mono (by omega))⟩
theorem S44.drew {W : World} {B : Nat} {K n F : Int} {W1 : World} (h : S44 W B K n F W1) : S44 W B K n F W1.drew := h.step (Below.refl _ _).drew
theorem S44.box {W : World} {B : Nat} {K n F : Int} {W1 : World} (h : S44 W B K n F W1) :
    ∃ x y z, (W1.cell? ⟨B, 0, none⟩ = some x ∧ W1.cell? ⟨B, 1, none⟩ = some y ∧ W1.cell? ⟨B, 2, none⟩ = some z) ∧ (W1.frozen? ⟨B, 0, none⟩ = false ∧ W1.frozen? ⟨B, 1, none⟩ = false ∧ W1.frozen? ⟨B, 2, none⟩ = false) := by
  obtain ⟨x, y, z, hr⟩ := h.r
  refine ⟨x, y, z, ⟨?_, ?_, ?_⟩, ?_, ?_, ?_⟩
  all_goals first
    | (simp only [World.cell?, hr]; rfl)
    | (simp only [World.frozen?, hr]; rfl)
abbrev put3 (W : World) (B : Nat) (K n F : Int) : World := ((W.setCell ⟨B, 0, none⟩ (.int .i64 K)).setCell ⟨B, 1, none⟩ (.int .i64 n)).setCell ⟨B, 2, none⟩ (.int .i64 F)
theorem put3_heap {W1 : World} {B : Nat} (K n F : Int) {x y z : Value} (hr : W1.heap[B]? = some (.cells #[x, y, z] 36 (0, 0))) : (put3 W1 B K n F).heap[B]? = some (.cells #[.int .i64 K, .int .i64 n, .int .i64 F] 36 (0, 0)) := by
  simp only [put3, World.setCell, Array.getElem?_modify, hr]
  rfl
theorem put3_below (W1 : World) (B : Nat) (K n F : Int) : Below B W1 (put3 W1 B K n F) :=
  (((Below.refl _ _).setCell (p := ⟨B, 0, none⟩) (Nat.le_refl _) _).setCell (p := ⟨B, 1, none⟩) (Nat.le_refl _) _).setCell (p := ⟨B, 2, none⟩) (Nat.le_refl _) _
theorem S44.put {W : World} {B : Nat} {K n F : Int} {W1 : World} (h : S44 W B K n F W1) (hB : 10 ≤ B) (K' n' F' : Int) : S44 W B K n F (put3 W1 B K' n' F') := by
  obtain ⟨x, y, z, hr⟩ := h.r
  have far : ∀ o, (put3 W1 B K' n' F').cell? ⟨B + 1, o, none⟩ = W1.cell? ⟨B + 1, o, none⟩ := fun o => by
    unfold put3
    rw [World.cell?_setCell_other _ _ _ _ (fun e => by cases e), World.cell?_setCell_other _ _ _ _ (fun e => by cases e), World.cell?_setCell_other _ _ _ _ (fun e => by cases e)]
  exact ⟨(far 0).trans h.c0, (far 1).trans h.c1, (far 2).trans h.c2, ⟨_, _, _, put3_heap K' n' F' hr⟩, h.g.below (put3_below W1 B K' n' F') hB, h.b.trans (put3_below W1 B K' n' F')⟩
theorem put3_cells {W : World} {B : Nat} {K n F : Int} {W1 : World} (h : S44 W B K n F W1) : (put3 W1 B K n F).cell? ⟨B, 0, none⟩ = some (.int .i64 K) ∧ (put3 W1 B K n F).cell? ⟨B, 1, none⟩ = some (.int .i64 n) ∧ (put3 W1 B K n F).cell? ⟨B, 2, none⟩ = some (.int .i64 F) := by
  obtain ⟨x, y, z, hr⟩ := h.r
  have e := put3_heap K n F hr
  refine ⟨?_, ?_, ?_⟩
  all_goals (simp only [World.cell?, e]; rfl)

set_option maxHeartbeats 4000000 in
theorem tail_no (s : ByteArray) (K n F : Int) (B : Nat) (W : World) (hS : S44 W B K n F W) (hB10 : 10 ≤ B) (hv : vT (K, n, F) = false) (x1 x5 x6 x7 x8 x9 x10 x11 x12 x13 x14 x15 x16 x17 x18 x19 x20 x21 x22 x23 x24 x25 x26 x27 x28 x29 x30 x31 x32 x33 x34 : Value) {KK : Act → World → Prop} {Q : Exit → Act → World → Prop}
    (hK : ∀ (a : Act) (W2 : World), a.tmps[2]? = some (.pointer (some ⟨B, 0, none⟩)) → a.tmps[3]? = some (.bool false) → a.defers = [] → (W2.cell? ⟨B, 0, none⟩ = some (.int .i64 K) ∧ W2.cell? ⟨B, 1, none⟩ = some (.int .i64 n) ∧ W2.cell? ⟨B, 2, none⟩ = some (.int .i64 F)) → Below B W W2 → KK a W2)
    (hQ : ∀ c (a : Act) d v w, Q (.panic c) (a.put d v) w → Q (.panic c) a w) :
    rg44.wp Tryz.prog (Exit.then KK Q) { tmps := #[.string s, x1, .pointer (some ⟨B, 0, none⟩), .bool false, .pointer (some ⟨B + 1, 0, none⟩), x5, x6, x7, x8, x9, x10, x11, x12, x13, x14, x15, x16, x17, x18, x19, x20, x21, x22, x23, x24, x25, x26, x27, x28, x29, x30, x31, x32, x33, x34, undef, undef, undef, undef, undef, undef, undef, undef, undef], defers := [] } W := by
  dsimp only [rg44, bd44, sq1, sq2, Tryz.f44, Option.getD]
  have HVAL : Hid (∀ W, Calls Tryz.prog 38 #[(.agg #[.int .i64 K, .int .i64 n, .int .i64 F])] W fun e w' => e = .returned (.bool false) ∧ Below W.heap.size W w') := Lib.hid fun W => by
    have := valid_any K n F W
    rw [hv] at this
    exact this
  refine wp_region_held_drew (S := S44 W B K n F) (by kernel_rfl) hS.drew (fun hHeld => ?_)
  refine wpAnyH_take (i := 0) (v := (.agg #[.int .i64 K, .int .i64 n, .int .i64 F])) rfl (by kernel_rfl) (by kernel_rfl) (by kernel_rfl) (fun c a w h => hQ c a _ _ w h) (Or.inl ⟨by rfl, fun wS hSw => ?_⟩) hHeld ?_
  · obtain ⟨g0, g1, g2, _, _, _⟩ := hSw
    first | rfl | (go_simp; done) | (go_simp; with_reducible rfl)
  try simp only [Act.put, List.getElem_toArray, List.getElem_cons_zero, List.getElem_cons_succ, List.setIfInBounds_toArray, List.set_cons_zero, List.set_cons_succ]
  refine wpAnyH_take (i := 1) (v := (.agg #[.int .i64 K, .int .i64 n, .int .i64 F])) rfl (by kernel_rfl) (by kernel_rfl) (by kernel_rfl) (fun c a w h => hQ c a _ _ w h) (Or.inl ⟨by rfl, fun wS hSw => ?_⟩) hHeld ?_
  · obtain ⟨g0, g1, g2, _, _, _⟩ := hSw
    first | rfl | (go_simp; done) | (go_simp; with_reducible rfl)
  try simp only [Act.put, List.getElem_toArray, List.getElem_cons_zero, List.getElem_cons_succ, List.setIfInBounds_toArray, List.set_cons_zero, List.set_cons_succ]
  refine wpAnyH_ready (rs := [2]) (by kernel_rfl) (by simp) ?_
  refine AllReadyH.cons rfl (fun KC hC => ?_) AllReadyH.nil
  go_simp
  go_at_call 38; refine (HVAL.out _).mono ?_; rintro e w6 ⟨rfl, hb6⟩
  refine hC.out _ _ (hHeld.step hb6) (fun hHeld => ?_)
  clear hC KC
  try simp only [Act.put, List.getElem_toArray, List.getElem_cons_zero, List.getElem_cons_succ, List.setIfInBounds_toArray, List.set_cons_zero, List.set_cons_succ]
  refine wpAnyH_take (i := 3) (v := (.bool false)) rfl (by kernel_rfl) (by kernel_rfl) (by kernel_rfl) (fun c a w h => hQ c a _ _ w h) (Or.inl ⟨by rfl, fun wS hSw => ?_⟩) hHeld ?_
  · obtain ⟨g0, g1, g2, _, _, _⟩ := hSw
    first | rfl | (go_simp; done) | (go_simp; with_reducible rfl)
  try simp only [Act.put, List.getElem_toArray, List.getElem_cons_zero, List.getElem_cons_succ, List.setIfInBounds_toArray, List.set_cons_zero, List.set_cons_succ]
  refine wpAnyH_take (i := 4) (v := undef) rfl (by kernel_rfl) (by kernel_rfl) (by kernel_rfl) (fun c a w h => hQ c a _ _ w h) (Or.inr ⟨by rfl, rfl⟩) hHeld ?_
  try simp only [Act.put, List.getElem_toArray, List.getElem_cons_zero, List.getElem_cons_succ, List.setIfInBounds_toArray, List.set_cons_zero, List.set_cons_succ]
  refine wpAnyH_take (i := 5) (v := undef) rfl (by kernel_rfl) (by kernel_rfl) (by kernel_rfl) (fun c a w h => hQ c a _ _ w h) (Or.inr ⟨by rfl, rfl⟩) hHeld ?_
  try simp only [Act.put, List.getElem_toArray, List.getElem_cons_zero, List.getElem_cons_succ, List.setIfInBounds_toArray, List.set_cons_zero, List.set_cons_succ]
  refine wpAnyH_take (i := 6) (v := undef) rfl (by kernel_rfl) (by kernel_rfl) (by kernel_rfl) (fun c a w h => hQ c a _ _ w h) (Or.inr ⟨by rfl, rfl⟩) hHeld ?_
  try simp only [Act.put, List.getElem_toArray, List.getElem_cons_zero, List.getElem_cons_succ, List.setIfInBounds_toArray, List.set_cons_zero, List.set_cons_succ]
  refine wpAnyH_take (i := 7) (v := undef) rfl (by kernel_rfl) (by kernel_rfl) (by kernel_rfl) (fun c a w h => hQ c a _ _ w h) (Or.inr ⟨by rfl, rfl⟩) hHeld ?_
  try simp only [Act.put, List.getElem_toArray, List.getElem_cons_zero, List.getElem_cons_succ, List.setIfInBounds_toArray, List.set_cons_zero, List.set_cons_succ]
  refine wpAnyH_take (i := 8) (v := (.bool false)) rfl (by kernel_rfl) (by kernel_rfl) (by kernel_rfl) (fun c a w h => hQ c a _ _ w h) (Or.inl ⟨by rfl, fun wS hSw => ?_⟩) hHeld ?_
  · obtain ⟨g0, g1, g2, _, _, _⟩ := hSw
    first | rfl | (go_simp; done) | (go_simp; with_reducible rfl)
  try simp only [Act.put, List.getElem_toArray, List.getElem_cons_zero, List.getElem_cons_succ, List.setIfInBounds_toArray, List.set_cons_zero, List.set_cons_succ]
  refine wpAnyH_ready (rs := [9]) (by kernel_rfl) (by simp) ?_
  refine AllReadyH.cons rfl (fun KC hC => ?_) AllReadyH.nil
  have hST := hHeld
  obtain ⟨y0, y1, y2, ⟨r0, r1, r2⟩, r3, r4, r5⟩ := hHeld.box
  go_simp
  refine hC.out _ _ (hHeld.put hB10 K n F) (fun hHeld => ?_)
  clear hC KC
  try simp only [Act.put, List.getElem_toArray, List.getElem_cons_zero, List.getElem_cons_succ, List.setIfInBounds_toArray, List.set_cons_zero, List.set_cons_succ]
  refine wpAnyH_take (i := 10) (v := (.bool false)) rfl (by kernel_rfl) (by kernel_rfl) (by kernel_rfl) (fun c a w h => hQ c a _ _ w h) (Or.inl ⟨by rfl, fun wS hSw => ?_⟩) hHeld ?_
  · obtain ⟨g0, g1, g2, _, _, _⟩ := hSw
    first | rfl | (go_simp; done) | (go_simp; with_reducible rfl)
  try simp only [Act.put, List.getElem_toArray, List.getElem_cons_zero, List.getElem_cons_succ, List.setIfInBounds_toArray, List.set_cons_zero, List.set_cons_succ]
  refine wpAnyH_done (by kernel_rfl) ?_ _
  exact hK _ _ rfl rfl rfl (put3_cells hST) hHeld.b

set_option maxHeartbeats 4000000 in
theorem tail_yes (s : ByteArray) (K n F : Int) (B : Nat) (W : World) (hS : S44 W B K n F W) (hB10 : 10 ≤ B) (hv : vT (K, n, F) = true) (x1 x5 x6 x7 x8 x9 x10 x11 x12 x13 x14 x15 x16 x17 x18 x19 x20 x21 x22 x23 x24 x25 x26 x27 x28 x29 x30 x31 x32 x33 x34 : Value) {KK : Act → World → Prop} {Q : Exit → Act → World → Prop}
    (hK : ∀ (a : Act) (W2 : World), a.tmps[2]? = some (.pointer (some ⟨B, 0, none⟩)) → a.tmps[3]? = some (.bool (tx (K, n, F) == s.toList)) → a.defers = [] → (W2.cell? ⟨B, 0, none⟩ = some (.int .i64 K) ∧ W2.cell? ⟨B, 1, none⟩ = some (.int .i64 n) ∧ W2.cell? ⟨B, 2, none⟩ = some (.int .i64 F)) → Below B W W2 → KK a W2)
    (hQ : ∀ c (a : Act) d v w, Q (.panic c) (a.put d v) w → Q (.panic c) a w) :
    rg44.wp Tryz.prog (Exit.then KK Q) { tmps := #[.string s, x1, .pointer (some ⟨B, 0, none⟩), .bool false, .pointer (some ⟨B + 1, 0, none⟩), x5, x6, x7, x8, x9, x10, x11, x12, x13, x14, x15, x16, x17, x18, x19, x20, x21, x22, x23, x24, x25, x26, x27, x28, x29, x30, x31, x32, x33, x34, undef, undef, undef, undef, undef, undef, undef, undef, undef], defers := [] } W := by
  dsimp only [rg44, bd44, sq1, sq2, Tryz.f44, Option.getD]
  have HVAL : Hid (∀ W, Calls Tryz.prog 38 #[(.agg #[.int .i64 K, .int .i64 n, .int .i64 F])] W fun e w' => e = .returned (.bool true) ∧ Below W.heap.size W w') := Lib.hid fun W => by
    have := valid_any K n F W
    rw [hv] at this
    exact this
  have HTXT : Hid (∀ W, Gl W → Calls Tryz.prog 39 #[(.agg #[.int .i64 K, .int .i64 n, .int .i64 F])] W fun e w' => e = .returned (.string ⟨⟨tx (K, n, F)⟩⟩) ∧ Below W.heap.size W w') := Lib.hid fun W hg => text_any (K, n, F) hv W hg
  refine wp_region_held_drew (S := S44 W B K n F) (by kernel_rfl) hS.drew (fun hHeld => ?_)
  refine wpAnyH_take (i := 0) (v := (.agg #[.int .i64 K, .int .i64 n, .int .i64 F])) rfl (by kernel_rfl) (by kernel_rfl) (by kernel_rfl) (fun c a w h => hQ c a _ _ w h) (Or.inl ⟨by rfl, fun wS hSw => ?_⟩) hHeld ?_
  · obtain ⟨g0, g1, g2, _, _, _⟩ := hSw
    first | rfl | (go_simp; done) | (go_simp; with_reducible rfl)
  try simp only [Act.put, List.getElem_toArray, List.getElem_cons_zero, List.getElem_cons_succ, List.setIfInBounds_toArray, List.set_cons_zero, List.set_cons_succ]
  refine wpAnyH_take (i := 1) (v := (.agg #[.int .i64 K, .int .i64 n, .int .i64 F])) rfl (by kernel_rfl) (by kernel_rfl) (by kernel_rfl) (fun c a w h => hQ c a _ _ w h) (Or.inl ⟨by rfl, fun wS hSw => ?_⟩) hHeld ?_
  · obtain ⟨g0, g1, g2, _, _, _⟩ := hSw
    first | rfl | (go_simp; done) | (go_simp; with_reducible rfl)
  try simp only [Act.put, List.getElem_toArray, List.getElem_cons_zero, List.getElem_cons_succ, List.setIfInBounds_toArray, List.set_cons_zero, List.set_cons_succ]
  refine wpAnyH_ready (rs := [2]) (by kernel_rfl) (by simp) ?_
  refine AllReadyH.cons rfl (fun KC hC => ?_) AllReadyH.nil
  go_simp
  go_at_call 38; refine (HVAL.out _).mono ?_; rintro e w6 ⟨rfl, hb6⟩
  refine hC.out _ _ (hHeld.step hb6) (fun hHeld => ?_)
  clear hC KC
  try simp only [Act.put, List.getElem_toArray, List.getElem_cons_zero, List.getElem_cons_succ, List.setIfInBounds_toArray, List.set_cons_zero, List.set_cons_succ]
  refine wpAnyH_take (i := 3) (v := (.bool true)) rfl (by kernel_rfl) (by kernel_rfl) (by kernel_rfl) (fun c a w h => hQ c a _ _ w h) (Or.inl ⟨by rfl, fun wS hSw => ?_⟩) hHeld ?_
  · obtain ⟨g0, g1, g2, _, _, _⟩ := hSw
    first | rfl | (go_simp; done) | (go_simp; with_reducible rfl)
  try simp only [Act.put, List.getElem_toArray, List.getElem_cons_zero, List.getElem_cons_succ, List.setIfInBounds_toArray, List.set_cons_zero, List.set_cons_succ]
  refine wpAnyH_take (i := 4) (v := (.agg #[.int .i64 K, .int .i64 n, .int .i64 F])) rfl (by kernel_rfl) (by kernel_rfl) (by kernel_rfl) (fun c a w h => hQ c a _ _ w h) (Or.inl ⟨by rfl, fun wS hSw => ?_⟩) hHeld ?_
  · obtain ⟨g0, g1, g2, _, _, _⟩ := hSw
    first | rfl | (go_simp; done) | (go_simp; with_reducible rfl)
  try simp only [Act.put, List.getElem_toArray, List.getElem_cons_zero, List.getElem_cons_succ, List.setIfInBounds_toArray, List.set_cons_zero, List.set_cons_succ]
  refine wpAnyH_take (i := 6) (v := (.string s)) rfl (by kernel_rfl) (by kernel_rfl) (by kernel_rfl) (fun c a w h => hQ c a _ _ w h) (Or.inl ⟨by rfl, fun wS hSw => ?_⟩) hHeld ?_
  · obtain ⟨g0, g1, g2, _, _, _⟩ := hSw
    first | rfl | (go_simp; done) | (go_simp; with_reducible rfl)
  try simp only [Act.put, List.getElem_toArray, List.getElem_cons_zero, List.getElem_cons_succ, List.setIfInBounds_toArray, List.set_cons_zero, List.set_cons_succ]
  refine wpAnyH_ready (rs := [5]) (by kernel_rfl) (by simp) ?_
  refine AllReadyH.cons rfl (fun KC hC => ?_) AllReadyH.nil
  go_simp
  go_at_call 39; refine (HTXT.out _ hHeld.g).mono ?_; rintro e w7 ⟨rfl, hb7⟩
  refine hC.out _ _ (hHeld.step hb7) (fun hHeld => ?_)
  clear hC KC
  try simp only [Act.put, List.getElem_toArray, List.getElem_cons_zero, List.getElem_cons_succ, List.setIfInBounds_toArray, List.set_cons_zero, List.set_cons_succ]
  refine wpAnyH_take (i := 7) (v := (.bool (tx (K, n, F) == s.toList))) rfl (by kernel_rfl) (by kernel_rfl) (by kernel_rfl) (fun c a w h => hQ c a _ _ w h) (Or.inl ⟨by rfl, fun wS hSw => ?_⟩) hHeld ?_
  · obtain ⟨g0, g1, g2, _, _, _⟩ := hSw
    first | rfl | (go_simp; done) | (go_simp; with_reducible rfl)
  try simp only [Act.put, List.getElem_toArray, List.getElem_cons_zero, List.getElem_cons_succ, List.setIfInBounds_toArray, List.set_cons_zero, List.set_cons_succ]
  refine wpAnyH_take (i := 8) (v := (.bool (tx (K, n, F) == s.toList))) rfl (by kernel_rfl) (by kernel_rfl) (by kernel_rfl) (fun c a w h => hQ c a _ _ w h) (Or.inl ⟨by rfl, fun wS hSw => ?_⟩) hHeld ?_
  · obtain ⟨g0, g1, g2, _, _, _⟩ := hSw
    first | rfl | (go_simp; done) | (go_simp; with_reducible rfl)
  try simp only [Act.put, List.getElem_toArray, List.getElem_cons_zero, List.getElem_cons_succ, List.setIfInBounds_toArray, List.set_cons_zero, List.set_cons_succ]
  refine wpAnyH_ready (rs := [9]) (by kernel_rfl) (by simp) ?_
  refine AllReadyH.cons rfl (fun KC hC => ?_) AllReadyH.nil
  have hST := hHeld
  obtain ⟨y0, y1, y2, ⟨r0, r1, r2⟩, r3, r4, r5⟩ := hHeld.box
  go_simp
  refine hC.out _ _ (hHeld.put hB10 K n F) (fun hHeld => ?_)
  clear hC KC
  try simp only [Act.put, List.getElem_toArray, List.getElem_cons_zero, List.getElem_cons_succ, List.setIfInBounds_toArray, List.set_cons_zero, List.set_cons_succ]
  refine wpAnyH_take (i := 10) (v := (.bool (tx (K, n, F) == s.toList))) rfl (by kernel_rfl) (by kernel_rfl) (by kernel_rfl) (fun c a w h => hQ c a _ _ w h) (Or.inl ⟨by rfl, fun wS hSw => ?_⟩) hHeld ?_
  · obtain ⟨g0, g1, g2, _, _, _⟩ := hSw
    first | rfl | (go_simp; done) | (go_simp; with_reducible rfl)
  try simp only [Act.put, List.getElem_toArray, List.getElem_cons_zero, List.getElem_cons_succ, List.setIfInBounds_toArray, List.set_cons_zero, List.set_cons_succ]
  refine wpAnyH_done (by kernel_rfl) ?_ _
  exact hK _ _ rfl rfl rfl (put3_cells hST) hHeld.b
end Go.Proofs.YtfcglnmfcniojaaGreatDoor

namespace Go.Proofs.YtfcglnmfcniojaaGreatDoor
open Go.Eng Go.RowKit
set_option maxRecDepth 1000000

theorem ret44 {R : Ending → World → Prop} {a : Act} {W : World} {B : Nat} {K n F : Int} {r : Bool} (h2 : a.tmps[2]? = some (.pointer (some ⟨B, 0, none⟩))) (h3 : a.tmps[3]? = some (.bool r)) (hd : a.defers = [])
    (hc : W.cell? ⟨B, 0, none⟩ = some (.int .i64 K) ∧ W.cell? ⟨B, 1, none⟩ = some (.int .i64 n) ∧ W.cell? ⟨B, 2, none⟩ = some (.int .i64 F)) (hR : R (.returned (.tuple #[.agg #[.int .i64 K, .int .i64 n, .int .i64 F], .bool r])) W) : bodyPost Tryz.prog Tryz.f44 R .ret a W := by
  obtain ⟨c0, c1, c2⟩ := hc
  refine ⟨hd, _, ?_, hR⟩
  simp [results, Tryz.results44, go_sem, h2, h3, c0, c1, c2]

theorem typeOf_empty (w : World) : Calls Tryz.prog 44 #[.string ⟨#[]⟩] w fun e w' => e = .returned (.tuple #[.agg #[.int .i64 0, .int .i64 0, .int .i64 0], .bool false]) ∧ Below w.heap.size w w' := by
  go_enter Tryz.func44, Tryz.ntmps44
  go_wp2
  exact ret44 (B := w.heap.size) rfl rfl rfl ⟨by rw [World.cell?_alloc_at _ _ _ _ rfl]; rfl, by rw [World.cell?_alloc_at _ _ _ _ rfl]; rfl, by rw [World.cell?_alloc_at _ _ _ _ rfl]; rfl⟩ ⟨rfl, (Below.refl _ _).alloc (Nat.le_refl _) _⟩

/-- The two boxes, as they are laid. -/
theorem s44_of {w : World} (hg : Gl w) (K n F : Int) : S44 w w.heap.size K n F ((w.alloc (.cells #[.int .i64 0, .int .i64 0, .int .i64 0] 36)).alloc (.cells #[.int .i64 K, .int .i64 n, .int .i64 F] 36)) := by
  have h1 : (w.alloc (.cells #[.int .i64 0, .int .i64 0, .int .i64 0] 36)).heap.size = w.heap.size + 1 := by show (w.heap.push _).size = _; rw [Array.size_push]
  have hb : Below w.heap.size w ((w.alloc (.cells #[.int .i64 0, .int .i64 0, .int .i64 0] 36)).alloc (.cells #[.int .i64 K, .int .i64 n, .int .i64 F] 36)) := ((Below.refl _ _).alloc (Nat.le_refl _) _).alloc (by rw [h1]; omega) _
  refine ⟨?_, ?_, ?_, ⟨.int .i64 0, .int .i64 0, .int .i64 0, ?_⟩, hg.since hb, hb⟩
  · rw [World.cell?_alloc_at _ _ _ _ h1.symm]; rfl
  · rw [World.cell?_alloc_at _ _ _ _ h1.symm]; rfl
  · rw [World.cell?_alloc_at _ _ _ _ h1.symm]; rfl
  · show ((w.heap.push _).push _)[w.heap.size]? = _
    rw [Array.getElem?_push, if_neg (by rw [Array.size_push]; omega), Array.getElem?_push, if_pos rfl]
theorem S44.set1 {W : World} {B : Nat} {K n F : Int} {W1 : World} (h : S44 W B K n F W1) (hB : 10 ≤ B) (n' : Int) : S44 W B K n' F (W1.setCell ⟨B + 1, 1, none⟩ (.int .i64 n')) := by
  obtain ⟨x, y, z, hr⟩ := h.r
  have hb : Below B W1 (W1.setCell ⟨B + 1, 1, none⟩ (.int .i64 n')) := (Below.refl _ _).setCell (p := ⟨B + 1, 1, none⟩) (by simp) _
  refine ⟨(World.cell?_setCell_other _ _ _ _ (fun e => by cases e)).trans h.c0, World.cell?_setCell_same' _ _ _ (by rw [h.c1]; rfl), (World.cell?_setCell_other _ _ _ _ (fun e => by cases e)).trans h.c2, ⟨x, y, z, ?_⟩, h.g.below hb hB, h.b.trans hb⟩
  show (W1.heap.modify (B + 1) _)[B]? = _
  rw [Array.getElem?_modify, if_neg (by omega)]
  exact hr
theorem S44.set2 {W : World} {B : Nat} {K n F : Int} {W1 : World} (h : S44 W B K n F W1) (hB : 10 ≤ B) (n' : Int) : S44 W B K n n' (W1.setCell ⟨B + 1, 2, none⟩ (.int .i64 n')) := by
  obtain ⟨x, y, z, hr⟩ := h.r
  have hb : Below B W1 (W1.setCell ⟨B + 1, 2, none⟩ (.int .i64 n')) := (Below.refl _ _).setCell (p := ⟨B + 1, 2, none⟩) (by simp) _
  refine ⟨(World.cell?_setCell_other _ _ _ _ (fun e => by cases e)).trans h.c0, (World.cell?_setCell_other _ _ _ _ (fun e => by cases e)).trans h.c1, World.cell?_setCell_same' _ _ _ (by rw [h.c2]; rfl), ⟨x, y, z, ?_⟩, h.g.below hb hB, h.b.trans hb⟩
  show (W1.heap.modify (B + 1) _)[B]? = _
  rw [Array.getElem?_modify, if_neg (by omega)]
  exact hr

theorem tail_any (s : ByteArray) (K n F : Int) (B : Nat) (W0 W : World) (hS : S44 W0 B K n F W) (hB10 : 10 ≤ B) (x1 x5 x6 x7 x8 x9 x10 x11 x12 x13 x14 x15 x16 x17 x18 x19 x20 x21 x22 x23 x24 x25 x26 x27 x28 x29 x30 x31 x32 x33 x34 : Value) {KK : Act → World → Prop} {Q : Exit → Act → World → Prop}
    (hK : ∀ (a : Act) (W2 : World), a.tmps[2]? = some (.pointer (some ⟨B, 0, none⟩)) → a.tmps[3]? = some (.bool (vT (K, n, F) && (tx (K, n, F) == s.data.toList))) → a.defers = [] → (W2.cell? ⟨B, 0, none⟩ = some (.int .i64 K) ∧ W2.cell? ⟨B, 1, none⟩ = some (.int .i64 n) ∧ W2.cell? ⟨B, 2, none⟩ = some (.int .i64 F)) → Below B W0 W2 → KK a W2)
    (hQ : ∀ c (a : Act) d v w, Q (.panic c) (a.put d v) w → Q (.panic c) a w) :
    rg44.wp Tryz.prog (Exit.then KK Q) { tmps := #[.string s, x1, .pointer (some ⟨B, 0, none⟩), .bool false, .pointer (some ⟨B + 1, 0, none⟩), x5, x6, x7, x8, x9, x10, x11, x12, x13, x14, x15, x16, x17, x18, x19, x20, x21, x22, x23, x24, x25, x26, x27, x28, x29, x30, x31, x32, x33, x34, undef, undef, undef, undef, undef, undef, undef, undef, undef], defers := [] } W := by
  have hSW : S44 W B K n F W := ⟨hS.c0, hS.c1, hS.c2, hS.r, hS.g, Below.refl _ _⟩
  cases hv : vT (K, n, F) with
  | false => exact tail_no s K n F B W hSW hB10 hv x1 x5 x6 x7 x8 x9 x10 x11 x12 x13 x14 x15 x16 x17 x18 x19 x20 x21 x22 x23 x24 x25 x26 x27 x28 x29 x30 x31 x32 x33 x34 (fun a W2 h1 h2 h3 h4 h5 => hK a W2 h1 (by rw [h2, hv]; rfl) h3 h4 (hS.b.trans h5)) hQ
  | true => exact tail_yes s K n F B W hSW hB10 hv x1 x5 x6 x7 x8 x9 x10 x11 x12 x13 x14 x15 x16 x17 x18 x19 x20 x21 x22 x23 x24 x25 x26 x27 x28 x29 x30 x31 x32 x33 x34 (fun a W2 h1 h2 h3 h4 h5 => hK a W2 h1 (by rw [h2, hv, Bool.true_and, Lib.toList_data]) h3 h4 (hS.b.trans h5)) hQ
end Go.Proofs.YtfcglnmfcniojaaGreatDoor

namespace Go.Proofs.YtfcglnmfcniojaaGreatDoor
open Go.Eng Go.RowKit
set_option maxRecDepth 1000000

theorem head_at {s : ByteArray} (h0 : 0 < s.size) : s.data.toList.headD 0 = s[0] := by
  obtain ⟨⟨l⟩⟩ := s
  cases l with
  | nil => exact absurd h0 (Nat.lt_irrefl 0)
  | cons a l => rfl
theorem empty_no {s : ByteArray} (h0 : 0 < s.size) : s.toList.isEmpty = false := by
  rw [Lib.toList_data]
  obtain ⟨⟨l⟩⟩ := s
  cases l with
  | nil => exact absurd h0 (Nat.lt_irrefl 0)
  | cons a l => rfl
theorem index_le : ∀ (l : List UInt8) (c : UInt8), Lib.indexByte l c ≤ l.length
  | [], c => by simp [Lib.indexByte]
  | b :: l, c => by
    have ih := index_le l c
    unfold Lib.indexByte
    simp only [List.length_cons]
    split
    · omega
    · split <;> omega
theorem kind_wrap (l : List UInt8) : wrap64 (1 + (kindOf l - 1)) = kindOf l := by
  have h1 := kindOf_le l
  have h2 := index_le lettersL (l.headD 0)
  have h3 : kindOf l ≤ 8 := by unfold kindOf; simp [lettersL] at h2 ⊢; omega
  unfold wrap64
  omega
theorem kind_call {s : ByteArray} (h0 : 0 < s.size) (w : World) : Calls Tryz.prog 80 #[.string ⟨#[105, 114, 115, 119, 99, 112, 110]⟩, .int .u8 s[0].toNat] w fun e w' => e = .returned (.int .i64 (kindOf s.data.toList - 1)) ∧ w' = w := by
  refine (Tryz.strings_IndexByte ⟨#[105, 114, 115, 119, 99, 112, 110]⟩ s[0].toNat w).mono ?_
  rintro e w' ⟨rfl, rfl⟩
  refine ⟨?_, rfl⟩
  have e1 : ((s[0].toNat : Int).toNat).toUInt8 = s[0] := by simp
  rw [e1]
  have e2 : Lib.indexByte lettersL s[0] = kindOf s.data.toList - (1 : Int) := by
    unfold kindOf
    rw [head_at h0]
    omega
  exact congrArg (fun z => Ending.returned (Value.int .i64 z)) e2

set_option maxHeartbeats 4000000 in
theorem typeOf_plain (s : ByteArray) (h0 : 0 < s.size) (hs : s.size = 1 ∨ 3 < s.size) (w : World) (hg : Gl w) :
    Calls Tryz.prog 44 #[.string s] w fun e w' => e = .returned (.tuple #[tyV (tOf s.data.toList), .bool (okOf s.data.toList)]) ∧ Below w.heap.size w w' := by
  have HI : Hid (∀ w, Calls Tryz.prog 80 #[.string ⟨#[105, 114, 115, 119, 99, 112, 110]⟩, .int .u8 s[0].toNat] w fun e w' => e = .returned (.int .i64 (kindOf s.data.toList - 1)) ∧ w' = w) := Lib.hid fun w => kind_call h0 w
  have hlen : s.data.toList.length = s.size := by rw [Array.length_toList]; rfl
  have hn : numOf s.data.toList = 0 := by
    unfold numOf
    rw [if_neg (by omega)]
  have h1 : (0 : Int) < (s.size : Int) := by omega
  have HT : Aside (tOf s.data.toList = if kindOf s.data.toList = 2 then (2, 0, 0) else (kindOf s.data.toList, 0, 0)) := by rw [tOf, hn]; exact rfl
  have hw := kind_wrap s.data.toList
  have HO : Aside (okOf s.data.toList = (vT (tOf s.data.toList) && (tx (tOf s.data.toList) == s.data.toList))) := rfl
  have hne : s.toList.isEmpty = false := empty_no h0
  clear hn hlen
  generalize tOf s.data.toList = T at HT HO
  generalize okOf s.data.toList = r at HO
  rcases hs with hs | hs
  · go_enter Tryz.func44, Tryz.ntmps44
    go_wp2_with (go_at_call 80; refine (HI.out _).mono ?_; rintro e w' ⟨rfl, rfl⟩)
    all_goals
      rename_i hc KK hKK
      refine tail_any s (kindOf s.data.toList) 0 0 w.heap.size w _ (s44_of hg _ _ _) hg.sz _ _ _ _ _ _ _ _ _ _ _ _ _ _ _ _ _ _ _ _ _ _ _ _ _ _ _ _ _ _ _ (KK := KK) (fun a W2 h1 h2 h3 h4 h5 => hKK _ _ ?_) (fun _ _ d _ _ h => by cases d <;> exact h)
      have e : T = (kindOf s.data.toList, 0, 0) := by
        rw [HT.out]
        split
        · rename_i h; rw [h]
        · rfl
      go_wp2
      exact ret44 h1 h2 h3 h4 ⟨by rw [HO.out, e], h5⟩
  · have h3 : ¬ (s.size : Int) ≤ 3 := by omega
    have h4 : (1 : Int) < (s.size : Int) := by omega
    go_enter Tryz.func44, Tryz.ntmps44
    go_wp2_with (go_at_call 80; refine (HI.out _).mono ?_; rintro e w' ⟨rfl, rfl⟩)
    all_goals
      rename_i hc KK hKK
      refine tail_any s (kindOf s.data.toList) 0 0 w.heap.size w _ (s44_of hg _ _ _) hg.sz _ _ _ _ _ _ _ _ _ _ _ _ _ _ _ _ _ _ _ _ _ _ _ _ _ _ _ _ _ _ _ (KK := KK) (fun a W2 h1 h2 h3 h4 h5 => hKK _ _ ?_) (fun _ _ d _ _ h => by cases d <;> exact h)
      have e : T = (kindOf s.data.toList, 0, 0) := by
        rw [HT.out]
        split
        · rename_i h; rw [h]
        · rfl
      go_wp2
      exact ret44 h1 h2 h3 h4 ⟨by rw [HO.out, e], h5⟩
end Go.Proofs.YtfcglnmfcniojaaGreatDoor

namespace Go.Proofs.YtfcglnmfcniojaaGreatDoor
open Go.Eng Go.RowKit
set_option maxRecDepth 1000000

theorem atoi_call (s sub : ByteArray) (h2 : 2 ≤ s.size) (h3 : s.size ≤ 3) (hsub : sub.data.toList = s.data.toList.drop 1) (w : World) (hg : Gl w) :
    Calls Tryz.prog 81 #[.string sub] w fun e w' => (∃ ev, e = .returned (.tuple #[.int .i64 (numOf s.data.toList), ev])) ∧ Below w.heap.size w w' := by
  have hlen : s.data.toList.length = s.size := by rw [Array.length_toList]; rfl
  have hl : sub.size ≤ 18 := by
    have h : sub.data.toList.length = sub.size := by rw [Array.length_toList]; rfl
    rw [hsub, List.length_drop] at h
    omega
  have hn : numOf s.data.toList = (Lib.atoi sub.data.toList).getD 0 := by
    unfold numOf
    rw [if_pos (by omega), hsub]
  rw [hn]
  cases ha : Lib.atoi sub.data.toList with
  | some v =>
    refine (Tryz.strconv_Atoi sub v hl ha w).mono ?_
    rintro e w' ⟨rfl, t, rfl⟩
    exact ⟨⟨_, rfl⟩, Lib.bytesWorld_below w 5 t⟩
  | none =>
    obtain ⟨ev, h1, h2⟩ := hg.g2
    refine (Tryz.strconv_Atoi_err sub hl ha ev w h1 h2).mono ?_
    rintro e w' ⟨N, rfl, _, _, hb⟩
    exact ⟨⟨_, rfl⟩, hb⟩

/-- The type's box is no frozen one. -/
theorem fz_of {w w2 : World} {K n F : Int} (h : Below ((w.alloc (.cells #[.int .i64 0, .int .i64 0, .int .i64 0] 36)).alloc (.cells #[.int .i64 K, .int .i64 n, .int .i64 F] 36)).heap.size ((w.alloc (.cells #[.int .i64 0, .int .i64 0, .int .i64 0] 36)).alloc (.cells #[.int .i64 K, .int .i64 n, .int .i64 F] 36)) w2) :
    ∀ o, w2.frozen? ⟨w.heap.size + 1, o, none⟩ = false := by
  intro o
  have e : ((w.heap.push (.cells #[.int .i64 0, .int .i64 0, .int .i64 0] 36)).push (Obj.cells #[.int .i64 K, .int .i64 n, .int .i64 F] 36))[w.heap.size + 1]? = some (Obj.cells #[.int .i64 K, .int .i64 n, .int .i64 F] 36) := by
    rw [Array.getElem?_push, if_pos (by rw [Array.size_push])]
  have e2 : w2.heap[w.heap.size + 1]? = some (Obj.cells #[.int .i64 K, .int .i64 n, .int .i64 F] 36) := (h.block (w.heap.size + 1) (by show _ < ((w.heap.push _).push _).size; rw [Array.size_push, Array.size_push]; omega)).trans e
  simp only [World.frozen?, e2]
  simp

set_option maxHeartbeats 4000000 in
theorem typeOf_num (s : ByteArray) (h2 : 2 ≤ s.size) (h3 : s.size ≤ 3) (w : World) (hg : Gl w) :
    Calls Tryz.prog 44 #[.string s] w fun e w' => e = .returned (.tuple #[tyV (tOf s.data.toList), .bool (okOf s.data.toList)]) ∧ Below w.heap.size w w' := by
  have h0 : 0 < s.size := by omega
  have HI : Hid (∀ w, Calls Tryz.prog 80 #[.string ⟨#[105, 114, 115, 119, 99, 112, 110]⟩, .int .u8 s[0].toNat] w fun e w' => e = .returned (.int .i64 (kindOf s.data.toList - 1)) ∧ w' = w) := Lib.hid fun w => kind_call h0 w
  have h1 : (0 : Int) < (s.size : Int) := by omega
  have HA : Hid (∀ W sub, sub.data.toList = s.data.toList.drop 1 → Gl W → Calls Tryz.prog 81 #[.string sub] W fun e w' => (∃ ev, e = .returned (.tuple #[.int .i64 (numOf s.data.toList), ev])) ∧ Below W.heap.size W w') := Lib.hid fun W sub hs hg => atoi_call s sub h2 h3 hs W hg
  have HT : Aside (tOf s.data.toList = if kindOf s.data.toList = 2 then (2, 0, numOf s.data.toList) else (kindOf s.data.toList, numOf s.data.toList, 0)) := rfl
  have hw := kind_wrap s.data.toList
  have HO : Aside (okOf s.data.toList = (vT (tOf s.data.toList) && (tx (tOf s.data.toList) == s.data.toList))) := rfl
  have hne : s.toList.isEmpty = false := empty_no h0
  have g3 : (s.size : Int) ≤ 3 := by omega
  have g4 : (1 : Int) < (s.size : Int) := by omega
  generalize tOf s.data.toList = T at HT HO
  generalize okOf s.data.toList = r at HO
  generalize numOf s.data.toList = n at HA HT
  go_enter Tryz.func44, Tryz.ntmps44
  go_wp2_with (first
    | (go_at_call 80; refine (HI.out _).mono ?_; rintro e w' ⟨rfl, rfl⟩)
    | (go_at_call 81; refine (HA.out _ _ (Lib.extract_to_end _ _) ((s44_of hg _ _ _).g)).mono ?_; rintro e w3 ⟨⟨ev, rfl⟩, hb3⟩; have hS3 := (s44_of hg (kindOf s.data.toList) 0 0).step hb3; have c0 := hS3.c0; have c1 := hS3.c1; have c2 := hS3.c2; have f1 := fz_of hb3 1; have f2 := fz_of hb3 2))
  · rename_i hc KK hKK
    refine tail_any s (kindOf s.data.toList) 0 n w.heap.size w _ (hS3.set2 hg.sz n) hg.sz _ _ _ _ _ _ _ _ _ _ _ _ _ _ _ _ _ _ _ _ _ _ _ _ _ _ _ _ _ _ _ (KK := KK) (fun a W2 h1 h2 h3 h4 h5 => hKK _ _ ?_) (fun _ _ d _ _ h => by cases d <;> exact h)
    have e : T = (kindOf s.data.toList, 0, n) := by
      have hk : kindOf s.data.toList = 2 := by simpa using hc
      rw [HT.out, if_pos hk, hk]
    go_wp2
    exact ret44 h1 h2 h3 h4 ⟨by rw [HO.out, e], h5⟩
  · rename_i hc KK hKK
    refine tail_any s (kindOf s.data.toList) n 0 w.heap.size w _ (hS3.set1 hg.sz n) hg.sz _ _ _ _ _ _ _ _ _ _ _ _ _ _ _ _ _ _ _ _ _ _ _ _ _ _ _ _ _ _ _ (KK := KK) (fun a W2 h1 h2 h3 h4 h5 => hKK _ _ ?_) (fun _ _ d _ _ h => by cases d <;> exact h)
    have e : T = (kindOf s.data.toList, n, 0) := by
      have hk : kindOf s.data.toList ≠ 2 := by simpa using hc
      rw [HT.out, if_neg hk]
    go_wp2
    exact ret44 h1 h2 h3 h4 ⟨by rw [HO.out, e], h5⟩

/-- What typeOf returns: a type, and whether it is one with that text. -/
theorem typeOf_val (s : ByteArray) (w : World) (hg : Gl w) :
    Calls Tryz.prog 44 #[.string s] w fun e w' => (∃ t ok, e = .returned (.tuple #[tyV t, .bool ok]) ∧ ty s.data.toList = if ok then some t else none) ∧ Below w.heap.size w w' := by
  have hlen : s.data.toList.length = s.size := by rw [Array.length_toList]; rfl
  rcases Nat.eq_zero_or_pos s.size with h0 | h0
  · have e : s = ⟨#[]⟩ := by
      obtain ⟨⟨l⟩⟩ := s
      cases l with
      | nil => rfl
      | cons a l => cases h0
    subst e
    refine (typeOf_empty w).mono ?_
    rintro e w' ⟨rfl, hb⟩
    exact ⟨⟨(0, 0, 0), false, rfl, rfl⟩, hb⟩
  · have key : Calls Tryz.prog 44 #[.string s] w fun e w' => e = .returned (.tuple #[tyV (tOf s.data.toList), .bool (okOf s.data.toList)]) ∧ Below w.heap.size w w' := by
      by_cases h : 2 ≤ s.size ∧ s.size ≤ 3
      · exact typeOf_num s h.1 h.2 w hg
      · exact typeOf_plain s h0 (by omega) w hg
    refine key.mono ?_
    rintro e w' ⟨rfl, hb⟩
    exact ⟨⟨_, _, rfl, ty_tOf _⟩, hb⟩
end Go.Proofs.YtfcglnmfcniojaaGreatDoor
