/- The law, first cases. Conditions: none. -/
import Derived.Test.YtblklgcpobbfcaaGreatDoorPd
import Derived.Laws.BytesArg
import Derived.Shelf.RegionOpenPlain
set_option linter.all false
namespace Go.Proofs.YtblklgcpobbfcaaGreatDoor
open Go.Eng Go.RowKit
set_option maxRecDepth 1000000

/-- A value that is a slice of these bytes, or nil where there is none. -/
def BytesOf (w : World) (v : Value) (ns : List Int) : Prop := BytesAt w v ns ∨ (v = .slice none 0 0 ∧ ns = [])

theorem bytesOf_owned {w : World} {base : Nat} {v : Value} {ns : List Int} (h : w.ownsRow base 5 1 v ns.length (ns.map (Value.int .u8))) : BytesOf w v ns := by
  have hc := fun g => h.cells (g := g)
  obtain ⟨_, ⟨rfl, h0⟩ | ⟨g, cap, cur, rfl, _, hg, _⟩⟩ := h
  · exact .inr ⟨rfl, List.eq_nil_of_length_eq_zero h0⟩
  · refine .inl ⟨g, 0, cap, rfl, (Array.getElem?_eq_some_iff.1 hg).1, fun j hj => ?_⟩
    have := hc g rfl j (.int .u8 (ns.getD j 0)) (by simp [List.getElem?_eq_getElem hj, List.getD])
    have e : (⟨g, 0, none⟩ : Addr).add j = ⟨g, 0 + j, none⟩ := by unfold Addr.add; split <;> simp_all
    rwa [e] at this

theorem BytesOf.below {w w' : World} {v : Value} {ns : List Int} (h : BytesOf w v ns) (hb : Below w.heap.size w w') : BytesOf w' v ns := by
  rcases h with h | h
  · exact .inl (h.below hb)
  · exact .inr h

theorem str_of {w : World} {v : Value} {ns : List Int} (h : BytesOf w v ns) : (convert 40 9 v).run Tryz.prog w = .ok (.string (strOfNums ns)) w := by
  rcases h with ⟨g, o, c, rfl, _, hc⟩ | ⟨rfl, rfl⟩
  · exact run_convert_bytes_arg (P := Tryz.prog) w 40 5 Tryz.underlying40 Tryz.underlying5 g o ns.length c ns rfl hc 9 Tryz.underlying9
  · exact run_convert_bytes_nil (P := Tryz.prog) w 40 5 Tryz.underlying40 Tryz.underlying5 0 0 9 Tryz.underlying9

theorem law_long (op x0 x1 x2 x3 x4 x5 x6 : Int) (a : Option Addr) (n cap : Nat) (w : World) (hg : Gl w) (hn : 300 < n) :
    Calls Tryz.prog 4 #[insV op x0 x1 x2 x3 x4 x5 x6, .slice a n cap] w fun e w' => e = .returned (.bool true) ∧ Below w.heap.size w w' := by
  have hB0 : Below w.heap.size w (w.alloc (boxO op x0 x1 x2 x3 x4 x5 x6)) := (Below.refl _ _).alloc (Nat.le_refl _) _
  have HS := sane_any (w.alloc (boxO op x0 x1 x2 x3 x4 x5 x6)) (hg.alloc _)
  have h1 : (300 : Int) < (n : Int) := by omega
  go_enter Tryz.func4, Tryz.ntmps4
  go_wp2_with (go_at_call 13; refine HS.mono ?_; rintro e w1 ⟨rfl, hB⟩)
  go_ret
  exact ⟨rfl, step hB0 hB⟩

/-- What was there is as it was. -/
def Since (a b : World) : Prop := Below a.heap.size a b
theorem Since.drew {a b : World} (h : Since a b) : Since a b.drew := Below.drew h
theorem Since.refl (a : World) : Since a a := Below.refl _ _
theorem Since.trans {a b c : World} (h : Since a b) (k : Since b c) : Since a c := step h k

structure Box (w2 : World) (b : Nat) (op x0 x1 x2 x3 x4 x5 x6 : Int) : Prop where
  c0 : ∀ W, Since w2 W → W.cell? ⟨b, 0, none⟩ = some (.int .i64 op)
  c1 : ∀ W, Since w2 W → W.cell? ⟨b, 1, none⟩ = some (.int .i64 x0)
  c2 : ∀ W, Since w2 W → W.cell? ⟨b, 2, none⟩ = some (.int .i64 x1)
  c3 : ∀ W, Since w2 W → W.cell? ⟨b, 3, none⟩ = some (.int .i64 x2)
  c4 : ∀ W, Since w2 W → W.cell? ⟨b, 4, none⟩ = some (.int .i64 x3)
  c5 : ∀ W, Since w2 W → W.cell? ⟨b, 5, none⟩ = some (.int .i64 x4)
  c6 : ∀ W, Since w2 W → W.cell? ⟨b, 6, none⟩ = some (.int .i64 x5)
  c7 : ∀ W, Since w2 W → W.cell? ⟨b, 7, none⟩ = some (.int .i64 x6)

structure BoxAt (W : World) (b : Nat) (op x0 x1 x2 x3 x4 x5 x6 : Int) : Prop where
  c0 : W.cell? ⟨b, 0, none⟩ = some (.int .i64 op)
  c1 : W.cell? ⟨b, 1, none⟩ = some (.int .i64 x0)
  c2 : W.cell? ⟨b, 2, none⟩ = some (.int .i64 x1)
  c3 : W.cell? ⟨b, 3, none⟩ = some (.int .i64 x2)
  c4 : W.cell? ⟨b, 4, none⟩ = some (.int .i64 x3)
  c5 : W.cell? ⟨b, 5, none⟩ = some (.int .i64 x4)
  c6 : W.cell? ⟨b, 6, none⟩ = some (.int .i64 x5)
  c7 : W.cell? ⟨b, 7, none⟩ = some (.int .i64 x6)
theorem Box.at {w2 W : World} {b : Nat} {op x0 x1 x2 x3 x4 x5 x6 : Int} (h : Box w2 b op x0 x1 x2 x3 x4 x5 x6) (k : Since w2 W) : BoxAt W b op x0 x1 x2 x3 x4 x5 x6 :=
  ⟨h.c0 W k, h.c1 W k, h.c2 W k, h.c3 W k, h.c4 W k, h.c5 W k, h.c6 W k, h.c7 W k⟩
/-- What a value is as a string, here and behind some draws. -/
structure StrAt (v : Value) (s : ByteArray) (W : World) : Prop where
  s0 : (convert 40 9 v).run Tryz.prog W = .ok (.string s) W
  s1 : (convert 40 9 v).run Tryz.prog W.drew = .ok (.string s) W.drew
  s2 : (convert 40 9 v).run Tryz.prog W.drew.drew = .ok (.string s) W.drew.drew
  s3 : (convert 40 9 v).run Tryz.prog W.drew.drew.drew = .ok (.string s) W.drew.drew.drew
theorem strAt_of {W : World} {v : Value} {ns : List Int} (h : BytesOf W v ns) : StrAt v (strOfNums ns) W :=
  ⟨str_of h, str_of (h.below (Since.refl _).drew), str_of (h.below (Since.refl _).drew.drew), str_of (h.below (Since.refl _).drew.drew.drew)⟩

theorem box_since {w w2 : World} (op x0 x1 x2 x3 x4 x5 x6 : Int) (h : Since (w.alloc (boxO op x0 x1 x2 x3 x4 x5 x6)) w2) : Box w2 w.heap.size op x0 x1 x2 x3 x4 x5 x6 := by
  have at' : ∀ W j, Since w2 W → W.cell? ⟨w.heap.size, j, none⟩ = (w.alloc (boxO op x0 x1 x2 x3 x4 x5 x6)).cell? ⟨w.heap.size, j, none⟩ := fun W j hW => by
    have h2 := h.trans hW
    exact h2.cell (p := ⟨w.heap.size, j, none⟩) (by simp)
  constructor
  all_goals
    intro W hW
    rw [at' W _ hW, World.cell?_alloc_at _ _ _ _ rfl]
    rfl

/-- What holds in every world of the region: the box of the instruction, and what a value is as a string. -/
def S5 (w2 : World) (b : Nat) (op x0 x1 x2 x3 x4 x5 x6 : Int) (v : Value) (s : ByteArray) (W : World) : Prop :=
  BoxAt W b op x0 x1 x2 x3 x4 x5 x6 ∧ (convert 40 9 v).run Tryz.prog W = .ok (.string s) W ∧ Since w2 W
theorem BoxAt.drew {W : World} {b : Nat} {op x0 x1 x2 x3 x4 x5 x6 : Int} (h : BoxAt W b op x0 x1 x2 x3 x4 x5 x6) : BoxAt W.drew b op x0 x1 x2 x3 x4 x5 x6 := ⟨h.c0, h.c1, h.c2, h.c3, h.c4, h.c5, h.c6, h.c7⟩
end Go.Proofs.YtblklgcpobbfcaaGreatDoor

namespace Go.Proofs.YtblklgcpobbfcaaGreatDoor
open Go.Eng Go.RowKit
set_option maxRecDepth 1000000

set_option maxHeartbeats 4000000 in
theorem law_t (op x0 x1 x2 x3 x4 x5 x6 : Int) (b off n cap : Nat) (X : Nat → Int) (w : World) (hg : Gl w) (hn : n ≤ 300) (hl : Lies w b off n X) (hx : okX op x0 x1 x2 x3 x4 x5 x6 = true) (hok : ∀ k, k < n → okA X k = true) :
    Calls Tryz.prog 4 #[insV op x0 x1 x2 x3 x4 x5 x6, .slice (some ⟨b, off, none⟩) n cap] w fun e w' => e = .returned (.bool true) ∧ Below w.heap.size w w' := by
  have hB0 : Below w.heap.size w (w.alloc (boxO op x0 x1 x2 x3 x4 x5 x6)) := (Below.refl _ _).alloc (Nat.le_refl _) _
  have HP := put_ok op x0 x1 x2 x3 x4 x5 x6 (w.alloc (boxO op x0 x1 x2 x3 x4 x5 x6)) (hg.alloc _) hx
  have HJ := Lib.hid fun w hg hl => join_yes b off n cap X w hg hn hl hok
  have h1 : ¬ (300 : Int) < (n : Int) := by omega
  go_enter Tryz.func4, Tryz.ntmps4
  go_wp2_with (first
    | (go_at_call 15; refine HP.mono ?_; rintro e w1 ⟨vb, rfl, hb1, hB1⟩)
    | (go_at_call 16; refine (HJ.out _ ((hg.alloc _).below hB1) ((hl.below hB0 hl.1).below hB1 (Nat.lt_of_lt_of_le hl.1 hB0.size))).mono ?_; rintro e w2 ⟨vc, rfl, hc2, hB2⟩))
  have S02 : Since (w.alloc (boxO op x0 x1 x2 x3 x4 x5 x6)) w2 := Since.trans hB1 hB2
  have HBX := Lib.hid (box_since op x0 x1 x2 x3 x4 x5 x6 S02)
  have ⟨c0, c1, c2, c3, c4, c5, c6, c7⟩ := HBX.out.at (Since.refl w2)
  have hg2 : Gl w2 := ((hg.alloc _).below hB1).below hB2
  have hs2 : Since w2 w2 := Since.refl _
  have HVB : Hid (∀ W, Since w2 W → StrAt vb (strOfNums (bX op x0 x1 x2 x3 x4 x5 x6)) W) := Lib.hid fun W h => strAt_of (.inl ((hb1.below hB2).below h))
  have ⟨vb0, vb1, vb2, vb3⟩ := HVB.out _ hs2
  have HVV : Hid (∀ W, Since w2 W → Calls Tryz.prog 17 #[insV op x0 x1 x2 x3 x4 x5 x6] W fun e w' => e = .returned (.bool true) ∧ Since w2 w') := Lib.hid fun W h => by
    have := rvalid_any op x0 x1 x2 x3 x4 x5 x6 W (hg2.below h)
    rw [hx] at this
    exact this.mono fun e w' ⟨h1, h2⟩ => ⟨h1, h.trans h2⟩
  have HRP : Hid (∀ W, Since w2 W → Calls Tryz.prog 18 #[insV op x0 x1 x2 x3 x4 x5 x6] W fun e w' => ∃ v, e = .returned v ∧ Since w2 w' ∧ StrAt v (strOfNums (bX op x0 x1 x2 x3 x4 x5 x6)) w') := Lib.hid fun W h => by
    refine (rput_ok op x0 x1 x2 x3 x4 x5 x6 W (hg2.below h) hx).mono ?_
    rintro e w' ⟨v, h1, h2, h3⟩
    exact ⟨v, h1, h.trans h3, strAt_of (.inl h2)⟩
  have HC : Hid (BytesOf w2 vc (J X n)) := Lib.hid (bytesOf_owned hc2)
  have HL2 : Hid (Lies w2 b off n X) := Lib.hid (((hl.below hB0 hl.1).below hB1 (Nat.lt_of_lt_of_le hl.1 hB0.size)).below hB2 (Nat.lt_of_lt_of_le hl.1 (Nat.le_trans hB0.size hB1.size)))
  have HB2 : Hid (Below w.heap.size w w2) := Lib.hid (step (step hB0 hB1) hB2)
  have HOK := Lib.hid hok
  generalize strOfNums (bX op x0 x1 x2 x3 x4 x5 x6) = s at HVB HRP vb0 vb1 vb2 vb3
  clear hB0 hB1 hB2 hb1 hc2 hg hl hx hok HJ S02
  refine wp_region_held_drew (S := S5 w2 w.heap.size op x0 x1 x2 x3 x4 x5 x6 vb s) (by kernel_rfl) ⟨(HBX.out.at hs2).drew, (HVB.out _ hs2).s1, hs2.drew⟩ (fun hHeld => ?_)
  refine wpAnyH_take (i := 0) (v := (insV op x0 x1 x2 x3 x4 x5 x6)) rfl (by kernel_rfl) (by kernel_rfl) (by kernel_rfl) (fun _ _ _ h => h) (Or.inl ⟨by rfl, fun wS hSw => ?_⟩) hHeld ?_
  · obtain ⟨⟨g0, g1, g2, g3, g4, g5, g6, g7⟩, gv, _⟩ := hSw
    first | rfl | (go_simp; done) | (go_simp; with_reducible rfl)
  try simp only [Act.put, List.getElem_toArray, List.getElem_cons_zero, List.getElem_cons_succ, List.setIfInBounds_toArray, List.set_cons_zero, List.set_cons_succ]
  refine wpAnyH_ready (rs := [1]) (by kernel_rfl) (by simp) ?_
  refine AllReadyH.cons rfl (fun K hK => ?_) AllReadyH.nil
  go_simp
  go_at_call 17; refine (HVV.out _ hHeld.2.2).mono ?_; rintro e w6 ⟨rfl, hs6⟩
  refine hK.out _ _ ⟨HBX.out.at hs6, (HVB.out _ hs6).s0, hs6⟩ (fun hHeld => ?_)
  clear hK K
  try simp only [Act.put, List.getElem_toArray, List.getElem_cons_zero, List.getElem_cons_succ, List.setIfInBounds_toArray, List.set_cons_zero, List.set_cons_succ]
  refine wpAnyH_take (i := 2) (v := (.bool false)) rfl (by kernel_rfl) (by kernel_rfl) (by kernel_rfl) (fun _ _ _ h => h) (Or.inl ⟨by rfl, fun wS hSw => ?_⟩) hHeld ?_
  · obtain ⟨⟨g0, g1, g2, g3, g4, g5, g6, g7⟩, gv, _⟩ := hSw
    first | rfl | (go_simp; done) | (go_simp; with_reducible rfl)
  try simp only [Act.put, List.getElem_toArray, List.getElem_cons_zero, List.getElem_cons_succ, List.setIfInBounds_toArray, List.set_cons_zero, List.set_cons_succ]
  refine wpAnyH_take (i := 3) (v := (.bool false)) rfl (by kernel_rfl) (by kernel_rfl) (by kernel_rfl) (fun _ _ _ h => h) (Or.inl ⟨by rfl, fun wS hSw => ?_⟩) hHeld ?_
  · obtain ⟨⟨g0, g1, g2, g3, g4, g5, g6, g7⟩, gv, _⟩ := hSw
    first | rfl | (go_simp; done) | (go_simp; with_reducible rfl)
  try simp only [Act.put, List.getElem_toArray, List.getElem_cons_zero, List.getElem_cons_succ, List.setIfInBounds_toArray, List.set_cons_zero, List.set_cons_succ]
  refine wpAnyH_take (i := 4) (v := undef) rfl (by kernel_rfl) (by kernel_rfl) (by kernel_rfl) (fun _ _ _ h => h) (Or.inr ⟨by rfl, rfl⟩) hHeld ?_
  try simp only [Act.put, List.getElem_toArray, List.getElem_cons_zero, List.getElem_cons_succ, List.setIfInBounds_toArray, List.set_cons_zero, List.set_cons_succ]
  refine wpAnyH_take (i := 5) (v := undef) rfl (by kernel_rfl) (by kernel_rfl) (by kernel_rfl) (fun _ _ _ h => h) (Or.inr ⟨by rfl, rfl⟩) hHeld ?_
  try simp only [Act.put, List.getElem_toArray, List.getElem_cons_zero, List.getElem_cons_succ, List.setIfInBounds_toArray, List.set_cons_zero, List.set_cons_succ]
  refine wpAnyH_take (i := 6) (v := undef) rfl (by kernel_rfl) (by kernel_rfl) (by kernel_rfl) (fun _ _ _ h => h) (Or.inr ⟨by rfl, rfl⟩) hHeld ?_
  try simp only [Act.put, List.getElem_toArray, List.getElem_cons_zero, List.getElem_cons_succ, List.setIfInBounds_toArray, List.set_cons_zero, List.set_cons_succ]
  refine wpAnyH_take (i := 7) (v := undef) rfl (by kernel_rfl) (by kernel_rfl) (by kernel_rfl) (fun _ _ _ h => h) (Or.inr ⟨by rfl, rfl⟩) hHeld ?_
  try simp only [Act.put, List.getElem_toArray, List.getElem_cons_zero, List.getElem_cons_succ, List.setIfInBounds_toArray, List.set_cons_zero, List.set_cons_succ]
  refine wpAnyH_take (i := 8) (v := undef) rfl (by kernel_rfl) (by kernel_rfl) (by kernel_rfl) (fun _ _ _ h => h) (Or.inr ⟨by rfl, rfl⟩) hHeld ?_
  try simp only [Act.put, List.getElem_toArray, List.getElem_cons_zero, List.getElem_cons_succ, List.setIfInBounds_toArray, List.set_cons_zero, List.set_cons_succ]
  refine wpAnyH_take (i := 9) (v := undef) rfl (by kernel_rfl) (by kernel_rfl) (by kernel_rfl) (fun _ _ _ h => h) (Or.inr ⟨by rfl, rfl⟩) hHeld ?_
  try simp only [Act.put, List.getElem_toArray, List.getElem_cons_zero, List.getElem_cons_succ, List.setIfInBounds_toArray, List.set_cons_zero, List.set_cons_succ]
  refine wpAnyH_take (i := 10) (v := undef) rfl (by kernel_rfl) (by kernel_rfl) (by kernel_rfl) (fun _ _ _ h => h) (Or.inr ⟨by rfl, rfl⟩) hHeld ?_
  try simp only [Act.put, List.getElem_toArray, List.getElem_cons_zero, List.getElem_cons_succ, List.setIfInBounds_toArray, List.set_cons_zero, List.set_cons_succ]
  refine wpAnyH_take (i := 11) (v := (.bool false)) rfl (by kernel_rfl) (by kernel_rfl) (by kernel_rfl) (fun _ _ _ h => h) (Or.inl ⟨by rfl, fun wS hSw => ?_⟩) hHeld ?_
  · obtain ⟨⟨g0, g1, g2, g3, g4, g5, g6, g7⟩, gv, _⟩ := hSw
    first | rfl | (go_simp; done) | (go_simp; with_reducible rfl)
  try simp only [Act.put, List.getElem_toArray, List.getElem_cons_zero, List.getElem_cons_succ, List.setIfInBounds_toArray, List.set_cons_zero, List.set_cons_succ]
  refine wpAnyH_take (i := 12) (v := (.bool false)) rfl (by kernel_rfl) (by kernel_rfl) (by kernel_rfl) (fun _ _ _ h => h) (Or.inl ⟨by rfl, fun wS hSw => ?_⟩) hHeld ?_
  · obtain ⟨⟨g0, g1, g2, g3, g4, g5, g6, g7⟩, gv, _⟩ := hSw
    first | rfl | (go_simp; done) | (go_simp; with_reducible rfl)
  try simp only [Act.put, List.getElem_toArray, List.getElem_cons_zero, List.getElem_cons_succ, List.setIfInBounds_toArray, List.set_cons_zero, List.set_cons_succ]
  refine wpAnyH_take (i := 13) (v := (insV op x0 x1 x2 x3 x4 x5 x6)) rfl (by kernel_rfl) (by kernel_rfl) (by kernel_rfl) (fun _ _ _ h => h) (Or.inl ⟨by rfl, fun wS hSw => ?_⟩) hHeld ?_
  · obtain ⟨⟨g0, g1, g2, g3, g4, g5, g6, g7⟩, gv, _⟩ := hSw
    first | rfl | (go_simp; done) | (go_simp; with_reducible rfl)
  try simp only [Act.put, List.getElem_toArray, List.getElem_cons_zero, List.getElem_cons_succ, List.setIfInBounds_toArray, List.set_cons_zero, List.set_cons_succ]
  refine wpAnyH_ready (rs := [14]) (by kernel_rfl) (by simp) ?_
  refine AllReadyH.cons rfl (fun K hK => ?_) AllReadyH.nil
  go_simp
  go_at_call 17; refine (HVV.out _ hHeld.2.2).mono ?_; rintro e w6 ⟨rfl, hs6⟩
  refine hK.out _ _ ⟨HBX.out.at hs6, (HVB.out _ hs6).s0, hs6⟩ (fun hHeld => ?_)
  clear hK K
  try simp only [Act.put, List.getElem_toArray, List.getElem_cons_zero, List.getElem_cons_succ, List.setIfInBounds_toArray, List.set_cons_zero, List.set_cons_succ]
  refine wpAnyH_take (i := 15) (v := (.bool true)) rfl (by kernel_rfl) (by kernel_rfl) (by kernel_rfl) (fun _ _ _ h => h) (Or.inl ⟨by rfl, fun wS hSw => ?_⟩) hHeld ?_
  · obtain ⟨⟨g0, g1, g2, g3, g4, g5, g6, g7⟩, gv, _⟩ := hSw
    first | rfl | (go_simp; done) | (go_simp; with_reducible rfl)
  try simp only [Act.put, List.getElem_toArray, List.getElem_cons_zero, List.getElem_cons_succ, List.setIfInBounds_toArray, List.set_cons_zero, List.set_cons_succ]
  refine wpAnyH_take (i := 16) (v := (.int .i64 0)) rfl (by kernel_rfl) (by kernel_rfl) (by kernel_rfl) (fun _ _ _ h => h) (Or.inl ⟨by rfl, fun wS hSw => ?_⟩) hHeld ?_
  · obtain ⟨⟨g0, g1, g2, g3, g4, g5, g6, g7⟩, gv, _⟩ := hSw
    first | rfl | (go_simp; done) | (go_simp; with_reducible rfl)
  try simp only [Act.put, List.getElem_toArray, List.getElem_cons_zero, List.getElem_cons_succ, List.setIfInBounds_toArray, List.set_cons_zero, List.set_cons_succ]
  refine wpAnyH_take (i := 17) (v := (.bool false)) rfl (by kernel_rfl) (by kernel_rfl) (by kernel_rfl) (fun _ _ _ h => h) (Or.inl ⟨by rfl, fun wS hSw => ?_⟩) hHeld ?_
  · obtain ⟨⟨g0, g1, g2, g3, g4, g5, g6, g7⟩, gv, _⟩ := hSw
    first | rfl | (go_simp; done) | (go_simp; with_reducible rfl)
  try simp only [Act.put, List.getElem_toArray, List.getElem_cons_zero, List.getElem_cons_succ, List.setIfInBounds_toArray, List.set_cons_zero, List.set_cons_succ]
  refine wpAnyH_take (i := 18) (v := (.bool false)) rfl (by kernel_rfl) (by kernel_rfl) (by kernel_rfl) (fun _ _ _ h => h) (Or.inl ⟨by rfl, fun wS hSw => ?_⟩) hHeld ?_
  · obtain ⟨⟨g0, g1, g2, g3, g4, g5, g6, g7⟩, gv, _⟩ := hSw
    first | rfl | (go_simp; done) | (go_simp; with_reducible rfl)
  try simp only [Act.put, List.getElem_toArray, List.getElem_cons_zero, List.getElem_cons_succ, List.setIfInBounds_toArray, List.set_cons_zero, List.set_cons_succ]
  refine wpAnyH_take (i := 19) (v := vb) rfl (by kernel_rfl) (by kernel_rfl) (by kernel_rfl) (fun _ _ _ h => h) (Or.inl ⟨by rfl, fun wS hSw => ?_⟩) hHeld ?_
  · obtain ⟨⟨g0, g1, g2, g3, g4, g5, g6, g7⟩, gv, _⟩ := hSw
    first | rfl | (go_simp; done) | (go_simp; with_reducible rfl)
  try simp only [Act.put, List.getElem_toArray, List.getElem_cons_zero, List.getElem_cons_succ, List.setIfInBounds_toArray, List.set_cons_zero, List.set_cons_succ]
  refine wpAnyH_take (i := 20) (v := (.string s)) rfl (by kernel_rfl) (by kernel_rfl) (by kernel_rfl) (fun _ _ _ h => h) (Or.inl ⟨by rfl, fun wS hSw => ?_⟩) hHeld ?_
  · obtain ⟨⟨g0, g1, g2, g3, g4, g5, g6, g7⟩, gv, _⟩ := hSw
    first | rfl | (go_simp; done) | (go_simp; with_reducible rfl)
  try simp only [Act.put, List.getElem_toArray, List.getElem_cons_zero, List.getElem_cons_succ, List.setIfInBounds_toArray, List.set_cons_zero, List.set_cons_succ]
  refine wpAnyH_take (i := 21) (v := (insV op x0 x1 x2 x3 x4 x5 x6)) rfl (by kernel_rfl) (by kernel_rfl) (by kernel_rfl) (fun _ _ _ h => h) (Or.inl ⟨by rfl, fun wS hSw => ?_⟩) hHeld ?_
  · obtain ⟨⟨g0, g1, g2, g3, g4, g5, g6, g7⟩, gv, _⟩ := hSw
    first | rfl | (go_simp; done) | (go_simp; with_reducible rfl)
  try simp only [Act.put, List.getElem_toArray, List.getElem_cons_zero, List.getElem_cons_succ, List.setIfInBounds_toArray, List.set_cons_zero, List.set_cons_succ]
  refine wpAnyH_ready (rs := [22]) (by kernel_rfl) (by simp) ?_
  refine AllReadyH.cons rfl (fun K hK => ?_) AllReadyH.nil
  go_simp
  go_at_call 18; refine (HRP.out _ hHeld.2.2).mono ?_; rintro e w7 ⟨vr, rfl, hs7, ⟨vr0, vr1, vr2, vr3⟩⟩
  refine hK.out _ _ ⟨HBX.out.at hs7, (HVB.out _ hs7).s0, hs7⟩ (fun hHeld => ?_)
  clear hK K
  try simp only [Act.put, List.getElem_toArray, List.getElem_cons_zero, List.getElem_cons_succ, List.setIfInBounds_toArray, List.set_cons_zero, List.set_cons_succ]
  refine wpAnyH_ready (rs := [23]) (by kernel_rfl) (by simp) ?_
  refine AllReadyH.cons rfl (fun K hK => ?_) AllReadyH.nil
  go_simp
  refine hK.out _ _ hHeld (fun hHeld => ?_)
  clear hK K
  try simp only [Act.put, List.getElem_toArray, List.getElem_cons_zero, List.getElem_cons_succ, List.setIfInBounds_toArray, List.set_cons_zero, List.set_cons_succ]
  refine wpAnyH_take (i := 24) (v := (.bool false)) rfl (by kernel_rfl) (by kernel_rfl) (by kernel_rfl) (fun _ _ _ h => h) (Or.inl ⟨by rfl, fun wS hSw => ?_⟩) hHeld ?_
  · obtain ⟨⟨g0, g1, g2, g3, g4, g5, g6, g7⟩, gv, _⟩ := hSw
    first | rfl | (go_simp; done) | (go_simp; with_reducible rfl)
  try simp only [Act.put, List.getElem_toArray, List.getElem_cons_zero, List.getElem_cons_succ, List.setIfInBounds_toArray, List.set_cons_zero, List.set_cons_succ]
  refine wpAnyH_take (i := 25) (v := (.bool false)) rfl (by kernel_rfl) (by kernel_rfl) (by kernel_rfl) (fun _ _ _ h => h) (Or.inl ⟨by rfl, fun wS hSw => ?_⟩) hHeld ?_
  · obtain ⟨⟨g0, g1, g2, g3, g4, g5, g6, g7⟩, gv, _⟩ := hSw
    first | rfl | (go_simp; done) | (go_simp; with_reducible rfl)
  try simp only [Act.put, List.getElem_toArray, List.getElem_cons_zero, List.getElem_cons_succ, List.setIfInBounds_toArray, List.set_cons_zero, List.set_cons_succ]
  refine wpAnyH_take (i := 26) (v := (.bool false)) rfl (by kernel_rfl) (by kernel_rfl) (by kernel_rfl) (fun _ _ _ h => h) (Or.inl ⟨by rfl, fun wS hSw => ?_⟩) hHeld ?_
  · obtain ⟨⟨g0, g1, g2, g3, g4, g5, g6, g7⟩, gv, _⟩ := hSw
    first | rfl | (go_simp; done) | (go_simp; with_reducible rfl)
  try simp only [Act.put, List.getElem_toArray, List.getElem_cons_zero, List.getElem_cons_succ, List.setIfInBounds_toArray, List.set_cons_zero, List.set_cons_succ]
  refine wpAnyH_take (i := 27) (v := (.bool false)) rfl (by kernel_rfl) (by kernel_rfl) (by kernel_rfl) (fun _ _ _ h => h) (Or.inl ⟨by rfl, fun wS hSw => ?_⟩) hHeld ?_
  · obtain ⟨⟨g0, g1, g2, g3, g4, g5, g6, g7⟩, gv, _⟩ := hSw
    first | rfl | (go_simp; done) | (go_simp; with_reducible rfl)
  try simp only [Act.put, List.getElem_toArray, List.getElem_cons_zero, List.getElem_cons_succ, List.setIfInBounds_toArray, List.set_cons_zero, List.set_cons_succ]
  refine wpAnyH_done (by kernel_rfl) ?_ _
  clear HVV HRP HVB vb0 vb1 vb2 vb3
  have HS7 : Hid (Since w2 w7) := Lib.hid hs7
  clear hs7
  go_wp2_with fail
  go_loopw [9] (fun i wr => ∃ k : Nat, k ≤ n ∧ i = .int .i64 k ∧ Aside (Since w2 wr)) (fun i _ => n - (intOf i).toNat)
  case atStart => exact ⟨0, Nat.zero_le _, rfl, HS7.out⟩
  case round =>
    obtain ⟨k, hk, rfl, hB⟩ := hrel
    by_cases hlt : k < n
    · have hc : ∀ j, j < 8 → wr.cell? ⟨b, off + k * 8 + j, none⟩ = some (.int .i64 (X (k * 8 + j))) := fun j hj => by
        have := (HL2.out.below hB.out HL2.out.1).2 (k * 8 + j) (by omega)
        rwa [← Nat.add_assoc] at this
      have hc0 := hc 0 (by omega)
      have hc1 := hc 1 (by omega)
      have hc2 := hc 2 (by omega)
      have hc3 := hc 3 (by omega)
      have hc4 := hc 4 (by omega)
      have hc5 := hc 5 (by omega)
      have hc6 := hc 6 (by omega)
      have hc7 := hc 7 (by omega)
      simp only [Nat.add_zero] at hc0
      clear hc
      have HV : Hid (Calls Tryz.prog 17 #[insW X k] wr fun e w' => e = .returned (.bool true) ∧ Since wr w') := Lib.hid (by
        have := rvalid_any (X (k * 8)) (X (k * 8 + 1)) (X (k * 8 + 2)) (X (k * 8 + 3)) (X (k * 8 + 4)) (X (k * 8 + 5)) (X (k * 8 + 6)) (X (k * 8 + 7)) wr (hg2.below hB.out)
        rw [show okX (X (k * 8)) (X (k * 8 + 1)) (X (k * 8 + 2)) (X (k * 8 + 3)) (X (k * 8 + 4)) (X (k * 8 + 5)) (X (k * 8 + 6)) (X (k * 8 + 7)) = true from HOK.out k hlt] at this
        exact this)
      have hk0 : (0 : Int) ≤ (k : Int) := by omega
      have hk1 : (k : Int) < (n : Int) := by omega
      go_wp2_with (go_at_call 17; refine HV.out.mono ?_; rintro e w8 ⟨rfl, hs8⟩)
      go_roundw
      case rel => exact ⟨k + 1, by omega, by go_num, hB.out.trans hs8⟩
      case measure => simp [intOf]; omega
    · have e : k = n := by omega
      subst e
      have HSN : Hid (∀ W, Since w2 W → Calls Tryz.prog 13 #[] W fun e w' => e = .returned (.bool true) ∧ Since w2 w') := Lib.hid fun W h =>
        (sane_any W (hg2.below h)).mono fun e w' ⟨h1, h2⟩ => ⟨h1, h.trans h2⟩
      have HRJ : Hid (∀ W, Since w2 W → Calls Tryz.prog 19 #[.slice (some ⟨b, off, none⟩) k cap] W fun e w' => ∃ v, e = .returned v ∧ Since w2 w' ∧ StrAt v (strOfNums (J X k)) w') := Lib.hid fun W h => by
        refine (rjoin_yes b off k cap X W (hg2.below h) hn (HL2.out.below h HL2.out.1) HOK.out).mono ?_
        rintro e w' ⟨v, h1, h2, h3⟩
        exact ⟨v, h1, h.trans h3, strAt_of (bytesOf_owned h2)⟩
      have HVC : Hid (∀ W, Since w2 W → StrAt vc (strOfNums (J X k)) W) := Lib.hid fun W h => strAt_of (HC.out.below h)
      have hs9 : Since w2 wr := hB.out
      have ⟨vc0, vc1, vc2, vc3⟩ := HVC.out _ hs9
      generalize strOfNums (J X k) = s2 at HRJ HVC vc0 vc1 vc2 vc3
      clear hk hB HOK HL2 HC HS7
      go_wp2_with fail
      refine wp_region_held_drew (S := S5 w2 w.heap.size op x0 x1 x2 x3 x4 x5 x6 vc s2) (by kernel_rfl) ⟨(HBX.out.at hs9).drew, (HVC.out _ hs9).s1, hs9.drew⟩ (fun hHeld => ?_)
      refine wpAnyH_ready (rs := [0]) (by kernel_rfl) (by simp) ?_
      refine AllReadyH.cons rfl (fun K hK => ?_) AllReadyH.nil
      go_simp
      go_at_call 13; refine (HSN.out _ hHeld.2.2).mono ?_; rintro e w10 ⟨rfl, hs10⟩
      refine hK.out _ _ ⟨HBX.out.at hs10, (HVC.out _ hs10).s0, hs10⟩ (fun hHeld => ?_)
      clear hK K
      try simp only [Act.put, List.getElem_toArray, List.getElem_cons_zero, List.getElem_cons_succ, List.setIfInBounds_toArray, List.set_cons_zero, List.set_cons_succ]
      refine wpAnyH_take (i := 1) (v := (.bool true)) rfl (by kernel_rfl) (by kernel_rfl) (by kernel_rfl) (fun _ _ _ h => h) (Or.inl ⟨by rfl, fun wS hSw => ?_⟩) hHeld ?_
      · obtain ⟨⟨g0, g1, g2, g3, g4, g5, g6, g7⟩, gv, _⟩ := hSw
        first | rfl | (go_simp; done) | (go_simp; with_reducible rfl)
      try simp only [Act.put, List.getElem_toArray, List.getElem_cons_zero, List.getElem_cons_succ, List.setIfInBounds_toArray, List.set_cons_zero, List.set_cons_succ]
      refine wpAnyH_take (i := 2) (v := (.int .i64 0)) rfl (by kernel_rfl) (by kernel_rfl) (by kernel_rfl) (fun _ _ _ h => h) (Or.inl ⟨by rfl, fun wS hSw => ?_⟩) hHeld ?_
      · obtain ⟨⟨g0, g1, g2, g3, g4, g5, g6, g7⟩, gv, _⟩ := hSw
        first | rfl | (go_simp; done) | (go_simp; with_reducible rfl)
      try simp only [Act.put, List.getElem_toArray, List.getElem_cons_zero, List.getElem_cons_succ, List.setIfInBounds_toArray, List.set_cons_zero, List.set_cons_succ]
      refine wpAnyH_take (i := 3) (v := (.bool true)) rfl (by kernel_rfl) (by kernel_rfl) (by kernel_rfl) (fun _ _ _ h => h) (Or.inl ⟨by rfl, fun wS hSw => ?_⟩) hHeld ?_
      · obtain ⟨⟨g0, g1, g2, g3, g4, g5, g6, g7⟩, gv, _⟩ := hSw
        first | rfl | (go_simp; done) | (go_simp; with_reducible rfl)
      try simp only [Act.put, List.getElem_toArray, List.getElem_cons_zero, List.getElem_cons_succ, List.setIfInBounds_toArray, List.set_cons_zero, List.set_cons_succ]
      refine wpAnyH_take (i := 4) (v := (.bool true)) rfl (by kernel_rfl) (by kernel_rfl) (by kernel_rfl) (fun _ _ _ h => h) (Or.inl ⟨by rfl, fun wS hSw => ?_⟩) hHeld ?_
      · obtain ⟨⟨g0, g1, g2, g3, g4, g5, g6, g7⟩, gv, _⟩ := hSw
        first | rfl | (go_simp; done) | (go_simp; with_reducible rfl)
      try simp only [Act.put, List.getElem_toArray, List.getElem_cons_zero, List.getElem_cons_succ, List.setIfInBounds_toArray, List.set_cons_zero, List.set_cons_succ]
      refine wpAnyH_take (i := 5) (v := (.bool true)) rfl (by kernel_rfl) (by kernel_rfl) (by kernel_rfl) (fun _ _ _ h => h) (Or.inl ⟨by rfl, fun wS hSw => ?_⟩) hHeld ?_
      · obtain ⟨⟨g0, g1, g2, g3, g4, g5, g6, g7⟩, gv, _⟩ := hSw
        first | rfl | (go_simp; done) | (go_simp; with_reducible rfl)
      try simp only [Act.put, List.getElem_toArray, List.getElem_cons_zero, List.getElem_cons_succ, List.setIfInBounds_toArray, List.set_cons_zero, List.set_cons_succ]
      refine wpAnyH_take (i := 6) (v := vc) rfl (by kernel_rfl) (by kernel_rfl) (by kernel_rfl) (fun _ _ _ h => h) (Or.inl ⟨by rfl, fun wS hSw => ?_⟩) hHeld ?_
      · obtain ⟨⟨g0, g1, g2, g3, g4, g5, g6, g7⟩, gv, _⟩ := hSw
        first | rfl | (go_simp; done) | (go_simp; with_reducible rfl)
      try simp only [Act.put, List.getElem_toArray, List.getElem_cons_zero, List.getElem_cons_succ, List.setIfInBounds_toArray, List.set_cons_zero, List.set_cons_succ]
      refine wpAnyH_take (i := 7) (v := (.string s2)) rfl (by kernel_rfl) (by kernel_rfl) (by kernel_rfl) (fun _ _ _ h => h) (Or.inl ⟨by rfl, fun wS hSw => ?_⟩) hHeld ?_
      · obtain ⟨⟨g0, g1, g2, g3, g4, g5, g6, g7⟩, gv, _⟩ := hSw
        first | rfl | (go_simp; done) | (go_simp; with_reducible rfl)
      try simp only [Act.put, List.getElem_toArray, List.getElem_cons_zero, List.getElem_cons_succ, List.setIfInBounds_toArray, List.set_cons_zero, List.set_cons_succ]
      refine wpAnyH_take (i := 8) (v := (.slice (some ⟨b, off, none⟩) k cap)) rfl (by kernel_rfl) (by kernel_rfl) (by kernel_rfl) (fun _ _ _ h => h) (Or.inl ⟨by rfl, fun wS hSw => ?_⟩) hHeld ?_
      · obtain ⟨⟨g0, g1, g2, g3, g4, g5, g6, g7⟩, gv, _⟩ := hSw
        first | rfl | (go_simp; done) | (go_simp; with_reducible rfl)
      try simp only [Act.put, List.getElem_toArray, List.getElem_cons_zero, List.getElem_cons_succ, List.setIfInBounds_toArray, List.set_cons_zero, List.set_cons_succ]
      refine wpAnyH_ready (rs := [9]) (by kernel_rfl) (by simp) ?_
      refine AllReadyH.cons rfl (fun K hK => ?_) AllReadyH.nil
      go_simp
      go_at_call 19; refine (HRJ.out _ hHeld.2.2).mono ?_; rintro e w11 ⟨vr, rfl, hs11, ⟨vr0, vr1, vr2, vr3⟩⟩
      refine hK.out _ _ ⟨HBX.out.at hs11, (HVC.out _ hs11).s0, hs11⟩ (fun hHeld => ?_)
      clear hK K
      try simp only [Act.put, List.getElem_toArray, List.getElem_cons_zero, List.getElem_cons_succ, List.setIfInBounds_toArray, List.set_cons_zero, List.set_cons_succ]
      refine wpAnyH_ready (rs := [10]) (by kernel_rfl) (by simp) ?_
      refine AllReadyH.cons rfl (fun K hK => ?_) AllReadyH.nil
      go_simp
      refine hK.out _ _ hHeld (fun hHeld => ?_)
      clear hK K
      try simp only [Act.put, List.getElem_toArray, List.getElem_cons_zero, List.getElem_cons_succ, List.setIfInBounds_toArray, List.set_cons_zero, List.set_cons_succ]
      refine wpAnyH_take (i := 11) (v := (.bool true)) rfl (by kernel_rfl) (by kernel_rfl) (by kernel_rfl) (fun _ _ _ h => h) (Or.inl ⟨by rfl, fun wS hSw => ?_⟩) hHeld ?_
      · obtain ⟨⟨g0, g1, g2, g3, g4, g5, g6, g7⟩, gv, _⟩ := hSw
        first | rfl | (go_simp; done) | (go_simp; with_reducible rfl)
      try simp only [Act.put, List.getElem_toArray, List.getElem_cons_zero, List.getElem_cons_succ, List.setIfInBounds_toArray, List.set_cons_zero, List.set_cons_succ]
      refine wpAnyH_take (i := 12) (v := (.bool true)) rfl (by kernel_rfl) (by kernel_rfl) (by kernel_rfl) (fun _ _ _ h => h) (Or.inl ⟨by rfl, fun wS hSw => ?_⟩) hHeld ?_
      · obtain ⟨⟨g0, g1, g2, g3, g4, g5, g6, g7⟩, gv, _⟩ := hSw
        first | rfl | (go_simp; done) | (go_simp; with_reducible rfl)
      try simp only [Act.put, List.getElem_toArray, List.getElem_cons_zero, List.getElem_cons_succ, List.setIfInBounds_toArray, List.set_cons_zero, List.set_cons_succ]
      refine wpAnyH_take (i := 13) (v := (.bool true)) rfl (by kernel_rfl) (by kernel_rfl) (by kernel_rfl) (fun _ _ _ h => h) (Or.inl ⟨by rfl, fun wS hSw => ?_⟩) hHeld ?_
      · obtain ⟨⟨g0, g1, g2, g3, g4, g5, g6, g7⟩, gv, _⟩ := hSw
        first | rfl | (go_simp; done) | (go_simp; with_reducible rfl)
      try simp only [Act.put, List.getElem_toArray, List.getElem_cons_zero, List.getElem_cons_succ, List.setIfInBounds_toArray, List.set_cons_zero, List.set_cons_succ]
      refine wpAnyH_done (by kernel_rfl) ?_ _
      go_wp2
      go_ret
      exact ⟨by simp, HB2.out.trans (hs11.mono HB2.out.size)⟩
end Go.Proofs.YtblklgcpobbfcaaGreatDoor

namespace Go.Proofs.YtblklgcpobbfcaaGreatDoor
open Go.Eng Go.RowKit
set_option maxRecDepth 1000000

set_option maxHeartbeats 4000000 in
theorem law_f (op x0 x1 x2 x3 x4 x5 x6 : Int) (b off n cap : Nat) (X : Nat → Int) (w : World) (hg : Gl w) (hn : n ≤ 300) (hl : Lies w b off n X) (hx : okX op x0 x1 x2 x3 x4 x5 x6 = false) (hok : ∀ k, k < n → okA X k = true) :
    Calls Tryz.prog 4 #[insV op x0 x1 x2 x3 x4 x5 x6, .slice (some ⟨b, off, none⟩) n cap] w fun e w' => e = .returned (.bool true) ∧ Below w.heap.size w w' := by
  have hB0 : Below w.heap.size w (w.alloc (boxO op x0 x1 x2 x3 x4 x5 x6)) := (Below.refl _ _).alloc (Nat.le_refl _) _
  have HP := put_not op x0 x1 x2 x3 x4 x5 x6 (w.alloc (boxO op x0 x1 x2 x3 x4 x5 x6)) (hg.alloc _) hx
  have HJ := Lib.hid fun w hg hl => join_yes b off n cap X w hg hn hl hok
  have h1 : ¬ (300 : Int) < (n : Int) := by omega
  go_enter Tryz.func4, Tryz.ntmps4
  go_wp2_with (first
    | (go_at_call 15; refine HP.mono ?_; rintro e w1 ⟨rfl, hB1⟩)
    | (go_at_call 16; refine (HJ.out _ ((hg.alloc _).below hB1) ((hl.below hB0 hl.1).below hB1 (Nat.lt_of_lt_of_le hl.1 hB0.size))).mono ?_; rintro e w2 ⟨vc, rfl, hc2, hB2⟩))
  have S02 : Since (w.alloc (boxO op x0 x1 x2 x3 x4 x5 x6)) w2 := Since.trans hB1 hB2
  have HBX := Lib.hid (box_since op x0 x1 x2 x3 x4 x5 x6 S02)
  have ⟨c0, c1, c2, c3, c4, c5, c6, c7⟩ := HBX.out.at (Since.refl w2)
  have hg2 : Gl w2 := ((hg.alloc _).below hB1).below hB2
  have hs2 : Since w2 w2 := Since.refl _
  have HVB : Hid (∀ W, Since w2 W → StrAt (.slice none 0 0) (strOfNums []) W) := Lib.hid fun W _ => strAt_of (.inr ⟨rfl, rfl⟩)
  generalize strOfNums [] = s at HVB
  have HVV : Hid (∀ W, Since w2 W → Calls Tryz.prog 17 #[insV op x0 x1 x2 x3 x4 x5 x6] W fun e w' => e = .returned (.bool false) ∧ Since w2 w') := Lib.hid fun W h => by
    have := rvalid_any op x0 x1 x2 x3 x4 x5 x6 W (hg2.below h)
    rw [hx] at this
    exact this.mono fun e w' ⟨h1, h2⟩ => ⟨h1, h.trans h2⟩
  have HC : Hid (BytesOf w2 vc (J X n)) := Lib.hid (bytesOf_owned hc2)
  have HL2 : Hid (Lies w2 b off n X) := Lib.hid (((hl.below hB0 hl.1).below hB1 (Nat.lt_of_lt_of_le hl.1 hB0.size)).below hB2 (Nat.lt_of_lt_of_le hl.1 (Nat.le_trans hB0.size hB1.size)))
  have HB2 : Hid (Below w.heap.size w w2) := Lib.hid (step (step hB0 hB1) hB2)
  have HOK := Lib.hid hok
  clear hB0 hB1 hB2 hc2 hg hl hx hok HJ S02
  refine wp_region_held_drew (S := S5 w2 w.heap.size op x0 x1 x2 x3 x4 x5 x6 (.slice none 0 0) s) (by kernel_rfl) ⟨(HBX.out.at hs2).drew, (HVB.out _ hs2).s1, hs2.drew⟩ (fun hHeld => ?_)
  refine wpAnyH_take (i := 0) (v := (insV op x0 x1 x2 x3 x4 x5 x6)) rfl (by kernel_rfl) (by kernel_rfl) (by kernel_rfl) (fun _ _ _ h => h) (Or.inl ⟨by rfl, fun wS hSw => ?_⟩) hHeld ?_
  · obtain ⟨⟨g0, g1, g2, g3, g4, g5, g6, g7⟩, gv, _⟩ := hSw
    first | rfl | (go_simp; done) | (go_simp; with_reducible rfl)
  try simp only [Act.put, List.getElem_toArray, List.getElem_cons_zero, List.getElem_cons_succ, List.setIfInBounds_toArray, List.set_cons_zero, List.set_cons_succ]
  refine wpAnyH_ready (rs := [1]) (by kernel_rfl) (by simp) ?_
  refine AllReadyH.cons rfl (fun K hK => ?_) AllReadyH.nil
  go_simp
  go_at_call 17; refine (HVV.out _ hHeld.2.2).mono ?_; rintro e w6 ⟨rfl, hs6⟩
  refine hK.out _ _ ⟨HBX.out.at hs6, (HVB.out _ hs6).s0, hs6⟩ (fun hHeld => ?_)
  clear hK K
  try simp only [Act.put, List.getElem_toArray, List.getElem_cons_zero, List.getElem_cons_succ, List.setIfInBounds_toArray, List.set_cons_zero, List.set_cons_succ]
  refine wpAnyH_take (i := 2) (v := (.bool true)) rfl (by kernel_rfl) (by kernel_rfl) (by kernel_rfl) (fun _ _ _ h => h) (Or.inl ⟨by rfl, fun wS hSw => ?_⟩) hHeld ?_
  · obtain ⟨⟨g0, g1, g2, g3, g4, g5, g6, g7⟩, gv, _⟩ := hSw
    first | rfl | (go_simp; done) | (go_simp; with_reducible rfl)
  try simp only [Act.put, List.getElem_toArray, List.getElem_cons_zero, List.getElem_cons_succ, List.setIfInBounds_toArray, List.set_cons_zero, List.set_cons_succ]
  refine wpAnyH_take (i := 3) (v := (.bool true)) rfl (by kernel_rfl) (by kernel_rfl) (by kernel_rfl) (fun _ _ _ h => h) (Or.inl ⟨by rfl, fun wS hSw => ?_⟩) hHeld ?_
  · obtain ⟨⟨g0, g1, g2, g3, g4, g5, g6, g7⟩, gv, _⟩ := hSw
    first | rfl | (go_simp; done) | (go_simp; with_reducible rfl)
  try simp only [Act.put, List.getElem_toArray, List.getElem_cons_zero, List.getElem_cons_succ, List.setIfInBounds_toArray, List.set_cons_zero, List.set_cons_succ]
  refine wpAnyH_take (i := 4) (v := (.int .i64 1)) rfl (by kernel_rfl) (by kernel_rfl) (by kernel_rfl) (fun _ _ _ h => h) (Or.inl ⟨by rfl, fun wS hSw => ?_⟩) hHeld ?_
  · obtain ⟨⟨g0, g1, g2, g3, g4, g5, g6, g7⟩, gv, _⟩ := hSw
    first | rfl | (go_simp; done) | (go_simp; with_reducible rfl)
  try simp only [Act.put, List.getElem_toArray, List.getElem_cons_zero, List.getElem_cons_succ, List.setIfInBounds_toArray, List.set_cons_zero, List.set_cons_succ]
  refine wpAnyH_take (i := 5) (v := (.bool false)) rfl (by kernel_rfl) (by kernel_rfl) (by kernel_rfl) (fun _ _ _ h => h) (Or.inl ⟨by rfl, fun wS hSw => ?_⟩) hHeld ?_
  · obtain ⟨⟨g0, g1, g2, g3, g4, g5, g6, g7⟩, gv, _⟩ := hSw
    first | rfl | (go_simp; done) | (go_simp; with_reducible rfl)
  try simp only [Act.put, List.getElem_toArray, List.getElem_cons_zero, List.getElem_cons_succ, List.setIfInBounds_toArray, List.set_cons_zero, List.set_cons_succ]
  refine wpAnyH_take (i := 6) (v := (.bool false)) rfl (by kernel_rfl) (by kernel_rfl) (by kernel_rfl) (fun _ _ _ h => h) (Or.inl ⟨by rfl, fun wS hSw => ?_⟩) hHeld ?_
  · obtain ⟨⟨g0, g1, g2, g3, g4, g5, g6, g7⟩, gv, _⟩ := hSw
    first | rfl | (go_simp; done) | (go_simp; with_reducible rfl)
  try simp only [Act.put, List.getElem_toArray, List.getElem_cons_zero, List.getElem_cons_succ, List.setIfInBounds_toArray, List.set_cons_zero, List.set_cons_succ]
  refine wpAnyH_take (i := 7) (v := (.slice none 0 0)) rfl (by kernel_rfl) (by kernel_rfl) (by kernel_rfl) (fun _ _ _ h => h) (Or.inl ⟨by rfl, fun wS hSw => ?_⟩) hHeld ?_
  · obtain ⟨⟨g0, g1, g2, g3, g4, g5, g6, g7⟩, gv, _⟩ := hSw
    first | rfl | (go_simp; done) | (go_simp; with_reducible rfl)
  try simp only [Act.put, List.getElem_toArray, List.getElem_cons_zero, List.getElem_cons_succ, List.setIfInBounds_toArray, List.set_cons_zero, List.set_cons_succ]
  refine wpAnyH_take (i := 8) (v := (.int .i64 0)) rfl (by kernel_rfl) (by kernel_rfl) (by kernel_rfl) (fun _ _ _ h => h) (Or.inl ⟨by rfl, fun wS hSw => ?_⟩) hHeld ?_
  · obtain ⟨⟨g0, g1, g2, g3, g4, g5, g6, g7⟩, gv, _⟩ := hSw
    first | rfl | (go_simp; done) | (go_simp; with_reducible rfl)
  try simp only [Act.put, List.getElem_toArray, List.getElem_cons_zero, List.getElem_cons_succ, List.setIfInBounds_toArray, List.set_cons_zero, List.set_cons_succ]
  refine wpAnyH_take (i := 9) (v := (.bool false)) rfl (by kernel_rfl) (by kernel_rfl) (by kernel_rfl) (fun _ _ _ h => h) (Or.inl ⟨by rfl, fun wS hSw => ?_⟩) hHeld ?_
  · obtain ⟨⟨g0, g1, g2, g3, g4, g5, g6, g7⟩, gv, _⟩ := hSw
    first | rfl | (go_simp; done) | (go_simp; with_reducible rfl)
  try simp only [Act.put, List.getElem_toArray, List.getElem_cons_zero, List.getElem_cons_succ, List.setIfInBounds_toArray, List.set_cons_zero, List.set_cons_succ]
  refine wpAnyH_take (i := 10) (v := (.bool false)) rfl (by kernel_rfl) (by kernel_rfl) (by kernel_rfl) (fun _ _ _ h => h) (Or.inl ⟨by rfl, fun wS hSw => ?_⟩) hHeld ?_
  · obtain ⟨⟨g0, g1, g2, g3, g4, g5, g6, g7⟩, gv, _⟩ := hSw
    first | rfl | (go_simp; done) | (go_simp; with_reducible rfl)
  try simp only [Act.put, List.getElem_toArray, List.getElem_cons_zero, List.getElem_cons_succ, List.setIfInBounds_toArray, List.set_cons_zero, List.set_cons_succ]
  refine wpAnyH_take (i := 11) (v := (.bool false)) rfl (by kernel_rfl) (by kernel_rfl) (by kernel_rfl) (fun _ _ _ h => h) (Or.inl ⟨by rfl, fun wS hSw => ?_⟩) hHeld ?_
  · obtain ⟨⟨g0, g1, g2, g3, g4, g5, g6, g7⟩, gv, _⟩ := hSw
    first | rfl | (go_simp; done) | (go_simp; with_reducible rfl)
  try simp only [Act.put, List.getElem_toArray, List.getElem_cons_zero, List.getElem_cons_succ, List.setIfInBounds_toArray, List.set_cons_zero, List.set_cons_succ]
  refine wpAnyH_take (i := 12) (v := (.bool false)) rfl (by kernel_rfl) (by kernel_rfl) (by kernel_rfl) (fun _ _ _ h => h) (Or.inl ⟨by rfl, fun wS hSw => ?_⟩) hHeld ?_
  · obtain ⟨⟨g0, g1, g2, g3, g4, g5, g6, g7⟩, gv, _⟩ := hSw
    first | rfl | (go_simp; done) | (go_simp; with_reducible rfl)
  try simp only [Act.put, List.getElem_toArray, List.getElem_cons_zero, List.getElem_cons_succ, List.setIfInBounds_toArray, List.set_cons_zero, List.set_cons_succ]
  refine wpAnyH_take (i := 13) (v := (insV op x0 x1 x2 x3 x4 x5 x6)) rfl (by kernel_rfl) (by kernel_rfl) (by kernel_rfl) (fun _ _ _ h => h) (Or.inl ⟨by rfl, fun wS hSw => ?_⟩) hHeld ?_
  · obtain ⟨⟨g0, g1, g2, g3, g4, g5, g6, g7⟩, gv, _⟩ := hSw
    first | rfl | (go_simp; done) | (go_simp; with_reducible rfl)
  try simp only [Act.put, List.getElem_toArray, List.getElem_cons_zero, List.getElem_cons_succ, List.setIfInBounds_toArray, List.set_cons_zero, List.set_cons_succ]
  refine wpAnyH_ready (rs := [14]) (by kernel_rfl) (by simp) ?_
  refine AllReadyH.cons rfl (fun K hK => ?_) AllReadyH.nil
  go_simp
  go_at_call 17; refine (HVV.out _ hHeld.2.2).mono ?_; rintro e w6 ⟨rfl, hs6⟩
  refine hK.out _ _ ⟨HBX.out.at hs6, (HVB.out _ hs6).s0, hs6⟩ (fun hHeld => ?_)
  clear hK K
  try simp only [Act.put, List.getElem_toArray, List.getElem_cons_zero, List.getElem_cons_succ, List.setIfInBounds_toArray, List.set_cons_zero, List.set_cons_succ]
  refine wpAnyH_take (i := 15) (v := (.bool false)) rfl (by kernel_rfl) (by kernel_rfl) (by kernel_rfl) (fun _ _ _ h => h) (Or.inl ⟨by rfl, fun wS hSw => ?_⟩) hHeld ?_
  · obtain ⟨⟨g0, g1, g2, g3, g4, g5, g6, g7⟩, gv, _⟩ := hSw
    first | rfl | (go_simp; done) | (go_simp; with_reducible rfl)
  try simp only [Act.put, List.getElem_toArray, List.getElem_cons_zero, List.getElem_cons_succ, List.setIfInBounds_toArray, List.set_cons_zero, List.set_cons_succ]
  refine wpAnyH_take (i := 16) (v := undef) rfl (by kernel_rfl) (by kernel_rfl) (by kernel_rfl) (fun _ _ _ h => h) (Or.inr ⟨by rfl, rfl⟩) hHeld ?_
  try simp only [Act.put, List.getElem_toArray, List.getElem_cons_zero, List.getElem_cons_succ, List.setIfInBounds_toArray, List.set_cons_zero, List.set_cons_succ]
  refine wpAnyH_take (i := 17) (v := undef) rfl (by kernel_rfl) (by kernel_rfl) (by kernel_rfl) (fun _ _ _ h => h) (Or.inr ⟨by rfl, rfl⟩) hHeld ?_
  try simp only [Act.put, List.getElem_toArray, List.getElem_cons_zero, List.getElem_cons_succ, List.setIfInBounds_toArray, List.set_cons_zero, List.set_cons_succ]
  refine wpAnyH_take (i := 18) (v := undef) rfl (by kernel_rfl) (by kernel_rfl) (by kernel_rfl) (fun _ _ _ h => h) (Or.inr ⟨by rfl, rfl⟩) hHeld ?_
  try simp only [Act.put, List.getElem_toArray, List.getElem_cons_zero, List.getElem_cons_succ, List.setIfInBounds_toArray, List.set_cons_zero, List.set_cons_succ]
  refine wpAnyH_take (i := 19) (v := undef) rfl (by kernel_rfl) (by kernel_rfl) (by kernel_rfl) (fun _ _ _ h => h) (Or.inr ⟨by rfl, rfl⟩) hHeld ?_
  try simp only [Act.put, List.getElem_toArray, List.getElem_cons_zero, List.getElem_cons_succ, List.setIfInBounds_toArray, List.set_cons_zero, List.set_cons_succ]
  refine wpAnyH_take (i := 20) (v := undef) rfl (by kernel_rfl) (by kernel_rfl) (by kernel_rfl) (fun _ _ _ h => h) (Or.inr ⟨by rfl, rfl⟩) hHeld ?_
  try simp only [Act.put, List.getElem_toArray, List.getElem_cons_zero, List.getElem_cons_succ, List.setIfInBounds_toArray, List.set_cons_zero, List.set_cons_succ]
  refine wpAnyH_take (i := 21) (v := undef) rfl (by kernel_rfl) (by kernel_rfl) (by kernel_rfl) (fun _ _ _ h => h) (Or.inr ⟨by rfl, rfl⟩) hHeld ?_
  try simp only [Act.put, List.getElem_toArray, List.getElem_cons_zero, List.getElem_cons_succ, List.setIfInBounds_toArray, List.set_cons_zero, List.set_cons_succ]
  refine wpAnyH_take (i := 22) (v := undef) rfl (by kernel_rfl) (by kernel_rfl) (by kernel_rfl) (fun _ _ _ h => h) (Or.inr ⟨by rfl, rfl⟩) hHeld ?_
  try simp only [Act.put, List.getElem_toArray, List.getElem_cons_zero, List.getElem_cons_succ, List.setIfInBounds_toArray, List.set_cons_zero, List.set_cons_succ]
  refine wpAnyH_take (i := 23) (v := undef) rfl (by kernel_rfl) (by kernel_rfl) (by kernel_rfl) (fun _ _ _ h => h) (Or.inr ⟨by rfl, rfl⟩) hHeld ?_
  try simp only [Act.put, List.getElem_toArray, List.getElem_cons_zero, List.getElem_cons_succ, List.setIfInBounds_toArray, List.set_cons_zero, List.set_cons_succ]
  refine wpAnyH_take (i := 24) (v := undef) rfl (by kernel_rfl) (by kernel_rfl) (by kernel_rfl) (fun _ _ _ h => h) (Or.inr ⟨by rfl, rfl⟩) hHeld ?_
  try simp only [Act.put, List.getElem_toArray, List.getElem_cons_zero, List.getElem_cons_succ, List.setIfInBounds_toArray, List.set_cons_zero, List.set_cons_succ]
  refine wpAnyH_take (i := 25) (v := undef) rfl (by kernel_rfl) (by kernel_rfl) (by kernel_rfl) (fun _ _ _ h => h) (Or.inr ⟨by rfl, rfl⟩) hHeld ?_
  try simp only [Act.put, List.getElem_toArray, List.getElem_cons_zero, List.getElem_cons_succ, List.setIfInBounds_toArray, List.set_cons_zero, List.set_cons_succ]
  refine wpAnyH_take (i := 26) (v := (.bool false)) rfl (by kernel_rfl) (by kernel_rfl) (by kernel_rfl) (fun _ _ _ h => h) (Or.inl ⟨by rfl, fun wS hSw => ?_⟩) hHeld ?_
  · obtain ⟨⟨g0, g1, g2, g3, g4, g5, g6, g7⟩, gv, _⟩ := hSw
    first | rfl | (go_simp; done) | (go_simp; with_reducible rfl)
  try simp only [Act.put, List.getElem_toArray, List.getElem_cons_zero, List.getElem_cons_succ, List.setIfInBounds_toArray, List.set_cons_zero, List.set_cons_succ]
  refine wpAnyH_take (i := 27) (v := (.bool false)) rfl (by kernel_rfl) (by kernel_rfl) (by kernel_rfl) (fun _ _ _ h => h) (Or.inl ⟨by rfl, fun wS hSw => ?_⟩) hHeld ?_
  · obtain ⟨⟨g0, g1, g2, g3, g4, g5, g6, g7⟩, gv, _⟩ := hSw
    first | rfl | (go_simp; done) | (go_simp; with_reducible rfl)
  try simp only [Act.put, List.getElem_toArray, List.getElem_cons_zero, List.getElem_cons_succ, List.setIfInBounds_toArray, List.set_cons_zero, List.set_cons_succ]
  refine wpAnyH_done (by kernel_rfl) ?_ _
  clear HVV HVB
  have HS7 := Lib.hid hs6
  clear hs6
  go_wp2_with fail
  go_loopw [9] (fun i wr => ∃ k : Nat, k ≤ n ∧ i = .int .i64 k ∧ Aside (Since w2 wr)) (fun i _ => n - (intOf i).toNat)
  case atStart => exact ⟨0, Nat.zero_le _, rfl, HS7.out⟩
  case round =>
    obtain ⟨k, hk, rfl, hB⟩ := hrel
    by_cases hlt : k < n
    · have hc : ∀ j, j < 8 → wr.cell? ⟨b, off + k * 8 + j, none⟩ = some (.int .i64 (X (k * 8 + j))) := fun j hj => by
        have := (HL2.out.below hB.out HL2.out.1).2 (k * 8 + j) (by omega)
        rwa [← Nat.add_assoc] at this
      have hc0 := hc 0 (by omega)
      have hc1 := hc 1 (by omega)
      have hc2 := hc 2 (by omega)
      have hc3 := hc 3 (by omega)
      have hc4 := hc 4 (by omega)
      have hc5 := hc 5 (by omega)
      have hc6 := hc 6 (by omega)
      have hc7 := hc 7 (by omega)
      simp only [Nat.add_zero] at hc0
      clear hc
      have HV : Hid (Calls Tryz.prog 17 #[insW X k] wr fun e w' => e = .returned (.bool true) ∧ Since wr w') := Lib.hid (by
        have := rvalid_any (X (k * 8)) (X (k * 8 + 1)) (X (k * 8 + 2)) (X (k * 8 + 3)) (X (k * 8 + 4)) (X (k * 8 + 5)) (X (k * 8 + 6)) (X (k * 8 + 7)) wr (hg2.below hB.out)
        rw [show okX (X (k * 8)) (X (k * 8 + 1)) (X (k * 8 + 2)) (X (k * 8 + 3)) (X (k * 8 + 4)) (X (k * 8 + 5)) (X (k * 8 + 6)) (X (k * 8 + 7)) = true from HOK.out k hlt] at this
        exact this)
      have hk0 : (0 : Int) ≤ (k : Int) := by omega
      have hk1 : (k : Int) < (n : Int) := by omega
      go_wp2_with (go_at_call 17; refine HV.out.mono ?_; rintro e w8 ⟨rfl, hs8⟩)
      go_roundw
      case rel => exact ⟨k + 1, by omega, by go_num, hB.out.trans hs8⟩
      case measure => simp [intOf]; omega
    · have e : k = n := by omega
      subst e
      have HSN : Hid (∀ W, Since w2 W → Calls Tryz.prog 13 #[] W fun e w' => e = .returned (.bool true) ∧ Since w2 w') := Lib.hid fun W h =>
        (sane_any W (hg2.below h)).mono fun e w' ⟨h1, h2⟩ => ⟨h1, h.trans h2⟩
      have HRJ : Hid (∀ W, Since w2 W → Calls Tryz.prog 19 #[.slice (some ⟨b, off, none⟩) k cap] W fun e w' => ∃ v, e = .returned v ∧ Since w2 w' ∧ StrAt v (strOfNums (J X k)) w') := Lib.hid fun W h => by
        refine (rjoin_yes b off k cap X W (hg2.below h) hn (HL2.out.below h HL2.out.1) HOK.out).mono ?_
        rintro e w' ⟨v, h1, h2, h3⟩
        exact ⟨v, h1, h.trans h3, strAt_of (bytesOf_owned h2)⟩
      have HVC : Hid (∀ W, Since w2 W → StrAt vc (strOfNums (J X k)) W) := Lib.hid fun W h => strAt_of (HC.out.below h)
      have hs9 : Since w2 wr := hB.out
      have ⟨vc0, vc1, vc2, vc3⟩ := HVC.out _ hs9
      generalize strOfNums (J X k) = s2 at HRJ HVC vc0 vc1 vc2 vc3
      clear hk hB HOK HL2 HC HS7
      go_wp2_with fail
      refine wp_region_held_drew (S := S5 w2 w.heap.size op x0 x1 x2 x3 x4 x5 x6 vc s2) (by kernel_rfl) ⟨(HBX.out.at hs9).drew, (HVC.out _ hs9).s1, hs9.drew⟩ (fun hHeld => ?_)
      refine wpAnyH_ready (rs := [0]) (by kernel_rfl) (by simp) ?_
      refine AllReadyH.cons rfl (fun K hK => ?_) AllReadyH.nil
      go_simp
      go_at_call 13; refine (HSN.out _ hHeld.2.2).mono ?_; rintro e w10 ⟨rfl, hs10⟩
      refine hK.out _ _ ⟨HBX.out.at hs10, (HVC.out _ hs10).s0, hs10⟩ (fun hHeld => ?_)
      clear hK K
      try simp only [Act.put, List.getElem_toArray, List.getElem_cons_zero, List.getElem_cons_succ, List.setIfInBounds_toArray, List.set_cons_zero, List.set_cons_succ]
      refine wpAnyH_take (i := 1) (v := (.bool true)) rfl (by kernel_rfl) (by kernel_rfl) (by kernel_rfl) (fun _ _ _ h => h) (Or.inl ⟨by rfl, fun wS hSw => ?_⟩) hHeld ?_
      · obtain ⟨⟨g0, g1, g2, g3, g4, g5, g6, g7⟩, gv, _⟩ := hSw
        first | rfl | (go_simp; done) | (go_simp; with_reducible rfl)
      try simp only [Act.put, List.getElem_toArray, List.getElem_cons_zero, List.getElem_cons_succ, List.setIfInBounds_toArray, List.set_cons_zero, List.set_cons_succ]
      refine wpAnyH_take (i := 2) (v := (.int .i64 0)) rfl (by kernel_rfl) (by kernel_rfl) (by kernel_rfl) (fun _ _ _ h => h) (Or.inl ⟨by rfl, fun wS hSw => ?_⟩) hHeld ?_
      · obtain ⟨⟨g0, g1, g2, g3, g4, g5, g6, g7⟩, gv, _⟩ := hSw
        first | rfl | (go_simp; done) | (go_simp; with_reducible rfl)
      try simp only [Act.put, List.getElem_toArray, List.getElem_cons_zero, List.getElem_cons_succ, List.setIfInBounds_toArray, List.set_cons_zero, List.set_cons_succ]
      refine wpAnyH_take (i := 3) (v := (.bool true)) rfl (by kernel_rfl) (by kernel_rfl) (by kernel_rfl) (fun _ _ _ h => h) (Or.inl ⟨by rfl, fun wS hSw => ?_⟩) hHeld ?_
      · obtain ⟨⟨g0, g1, g2, g3, g4, g5, g6, g7⟩, gv, _⟩ := hSw
        first | rfl | (go_simp; done) | (go_simp; with_reducible rfl)
      try simp only [Act.put, List.getElem_toArray, List.getElem_cons_zero, List.getElem_cons_succ, List.setIfInBounds_toArray, List.set_cons_zero, List.set_cons_succ]
      refine wpAnyH_take (i := 4) (v := (.bool true)) rfl (by kernel_rfl) (by kernel_rfl) (by kernel_rfl) (fun _ _ _ h => h) (Or.inl ⟨by rfl, fun wS hSw => ?_⟩) hHeld ?_
      · obtain ⟨⟨g0, g1, g2, g3, g4, g5, g6, g7⟩, gv, _⟩ := hSw
        first | rfl | (go_simp; done) | (go_simp; with_reducible rfl)
      try simp only [Act.put, List.getElem_toArray, List.getElem_cons_zero, List.getElem_cons_succ, List.setIfInBounds_toArray, List.set_cons_zero, List.set_cons_succ]
      refine wpAnyH_take (i := 5) (v := (.bool true)) rfl (by kernel_rfl) (by kernel_rfl) (by kernel_rfl) (fun _ _ _ h => h) (Or.inl ⟨by rfl, fun wS hSw => ?_⟩) hHeld ?_
      · obtain ⟨⟨g0, g1, g2, g3, g4, g5, g6, g7⟩, gv, _⟩ := hSw
        first | rfl | (go_simp; done) | (go_simp; with_reducible rfl)
      try simp only [Act.put, List.getElem_toArray, List.getElem_cons_zero, List.getElem_cons_succ, List.setIfInBounds_toArray, List.set_cons_zero, List.set_cons_succ]
      refine wpAnyH_take (i := 6) (v := vc) rfl (by kernel_rfl) (by kernel_rfl) (by kernel_rfl) (fun _ _ _ h => h) (Or.inl ⟨by rfl, fun wS hSw => ?_⟩) hHeld ?_
      · obtain ⟨⟨g0, g1, g2, g3, g4, g5, g6, g7⟩, gv, _⟩ := hSw
        first | rfl | (go_simp; done) | (go_simp; with_reducible rfl)
      try simp only [Act.put, List.getElem_toArray, List.getElem_cons_zero, List.getElem_cons_succ, List.setIfInBounds_toArray, List.set_cons_zero, List.set_cons_succ]
      refine wpAnyH_take (i := 7) (v := (.string s2)) rfl (by kernel_rfl) (by kernel_rfl) (by kernel_rfl) (fun _ _ _ h => h) (Or.inl ⟨by rfl, fun wS hSw => ?_⟩) hHeld ?_
      · obtain ⟨⟨g0, g1, g2, g3, g4, g5, g6, g7⟩, gv, _⟩ := hSw
        first | rfl | (go_simp; done) | (go_simp; with_reducible rfl)
      try simp only [Act.put, List.getElem_toArray, List.getElem_cons_zero, List.getElem_cons_succ, List.setIfInBounds_toArray, List.set_cons_zero, List.set_cons_succ]
      refine wpAnyH_take (i := 8) (v := (.slice (some ⟨b, off, none⟩) k cap)) rfl (by kernel_rfl) (by kernel_rfl) (by kernel_rfl) (fun _ _ _ h => h) (Or.inl ⟨by rfl, fun wS hSw => ?_⟩) hHeld ?_
      · obtain ⟨⟨g0, g1, g2, g3, g4, g5, g6, g7⟩, gv, _⟩ := hSw
        first | rfl | (go_simp; done) | (go_simp; with_reducible rfl)
      try simp only [Act.put, List.getElem_toArray, List.getElem_cons_zero, List.getElem_cons_succ, List.setIfInBounds_toArray, List.set_cons_zero, List.set_cons_succ]
      refine wpAnyH_ready (rs := [9]) (by kernel_rfl) (by simp) ?_
      refine AllReadyH.cons rfl (fun K hK => ?_) AllReadyH.nil
      go_simp
      go_at_call 19; refine (HRJ.out _ hHeld.2.2).mono ?_; rintro e w11 ⟨vr, rfl, hs11, ⟨vr0, vr1, vr2, vr3⟩⟩
      refine hK.out _ _ ⟨HBX.out.at hs11, (HVC.out _ hs11).s0, hs11⟩ (fun hHeld => ?_)
      clear hK K
      try simp only [Act.put, List.getElem_toArray, List.getElem_cons_zero, List.getElem_cons_succ, List.setIfInBounds_toArray, List.set_cons_zero, List.set_cons_succ]
      refine wpAnyH_ready (rs := [10]) (by kernel_rfl) (by simp) ?_
      refine AllReadyH.cons rfl (fun K hK => ?_) AllReadyH.nil
      go_simp
      refine hK.out _ _ hHeld (fun hHeld => ?_)
      clear hK K
      try simp only [Act.put, List.getElem_toArray, List.getElem_cons_zero, List.getElem_cons_succ, List.setIfInBounds_toArray, List.set_cons_zero, List.set_cons_succ]
      refine wpAnyH_take (i := 11) (v := (.bool true)) rfl (by kernel_rfl) (by kernel_rfl) (by kernel_rfl) (fun _ _ _ h => h) (Or.inl ⟨by rfl, fun wS hSw => ?_⟩) hHeld ?_
      · obtain ⟨⟨g0, g1, g2, g3, g4, g5, g6, g7⟩, gv, _⟩ := hSw
        first | rfl | (go_simp; done) | (go_simp; with_reducible rfl)
      try simp only [Act.put, List.getElem_toArray, List.getElem_cons_zero, List.getElem_cons_succ, List.setIfInBounds_toArray, List.set_cons_zero, List.set_cons_succ]
      refine wpAnyH_take (i := 12) (v := (.bool true)) rfl (by kernel_rfl) (by kernel_rfl) (by kernel_rfl) (fun _ _ _ h => h) (Or.inl ⟨by rfl, fun wS hSw => ?_⟩) hHeld ?_
      · obtain ⟨⟨g0, g1, g2, g3, g4, g5, g6, g7⟩, gv, _⟩ := hSw
        first | rfl | (go_simp; done) | (go_simp; with_reducible rfl)
      try simp only [Act.put, List.getElem_toArray, List.getElem_cons_zero, List.getElem_cons_succ, List.setIfInBounds_toArray, List.set_cons_zero, List.set_cons_succ]
      refine wpAnyH_take (i := 13) (v := (.bool true)) rfl (by kernel_rfl) (by kernel_rfl) (by kernel_rfl) (fun _ _ _ h => h) (Or.inl ⟨by rfl, fun wS hSw => ?_⟩) hHeld ?_
      · obtain ⟨⟨g0, g1, g2, g3, g4, g5, g6, g7⟩, gv, _⟩ := hSw
        first | rfl | (go_simp; done) | (go_simp; with_reducible rfl)
      try simp only [Act.put, List.getElem_toArray, List.getElem_cons_zero, List.getElem_cons_succ, List.setIfInBounds_toArray, List.set_cons_zero, List.set_cons_succ]
      refine wpAnyH_done (by kernel_rfl) ?_ _
      go_wp2
      go_ret
      exact ⟨by simp, HB2.out.trans (hs11.mono HB2.out.size)⟩
end Go.Proofs.YtblklgcpobbfcaaGreatDoor
