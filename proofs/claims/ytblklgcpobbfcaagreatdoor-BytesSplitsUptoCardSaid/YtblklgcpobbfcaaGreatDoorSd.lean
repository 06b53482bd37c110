/- What the reference's Targets returns. Conditions: none. -/
import Derived.Test.YtblklgcpobbfcaaGreatDoorSc
set_option linter.all false
namespace Go.Proofs.YtblklgcpobbfcaaGreatDoor
open Go.Eng Go.RowKit
set_option maxRecDepth 1000000

/-- The greatest of the numbers, 0 at least. -/
def mostZ (zs : List Int) : Int := zs.foldl max 0
theorem mostZ_snoc (zs : List Int) (t : Int) : mostZ (zs ++ [t]) = max (mostZ zs) t := by simp [mostZ]
theorem mostZ_le (zs : List Int) : 0 ≤ mostZ zs ∧ ∀ x ∈ zs, x ≤ mostZ zs := by
  have key : ∀ (zs : List Int) (b : Int), b ≤ zs.foldl max b ∧ ∀ x ∈ zs, x ≤ zs.foldl max b := by
    intro zs
    induction zs with
    | nil => intro b; simp
    | cons a l ih =>
      intro b
      obtain ⟨h1, h2⟩ := ih (max b a)
      rw [List.foldl_cons]
      refine ⟨by omega, fun x hx => ?_⟩
      rcases List.mem_cons.1 hx with e | e
      · subst e; omega
      · exact h2 x e
  exact key zs 0
theorem mostZ_bound (zs : List Int) (m : Int) (hm : 0 ≤ m) (h : ∀ x ∈ zs, x ≤ m) : mostZ zs ≤ m := by
  have key : ∀ (zs : List Int) (b : Int), b ≤ m → (∀ x ∈ zs, x ≤ m) → zs.foldl max b ≤ m := by
    intro zs
    induction zs with
    | nil => intro b hb _; exact hb
    | cons a l ih =>
      intro b hb h
      rw [List.foldl_cons]
      exact ih _ (by have := h a (by simp); omega) (fun x hx => h x (by simp [hx]))
  exact key zs 0 hm h
theorem tgs_take_range {C : Nat → Int} {n : Nat} {L : List Nat} (h : Good C n L) (hn : n ≤ 60000) (k : Nat) : ∀ x ∈ tgs C (L.take k), 0 ≤ x ∧ x ≤ 200000 := by
  intro x hx
  refine tgs_range h hn x ?_
  simp only [tgs, List.mem_flatMap] at hx ⊢
  obtain ⟨a, ha, h2⟩ := hx
  exact ⟨a, List.mem_of_mem_take ha, h2⟩
/-- What the reference's Jumps says of an instruction. -/
theorem rjumps_at {C : Nat → Int} {n a : Nat} (hd : Dec C n a) (hn : n ≤ 60000) :
    (∃ kx : Nat, kx < 7 ∧ jmp C a = [(a : Int) + sz (opA C a) + xA C a kx] ∧ 0 ≤ xA C a kx ∧ xA C a kx ≤ 65535 ∧ ∀ w, Calls Tryz.prog 46 #[.int .i64 (opA C a)] w fun e w' => e = .returned (.tuple #[.int .i64 kx, .bool true]) ∧ w' = w) ∨
    (jmp C a = [] ∧ ∀ w, Calls Tryz.prog 46 #[.int .i64 (opA C a)] w fun e w' => e = .returned (.tuple #[.int .i64 1, .bool false]) ∧ w' = w) := by
  by_cases h22 : opA C a = 22
  · have hr := dec_22 hd h22
    refine .inl ⟨0, by omega, ?_, hr.1, hr.2, fun w => ?_⟩
    · unfold jmp; rw [if_pos h22, h22, sz22]
    · rw [h22]; exact rjumps_22 w
  · by_cases h23 : opA C a = 23
    · have hr := dec_23 hd h23
      refine .inl ⟨1, by omega, ?_, hr.1, hr.2, fun w => ?_⟩
      · unfold jmp; rw [if_neg h22, if_pos h23, h23, sz23]
      · rw [h23]; exact rjumps_23 w
    · refine .inr ⟨by unfold jmp; rw [if_neg h22, if_neg h23], fun w => rjumps_no _ w (by omega) (by omega)⟩
theorem OwnI.op {w : World} {base : Nat} {al : Option Addr} {cl : Nat} {C : Nat → Int} {L : List Nat} (h : OwnI w base (.slice al L.length cl) C L) {k a : Nat} (hk : L[k]? = some a) (kx : Nat) (hx : kx < 7) :
    ∃ g, al = some ⟨g, 0, none⟩ ∧ g < w.heap.size ∧ w.cell? ⟨g, k * 8, none⟩ = some (.int .i64 (opA C a)) ∧ w.cell? ⟨g, k * 8 + 1 + kx, none⟩ = some (.int .i64 (xA C a kx)) := by
  obtain ⟨g, e, h1, c0, c1, c2, c3, c4, c5, c6, c7⟩ := OwnI.at'' h hk
  refine ⟨g, e, h1, c0, ?_⟩
  rcases (show kx = 0 ∨ kx = 1 ∨ kx = 2 ∨ kx = 3 ∨ kx = 4 ∨ kx = 5 ∨ kx = 6 by omega) with rfl | rfl | rfl | rfl | rfl | rfl | rfl
  · exact c1
  · exact c2
  · exact c3
  · exact c4
  · exact c5
  · exact c6
  · exact c7

set_option maxHeartbeats 8000000 in
theorem rtargets {al aa : Option Addr} {cl ca n b1 b2 : Nat} {C : Nat → Int} {w : World} {L : List Nat} (hg : Gl w) (hl : OwnI w b1 (.slice al L.length cl) C L) (ha : OwnN w b2 (.slice aa L.length ca) L) (hn : n ≤ 3000) (h : Good C n L) :
    Calls Tryz.prog 27 #[.agg #[.slice al L.length cl, .slice aa L.length ca, .int .i64 (-1)]] w fun e w' => ∃ v, e = .returned v ∧ OwnZ w' w.heap.size v (sc (tgs C L)) ∧ Below w.heap.size w w' := by
  have HL := Lib.hid hl
  have HN := Lib.hid ha
  have HG : Aside (Gl w) := hg
  have HGOOD : Aside (Good C n L) := h
  have hlen := h.len
  have hb0 : Below w.heap.size w (w.alloc (.cells #[.slice al L.length cl, .slice aa L.length ca, .int .i64 (-1)] 59)) := (Below.refl _ _).alloc (Nat.le_refl _) _
  have HB0 : Aside (Below w.heap.size w (w.alloc (.cells #[.slice al L.length cl, .slice aa L.length ca, .int .i64 (-1)] 59))) := hb0
  have hbox := World.alloc_heap_new w (.cells #[.slice al L.length cl, .slice aa L.length ca, .int .i64 (-1)] 59)
  have hs0 : (w.alloc (.cells #[.slice al L.length cl, .slice aa L.length ca, .int .i64 (-1)] 59)).heap.size = w.heap.size + 1 := World.size_alloc _ _
  have HBX : Hid (∀ W, Below (w.heap.size + 1) (w.alloc (.cells #[.slice al L.length cl, .slice aa L.length ca, .int .i64 (-1)] 59)) W → W.cell? ⟨w.heap.size, 0, none⟩ = some (.slice al L.length cl) ∧ W.cell? ⟨w.heap.size, 1, none⟩ = some (.slice aa L.length ca)) := Lib.hid fun W hW => by
    have e := (hW.block w.heap.size (by omega)).trans hbox
    refine ⟨?_, ?_⟩
    all_goals (simp only [World.cell?, e]; rfl)
  clear hl ha hg h hbox hb0
  go_enter Tryz.func27, Tryz.ntmps27
  go_wp2
  generalize w.alloc (.cells #[.slice al L.length cl, .slice aa L.length ca, .int .i64 (-1)] 59) = w0 at *
  go_loopw [3, 4, 5] (fun o m i wr => ∃ k : Nat, k ≤ L.length ∧ i = .int .i64 k ∧ m = .int .i64 (mostZ (tgs C (L.take k))) ∧ Aside (OwnZ wr (w.heap.size + 1) o (tgs C (L.take k))) ∧ Aside (Below (w.heap.size + 1) w0 wr)) (fun _ _ i _ => L.length - (intOf i).toNat)
  case atStart => exact ⟨0, Nat.zero_le _, rfl, rfl, World.ownsRow_nil _ _ _ _, Below.refl _ _⟩
  case round =>
    obtain ⟨k, hk, rfl, rfl, hown, hB⟩ := hrel
    obtain ⟨q0, q1⟩ := HBX.out _ hB.out
    have hr1 := tgs_take_range HGOOD.out (by omega) k
    have hm1 := (mostZ_le (tgs C (L.take k))).1
    have hm2 := mostZ_bound (tgs C (L.take k)) 200000 (by omega) (fun x hx => (hr1 x hx).2)
    have hszr : w.heap.size + 1 ≤ wr.heap.size := by have := hB.out.size; omega
    by_cases hlt : k < L.length
    · obtain ⟨a, hka⟩ : ∃ a, L[k]? = some a := ⟨_, List.getElem?_eq_getElem hlt⟩
      obtain ⟨han, had⟩ := good_dec HGOOD.out hka
      have HTK : Aside (tgs C (L.take (k + 1)) = tgs C (L.take k) ++ jmp C a) := tgs_take hka
      have hop : opA C a < 27 := had.1
      have hsz2 := had.2.1
      have hszp := sz_pos had.1
      have hk0 : (0 : Int) ≤ (k : Int) := by omega
      have hk1 : (k : Int) < (L.length : Int) := by omega
      have htl : (tgs C (L.take k)).length < 60000 := by have h1 := tgs_len C (L.take k); rw [List.length_take] at h1; omega
      have hWr : Aside (Below w.heap.size w wr) := HB0.out.trans (hB.out.mono (by omega))
      clear hr1
      rcases rjumps_at had (by omega) with ⟨kx, hkx, hjmp, hx0, hx1, hjc⟩ | ⟨hjmp, hjc⟩
      · have HJ := Lib.hid hjc
        obtain ⟨gn, rfl, hgn, cn⟩ := OwnN.at'' HN.out hka
        obtain ⟨gl, rfl, hgl, c0, cx⟩ := OwnI.op HL.out hka kx hkx
        have HSZ := Lib.hid fun (W : World) (hW : Gl W) => rsize_yes (opA C a : Int) W hW (by omega) (by omega)
        have dn := (hWr.out.cell (p := ⟨gn, k, none⟩) hgn).trans cn
        have d0 := (hWr.out.cell (p := ⟨gl, k * 8, none⟩) hgl).trans c0
        have dx := (hWr.out.cell (p := ⟨gl, k * 8 + 1 + kx, none⟩) hgl).trans cx
        have hgn' : gn < wr.heap.size := by omega
        have hgl' : gl < wr.heap.size := by omega
        have hbx' : w.heap.size < wr.heap.size := by omega
        clear cn c0 cx hjc hka
        have hws : IntKind.i64.wrap ((a : Int) + sz (opA C a)) = (a : Int) + sz (opA C a) := by rw [IntKind.wrap_i64]; omega
        have hws2 : wrap64 ((a : Int) + sz (opA C a)) = (a : Int) + sz (opA C a) := by unfold wrap64; omega
        have hwt : IntKind.i64.wrap ((a : Int) + sz (opA C a) + xA C a kx) = (a : Int) + sz (opA C a) + xA C a kx := by rw [IntKind.wrap_i64]; omega
        have hwt2 : wrap64 ((a : Int) + sz (opA C a) + xA C a kx) = (a : Int) + sz (opA C a) + xA C a kx := by unfold wrap64; omega
        have hkx0 : (0 : Int) ≤ (kx : Int) := by omega
        have hkx1 : (kx : Int) < 7 := by omega
        have HTK2 : Aside (tgs C (L.take (k + 1)) = tgs C (L.take k) ++ [(a : Int) + sz (opA C a) + xA C a kx]) := by show _ = _; rw [HTK.out, hjmp]
        go_wp2_with (go_at_call 46; refine (HJ.out _).mono ?_; rintro e w2 ⟨rfl, rfl⟩)
        refine wp_region_held_drew (S := fun W => Below w2.heap.size w2 W) (by kernel_rfl) (Below.refl _ _).drew (fun hHeld => ?_)
        refine wpAnyH_take (i := 0) (v := (.pointer (some ⟨w.heap.size, 1, none⟩))) rfl (by kernel_rfl) (by kernel_rfl) (by kernel_rfl) (fun _ _ _ h => h) (Or.inl ⟨by rfl, fun wS hSw => ?_⟩) hHeld ?_
        · skip
          first | rfl | (go_simp; done) | (go_simp; with_reducible rfl)
        try simp only [Act.put, List.getElem_toArray, List.getElem_cons_zero, List.getElem_cons_succ, List.setIfInBounds_toArray, List.set_cons_zero, List.set_cons_succ]
        refine wpAnyH_take (i := 1) (v := (.slice (some ⟨gn, 0, none⟩) L.length ca)) rfl (by kernel_rfl) (by kernel_rfl) (by kernel_rfl) (fun _ _ _ h => h) (Or.inl ⟨by rfl, fun wS hSw => ?_⟩) hHeld ?_
        · have e1 := (hSw.cell (p := ⟨w.heap.size, 1, none⟩) hbx').trans q1
          first | rfl | (go_simp; done) | (go_simp; with_reducible rfl)
        try simp only [Act.put, List.getElem_toArray, List.getElem_cons_zero, List.getElem_cons_succ, List.setIfInBounds_toArray, List.set_cons_zero, List.set_cons_succ]
        refine wpAnyH_take (i := 2) (v := (.int .i64 k)) rfl (by kernel_rfl) (by kernel_rfl) (by kernel_rfl) (fun _ _ _ h => h) (Or.inl ⟨by rfl, fun wS hSw => ?_⟩) hHeld ?_
        · skip
          first | rfl | (go_simp; done) | (go_simp; with_reducible rfl)
        try simp only [Act.put, List.getElem_toArray, List.getElem_cons_zero, List.getElem_cons_succ, List.setIfInBounds_toArray, List.set_cons_zero, List.set_cons_succ]
        refine wpAnyH_take (i := 3) (v := (.pointer (some ⟨gn, k, none⟩))) rfl (by kernel_rfl) (by kernel_rfl) (by kernel_rfl) (fun _ _ _ h => h) (Or.inl ⟨by rfl, fun wS hSw => ?_⟩) hHeld ?_
        · skip
          first | rfl | (go_simp; done) | (go_simp; with_reducible rfl)
        try simp only [Act.put, List.getElem_toArray, List.getElem_cons_zero, List.getElem_cons_succ, List.setIfInBounds_toArray, List.set_cons_zero, List.set_cons_succ]
        refine wpAnyH_take (i := 4) (v := (.int .i64 a)) rfl (by kernel_rfl) (by kernel_rfl) (by kernel_rfl) (fun _ _ _ h => h) (Or.inl ⟨by rfl, fun wS hSw => ?_⟩) hHeld ?_
        · have e2 := (hSw.cell (p := ⟨gn, k, none⟩) hgn').trans dn
          first | rfl | (go_simp; done) | (go_simp; with_reducible rfl)
        try simp only [Act.put, List.getElem_toArray, List.getElem_cons_zero, List.getElem_cons_succ, List.setIfInBounds_toArray, List.set_cons_zero, List.set_cons_succ]
        refine wpAnyH_take (i := 5) (v := (.pointer (some ⟨w.heap.size, 0, none⟩))) rfl (by kernel_rfl) (by kernel_rfl) (by kernel_rfl) (fun _ _ _ h => h) (Or.inl ⟨by rfl, fun wS hSw => ?_⟩) hHeld ?_
        · skip
          first | rfl | (go_simp; done) | (go_simp; with_reducible rfl)
        try simp only [Act.put, List.getElem_toArray, List.getElem_cons_zero, List.getElem_cons_succ, List.setIfInBounds_toArray, List.set_cons_zero, List.set_cons_succ]
        refine wpAnyH_take (i := 6) (v := (.slice (some ⟨gl, 0, none⟩) L.length cl)) rfl (by kernel_rfl) (by kernel_rfl) (by kernel_rfl) (fun _ _ _ h => h) (Or.inl ⟨by rfl, fun wS hSw => ?_⟩) hHeld ?_
        · have e0 := (hSw.cell (p := ⟨w.heap.size, 0, none⟩) hbx').trans q0
          first | rfl | (go_simp; done) | (go_simp; with_reducible rfl)
        try simp only [Act.put, List.getElem_toArray, List.getElem_cons_zero, List.getElem_cons_succ, List.setIfInBounds_toArray, List.set_cons_zero, List.set_cons_succ]
        refine wpAnyH_take (i := 7) (v := (.int .i64 k)) rfl (by kernel_rfl) (by kernel_rfl) (by kernel_rfl) (fun _ _ _ h => h) (Or.inl ⟨by rfl, fun wS hSw => ?_⟩) hHeld ?_
        · skip
          first | rfl | (go_simp; done) | (go_simp; with_reducible rfl)
        try simp only [Act.put, List.getElem_toArray, List.getElem_cons_zero, List.getElem_cons_succ, List.setIfInBounds_toArray, List.set_cons_zero, List.set_cons_succ]
        refine wpAnyH_take (i := 8) (v := (.pointer (some ⟨gl, k * 8, none⟩))) rfl (by kernel_rfl) (by kernel_rfl) (by kernel_rfl) (fun _ _ _ h => h) (Or.inl ⟨by rfl, fun wS hSw => ?_⟩) hHeld ?_
        · skip
          first | rfl | (go_simp; done) | (go_simp; with_reducible rfl)
        try simp only [Act.put, List.getElem_toArray, List.getElem_cons_zero, List.getElem_cons_succ, List.setIfInBounds_toArray, List.set_cons_zero, List.set_cons_succ]
        refine wpAnyH_take (i := 9) (v := (.pointer (some ⟨gl, k * 8, none⟩))) rfl (by kernel_rfl) (by kernel_rfl) (by kernel_rfl) (fun _ _ _ h => h) (Or.inl ⟨by rfl, fun wS hSw => ?_⟩) hHeld ?_
        · skip
          first | rfl | (go_simp; done) | (go_simp; with_reducible rfl)
        try simp only [Act.put, List.getElem_toArray, List.getElem_cons_zero, List.getElem_cons_succ, List.setIfInBounds_toArray, List.set_cons_zero, List.set_cons_succ]
        refine wpAnyH_take (i := 10) (v := (.int .i64 (opA C a))) rfl (by kernel_rfl) (by kernel_rfl) (by kernel_rfl) (fun _ _ _ h => h) (Or.inl ⟨by rfl, fun wS hSw => ?_⟩) hHeld ?_
        · have e3 := (hSw.cell (p := ⟨gl, k * 8, none⟩) hgl').trans d0
          first | rfl | (go_simp; done) | (go_simp; with_reducible rfl)
        try simp only [Act.put, List.getElem_toArray, List.getElem_cons_zero, List.getElem_cons_succ, List.setIfInBounds_toArray, List.set_cons_zero, List.set_cons_succ]
        refine wpAnyH_take (i := 13) (v := (.pointer (some ⟨w.heap.size, 0, none⟩))) rfl (by kernel_rfl) (by kernel_rfl) (by kernel_rfl) (fun _ _ _ h => h) (Or.inl ⟨by rfl, fun wS hSw => ?_⟩) hHeld ?_
        · skip
          first | rfl | (go_simp; done) | (go_simp; with_reducible rfl)
        try simp only [Act.put, List.getElem_toArray, List.getElem_cons_zero, List.getElem_cons_succ, List.setIfInBounds_toArray, List.set_cons_zero, List.set_cons_succ]
        refine wpAnyH_take (i := 14) (v := (.slice (some ⟨gl, 0, none⟩) L.length cl)) rfl (by kernel_rfl) (by kernel_rfl) (by kernel_rfl) (fun _ _ _ h => h) (Or.inl ⟨by rfl, fun wS hSw => ?_⟩) hHeld ?_
        · have e0 := (hSw.cell (p := ⟨w.heap.size, 0, none⟩) hbx').trans q0
          first | rfl | (go_simp; done) | (go_simp; with_reducible rfl)
        try simp only [Act.put, List.getElem_toArray, List.getElem_cons_zero, List.getElem_cons_succ, List.setIfInBounds_toArray, List.set_cons_zero, List.set_cons_succ]
        refine wpAnyH_take (i := 15) (v := (.int .i64 k)) rfl (by kernel_rfl) (by kernel_rfl) (by kernel_rfl) (fun _ _ _ h => h) (Or.inl ⟨by rfl, fun wS hSw => ?_⟩) hHeld ?_
        · skip
          first | rfl | (go_simp; done) | (go_simp; with_reducible rfl)
        try simp only [Act.put, List.getElem_toArray, List.getElem_cons_zero, List.getElem_cons_succ, List.setIfInBounds_toArray, List.set_cons_zero, List.set_cons_succ]
        refine wpAnyH_take (i := 16) (v := (.int .i64 kx)) rfl (by kernel_rfl) (by kernel_rfl) (by kernel_rfl) (fun _ _ _ h => h) (Or.inl ⟨by rfl, fun wS hSw => ?_⟩) hHeld ?_
        · skip
          first | rfl | (go_simp; done) | (go_simp; with_reducible rfl)
        try simp only [Act.put, List.getElem_toArray, List.getElem_cons_zero, List.getElem_cons_succ, List.setIfInBounds_toArray, List.set_cons_zero, List.set_cons_succ]
        refine wpAnyH_take (i := 17) (v := (.pointer (some ⟨gl, k * 8, none⟩))) rfl (by kernel_rfl) (by kernel_rfl) (by kernel_rfl) (fun _ _ _ h => h) (Or.inl ⟨by rfl, fun wS hSw => ?_⟩) hHeld ?_
        · skip
          first | rfl | (go_simp; done) | (go_simp; with_reducible rfl)
        try simp only [Act.put, List.getElem_toArray, List.getElem_cons_zero, List.getElem_cons_succ, List.setIfInBounds_toArray, List.set_cons_zero, List.set_cons_succ]
        refine wpAnyH_take (i := 18) (v := (.pointer (some ⟨gl, k * 8 + 1, none⟩))) rfl (by kernel_rfl) (by kernel_rfl) (by kernel_rfl) (fun _ _ _ h => h) (Or.inl ⟨by rfl, fun wS hSw => ?_⟩) hHeld ?_
        · skip
          first | rfl | (go_simp; done) | (go_simp; with_reducible rfl)
        try simp only [Act.put, List.getElem_toArray, List.getElem_cons_zero, List.getElem_cons_succ, List.setIfInBounds_toArray, List.set_cons_zero, List.set_cons_succ]
        refine wpAnyH_take (i := 19) (v := (.pointer (some ⟨gl, k * 8 + 1 + kx, none⟩))) rfl (by kernel_rfl) (by kernel_rfl) (by kernel_rfl) (fun _ _ _ h => h) (Or.inl ⟨by rfl, fun wS hSw => ?_⟩) hHeld ?_
        · skip
          first | rfl | (go_simp; done) | (go_simp; with_reducible rfl)
        try simp only [Act.put, List.getElem_toArray, List.getElem_cons_zero, List.getElem_cons_succ, List.setIfInBounds_toArray, List.set_cons_zero, List.set_cons_succ]
        refine wpAnyH_take (i := 20) (v := (.int .i64 (xA C a kx))) rfl (by kernel_rfl) (by kernel_rfl) (by kernel_rfl) (fun _ _ _ h => h) (Or.inl ⟨by rfl, fun wS hSw => ?_⟩) hHeld ?_
        · have e4 := (hSw.cell (p := ⟨gl, k * 8 + 1 + kx, none⟩) hgl').trans dx
          first | rfl | (go_simp; done) | (go_simp; with_reducible rfl)
        try simp only [Act.put, List.getElem_toArray, List.getElem_cons_zero, List.getElem_cons_succ, List.setIfInBounds_toArray, List.set_cons_zero, List.set_cons_succ]
        refine wpAnyH_ready (rs := [11]) (by kernel_rfl) (by simp) ?_
        refine AllReadyH.cons rfl (fun KC hC => ?_) AllReadyH.nil
        go_simp
        go_at_call 14; refine (HSZ.out _ (HG.out.below (hWr.out.trans (hHeld.mono (by omega))))).mono ?_; rintro e w4 ⟨he, hb4⟩; rw [Int.toNat_natCast] at he; subst he
        have hH4 : Below w2.heap.size w2 w4 := hHeld.trans (hb4.mono hHeld.size)
        refine hC.out _ _ hH4 (fun hHeld => ?_)
        clear hC KC
        try simp only [Act.put, List.getElem_toArray, List.getElem_cons_zero, List.getElem_cons_succ, List.setIfInBounds_toArray, List.set_cons_zero, List.set_cons_succ]
        refine wpAnyH_take (i := 12) (v := (.int .i64 (a + sz (opA C a)))) rfl (by kernel_rfl) (by kernel_rfl) (by kernel_rfl) (fun _ _ _ h => h) (Or.inl ⟨by rfl, fun wS hSw => ?_⟩) hHeld ?_
        · skip
          first | rfl | (go_simp; done) | (go_simp; with_reducible rfl)
        try simp only [Act.put, List.getElem_toArray, List.getElem_cons_zero, List.getElem_cons_succ, List.setIfInBounds_toArray, List.set_cons_zero, List.set_cons_succ]
        refine wpAnyH_take (i := 21) (v := (.int .i64 (a + sz (opA C a) + xA C a kx))) rfl (by kernel_rfl) (by kernel_rfl) (by kernel_rfl) (fun _ _ _ h => h) (Or.inl ⟨by rfl, fun wS hSw => ?_⟩) hHeld ?_
        · skip
          first | rfl | (go_simp; done) | (go_simp; with_reducible rfl)
        try simp only [Act.put, List.getElem_toArray, List.getElem_cons_zero, List.getElem_cons_succ, List.setIfInBounds_toArray, List.set_cons_zero, List.set_cons_succ]
        refine wpAnyH_take (i := 22) (v := (.int .i64 (a + sz (opA C a) + xA C a kx))) rfl (by kernel_rfl) (by kernel_rfl) (by kernel_rfl) (fun _ _ _ h => h) (Or.inl ⟨by rfl, fun wS hSw => ?_⟩) hHeld ?_
        · skip
          first | rfl | (go_simp; done) | (go_simp; with_reducible rfl)
        try simp only [Act.put, List.getElem_toArray, List.getElem_cons_zero, List.getElem_cons_succ, List.setIfInBounds_toArray, List.set_cons_zero, List.set_cons_succ]
        refine wpAnyH_done (by kernel_rfl) ?_ _
        have HOW : Aside (OwnZ w4 (w.heap.size + 1) _ (tgs C (L.take k))) := own_at hown.out (fun k _ h => hH4.block k h)
        have HB4 : Aside (Below (w.heap.size + 1) w0 w4) := hB.out.trans (hH4.mono (by omega))
        have hz4 : w.heap.size + 1 ≤ w4.heap.size := by have := hH4.size; omega
        obtain ⟨t, ht⟩ : ∃ t : Int, t = (a : Int) + sz (opA C a) + xA C a kx := ⟨_, rfl⟩
        have ht0 : 0 ≤ t := by omega
        have ht1 : t ≤ 200000 := by omega
        rw [← ht] at HTK2 ⊢
        clear hHeld hH4 hb4 hown d0 dn dx q0 q1 hws hws2 hwt hwt2 ht
        go_wp2_with (at_builtin; refine append50_one (by rfl) _ _ rfl (w.heap.size + 1) _ (tgs C (L.take k)) rfl (HOW.out.alloc _) w4.heap.size t (0, 0) rfl (World.alloc_heap_new _ _) (by omega) (by simp; omega) ?_; intro v5 w5 ho5 hg5; have HO5 : Aside (OwnZ w5 (w.heap.size + 1) v5 (tgs C (L.take (k + 1)))) := (by show OwnZ w5 (w.heap.size + 1) v5 (tgs C (L.take (k + 1))); rw [HTK2.out]; exact ho5); have HB5 : Aside (Below (w.heap.size + 1) w0 w5) := (HB4.out.trans ((Below.refl _ w4).alloc hz4 _)).trans ⟨hg5.os, hg5.tape, hg5.output, hg5.size, fun k hk => hg5.block k (by simp; omega) (fun e => by have := (HOW.out.lt k e.symm).1; omega)⟩; clear ho5 hg5)
        refine ⟨⟨k + 1, by omega, by go_num, by rw [HTK2.out, mostZ_snoc], HO5.out, HB5.out⟩, ?_⟩
        simp [intOf]; omega
      · have HJ := Lib.hid hjc
        obtain ⟨gl, rfl, hgl, c0, _⟩ := OwnI.op HL.out hka 0 (by omega)
        have d0 := (hWr.out.cell (p := ⟨gl, k * 8, none⟩) hgl).trans c0
        have HTK2 : Aside (tgs C (L.take (k + 1)) = tgs C (L.take k)) := by show _ = _; rw [HTK.out, hjmp, List.append_nil]
        clear c0 hjc hka
        go_wp2_with (go_at_call 46; refine (HJ.out _).mono ?_; rintro e w2 ⟨rfl, rfl⟩)
        refine ⟨⟨k + 1, by omega, by go_num, by rw [HTK2.out], by rw [HTK2.out]; exact hown.out, hB.out⟩, ?_⟩
        simp [intOf]; omega
    · have e : k = L.length := by omega
      subst e
      rw [List.take_length] at hown hm1 hm2 hr1 ⊢
      obtain ⟨M, hM⟩ : ∃ M : Nat, mostZ (tgs C L) = M := ⟨(mostZ (tgs C L)).toNat, by omega⟩
      have hM2 : (M : Int) ≤ 200000 := by omega
      have HSB : Aside (sc (tgs C L) = below (tgs C L) (M + 1)) := sc_below _ _ (fun x hx => ⟨(hr1 x hx).1, by have := (mostZ_le (tgs C L)).2 x hx; omega⟩)
      have htl := tgs_len C L
      have hBr : Aside (Below w.heap.size w wr) := HB0.out.trans (hB.out.mono (by omega))
      rw [hM]
      clear hr1 hm1 hm2 hM
      go_wp2
      clear q0 q1
      obtain ⟨W0, rfl⟩ : ∃ W0, W0 = wr := ⟨_, rfl⟩
      go_loopw [9, 10] (fun o i W => ∃ k : Nat, k ≤ M + 1 ∧ i = .int .i64 k ∧ Aside (OwnZ W W0.heap.size o (below (tgs C L) k)) ∧ Aside (Below W0.heap.size W0 W)) (fun _ i _ => M + 1 - (intOf i).toNat)
      case atStart => exact ⟨0, Nat.zero_le _, rfl, World.ownsRow_nil _ _ _ _, Below.refl _ _⟩
      case round =>
        obtain ⟨k, hk, rfl, hown2, hB2⟩ := hrel
        by_cases hlt : k < M + 1
        · have hkM : (k : Int) ≤ (M : Int) := by omega
          have hkM' : decide ((k : Int) ≤ (M : Int)) = true := by simpa using hkM
          have hal := below_len (tgs C L) k
          have HAL := Lib.hid (has_any (own_at hown.out (fun k _ h => hB2.out.block k h)) (by omega) (k : Int))
          have hz : W0.heap.size ≤ wr.heap.size := hB2.out.size
          cases hc : (tgs C L).contains (k : Int) with
          | true =>
            have HSU : Aside (below (tgs C L) (k + 1) = below (tgs C L) k ++ [(k : Int)]) := by show _ = _; rw [below_succ, if_pos hc]
            rw [hc] at HAL
            clear hc
            go_wp2_with (first
              | (go_at_call 47; refine HAL.out.mono ?_; rintro e w3 ⟨rfl, rfl⟩)
              | (at_builtin; refine append50_one (by rfl) _ _ rfl W0.heap.size _ (below (tgs C L) k) rfl (hown2.out.alloc _) w3.heap.size k (0, 0) rfl (World.alloc_heap_new _ _) (by omega) (by simp; omega) ?_; intro v5 w5 ho5 hg5; have HO5 : Aside (OwnZ w5 W0.heap.size v5 (below (tgs C L) (k + 1))) := (by show OwnZ w5 W0.heap.size v5 (below (tgs C L) (k + 1)); rw [HSU.out]; exact ho5); have HB5 : Aside (Below W0.heap.size W0 w5) := below_stepG (hB2.out.alloc hB2.out.size _) hg5 (own_lowest hown2.out); clear ho5 hg5))
            refine ⟨⟨k + 1, by omega, by go_num, HO5.out, HB5.out⟩, ?_⟩
            simp [intOf]; omega
          | false =>
            have HSU : Aside (below (tgs C L) (k + 1) = below (tgs C L) k) := by show _ = _; rw [below_succ, hc, if_neg (by decide), List.append_nil]
            rw [hc] at HAL
            clear hc
            go_wp2_with (go_at_call 47; refine HAL.out.mono ?_; rintro e w3 ⟨rfl, rfl⟩)
            refine ⟨⟨k + 1, by omega, by go_num, by rw [HSU.out]; exact hown2.out, hB2.out⟩, ?_⟩
            simp [intOf]; omega
        · have e : k = M + 1 := by omega
          subst e
          have hkM : ¬ (((M + 1 : Nat) : Int) ≤ (M : Int)) := by omega
          go_wp2
          go_ret
          exact ⟨_, rfl, by rw [HSB.out]; exact own_base hown2.out (by omega), hBr.out.trans (hB2.out.mono (by omega))⟩
end Go.Proofs.YtblklgcpobbfcaaGreatDoor
