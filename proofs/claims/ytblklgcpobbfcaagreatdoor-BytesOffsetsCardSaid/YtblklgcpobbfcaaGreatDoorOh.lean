/- The law BytesOffsets where the code is one. Conditions: none. -/
import Derived.Test.YtblklgcpobbfcaaGreatDoorOg
set_option linter.all false
namespace Go.Proofs.YtblklgcpobbfcaaGreatDoor
open Go.Eng Go.RowKit
attribute [local go_sem] eq36
set_option maxRecDepth 1000000

/-- Where the instruction number k begins; behind the last one: the end. -/
def nxAt (L : List Nat) (n k : Nat) : Nat := (L ++ [n]).getD k 0
theorem nxAt_eq {L : List Nat} {n k a : Nat} (h : (L ++ [n])[k]? = some a) : nxAt L n k = a := by
  unfold nxAt
  rw [List.getD_eq_getElem?_getD, h]
  rfl
theorem nxAt_end (L : List Nat) (n : Nat) : nxAt L n L.length = n := nxAt_eq (by simp)
theorem cat_lo {C D : Nat → Int} {n : Nat} : ∀ j, j < n → cat C D n j = C j := fun j h => by unfold cat; rw [if_pos h]
theorem cat_hi {C D : Nat → Int} {n m : Nat} : ∀ j, j < m → cat C D n (j + n) = D j := fun j _ => by unfold cat; rw [if_neg (by omega), Nat.add_sub_cancel]
theorem OwnN.at' {w : World} {base : Nat} {al : Option Addr} {cl : Nat} {L : List Nat} (h : OwnN w base (.slice al L.length cl) L) {k a : Nat} (hk : L[k]? = some a) : ∃ g, al = some ⟨g, 0, none⟩ ∧ g < w.heap.size ∧ w.cell? ⟨g, k, none⟩ = some (.int .i64 a) := by
  have hlt := (List.getElem?_eq_some_iff.1 hk).1
  obtain ⟨g, c, e, h1, _, h2⟩ := own_some h (by omega)
  cases e
  refine ⟨g, rfl, h1, ?_⟩
  rw [h2 k (by omega), List.getElem?_map, hk]
  rfl
theorem OwnI.at' {w : World} {base : Nat} {al : Option Addr} {cl : Nat} {C : Nat → Int} {L : List Nat} (h : OwnI w base (.slice al L.length cl) C L) {k a : Nat} (hk : L[k]? = some a) :
    ∃ g, al = some ⟨g, 0, none⟩ ∧ g < w.heap.size ∧ w.cell? ⟨g, k * 8, none⟩ = some (.int .i64 (opA C a)) ∧ w.cell? ⟨g, k * 8 + 1, none⟩ = some (.int .i64 (xA C a 0)) ∧ w.cell? ⟨g, k * 8 + 2, none⟩ = some (.int .i64 (xA C a 1)) ∧ w.cell? ⟨g, k * 8 + 3, none⟩ = some (.int .i64 (xA C a 2)) ∧
      w.cell? ⟨g, k * 8 + 4, none⟩ = some (.int .i64 (xA C a 3)) ∧ w.cell? ⟨g, k * 8 + 5, none⟩ = some (.int .i64 (xA C a 4)) ∧ w.cell? ⟨g, k * 8 + 6, none⟩ = some (.int .i64 (xA C a 5)) ∧ w.cell? ⟨g, k * 8 + 7, none⟩ = some (.int .i64 (xA C a 6)) := by
  have hlt := (List.getElem?_eq_some_iff.1 hk).1
  obtain ⟨g, c, e, h1, _, h2⟩ := own_some h (by omega)
  cases e
  have key : ∀ j, j < 8 → w.cell? ⟨g, k * 8 + j, none⟩ = some (.int .i64 ((iI C a).getD j 0)) := fun j hj => by
    rw [h2 _ (by omega), List.getElem?_map]
    have hl : k * 8 + j < (II C L).length := by rw [II_len]; omega
    have := II_get C L k j a hk hj
    rw [List.getD_eq_getElem?_getD, List.getElem?_eq_getElem hl, Option.getD_some] at this
    rw [List.getElem?_eq_getElem hl, Option.map_some, this]
  exact ⟨g, rfl, h1, key 0 (by omega), key 1 (by omega), key 2 (by omega), key 3 (by omega), key 4 (by omega), key 5 (by omega), key 6 (by omega), key 7 (by omega)⟩

set_option maxHeartbeats 8000000 in
theorem olaw_gg (v1 v2 : Value) (n m : Nat) (C D : Nat → Int) (w : World) (hg : Gl w) (h1 : CodeArg w v1 n C) (h2 : CodeArg w v2 m D) (hn : n ≤ 3000) (hm : m ≤ 3000) (L : List Nat) (hL : Good C n L) (M : List Nat) (hM : Good D m M) :
    Calls Tryz.prog 6 #[v1, v2] w fun e w' => e = .returned (.bool true) ∧ Below w.heap.size w w' := by
  obtain ⟨a1, c1, e1, hc1⟩ := h1.form
  obtain ⟨a2, c2, e2, _⟩ := h2.form
  subst e1 e2
  have hn' : ¬ (3000 : Int) < (n : Int) := by omega
  have hm' : ¬ (3000 : Int) < (m : Int) := by omega
  have hlen := hL.len
  have HC1 := Lib.hid hc1
  have H1 := Lib.hid (split_good hg h1 (by omega) hL)
  have HA1 : Aside (CodeArg w (.slice a1 n c1) n C) := h1
  have HA2 : Aside (CodeArg w (.slice a2 m c2) m D) := h2
  have HG : Aside (Gl w) := hg
  have HSEG : Aside (Good C n L) := hL
  have hlm := hM.len
  have HM : Aside (Good D m M) := hM
  have HK : Aside (Good (cat C D n) (n + m) (L ++ M.map (· + n))) := both_good cat_lo cat_hi hL hM
  clear hM
  clear hg h1 h2 hL hc1
  go_enter Tryz.func6, Tryz.ntmps6
  go_wp2_with (first
    | (go_at_call 21; refine H1.out.mono ?_; clear H1; rintro e w1 ⟨vl, va, rfl, hl1, ha1, hb1⟩; obtain ⟨al, cl, rfl⟩ := own_form hl1; obtain ⟨aa, ca, rfl⟩ := own_form ha1; have HB1 : Aside (Below w.heap.size w w1) := hb1; have HL1 : Aside (OwnI w1 w.heap.size (.slice al L.length cl) C L) := hl1; have HN1 : Aside (OwnN w1 w.heap.size (.slice aa L.length ca) L) := ha1; have H2 := Lib.hid (split_good (HG.out.below hb1) (HA2.out.below hb1 rfl) (by omega) HM.out); clear hb1 hl1 ha1)
    | (go_at_call 21; refine H2.out.mono ?_; clear H2; rintro e w2 ⟨vm, vma, rfl, hm2, _, hb2⟩; have HM2 : Aside (OwnI w2 w.heap.size vm D M) := own_base hm2 HB1.out.size; clear hm2; have HL2 : Aside (OwnI w2 w.heap.size (.slice al L.length cl) C L) := own_at HL1.out (fun k _ h => hb2.block k h); have HN2 : Aside (OwnN w2 w.heap.size (.slice aa L.length ca) L) := own_at HN1.out (fun k _ h => hb2.block k h); have HB2 : Aside (Below w.heap.size w w2) := step HB1.out hb2; clear hb2 HB1 HL1 HN1)
    | (at_builtin; refine append40 (by rfl) _ _ rfl w.heap.size (.slice (some ⟨w2.heap.size, 0, none⟩) 0 0) 0 [] rfl (World.ownsRow_lit w2 #[] 0 HB2.out.size (by decide) rfl) (.slice a1 n c1) n C rfl (HA1.out.below (HB2.out.alloc HB2.out.size _) rfl) (by omega) (by have := HB2.out.size; simp; omega) ?_; intro v3 w3 ho3 hg3; have HO3 : Aside (w3.ownsRow w.heap.size 5 1 v3 (0 + n) ([] ++ bytesOf C n)) := ho3; have HB3 : Aside (Below w.heap.size w w3) := below_stepG (HB2.out.alloc HB2.out.size _) hg3 (fun k e => by cases e; exact HB2.out.size); have HC3 : Aside (w2.grownBy w3 (some w2.heap.size)) := grown_trans (grown_below ((Below.refl _ _).alloc (Nat.le_refl _) _) _) hg3; clear ho3 hg3 HB2)
    | (at_builtin; refine append40 (by rfl) _ _ rfl w.heap.size v3 (0 + n) ([] ++ bytesOf C n) rfl HO3.out (.slice a2 m c2) m D rfl (HA2.out.below HB3.out rfl) (by omega) HB3.out.size ?_; intro v4 w4 ho4 hg4; have HA4 : Aside (CodeArg w4 v4 (n + m) (cat C D n)) := cat_arg HA1.out.byte HA2.out.byte ho4; have HB4 : Aside (Below w.heap.size w w4) := below_stepG HB3.out hg4 (own_lowest HO3.out); have HC4 : Aside (w3.grownBy w4 v3.ownBlock) := hg4; have H3 := Lib.hid (split_good (HG.out.below HB4.out) HA4.out (by omega) HK.out); clear ho4 hg4 HB3)
    | (go_at_call 21; refine H3.out.mono ?_; clear H3; rintro e w5 ⟨vb, vba, rfl, hk5, _, hb5⟩; have HK5 : Aside (OwnI w5 w.heap.size vb (cat C D n) (L ++ M.map (· + n))) := own_base hk5 HB4.out.size; have HM5 : Aside (OwnI w5 w.heap.size vm D M) := rows_on HM2.out HC3.out HO3.out HC4.out hb5 (by decide); clear hk5 HM2; have HL5 : Aside (OwnI w5 w.heap.size (.slice al L.length cl) C L) := rows_on HL2.out HC3.out HO3.out HC4.out hb5 (by decide); have HN5 : Aside (OwnN w5 w.heap.size (.slice aa L.length ca) L) := rows_on HN2.out HC3.out HO3.out HC4.out hb5 (by decide); have HB5 : Aside (Below w.heap.size w w5) := step HB4.out hb5; clear hb5 HB4 HL2 HN2 HC3 HO3 HC4))
  go_loopw [14, 15] (fun nx i wr => ∃ k : Nat, k ≤ L.length ∧ i = .int .i64 k ∧ nx = .int .i64 (nxAt L n k) ∧ Aside (Below w5.heap.size w5 wr)) (fun _ i _ => L.length - (intOf i).toNat)
  case atStart => exact ⟨0, Nat.zero_le _, rfl, by rw [nxAt_eq HSEG.out.first]; rfl, Below.refl _ _⟩
  case round =>
    obtain ⟨k, hk, rfl, rfl, hB⟩ := hrel
    have hGr : Aside (Gl wr) := HG.out.below (HB5.out.trans (hB.out.mono HB5.out.size))
    by_cases hlt : k < L.length
    · obtain ⟨a, ha⟩ : ∃ a, L[k]? = some a := ⟨_, List.getElem?_eq_getElem hlt⟩
      obtain ⟨han, had, hnx⟩ := HSEG.out.next k a ha
      have e0 : nxAt L n k = a := nxAt_eq (by rw [List.getElem?_append_left hlt]; exact ha)
      have e1 : nxAt L n (k + 1) = a + lnA C a := nxAt_eq hnx
      obtain ⟨s1, s2, s3⟩ := lnA_eq had
      have hop : opA C a < 27 := had.1
      obtain ⟨g0, o0, rfl, hc0⟩ := HC1.out.resolve_left (by omega)
      obtain ⟨gn, rfl, hgn, cn⟩ := HN5.out.at' ha
      obtain ⟨gl, rfl, hgl, cl0, cl1, cl2, cl3, cl4, cl5, cl6, cl7⟩ := HL5.out.at' ha
      have HAT := Lib.hid fun (W : World) (hW : Below wr.heap.size wr W) => at_yes g0 o0 n c1 a C W (hGr.out.below hW) ((hc0.below (HB5.out.trans (hB.out.mono HB5.out.size)) hc0.lt).below hW (by have := (hc0.below (HB5.out.trans (hB.out.mono HB5.out.size)) hc0.lt).lt; exact this)) (by omega) han had
      have HSZ := Lib.hid fun (W : World) (hW : Gl W) => size_yes (opA C a : Int) W hW (by omega) (by omega)
      have dn := (hB.out.cell (p := ⟨gn, k, none⟩) hgn).trans cn
      have d0 := (hB.out.cell (p := ⟨gl, k * 8, none⟩) hgl).trans cl0
      have d1 := (hB.out.cell (p := ⟨gl, k * 8 + 1, none⟩) hgl).trans cl1
      have d2 := (hB.out.cell (p := ⟨gl, k * 8 + 2, none⟩) hgl).trans cl2
      have d3 := (hB.out.cell (p := ⟨gl, k * 8 + 3, none⟩) hgl).trans cl3
      have d4 := (hB.out.cell (p := ⟨gl, k * 8 + 4, none⟩) hgl).trans cl4
      have d5 := (hB.out.cell (p := ⟨gl, k * 8 + 5, none⟩) hgl).trans cl5
      have d6 := (hB.out.cell (p := ⟨gl, k * 8 + 6, none⟩) hgl).trans cl6
      have d7 := (hB.out.cell (p := ⟨gl, k * 8 + 7, none⟩) hgl).trans cl7
      have hgn' : gn < wr.heap.size := Nat.lt_of_lt_of_le hgn hB.out.size
      have hgl' : gl < wr.heap.size := Nat.lt_of_lt_of_le hgl hB.out.size
      clear cn cl0 cl1 cl2 cl3 cl4 cl5 cl6 cl7 hc0 hgn hgl
      rw [e0]
      have hk0 : (0 : Int) ≤ (k : Int) := by omega
      have hk1 : (k : Int) < (L.length : Int) := by omega
      go_wp2_with (first
        | (go_at_call 20; refine (HAT.out _ (Below.refl _ _)).mono ?_; rintro e w6 ⟨rfl, hb6⟩; have HB6 : Aside (Below wr.heap.size wr w6) := hb6; have q0 : ∀ o, (w6.alloc o).cell? ⟨gl, k * 8, none⟩ = some (.int .i64 (opA C a)) := fun o => ((hb6.alloc hb6.size o).cell (p := ⟨gl, k * 8, none⟩) hgl').trans d0; have q1 : ∀ o, (w6.alloc o).cell? ⟨gl, k * 8 + 1, none⟩ = some (.int .i64 (xA C a 0)) := fun o => ((hb6.alloc hb6.size o).cell (p := ⟨gl, k * 8 + 1, none⟩) hgl').trans d1; have q2 : ∀ o, (w6.alloc o).cell? ⟨gl, k * 8 + 2, none⟩ = some (.int .i64 (xA C a 1)) := fun o => ((hb6.alloc hb6.size o).cell (p := ⟨gl, k * 8 + 2, none⟩) hgl').trans d2; have q3 : ∀ o, (w6.alloc o).cell? ⟨gl, k * 8 + 3, none⟩ = some (.int .i64 (xA C a 2)) := fun o => ((hb6.alloc hb6.size o).cell (p := ⟨gl, k * 8 + 3, none⟩) hgl').trans d3; have q4 : ∀ o, (w6.alloc o).cell? ⟨gl, k * 8 + 4, none⟩ = some (.int .i64 (xA C a 3)) := fun o => ((hb6.alloc hb6.size o).cell (p := ⟨gl, k * 8 + 4, none⟩) hgl').trans d4; have q5 : ∀ o, (w6.alloc o).cell? ⟨gl, k * 8 + 5, none⟩ = some (.int .i64 (xA C a 4)) := fun o => ((hb6.alloc hb6.size o).cell (p := ⟨gl, k * 8 + 5, none⟩) hgl').trans d5; have q6 : ∀ o, (w6.alloc o).cell? ⟨gl, k * 8 + 6, none⟩ = some (.int .i64 (xA C a 5)) := fun o => ((hb6.alloc hb6.size o).cell (p := ⟨gl, k * 8 + 6, none⟩) hgl').trans d6; have q7 : ∀ o, (w6.alloc o).cell? ⟨gl, k * 8 + 7, none⟩ = some (.int .i64 (xA C a 6)) := fun o => ((hb6.alloc hb6.size o).cell (p := ⟨gl, k * 8 + 7, none⟩) hgl').trans d7; have qn : ∀ o, (w6.alloc o).cell? ⟨gn, k, none⟩ = some (.int .i64 a) := fun o => ((hb6.alloc hb6.size o).cell (p := ⟨gn, k, none⟩) hgn').trans dn; clear d0 d1 d2 d3 d4 d5 d6 d7 dn; clear hb6)
        | (go_at_call 9; refine (HSZ.out _ (hGr.out.below (HB6.out.alloc HB6.out.size _))).mono ?_; rintro e w7 ⟨he, hb7⟩; rw [Int.toNat_natCast] at he; subst he; have d0 := (hb7.cell (p := ⟨gl, k * 8, none⟩) (by simp; have := HB6.out.size; omega)).trans (q0 _); have d1 := (hb7.cell (p := ⟨gl, k * 8 + 1, none⟩) (by simp; have := HB6.out.size; omega)).trans (q1 _); have d2 := (hb7.cell (p := ⟨gl, k * 8 + 2, none⟩) (by simp; have := HB6.out.size; omega)).trans (q2 _); have d3 := (hb7.cell (p := ⟨gl, k * 8 + 3, none⟩) (by simp; have := HB6.out.size; omega)).trans (q3 _); have d4 := (hb7.cell (p := ⟨gl, k * 8 + 4, none⟩) (by simp; have := HB6.out.size; omega)).trans (q4 _); have d5 := (hb7.cell (p := ⟨gl, k * 8 + 5, none⟩) (by simp; have := HB6.out.size; omega)).trans (q5 _); have d6 := (hb7.cell (p := ⟨gl, k * 8 + 6, none⟩) (by simp; have := HB6.out.size; omega)).trans (q6 _); have d7 := (hb7.cell (p := ⟨gl, k * 8 + 7, none⟩) (by simp; have := HB6.out.size; omega)).trans (q7 _); have dn := (hb7.cell (p := ⟨gn, k, none⟩) (by simp; have := HB6.out.size; omega)).trans (qn _); obtain ⟨y0, y1, y2, y3, y4, y5, y6, y7⟩ := xcells (World.alloc_heap_new w6 (.cells #[.int .i64 (opA C a), .int .i64 (xA C a 0), .int .i64 (xA C a 1), .int .i64 (xA C a 2), .int .i64 (xA C a 3), .int .i64 (xA C a 4), .int .i64 (xA C a 5), .int .i64 (xA C a 6)] 38)); have x0 := (hb7.cell (p := ⟨w6.heap.size, 0, none⟩) (by simp)).trans y0; have x1 := (hb7.cell (p := ⟨w6.heap.size, 1, none⟩) (by simp)).trans y1; have x2 := (hb7.cell (p := ⟨w6.heap.size, 2, none⟩) (by simp)).trans y2; have x3 := (hb7.cell (p := ⟨w6.heap.size, 3, none⟩) (by simp)).trans y3; have x4 := (hb7.cell (p := ⟨w6.heap.size, 4, none⟩) (by simp)).trans y4; have x5 := (hb7.cell (p := ⟨w6.heap.size, 5, none⟩) (by simp)).trans y5; have x6 := (hb7.cell (p := ⟨w6.heap.size, 6, none⟩) (by simp)).trans y6; have x7 := (hb7.cell (p := ⟨w6.heap.size, 7, none⟩) (by simp)).trans y7; have HB7 : Aside (Below wr.heap.size wr w7) := (HB6.out.alloc HB6.out.size _).trans (hb7.mono (by simp; have := HB6.out.size; omega)); clear hb7 q0 q1 q2 q3 q4 q5 q6 q7 qn y0 y1 y2 y3 y4 y5 y6 y7))
      go_quiet (fail)
      go_wp2
      refine ⟨⟨k + 1, by omega, by go_num, ?_, below_drewN (hB.out.trans (HB7.out.mono hB.out.size)) _⟩, ?_⟩
      · rw [e1, show (a : Int) + sz (opA C a) = ((a + lnA C a : Nat) : Int) by omega]
      · simp [intOf]; omega
    · have e : k = L.length := by omega
      subst e
      rw [nxAt_end]
      have HS := Lib.hid (sane_any wr hGr.out)
      have HLr : Aside (OwnI wr w.heap.size (.slice al L.length cl) C L) := own_at HL5.out (fun k _ h => hB.out.block k h)
      have HMr : Aside (OwnI wr w.heap.size vm D M) := own_at HM5.out (fun k _ h => hB.out.block k h)
      have HKr : Aside (OwnI wr w.heap.size vb (cat C D n) (L ++ M.map (· + n))) := own_at HK5.out (fun k _ h => hB.out.block k h)
      have HBr : Aside (Below w.heap.size w wr) := HB5.out.trans (hB.out.mono HB5.out.size)
      go_wp2_with (first
        | (go_at_call 13; refine HS.out.mono ?_; rintro e w6 ⟨rfl, hb6⟩; have HL6 : Aside (OwnI w6 w.heap.size (.slice al L.length cl) C L) := own_at HLr.out (fun k _ h => hb6.block k h); have HM6 : Aside (OwnI w6 w.heap.size vm D M) := own_at HMr.out (fun k _ h => hb6.block k h); have HK6 : Aside (OwnI w6 w.heap.size vb (cat C D n) (L ++ M.map (· + n))) := own_at HKr.out (fun k _ h => hb6.block k h); have HB6 : Aside (Below w.heap.size w w6) := step HBr.out hb6; clear hb6 HLr HMr HKr HBr)
        | (at_builtin; refine append39 (by rfl) _ _ rfl w6.heap.size (.slice (some ⟨w6.heap.size, 0, none⟩) 0 0) 0 [] rfl (World.ownsRow_lit w6 #[] 0 (Nat.le_refl _) (by decide) rfl) (.slice al L.length cl) w.heap.size C L rfl (HL6.out.alloc _) (by omega) (by simp) ?_; intro v7 w7 ho7 hg7; have HO7 : Aside (w7.ownsRow w6.heap.size 38 8 v7 (0 + L.length) ([] ++ (II C L).map (Value.int .i64))) := ho7; have HM7 : Aside (OwnI w7 w.heap.size vm D M) := (HM6.out.alloc _).kept hg7 (.inr (fun e1 => Nat.lt_irrefl _ (HM6.out.lt w6.heap.size e1).2)); have HK7 : Aside (OwnI w7 w.heap.size vb (cat C D n) (L ++ M.map (· + n))) := (HK6.out.alloc _).kept hg7 (.inr (fun e1 => Nat.lt_irrefl _ (HK6.out.lt w6.heap.size e1).2)); have HB7 : Aside (Below w.heap.size w w7) := below_stepG (HB6.out.alloc HB6.out.size _) hg7 (fun k e => by cases e; exact HB6.out.size); have HZ7 : Aside (w6.heap.size ≤ w7.heap.size) := (show w6.heap.size ≤ w7.heap.size by have := hg7.size; simp at this; omega); clear ho7 hg7 HL6 HM6)
        | (at_builtin; refine append39 (by rfl) _ _ rfl w6.heap.size v7 (0 + L.length) ([] ++ (II C L).map (Value.int .i64)) rfl HO7.out vm w.heap.size D M rfl HM7.out (by omega) HZ7.out ?_; intro v8 w8 ho8 hg8; have HO8 : Aside (w8.ownsRow w6.heap.size 38 8 v8 (L.length + M.length) ((II C L ++ II D M).map (Value.int .i64))) := (by show w8.ownsRow w6.heap.size 38 8 v8 (L.length + M.length) ((II C L ++ II D M).map (Value.int .i64)); rwa [Nat.zero_add, List.nil_append, ← List.map_append] at ho8); have HK8 : Aside (w8.ownsRow w.heap.size 38 8 vb (L.length + M.length) ((II C L ++ II D M).map (Value.int .i64))) := (by have h1 : OwnI w8 w.heap.size vb (cat C D n) (L ++ M.map (· + n)) := HK7.out.kept hg8 (own_old HK6.out HO7.out); have h4 : w8.ownsRow w.heap.size 38 8 vb (L ++ M.map (· + n)).length ((II (cat C D n) (L ++ M.map (· + n))).map (Value.int .i64)) := h1; rwa [both_II cat_lo cat_hi HSEG.out HM.out, List.length_append, List.length_map] at h4); have HB8 : Aside (Below w.heap.size w w8) := below_stepG HB7.out hg8 (fun k e => by have := (HO7.out.lt k e).1; have := HB6.out.size; omega); have HCD := Lib.hid (codes_eq HK8.out HO8.out (by omega)); clear ho8 hg8 HK7 HO7)
        | (go_at_call 25; refine HCD.out.mono ?_; rintro e w9 ⟨rfl, hb9⟩))
      go_ret
      exact ⟨rfl, step HB8.out hb9⟩

set_option maxHeartbeats 8000000 in
theorem olaw_gf (v1 v2 : Value) (n m : Nat) (C D : Nat → Int) (w : World) (hg : Gl w) (h1 : CodeArg w v1 n C) (h2 : CodeArg w v2 m D) (hn : n ≤ 3000) (hm : m ≤ 3000) (L : List Nat) (hL : Good C n L) (M : List Nat) (b : Nat) (hM : Fails D m M b) :
    Calls Tryz.prog 6 #[v1, v2] w fun e w' => e = .returned (.bool true) ∧ Below w.heap.size w w' := by
  obtain ⟨a1, c1, e1, hc1⟩ := h1.form
  obtain ⟨a2, c2, e2, _⟩ := h2.form
  subst e1 e2
  have hn' : ¬ (3000 : Int) < (n : Int) := by omega
  have hm' : ¬ (3000 : Int) < (m : Int) := by omega
  have hlen := hL.len
  have HC1 := Lib.hid hc1
  have H1 := Lib.hid (split_good hg h1 (by omega) hL)
  have HA1 : Aside (CodeArg w (.slice a1 n c1) n C) := h1
  have HA2 : Aside (CodeArg w (.slice a2 m c2) m D) := h2
  have HG : Aside (Gl w) := hg
  have HSEG : Aside (Good C n L) := hL
  have HM : Aside (Fails D m M b) := hM
  obtain ⟨K, b2, hK⟩ : ∃ K b2, Fails (cat C D n) (n + m) K b2 := by
    rcases good_or_fails (cat C D n) (n + m) with ⟨K, h⟩ | h
    · exact (both_bad cat_lo cat_hi hL hM h).elim
    · exact h
  have HK : Aside (Fails (cat C D n) (n + m) K b2) := hK
  clear hM hK
  clear hg h1 h2 hL hc1
  go_enter Tryz.func6, Tryz.ntmps6
  go_wp2_with (first
    | (go_at_call 21; refine H1.out.mono ?_; clear H1; rintro e w1 ⟨vl, va, rfl, hl1, ha1, hb1⟩; obtain ⟨al, cl, rfl⟩ := own_form hl1; obtain ⟨aa, ca, rfl⟩ := own_form ha1; have HB1 : Aside (Below w.heap.size w w1) := hb1; have HL1 : Aside (OwnI w1 w.heap.size (.slice al L.length cl) C L) := hl1; have HN1 : Aside (OwnN w1 w.heap.size (.slice aa L.length ca) L) := ha1; have H2 := Lib.hid (split_bad (HG.out.below hb1) (HA2.out.below hb1 rfl) (by omega) HM.out); clear hb1 hl1 ha1)
    | (go_at_call 21; refine H2.out.mono ?_; clear H2; rintro e w2 ⟨rfl, hb2⟩; have HL2 : Aside (OwnI w2 w.heap.size (.slice al L.length cl) C L) := own_at HL1.out (fun k _ h => hb2.block k h); have HN2 : Aside (OwnN w2 w.heap.size (.slice aa L.length ca) L) := own_at HN1.out (fun k _ h => hb2.block k h); have HB2 : Aside (Below w.heap.size w w2) := step HB1.out hb2; clear hb2 HB1 HL1 HN1)
    | (at_builtin; refine append40 (by rfl) _ _ rfl w.heap.size (.slice (some ⟨w2.heap.size, 0, none⟩) 0 0) 0 [] rfl (World.ownsRow_lit w2 #[] 0 HB2.out.size (by decide) rfl) (.slice a1 n c1) n C rfl (HA1.out.below (HB2.out.alloc HB2.out.size _) rfl) (by omega) (by have := HB2.out.size; simp; omega) ?_; intro v3 w3 ho3 hg3; have HO3 : Aside (w3.ownsRow w.heap.size 5 1 v3 (0 + n) ([] ++ bytesOf C n)) := ho3; have HB3 : Aside (Below w.heap.size w w3) := below_stepG (HB2.out.alloc HB2.out.size _) hg3 (fun k e => by cases e; exact HB2.out.size); have HC3 : Aside (w2.grownBy w3 (some w2.heap.size)) := grown_trans (grown_below ((Below.refl _ _).alloc (Nat.le_refl _) _) _) hg3; clear ho3 hg3 HB2)
    | (at_builtin; refine append40 (by rfl) _ _ rfl w.heap.size v3 (0 + n) ([] ++ bytesOf C n) rfl HO3.out (.slice a2 m c2) m D rfl (HA2.out.below HB3.out rfl) (by omega) HB3.out.size ?_; intro v4 w4 ho4 hg4; have HA4 : Aside (CodeArg w4 v4 (n + m) (cat C D n)) := cat_arg HA1.out.byte HA2.out.byte ho4; have HB4 : Aside (Below w.heap.size w w4) := below_stepG HB3.out hg4 (own_lowest HO3.out); have HC4 : Aside (w3.grownBy w4 v3.ownBlock) := hg4; have H3 := Lib.hid (split_bad (HG.out.below HB4.out) HA4.out (by omega) HK.out); clear ho4 hg4 HB3)
    | (go_at_call 21; refine H3.out.mono ?_; clear H3; rintro e w5 ⟨rfl, hb5⟩; have HL5 : Aside (OwnI w5 w.heap.size (.slice al L.length cl) C L) := rows_on HL2.out HC3.out HO3.out HC4.out hb5 (by decide); have HN5 : Aside (OwnN w5 w.heap.size (.slice aa L.length ca) L) := rows_on HN2.out HC3.out HO3.out HC4.out hb5 (by decide); have HB5 : Aside (Below w.heap.size w w5) := step HB4.out hb5; clear hb5 HB4 HL2 HN2 HC3 HO3 HC4))
  go_loopw [14, 15] (fun nx i wr => ∃ k : Nat, k ≤ L.length ∧ i = .int .i64 k ∧ nx = .int .i64 (nxAt L n k) ∧ Aside (Below w5.heap.size w5 wr)) (fun _ i _ => L.length - (intOf i).toNat)
  case atStart => exact ⟨0, Nat.zero_le _, rfl, by rw [nxAt_eq HSEG.out.first]; rfl, Below.refl _ _⟩
  case round =>
    obtain ⟨k, hk, rfl, rfl, hB⟩ := hrel
    have hGr : Aside (Gl wr) := HG.out.below (HB5.out.trans (hB.out.mono HB5.out.size))
    by_cases hlt : k < L.length
    · obtain ⟨a, ha⟩ : ∃ a, L[k]? = some a := ⟨_, List.getElem?_eq_getElem hlt⟩
      obtain ⟨han, had, hnx⟩ := HSEG.out.next k a ha
      have e0 : nxAt L n k = a := nxAt_eq (by rw [List.getElem?_append_left hlt]; exact ha)
      have e1 : nxAt L n (k + 1) = a + lnA C a := nxAt_eq hnx
      obtain ⟨s1, s2, s3⟩ := lnA_eq had
      have hop : opA C a < 27 := had.1
      obtain ⟨g0, o0, rfl, hc0⟩ := HC1.out.resolve_left (by omega)
      obtain ⟨gn, rfl, hgn, cn⟩ := HN5.out.at' ha
      obtain ⟨gl, rfl, hgl, cl0, cl1, cl2, cl3, cl4, cl5, cl6, cl7⟩ := HL5.out.at' ha
      have HAT := Lib.hid fun (W : World) (hW : Below wr.heap.size wr W) => at_yes g0 o0 n c1 a C W (hGr.out.below hW) ((hc0.below (HB5.out.trans (hB.out.mono HB5.out.size)) hc0.lt).below hW (by have := (hc0.below (HB5.out.trans (hB.out.mono HB5.out.size)) hc0.lt).lt; exact this)) (by omega) han had
      have HSZ := Lib.hid fun (W : World) (hW : Gl W) => size_yes (opA C a : Int) W hW (by omega) (by omega)
      have dn := (hB.out.cell (p := ⟨gn, k, none⟩) hgn).trans cn
      have d0 := (hB.out.cell (p := ⟨gl, k * 8, none⟩) hgl).trans cl0
      have d1 := (hB.out.cell (p := ⟨gl, k * 8 + 1, none⟩) hgl).trans cl1
      have d2 := (hB.out.cell (p := ⟨gl, k * 8 + 2, none⟩) hgl).trans cl2
      have d3 := (hB.out.cell (p := ⟨gl, k * 8 + 3, none⟩) hgl).trans cl3
      have d4 := (hB.out.cell (p := ⟨gl, k * 8 + 4, none⟩) hgl).trans cl4
      have d5 := (hB.out.cell (p := ⟨gl, k * 8 + 5, none⟩) hgl).trans cl5
      have d6 := (hB.out.cell (p := ⟨gl, k * 8 + 6, none⟩) hgl).trans cl6
      have d7 := (hB.out.cell (p := ⟨gl, k * 8 + 7, none⟩) hgl).trans cl7
      have hgn' : gn < wr.heap.size := Nat.lt_of_lt_of_le hgn hB.out.size
      have hgl' : gl < wr.heap.size := Nat.lt_of_lt_of_le hgl hB.out.size
      clear cn cl0 cl1 cl2 cl3 cl4 cl5 cl6 cl7 hc0 hgn hgl
      rw [e0]
      have hk0 : (0 : Int) ≤ (k : Int) := by omega
      have hk1 : (k : Int) < (L.length : Int) := by omega
      go_wp2_with (first
        | (go_at_call 20; refine (HAT.out _ (Below.refl _ _)).mono ?_; rintro e w6 ⟨rfl, hb6⟩; have HB6 : Aside (Below wr.heap.size wr w6) := hb6; have q0 : ∀ o, (w6.alloc o).cell? ⟨gl, k * 8, none⟩ = some (.int .i64 (opA C a)) := fun o => ((hb6.alloc hb6.size o).cell (p := ⟨gl, k * 8, none⟩) hgl').trans d0; have q1 : ∀ o, (w6.alloc o).cell? ⟨gl, k * 8 + 1, none⟩ = some (.int .i64 (xA C a 0)) := fun o => ((hb6.alloc hb6.size o).cell (p := ⟨gl, k * 8 + 1, none⟩) hgl').trans d1; have q2 : ∀ o, (w6.alloc o).cell? ⟨gl, k * 8 + 2, none⟩ = some (.int .i64 (xA C a 1)) := fun o => ((hb6.alloc hb6.size o).cell (p := ⟨gl, k * 8 + 2, none⟩) hgl').trans d2; have q3 : ∀ o, (w6.alloc o).cell? ⟨gl, k * 8 + 3, none⟩ = some (.int .i64 (xA C a 2)) := fun o => ((hb6.alloc hb6.size o).cell (p := ⟨gl, k * 8 + 3, none⟩) hgl').trans d3; have q4 : ∀ o, (w6.alloc o).cell? ⟨gl, k * 8 + 4, none⟩ = some (.int .i64 (xA C a 3)) := fun o => ((hb6.alloc hb6.size o).cell (p := ⟨gl, k * 8 + 4, none⟩) hgl').trans d4; have q5 : ∀ o, (w6.alloc o).cell? ⟨gl, k * 8 + 5, none⟩ = some (.int .i64 (xA C a 4)) := fun o => ((hb6.alloc hb6.size o).cell (p := ⟨gl, k * 8 + 5, none⟩) hgl').trans d5; have q6 : ∀ o, (w6.alloc o).cell? ⟨gl, k * 8 + 6, none⟩ = some (.int .i64 (xA C a 5)) := fun o => ((hb6.alloc hb6.size o).cell (p := ⟨gl, k * 8 + 6, none⟩) hgl').trans d6; have q7 : ∀ o, (w6.alloc o).cell? ⟨gl, k * 8 + 7, none⟩ = some (.int .i64 (xA C a 6)) := fun o => ((hb6.alloc hb6.size o).cell (p := ⟨gl, k * 8 + 7, none⟩) hgl').trans d7; have qn : ∀ o, (w6.alloc o).cell? ⟨gn, k, none⟩ = some (.int .i64 a) := fun o => ((hb6.alloc hb6.size o).cell (p := ⟨gn, k, none⟩) hgn').trans dn; clear d0 d1 d2 d3 d4 d5 d6 d7 dn; clear hb6)
        | (go_at_call 9; refine (HSZ.out _ (hGr.out.below (HB6.out.alloc HB6.out.size _))).mono ?_; rintro e w7 ⟨he, hb7⟩; rw [Int.toNat_natCast] at he; subst he; have d0 := (hb7.cell (p := ⟨gl, k * 8, none⟩) (by simp; have := HB6.out.size; omega)).trans (q0 _); have d1 := (hb7.cell (p := ⟨gl, k * 8 + 1, none⟩) (by simp; have := HB6.out.size; omega)).trans (q1 _); have d2 := (hb7.cell (p := ⟨gl, k * 8 + 2, none⟩) (by simp; have := HB6.out.size; omega)).trans (q2 _); have d3 := (hb7.cell (p := ⟨gl, k * 8 + 3, none⟩) (by simp; have := HB6.out.size; omega)).trans (q3 _); have d4 := (hb7.cell (p := ⟨gl, k * 8 + 4, none⟩) (by simp; have := HB6.out.size; omega)).trans (q4 _); have d5 := (hb7.cell (p := ⟨gl, k * 8 + 5, none⟩) (by simp; have := HB6.out.size; omega)).trans (q5 _); have d6 := (hb7.cell (p := ⟨gl, k * 8 + 6, none⟩) (by simp; have := HB6.out.size; omega)).trans (q6 _); have d7 := (hb7.cell (p := ⟨gl, k * 8 + 7, none⟩) (by simp; have := HB6.out.size; omega)).trans (q7 _); have dn := (hb7.cell (p := ⟨gn, k, none⟩) (by simp; have := HB6.out.size; omega)).trans (qn _); obtain ⟨y0, y1, y2, y3, y4, y5, y6, y7⟩ := xcells (World.alloc_heap_new w6 (.cells #[.int .i64 (opA C a), .int .i64 (xA C a 0), .int .i64 (xA C a 1), .int .i64 (xA C a 2), .int .i64 (xA C a 3), .int .i64 (xA C a 4), .int .i64 (xA C a 5), .int .i64 (xA C a 6)] 38)); have x0 := (hb7.cell (p := ⟨w6.heap.size, 0, none⟩) (by simp)).trans y0; have x1 := (hb7.cell (p := ⟨w6.heap.size, 1, none⟩) (by simp)).trans y1; have x2 := (hb7.cell (p := ⟨w6.heap.size, 2, none⟩) (by simp)).trans y2; have x3 := (hb7.cell (p := ⟨w6.heap.size, 3, none⟩) (by simp)).trans y3; have x4 := (hb7.cell (p := ⟨w6.heap.size, 4, none⟩) (by simp)).trans y4; have x5 := (hb7.cell (p := ⟨w6.heap.size, 5, none⟩) (by simp)).trans y5; have x6 := (hb7.cell (p := ⟨w6.heap.size, 6, none⟩) (by simp)).trans y6; have x7 := (hb7.cell (p := ⟨w6.heap.size, 7, none⟩) (by simp)).trans y7; have HB7 : Aside (Below wr.heap.size wr w7) := (HB6.out.alloc HB6.out.size _).trans (hb7.mono (by simp; have := HB6.out.size; omega)); clear hb7 q0 q1 q2 q3 q4 q5 q6 q7 qn y0 y1 y2 y3 y4 y5 y6 y7))
      go_quiet (fail)
      go_wp2
      refine ⟨⟨k + 1, by omega, by go_num, ?_, below_drewN (hB.out.trans (HB7.out.mono hB.out.size)) _⟩, ?_⟩
      · rw [e1, show (a : Int) + sz (opA C a) = ((a + lnA C a : Nat) : Int) by omega]
      · simp [intOf]; omega
    · have e : k = L.length := by omega
      subst e
      rw [nxAt_end]
      have HS := Lib.hid (sane_any wr hGr.out)
      have HBr : Aside (Below w.heap.size w wr) := HB5.out.trans (hB.out.mono HB5.out.size)
      have hud : (undef : Value) = .tuple #[] := rfl
      go_wp2_with (go_at_call 13; refine HS.out.mono ?_; rintro e w6 ⟨rfl, hb6⟩)
      go_ret
      exact ⟨rfl, step HBr.out hb6⟩
end Go.Proofs.YtblklgcpobbfcaaGreatDoor
