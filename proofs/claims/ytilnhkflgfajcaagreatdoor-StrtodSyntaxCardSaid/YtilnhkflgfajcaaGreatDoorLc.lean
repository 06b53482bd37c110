/- The law StrtodSyntax returns true at every point and text. Conditions: none. -/
import Derived.Test.YtilnhkflgfajcaaGreatDoorLa
import Derived.Test.YtilnhkflgfajcaaGreatDoorLb
import Derived.Laws.IdiomStrings
set_option linter.all false
namespace Go.Proofs.YtilnhkflgfajcaaGreatDoor
open Go.Eng Go.RowKit
set_option maxRecDepth 1000000

theorem bytes_thaw (W : World) (s : ByteArray) (j : Nat) (hj : j < s.size) : (Lib.bytesWorld W 5 s).frozen? ⟨W.heap.size, j, none⟩ = false := by
  have hc := Lib.bytesWorld_cell W 5 s j hj
  have hn := Lib.bytesWorld_at_new W 5 s
  have hlt : j < (Lib.bytesCells W 5 s).size := by
    unfold World.cell? at hc
    rw [hn] at hc
    exact (Array.getElem?_eq_some_iff.1 (show (Lib.bytesCells W 5 s)[j]? = some (Value.int IntKind.u8 (s.data.toList.getD j 0).toNat) from hc)).1
  unfold World.frozen?
  rw [hn]
  simp
  omega
/-- The bytes of a text, the first k of them large. -/
structure LW (w wr : World) (s : ByteArray) (k : Nat) : Prop where
  cells : ∀ (j : Nat) (b : UInt8), s.data.toList[j]? = some b → wr.cell? ⟨w.heap.size, j, none⟩ = some (.int .u8 (if j < k then (up b).toNat else b.toNat : Nat))
  thaw : ∀ j, j < s.size → wr.frozen? ⟨w.heap.size, j, none⟩ = false
  be : Below w.heap.size w wr
theorem LW.start (w : World) (s : ByteArray) : LW w (Lib.bytesWorld w 5 s) s 0 where
  cells j b h := by rw [if_neg (by omega)]; exact bytes_cells w s.data.toList j b h
  thaw j hj := bytes_thaw w s j hj
  be := ⟨rfl, rfl, rfl, by rw [Lib.bytesWorld_size]; omega, fun k hk => Lib.bytesWorld_at_old w 5 _ k hk⟩
theorem LW.keep {w wr : World} {s : ByteArray} {k : Nat} (h : LW w wr s k) {b : UInt8} (hb : s.data.toList[k]? = some b) (hu : up b = b) : LW w wr s (k + 1) where
  cells j c hc := by
    have := h.cells j c hc
    rcases Nat.lt_or_ge j k with h1 | h1
    · rw [if_pos h1] at this
      rw [if_pos (by omega)]
      exact this
    · rw [if_neg (by omega)] at this
      rcases Nat.lt_or_ge k j with h2 | h2
      · rw [if_neg (by omega)]
        exact this
      · have e : j = k := by omega
        subst e
        rw [hb] at hc
        cases hc
        rw [if_pos (by omega), hu]
        exact this
  thaw := h.thaw
  be := h.be
theorem LW.set {w wr : World} {s : ByteArray} {k : Nat} (h : LW w wr s k) {b : UInt8} (hb : s.data.toList[k]? = some b) {v : Int} (hv : v = (up b).toNat) : LW w (wr.setCell ⟨w.heap.size, k, none⟩ (.int .u8 v)) s (k + 1) where
  cells j c hc := by
    subst hv
    have := h.cells j c hc
    by_cases e : j = k
    · subst e
      rw [hb] at hc
      cases hc
      rw [if_pos (by omega)]
      exact World.cell?_setCell_same _ _ _ this
    · rw [World.cell?_setCell_other _ _ _ _ (by intro g; exact e (by have := congrArg Addr.off g; exact this.symm)), this]
      by_cases h1 : j < k
      · rw [if_pos h1, if_pos (by omega)]
      · rw [if_neg h1, if_neg (by omega)]
  thaw j hj := by rw [World.frozen?_setCell]; exact h.thaw j hj
  be := h.be.setCell (Nat.le_refl _) _

set_option maxHeartbeats 2000000 in
theorem large_any (s : ByteArray) (hs : s.size ≤ 20000) (w : World) : Calls Tryz.prog 9 #[.string s] w fun e w' => e = .returned (.string ⟨⟨s.data.toList.map up⟩⟩) ∧ Below w.heap.size w w' := by
  have kc := fun w => Lib.run_convert_string_bytes (P := Tryz.prog) w 9 53 5 s Tryz.underlying9 Tryz.underlying53 Tryz.underlying5
  have HBK := Lib.hid fun wr (h : LW w wr s s.size) => show (convert 53 9 (.slice (some ⟨w.heap.size, 0, none⟩) s.size (grownCap w s.size 0 5))).run Tryz.prog wr = .ok (.string ⟨⟨s.data.toList.map up⟩⟩) wr from by
    have hl : (s.data.toList.map up).length = s.size := by simp
    have := run_convert_bytes_back (P := Tryz.prog) wr 53 9 5 ⟨w.heap.size, 0, none⟩ (grownCap w s.size 0 5) (s.data.toList.map up) Tryz.underlying53 Tryz.underlying5 Tryz.underlying9 (fun j hj => by
      have hj' : j < s.data.toList.length := by simpa using hj
      have := h.cells j s.data.toList[j] (List.getElem?_eq_getElem hj')
      rw [if_pos (by simpa using hj')] at this
      rw [show (⟨w.heap.size, 0, none⟩ : Addr).add j = ⟨w.heap.size, j, none⟩ from by simp [Addr.add]; intro h; exact h.symm]
      rw [this]
      simp)
    rw [hl] at this
    exact this
  go_enter Tryz.func9, Tryz.ntmps9
  go_wp2
  go_loopw [4] (fun i wr => ∃ k : Nat, k ≤ s.size ∧ i = .int .i64 k ∧ Aside (LW w wr s k)) (fun i _ => s.size - (intOf i).toNat)
  case atStart => exact ⟨0, Nat.zero_le _, rfl, LW.start w s⟩
  case round =>
    obtain ⟨k, hk, rfl, hlw⟩ := hrel
    rcases Nat.lt_or_ge k s.size with hlt | hge
    · obtain ⟨b, hb⟩ : ∃ b, s.data.toList[k]? = some b := ⟨_, List.getElem?_eq_getElem (by simpa using hlt)⟩
      have hcl := hlw.out.cells k b hb
      rw [if_neg (by omega)] at hcl
      have hfz := hlw.out.thaw k hlt
      have HB : Aside (s.data.toList[k]? = some b) := hb
      have hk1 : (k : Int) < (s.size : Int) := by omega
      have hup := up_nat b
      have hb256 : b.toNat < 256 := b.toNat_lt
      by_cases hlet : 97 ≤ b.toNat ∧ b.toNat ≤ 122
      · rw [if_pos hlet] at hup
        obtain ⟨n, hn⟩ : ∃ n : Int, n = (b.toNat : Int) := ⟨_, rfl⟩
        have h1 : 97 ≤ n := by omega
        have h2 : n ≤ 122 := by omega
        have HU : Aside (n - 32 = ((up b).toNat : Nat)) := by show n - 32 = _; omega
        rw [← hn] at hcl
        clear hb hup hn hlet hb256
        go_wp2
        go_roundw
        case rel => exact ⟨k + 1, by omega, by go_num, hlw.out.set HB.out HU.out⟩
        case measure => simp [intOf]; omega
      · rw [if_neg hlet] at hup
        have HU : Aside (up b = b) := UInt8.toNat_inj.1 hup
        obtain ⟨n, hn⟩ : ∃ n : Int, n = (b.toNat : Int) := ⟨_, rfl⟩
        have hn0 : 0 ≤ n := by omega
        have hn1 : n < 256 := by omega
        have HL : Aside (¬ (97 ≤ n ∧ n ≤ 122)) := by show ¬ _; omega
        rw [← hn] at hcl
        clear hb hup hn hlet hb256
        by_cases q : 97 ≤ n
        · have q2 : ¬ n ≤ 122 := fun h => HL.out ⟨q, h⟩
          go_wp2
          go_roundw
          case rel => exact ⟨k + 1, by omega, by go_num, hlw.out.keep HB.out HU.out⟩
          case measure => simp [intOf]; omega
        · go_wp2
          go_roundw
          case rel => exact ⟨k + 1, by omega, by go_num, hlw.out.keep HB.out HU.out⟩
          case measure => simp [intOf]; omega
    · have ek : k = s.size := by omega
      subst ek
      have hbk := HBK.out wr hlw.out
      go_wp2
      go_ret
      exact ⟨rfl, hlw.out.be⟩
end Go.Proofs.YtilnhkflgfajcaaGreatDoor

namespace Go.Proofs.YtilnhkflgfajcaaGreatDoor
open Go.Eng Go.RowKit
set_option maxRecDepth 1000000

theorem take_run {s : ByteArray} {e : Nat} (h : e ≤ s.size) (w : World) : (Instr.slice 9 (.string s) none (some (.int .i64 (e : Int))) none).run Tryz.prog w = .ok (.string ⟨⟨s.data.toList.take e⟩⟩) w := by
  have h1 := slice_run (s := s) (a := 0) (r := e) (Nat.zero_le _) h w
  have e1 : sl s.data.toList 0 e = s.data.toList.take e := by simp [sl]
  rw [e1] at h1
  exact h1
theorem white_bytes (s : ByteArray) : ((⟨#[32, 9]⟩ : ByteArray) ++ s) = ⟨⟨[32, 9] ++ s.data.toList⟩⟩ := ByteArray.ext (by simp [ByteArray.data_append])
/-- Split at a text that is given by its bytes. -/
theorem Split_at {p : ByteArray} {l : List UInt8} {neg : Bool} {X : Num} (hp : isP p.data.toList = true) (hl : l.length ≤ 20000) (h : spl l p.data.toList = some (neg, X)) (W : World) :
    Calls Tryz.prog 6 #[.string p, .string ⟨⟨l⟩⟩] W fun e w' => e = .returned (.tuple #[.agg #[.int .i64 X.1, .bool neg, .string ⟨⟨X.2.1⟩⟩, .int .i64 X.2.2.1, .string ⟨⟨X.2.2.2.1⟩⟩, .int .i64 X.2.2.2.2], .int .i64 0]) ∧ Below W.heap.size W w' := by
  have hp4 : p.size ≤ 100 := by
    unfold isP at hp
    simp at hp
    omega
  refine (Split_any p ⟨⟨l⟩⟩ (by omega) (by show l.length ≤ 9223372036854775807; omega) W).mono fun e w' hx => ?_
  unfold XPost spE at hx
  rw [hp, if_pos rfl, show (⟨⟨l⟩⟩ : ByteArray).data.toList = l from rfl, if_neg (by omega), h] at hx
  exact hx

set_option maxHeartbeats 4000000 in
theorem syn_long (p s : ByteArray) (w : World) (hg : Gl w) (h1 : 2000 < s.size) : Calls Tryz.prog 4 #[.string p, .string s] w fun e w' => e = .returned (.bool true) ∧ Below w.heap.size w w' := by
  have HG := Lib.hid hg
  have hs1 : (2000 : Int) < (s.size : Int) := by omega
  clear hg
  go_enter Tryz.func4, Tryz.ntmps4
  go_wp2_with (go_at_call 5; refine (sane_any _ HG.out).mono ?_; rintro e w1 ⟨rfl, hB1⟩)
  go_ret
  exact ⟨rfl, hB1⟩
set_option maxHeartbeats 4000000 in
theorem syn_no (p s : ByteArray) (hp : p.size ≤ 9223372036854775807) (w : World) (hg : Gl w) (h1 : s.size ≤ 2000) {E : Int} (hE : E = 1 ∨ E = 5) (hsp : spE p.data.toList s.data.toList = (none, E)) : Calls Tryz.prog 4 #[.string p, .string s] w fun e w' => e = .returned (.bool true) ∧ Below w.heap.size w w' := by
  have HG := Lib.hid hg
  have hs1 : ¬ (2000 : Int) < (s.size : Int) := by omega
  have HSP := Lib.hid fun W => show Calls Tryz.prog 6 #[.string p, .string s] W (fun e w' => e = .returned (.tuple #[zeroV, .int .i64 E]) ∧ Below W.heap.size W w') from (Split_any p s hp (by omega) W).mono fun e w' h => by
    unfold XPost at h
    rw [hsp] at h
    exact h
  clear hg hsp
  rcases hE with rfl | rfl
  all_goals
    go_enter Tryz.func4, Tryz.ntmps4
    go_wp2_with (first
      | (go_at_call 6; (with_reducible refine (HSP.out _).mono ?_); rintro e w2 ⟨rfl, hb2⟩)
      | (go_at_call 5; refine (sane_any _ (gl_alloc HG.out hb2 (nb0))).mono ?_; rintro e w5 ⟨rfl, hb5⟩; have hx := below_at hb5 (new_at w2 (nb0) rfl); have hle := law_below hb2 hb5; obtain ⟨⟨q0, q1, q2, q3, q4, q5⟩, _⟩ := box_cells hx))
    go_ret
    exact ⟨rfl, hle⟩

set_option maxHeartbeats 16000000 in
theorem syn_yes (p s : ByteArray) (w : World) (hg : Gl w) (h1 : s.size ≤ 2000) (hip : isP p.data.toList = true) {neg : Bool} {X : Num} (hsp : spl s.data.toList p.data.toList = some (neg, X)) : Calls Tryz.prog 4 #[.string p, .string s] w fun e w' => e = .returned (.bool true) ∧ Below w.heap.size w w' := by
  have HG := Lib.hid hg
  have hs1 : ¬ (2000 : Int) < (s.size : Int) := by omega
  have hsz : s.data.toList.length = s.size := by simp
  have hp0 : 0 < p.data.toList.length := by
    unfold isP at hip
    simp at hip
    simp
    omega
  have hbd := spl_bounds hsp hp0
  rw [hsz] at hbd
  obtain ⟨x, hx⟩ : ∃ x, x = X.2.2.2.2 := ⟨_, rfl⟩
  have hx1 : 1 ≤ x := by omega
  have hx2 : x ≤ s.size := by omega
  have HS1 := Lib.hid fun W => show Calls Tryz.prog 6 #[.string p, .string s] W (fun e w' => e = .returned (.tuple #[.agg #[.int .i64 X.1, .bool neg, .string ⟨⟨X.2.1⟩⟩, .int .i64 X.2.2.1, .string ⟨⟨X.2.2.2.1⟩⟩, .int .i64 x], .int .i64 0]) ∧ Below W.heap.size W w') from by
    have := Split_at hip (l := s.data.toList) (by omega) hsp W
    rw [← hx] at this
    exact this
  have HSK0 := Lib.hid fun W => show Calls Tryz.prog 6 #[.string p, .string ⟨⟨s.data.toList.take x⟩⟩] W (fun e w' => e = .returned (.tuple #[.agg #[.int .i64 X.1, .bool neg, .string ⟨⟨X.2.1⟩⟩, .int .i64 X.2.2.1, .string ⟨⟨X.2.2.2.1⟩⟩, .int .i64 x], .int .i64 0]) ∧ Below W.heap.size W w') from by
    have := Split_at hip (l := s.data.toList.take x) (by rw [List.length_take]; omega) (spl_take hsp hp0 (by omega)) W
    rw [← hx] at this
    exact this
  have HSK := Lib.hid fun (k : Nat) (hk : x ≤ k) W => show Calls Tryz.prog 6 #[.string p, .string ⟨⟨s.data.toList.take k⟩⟩] W (fun e w' => e = .returned (.tuple #[.agg #[.int .i64 X.1, .bool neg, .string ⟨⟨X.2.1⟩⟩, .int .i64 X.2.2.1, .string ⟨⟨X.2.2.2.1⟩⟩, .int .i64 x], .int .i64 0]) ∧ Below W.heap.size W w') from by
    have := Split_at hip (l := s.data.toList.take k) (by rw [List.length_take]; omega) (spl_take hsp hp0 (by omega)) W
    rw [← hx] at this
    exact this
  have HSW := Lib.hid fun W => show Calls Tryz.prog 6 #[.string p, .string (⟨#[32, 9]⟩ ++ s)] W (fun e w' => e = .returned (.tuple #[.agg #[.int .i64 X.1, .bool neg, .string ⟨⟨X.2.1⟩⟩, .int .i64 X.2.2.1, .string ⟨⟨X.2.2.2.1⟩⟩, .int .i64 ((x : Int) + 2)], .int .i64 0]) ∧ Below W.heap.size W w') from by
    have h2 : spl ([32, 9] ++ s.data.toList) p.data.toList = some (neg, (X.1, X.2.1, X.2.2.1, X.2.2.2.1, X.2.2.2.2 + 2)) := by rw [spl_white, hsp]; rfl
    have := Split_at hip (l := [32, 9] ++ s.data.toList) (by simp; omega) h2 W
    rw [← white_bytes] at this
    rw [hx]
    exact this
  have HSU := Lib.hid fun W => show Calls Tryz.prog 6 #[.string p, .string ⟨⟨s.data.toList.map up⟩⟩] W (fun e w' => e = .returned (.tuple #[.agg #[.int .i64 X.1, .bool neg, .string ⟨⟨X.2.1⟩⟩, .int .i64 X.2.2.1, .string ⟨⟨X.2.2.2.1.map up⟩⟩, .int .i64 x], .int .i64 0]) ∧ Below W.heap.size W w') from by
    have h2 : spl (s.data.toList.map up) p.data.toList = some (neg, (X.1, X.2.1, X.2.2.1, X.2.2.2.1.map up, X.2.2.2.2)) := by rw [spl_up (isP_letters hip), hsp]; rfl
    have := Split_at hip (l := s.data.toList.map up) (by simp; omega) h2 W
    rw [hx]
    exact this
  have HLG := Lib.hid fun W => large_any s (by omega) W
  have hcat : ¬ 9223372036854775807 < 2 + s.size := by omega
  have htk := take_run (s := s) (e := x) hx2
  have HTK := Lib.hid fun (k : Nat) (hk : k ≤ s.size) => take_run (s := s) (e := k) hk
  have hxi1 : ¬ (x : Int) < 1 := by omega
  have hxi2 : ¬ (s.size : Int) < (x : Int) := by omega
  clear hg hsp hip hp0 hbd hx hsz
  go_enter Tryz.func4, Tryz.ntmps4
  go_upto_region 15 with (first
    | (go_at_call 6; (with_reducible refine (HS1.out _).mono ?_); rintro e w1 ⟨rfl, hb1⟩; clear HS1)
    | (go_at_call 6; (with_reducible refine (HSK0.out _).mono ?_); rintro e w2 ⟨rfl, hb2⟩; clear HSK0; have x5a := below_at hb2 (new_at w1 (nbox (.int .i64 X.1) (.bool neg) (.string ⟨⟨X.2.1⟩⟩) (.int .i64 X.2.2.1) (.string ⟨⟨X.2.2.2.1⟩⟩) (.int .i64 x)) rfl); have l5a := (Array.getElem?_eq_some_iff.1 x5a).1; have bea := law_below hb1 hb2)
    | (go_at_call 6; (with_reducible refine (HSW.out _).mono ?_); rintro e w3 ⟨rfl, hb3⟩; clear HSW; have x5b := below_at hb3 (at_alloc x5a _); have x7b := below_at hb3 (new_at w2 (nbox (.int .i64 X.1) (.bool neg) (.string ⟨⟨X.2.1⟩⟩) (.int .i64 X.2.2.1) (.string ⟨⟨X.2.2.2.1⟩⟩) (.int .i64 x)) rfl); have beb := law_below bea hb3)
    | (go_at_call 9; (with_reducible refine (HLG.out _).mono ?_); rintro e w4 ⟨rfl, hb4⟩; clear HLG; have x5c := below_at hb4 (at_alloc x5b _); have x7c := below_at hb4 (at_alloc x7b _); have x9c := below_at hb4 (new_at w3 (nbox (.int .i64 X.1) (.bool neg) (.string ⟨⟨X.2.1⟩⟩) (.int .i64 X.2.2.1) (.string ⟨⟨X.2.2.2.1⟩⟩) (.int .i64 x)) rfl); have bec := law_below beb hb4)
    | (go_at_call 6; (with_reducible refine (HSU.out _).mono ?_); rintro e w5 ⟨rfl, hb5⟩; clear HSU; have x5d := below_at hb5 x5c; have x7d := below_at hb5 x7c; have x9d := below_at hb5 x9c; have bed := below_go bec hb5; have l5 := (Array.getElem?_eq_some_iff.1 x5d).1; have l7 := (Array.getElem?_eq_some_iff.1 x7d).1; have l9 := (Array.getElem?_eq_some_iff.1 x9d).1; obtain ⟨⟨q0, q1, q2, q3, q4, q5⟩, _⟩ := box_cells x5d; obtain ⟨⟨r0, r1, r2, r3, r4, r5⟩, _⟩ := box_cells x7d; obtain ⟨⟨s0, s1, s2, s3, s4, s5⟩, _⟩ := box_cells x9d))
  have x5e : (w5.alloc (nbox (.int .i64 X.1) (.bool neg) (.string ⟨⟨X.2.1⟩⟩) (.int .i64 X.2.2.1) (.string ⟨⟨X.2.2.2.1⟩⟩) (.int .i64 x))).heap[w1.heap.size]? = some (nbox (.int .i64 X.1) (.bool neg) (.string ⟨⟨X.2.1⟩⟩) (.int .i64 X.2.2.1) (.string ⟨⟨X.2.2.2.1⟩⟩) (.int .i64 x)) := at_alloc x5d _
  have bee : Below w.heap.size w (w5.alloc (nbox (.int .i64 X.1) (.bool neg) (.string ⟨⟨X.2.1⟩⟩) (.int .i64 X.2.2.1) (.string ⟨⟨X.2.2.2.1⟩⟩) (.int .i64 x))) := bed.alloc bed.size _
  have X5 := Lib.hid x5e
  have BE := Lib.hid bee
  clear x5e bee x5a x5b x7b x5c x7c x9c x5d x7d x9d l5a l5 l7 l9 bea beb bec bed q0 q1 q2 q3 q4 q5 r0 r1 r2 r3 r4 r5 s0 s1 s2 s3 s4 s5 hb1 hb2 hb3 hb4 hb5
  generalize w5.alloc (nbox (.int .i64 X.1) (.bool neg) (.string ⟨⟨X.2.1⟩⟩) (.int .i64 X.2.2.1) (.string ⟨⟨X.2.2.2.1⟩⟩) (.int .i64 x)) = w6 at *
  obtain ⟨⟨q0, q1, q2, q3, q4, q5⟩, _⟩ := box_cells X5.out
  go_wp2
  go_loopw [13] (fun i wr => ∃ k : Nat, x < k ∧ k ≤ s.size + 1 ∧ i = .int .i64 k ∧ Aside (wr.heap[w1.heap.size]? = some (nbox (.int .i64 X.1) (.bool neg) (.string ⟨⟨X.2.1⟩⟩) (.int .i64 X.2.2.1) (.string ⟨⟨X.2.2.2.1⟩⟩) (.int .i64 x))) ∧ Aside (Below w.heap.size w wr)) (fun i _ => s.size + 1 - (intOf i).toNat)
  case atStart => exact ⟨x + 1, by omega, by omega, by go_num, X5.out, BE.out⟩
  case round =>
    obtain ⟨k, hk1, hk2, rfl, h5, hbe⟩ := hrel
    obtain ⟨⟨t0, t1, t2, t3, t4, t5⟩, _⟩ := box_cells h5.out
    clear q0 q1 q2 q3 q4 q5
    by_cases c1 : k ≤ s.size
    · have d1 : (k : Int) ≤ (s.size : Int) := by omega
      by_cases c2 : k ≤ x + 40
      · have d2 : (k : Int) ≤ (x : Int) + 40 := by omega
        have htk := HTK.out k c1
        have HSKK := Lib.hid (HSK.out k (Nat.le_of_lt hk1))
        go_wp2_with (go_at_call 6; (with_reducible refine (HSKK.out _).mono ?_); rintro e w7 ⟨rfl, hb7⟩; have x5f := below_at hb7 h5.out; have l5f := (Array.getElem?_eq_some_iff.1 x5f).1; obtain ⟨⟨u0, u1, u2, u3, u4, u5⟩, _⟩ := box_cells x5f)
        go_roundw
        case rel => exact ⟨k + 1, by omega, by omega, by go_num, at_alloc x5f _, (below_go hbe.out hb7).alloc (below_go hbe.out hb7).size _⟩
        case measure => simp [intOf]; omega
      · have d2 : ¬ (k : Int) ≤ (x : Int) + 40 := by omega
        go_wp2_with (go_at_call 5; refine (sane_any _ (HG.out.since hbe.out)).mono ?_; rintro e w8 ⟨rfl, hb8⟩)
        go_ret
        exact ⟨rfl, below_go hbe.out hb8⟩
    · have d1 : ¬ (k : Int) ≤ (s.size : Int) := by omega
      go_wp2_with (go_at_call 5; refine (sane_any _ (HG.out.since hbe.out)).mono ?_; rintro e w8 ⟨rfl, hb8⟩)
      go_ret
      exact ⟨rfl, below_go hbe.out hb8⟩

theorem syn_any (p s : ByteArray) (hp : p.size ≤ 9223372036854775807) (w : World) (hg : Gl w) : Calls Tryz.prog 4 #[.string p, .string s] w fun e w' => e = .returned (.bool true) ∧ Below w.heap.size w w' := by
  rcases Nat.lt_or_ge 2000 s.size with h1 | h1
  · exact syn_long p s w hg h1
  · cases hip : isP p.data.toList with
    | false => exact syn_no p s hp w hg h1 (.inl rfl) (by unfold spE; rw [hip]; rfl)
    | true =>
      cases hsp : spl s.data.toList p.data.toList with
      | none => exact syn_no p s hp w hg h1 (.inr rfl) (by unfold spE; rw [hip, if_pos rfl, if_neg (by simp; omega), hsp]; rfl)
      | some r =>
        obtain ⟨neg, X⟩ := r
        exact syn_yes p s w hg h1 hip hsp
end Go.Proofs.YtilnhkflgfajcaaGreatDoor
