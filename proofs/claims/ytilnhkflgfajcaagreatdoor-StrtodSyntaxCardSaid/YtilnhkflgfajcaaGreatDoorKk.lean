/- The reference's Split. Conditions: texts of at most 20000 bytes. -/
import Derived.Test.YtilnhkflgfajcaaGreatDoorKj
import Derived.Deep.Cut
set_option linter.all false
namespace Go.Proofs.YtilnhkflgfajcaaGreatDoor
open Go.Eng Go.RowKit
set_option maxRecDepth 1000000

def fndV : Option (Bool × Int × List UInt8 × Int × List UInt8 × Nat) → Value
  | some (neg, r) => .agg #[.int .i64 r.1, .bool neg, .string ⟨⟨r.2.1⟩⟩, .int .i64 r.2.2.1, .string ⟨⟨r.2.2.2.1⟩⟩, .int .i64 r.2.2.2.2, .bool true]
  | none => .agg #[.int .i64 0, .bool false, .string ⟨#[]⟩, .int .i64 0, .string ⟨#[]⟩, .int .i64 0, .bool false]
def FPost (R : Option (Bool × Int × List UInt8 × Int × List UInt8 × Nat)) (w : World) (e : Ending) (w' : World) : Prop := e = .returned (fndV R) ∧ Below w.heap.size w w'
theorem spl_start (w : World) (a : Nat) : Below w.heap.size w (((w.alloc fb0).alloc nb0).drewN a) :=
  below_drew (((Below.refl _ _).alloc (Nat.le_refl _) _).alloc (by simp [World.size_alloc]) _) a
theorem spl_after {w w4 : World} {m : Nat} (h : Below (((w.alloc fb0).alloc nb0).drewN m).heap.size (((w.alloc fb0).alloc nb0).drewN m) w4) :
    w4.heap[w.heap.size]? = some fb0 ∧ w4.heap[w.heap.size + 1]? = some nb0 ∧ Below w.heap.size w w4 ∧ w.heap.size + 1 < w4.heap.size ∧ w.heap.size < w4.heap.size := by
  have h0 : (((w.alloc fb0).alloc nb0).drewN m).heap[w.heap.size]? = some fb0 := show ((w.alloc fb0).alloc nb0).heap[w.heap.size]? = some fb0 from at_alloc (new_at _ _ rfl) _
  have h1 : (((w.alloc fb0).alloc nb0).drewN m).heap[w.heap.size + 1]? = some nb0 := show ((w.alloc fb0).alloc nb0).heap[w.heap.size + 1]? = some nb0 from new_at _ _ (by simp [World.size_alloc])
  have k1 := below_at h h1
  have hl := (Array.getElem?_eq_some_iff.1 k1).1
  exact ⟨below_at h h0, k1, below_go (spl_start w m) h, hl, by omega⟩
theorem put6_below {w w' : World} {n N : Nat} (h : Below n w w') (hN : n ≤ N) (v0 v1 v2 v3 v4 v5 : Value) : Below n w (put6 w' N v0 v1 v2 v3 v4 v5) := by
  unfold put6
  exact (((((h.setCell hN _).setCell hN _).setCell hN _).setCell hN _).setCell hN _).setCell hN _
theorem kall_eq (t p : List UInt8) (a : Nat) : kall t p a = if wd t a wInfinity then some (3, [], 0, [], a + 8) else if wd t a wInf then some (3, [], 0, [], a + 3) else if wd t a wNan then some (4, [], 0, (pl t (a + 3)).1, (pl t (a + 3)).2) else numl t p a := by
  unfold kall numl
  simp only [kin]
  cases wd t a wInfinity <;> cases wd t a wInf <;> cases wd t a wNan <;> simp <;> rfl
theorem ret8 {R : Ending → World → Prop} {tmps : Array Value} {W : World} {N : Nat} {v0 v1 v2 v3 v4 v5 v6 : Value} (h2 : tmps[4]? = some (.pointer (some ⟨N, 0, none⟩)))
    (hb : W.heap[N]? = some (fbox v0 v1 v2 v3 v4 v5 v6)) (ho : v0.oneCell' = true ∧ v1.oneCell' = true ∧ v2.oneCell' = true ∧ v3.oneCell' = true ∧ v4.oneCell' = true ∧ v5.oneCell' = true ∧ v6.oneCell' = true) (hR : R (.returned (.agg #[v0, v1, v2, v3, v4, v5, v6])) W) : bodyPost Tryz.prog Tryz.f8 R .ret { tmps := tmps, defers := [] } W := by
  obtain ⟨⟨c0, c1, c2, c3, c4, c5, c6⟩, _⟩ := fbox_cells hb
  refine ⟨rfl, _, ?_, hR⟩
  simp [results, Tryz.results8, go_sem, h2, c0, c1, c2, c3, c4, c5, c6]
theorem wh_rawI (b : UInt8) : wh b = decide ((9 ≤ (b.toNat : Int) ∧ (b.toNat : Int) ≤ 13) ∨ (b.toNat : Int) = 32) := by
  unfold wh
  rw [decide_eq_decide]
  omega
/-- The calls behind the sign. -/
structure SplC (s p : ByteArray) (j : Nat) (i8 i3 na : Bool) (P1 : List UInt8) (P2 : Nat) (M : Option (Int × List UInt8 × Int × List UInt8 × Nat)) : Prop where
  b8 : ∀ W, Calls Tryz.prog 16 #[.string s, .int .i64 j, .string ⟨#[105, 110, 102, 105, 110, 105, 116, 121]⟩] W fun e w' => e = .returned (.bool i8) ∧ ∃ m, w' = W.drewN m
  b3 : ∀ W, Calls Tryz.prog 16 #[.string s, .int .i64 j, .string ⟨#[105, 110, 102]⟩] W fun e w' => e = .returned (.bool i3) ∧ ∃ m, w' = W.drewN m
  bn : ∀ W, Calls Tryz.prog 16 #[.string s, .int .i64 j, .string ⟨#[110, 97, 110]⟩] W fun e w' => e = .returned (.bool na) ∧ ∃ m, w' = W.drewN m
  nan : na = true → ∀ W, Calls Tryz.prog 17 #[.string s, .int .i64 ((j : Int) + 3)] W fun e w' => e = .returned (.tuple #[.string ⟨⟨P1⟩⟩, .int .i64 P2]) ∧ W = w'
  num : ∀ W, Calls Tryz.prog 18 #[.string p, .string s, .int .i64 j] W (NPost M W)
  val : kall s.data.toList p.data.toList j = if i8 then some (3, [], 0, [], j + 8) else if i3 then some (3, [], 0, [], j + 3) else if na then some (4, [], 0, P1, P2) else M
theorem splC {s p : ByteArray} {j : Nat} (hs : s.size ≤ 20000) (hj : j ≤ s.size) (hp0 : 0 < p.size) (hp : p.size ≤ 100) : ∃ i8 i3 na P1 P2 M, SplC s p j i8 i3 na P1 P2 M := by
  refine ⟨wd s.data.toList j wInfinity, wd s.data.toList j wInf, wd s.data.toList j wNan, (pl s.data.toList (j + 3)).1, (pl s.data.toList (j + 3)).2, numl s.data.toList p.data.toList j, ?_, ?_, ?_, ?_, ?_, ?_⟩
  · exact fun W => begins_any (v := ⟨#[105, 110, 102, 105, 110, 105, 116, 121]⟩) hs hj (by show 8 ≤ 100; decide) W
  · exact fun W => begins_any (v := ⟨#[105, 110, 102]⟩) hs hj (by show 3 ≤ 100; decide) W
  · exact fun W => begins_any (v := ⟨#[110, 97, 110]⟩) hs hj (by show 3 ≤ 100; decide) W
  · intro h W
    have hl := wd_le h (by simpa using hj)
    rw [sz] at hl
    exact rnan_any (a := j + 3) hs hl W
  · exact fun W => rnumeral_any hs hj hp0 hp W
  · exact kall_eq _ _ _

set_option maxHeartbeats 16000000 in
theorem rspl_minus {s p : ByteArray} {r : Nat} (hs : s.size ≤ 20000) (hp0 : 0 < p.size) (hp : p.size ≤ 100) (hr : r = rn wh s.data.toList 0) (hc : s.data.toList[r]? = some 45) (w : World) :
    Calls Tryz.prog 8 #[.string p, .string s] w (FPost (spl s.data.toList p.data.toList) w) := by
  have hrn : r ≤ s.size := by rw [hr]; simpa using rn_le wh s.data.toList 0 (Nat.zero_le _)
  have HR : Aside (r = rn wh s.data.toList 0) := hr
  have hlt : r < s.size := by
    rcases Nat.lt_or_ge r s.size with h1 | h1
    · exact h1
    · rw [List.getElem?_eq_none (by simpa using h1)] at hc
      cases hc
  obtain ⟨j, hj⟩ : ∃ j, j = r + 1 := ⟨_, rfl⟩
  have ej : (r : Int) + 1 = (j : Int) := by omega
  have jn : j ≤ s.size := by omega
  have hsg : sg s.data.toList r = j := by unfold sg; rw [hc, hj]; simp
  have hmi : mi s.data.toList r = true := by unfold mi; rw [hc]; rfl
  have HC : Aside (s.data.toList[r]? = some 45) := hc
  have hlt1 : (r : Int) < (s.size : Int) := by omega
  clear hj hc
  obtain ⟨i8, i3, na, P1, P2, M, hC⟩ := splC (s := s) (p := p) (j := j) hs jn hp0 hp
  have HB8 := Lib.hid hC.b8
  have HB3 := Lib.hid hC.b3
  have HBN := Lib.hid hC.bn
  have HNA := Lib.hid hC.nan
  have HNU := Lib.hid hC.num
  obtain ⟨R, hRR⟩ : ∃ R, R = spl s.data.toList p.data.toList := ⟨_, rfl⟩
  have HRV : Aside (R = (if i8 then some (3, [], 0, [], j + 8) else if i3 then some (3, [], 0, [], j + 3) else if na then some (4, [], 0, P1, P2) else M).map fun x => (true, x)) := by
    show R = _
    rw [hRR]
    unfold spl
    rw [← hr, hsg, hmi, hC.val]
  rw [← hRR]
  clear hRR hC hsg hmi hr
  go_enter Tryz.func8, Tryz.ntmps8
  go_wp2
  go_loop [5] (fun i => ∃ k : Nat, k ≤ s.size ∧ k ≤ r ∧ i = .int .i64 k ∧ Aside (r = rn wh s.data.toList k)) (fun i => s.size - (intOf i).toNat)
  case atStart => exact ⟨0, Nat.zero_le _, Nat.zero_le _, rfl, HR.out⟩
  case round =>
    obtain ⟨k, hk, hkr, rfl, hrk⟩ := hrel
    rcases Nat.lt_or_ge k s.size with hlt2 | hge2
    · obtain ⟨b, hb⟩ : ∃ b, s.data.toList[k]? = some b := ⟨_, List.getElem?_eq_getElem (by simpa using hlt2)⟩
      have HI := @run_idx Tryz.prog 9 s k b hb
      have HB : Aside (s.data.toList[k]? = some b) := hb
      have hk1 : (k : Int) < (s.size : Int) := by omega
      have hraw := wh_rawI b
      have hb256 : b.toNat < 256 := b.toNat_lt
      cases hp : wh b
      · have hrk2 : r = k := by rw [hrk.out]; exact rn_stop HB.out hp
        subst hrk2
        have hb45 : b = 45 := by
          have := HB.out
          rw [HC.out] at this
          exact (Option.some.inj this).symm
        subst hb45
        have HI' : ∀ w, (Instr.index 9 (.string s) (.int .i64 (r : Int))).run Tryz.prog w = .ok (.int .u8 45) w := HI Tryz.underlying9
        clear hraw hp hb hb256 HI
        cases i8 with
        | true =>
          have eR : R = some (true, 3, [], 0, [], j + 8) := by rw [HRV.out]; rfl
          subst eR
          clear HB3 HBN HNA HNU
          go_wp2_with (first
            | (go_at_call 16; (with_reducible refine (HB8.out _).mono ?_); rintro e w1 ⟨rfl, m1, rfl⟩; clear HB8))
          refine ret8 (N := w.heap.size) (v0 := .int .i64 3) (v1 := .bool true) (v2 := .string ⟨#[]⟩) (v3 := .int .i64 0) (v4 := .string ⟨#[]⟩) (v5 := .int .i64 ((j : Int) + 8)) (v6 := .bool true) (by kernel_rfl) ?_ (by simp [Value.oneCell']) ?_
          · refine put7_box (u0 := .int .i64 0) (u1 := .bool false) (u2 := .string ⟨#[]⟩) (u3 := .int .i64 0) (u4 := .string ⟨#[]⟩) (u5 := .int .i64 0) (u6 := .bool false) ?_ _ _ _ _ _ _ _
            repeat rw [set_far (by omega)]
            exact (show ((w.alloc fb0).alloc nb0).heap[w.heap.size]? = some fb0 from at_alloc (new_at _ _ rfl) _)
          · refine ⟨rfl, put7_below ?_ _ _ _ _ _ _ _⟩
            repeat refine Below.setCell ?_ (by show w.heap.size ≤ w.heap.size + 1; omega) _
            exact spl_start w _
        | false =>
          cases i3 with
          | true =>
            have eR : R = some (true, 3, [], 0, [], j + 3) := by rw [HRV.out]; rfl
            subst eR
            clear HBN HNA HNU
            go_wp2_with (first
              | (go_at_call 16; (with_reducible refine (HB8.out _).mono ?_); rintro e w1 ⟨rfl, m1, rfl⟩; clear HB8)
              | (go_at_call 16; (with_reducible refine (HB3.out _).mono ?_); rintro e w1 ⟨rfl, m2, rfl⟩; clear HB3))
            refine ret8 (N := w.heap.size) (v0 := .int .i64 3) (v1 := .bool true) (v2 := .string ⟨#[]⟩) (v3 := .int .i64 0) (v4 := .string ⟨#[]⟩) (v5 := .int .i64 ((j : Int) + 3)) (v6 := .bool true) (by kernel_rfl) ?_ (by simp [Value.oneCell']) ?_
            · refine put7_box (u0 := .int .i64 0) (u1 := .bool false) (u2 := .string ⟨#[]⟩) (u3 := .int .i64 0) (u4 := .string ⟨#[]⟩) (u5 := .int .i64 0) (u6 := .bool false) ?_ _ _ _ _ _ _ _
              repeat rw [set_far (by omega)]
              exact (show ((w.alloc fb0).alloc nb0).heap[w.heap.size]? = some fb0 from at_alloc (new_at _ _ rfl) _)
            · refine ⟨rfl, put7_below ?_ _ _ _ _ _ _ _⟩
              repeat refine Below.setCell ?_ (by show w.heap.size ≤ w.heap.size + 1; omega) _
              exact spl_start w _
          | false =>
            cases na with
            | true =>
              have eR : R = some (true, 4, [], 0, P1, P2) := by rw [HRV.out]; rfl
              subst eR
              have HN2 := Lib.hid fun W => HNA.out rfl W
              clear HNU HNA
              go_wp2_with (first
                | (go_at_call 16; (with_reducible refine (HB8.out _).mono ?_); rintro e w1 ⟨rfl, m1, rfl⟩; clear HB8)
                | (go_at_call 16; (with_reducible refine (HB3.out _).mono ?_); rintro e w1 ⟨rfl, m2, rfl⟩; clear HB3)
                | (go_at_call 16; (with_reducible refine (HBN.out _).mono ?_); rintro e w1 ⟨rfl, m3, rfl⟩; clear HBN)
                | (go_at_call 17; (with_reducible refine (HN2.out _).mono ?_); rintro e w2 ⟨rfl, rfl⟩))
              refine ret8 (N := w.heap.size) (v0 := .int .i64 4) (v1 := .bool true) (v2 := .string ⟨#[]⟩) (v3 := .int .i64 0) (v4 := .string ⟨⟨P1⟩⟩) (v5 := .int .i64 P2) (v6 := .bool true) (by kernel_rfl) ?_ (by simp [Value.oneCell']) ?_
              · refine put7_box (u0 := .int .i64 0) (u1 := .bool false) (u2 := .string ⟨#[]⟩) (u3 := .int .i64 0) (u4 := .string ⟨#[]⟩) (u5 := .int .i64 0) (u6 := .bool false) ?_ _ _ _ _ _ _ _
                repeat rw [set_far (by omega)]
                exact (show ((w.alloc fb0).alloc nb0).heap[w.heap.size]? = some fb0 from at_alloc (new_at _ _ rfl) _)
              · refine ⟨rfl, put7_below ?_ _ _ _ _ _ _ _⟩
                repeat refine Below.setCell ?_ (by show w.heap.size ≤ w.heap.size + 1; omega) _
                exact spl_start w _
            | false =>
              clear HNA
              cases M with
              | none =>
                have eR : R = none := by rw [HRV.out]; rfl
                subst eR
                have HNU := Lib.hid fun W => show Calls Tryz.prog 18 #[.string p, .string s, .int .i64 j] W (fun e w' => e = .returned (.agg #[.int .i64 0, .bool false, .string ⟨#[]⟩, .int .i64 0, .string ⟨#[]⟩, .int .i64 0, .bool false]) ∧ Below W.heap.size W w') from HNU.out W
                go_wp2_with (first
                  | (go_at_call 16; (with_reducible refine (HB8.out _).mono ?_); rintro e w1 ⟨rfl, m1, rfl⟩; clear HB8)
                  | (go_at_call 16; (with_reducible refine (HB3.out _).mono ?_); rintro e w1 ⟨rfl, m2, rfl⟩; clear HB3)
                  | (go_at_call 16; (with_reducible refine (HBN.out _).mono ?_); rintro e w1 ⟨rfl, m3, rfl⟩; clear HBN)
                  | (go_at_call 18; (with_reducible refine (HNU.out _).mono ?_); rintro e w4 ⟨rfl, hb4⟩; obtain ⟨hn4, hm4, be4, hlt4, hlt5⟩ := spl_after hb4; obtain ⟨⟨a0, a1, a2, a3, a4, a5, a6⟩, d0, d1, d2, d3, d4, d5, d6⟩ := fbox_cells hn4; obtain ⟨⟨b0, b1, b2, b3, b4, b5⟩, c0, c1, c2, c3, c4, c5⟩ := box_cells hm4))
                refine ret8 (N := w.heap.size) (v0 := .int .i64 0) (v1 := .bool false) (v2 := .string ⟨#[]⟩) (v3 := .int .i64 0) (v4 := .string ⟨#[]⟩) (v5 := .int .i64 0) (v6 := .bool false) (by kernel_rfl) ?_ (by simp [Value.oneCell']) ?_
                · exact at_alloc (put7_box hn4 _ _ _ _ _ _ _) _
                · exact ⟨rfl, (put7_below be4 _ _ _ _ _ _ _).alloc (by rw [put7_size]; exact Nat.le_of_lt hlt5) _⟩
              | some M =>
                have eR : R = some (true, M) := by rw [HRV.out]; rfl
                subst eR
                have HNU := Lib.hid fun W => show Calls Tryz.prog 18 #[.string p, .string s, .int .i64 j] W (fun e w' => e = .returned (.agg #[.int .i64 M.1, .bool false, .string ⟨⟨M.2.1⟩⟩, .int .i64 M.2.2.1, .string ⟨⟨M.2.2.2.1⟩⟩, .int .i64 M.2.2.2.2, .bool true]) ∧ Below W.heap.size W w') from HNU.out W
                go_upto_region 13 with (first
                  | (go_at_call 16; (with_reducible refine (HB8.out _).mono ?_); rintro e w1 ⟨rfl, m1, rfl⟩; clear HB8)
                  | (go_at_call 16; (with_reducible refine (HB3.out _).mono ?_); rintro e w1 ⟨rfl, m2, rfl⟩; clear HB3)
                  | (go_at_call 16; (with_reducible refine (HBN.out _).mono ?_); rintro e w1 ⟨rfl, m3, rfl⟩; clear HBN)
                  | (go_at_call 18; (with_reducible refine (HNU.out _).mono ?_); rintro e w4 ⟨rfl, hb4⟩; obtain ⟨hn4, hm4, be4, hlt4, hlt5⟩ := spl_after hb4; obtain ⟨⟨a0, a1, a2, a3, a4, a5, a6⟩, d0, d1, d2, d3, d4, d5, d6⟩ := fbox_cells hn4; obtain ⟨⟨b0, b1, b2, b3, b4, b5⟩, c0, c1, c2, c3, c4, c5⟩ := box_cells hm4))
                have hn5 : ((put6 w4 (w.heap.size + 1) (.int .i64 M.1) (.bool false) (.string ⟨⟨M.2.1⟩⟩) (.int .i64 M.2.2.1) (.string ⟨⟨M.2.2.2.1⟩⟩) (.int .i64 M.2.2.2.2)).alloc (fbox (.int .i64 M.1) (.bool false) (.string ⟨⟨M.2.1⟩⟩) (.int .i64 M.2.2.1) (.string ⟨⟨M.2.2.2.1⟩⟩) (.int .i64 M.2.2.2.2) (.bool true))).heap[w.heap.size]? = some fb0 := at_alloc ((put6_far (by omega) _ _ _ _ _ _).trans hn4) _
                have hm5 : ((put6 w4 (w.heap.size + 1) (.int .i64 M.1) (.bool false) (.string ⟨⟨M.2.1⟩⟩) (.int .i64 M.2.2.1) (.string ⟨⟨M.2.2.2.1⟩⟩) (.int .i64 M.2.2.2.2)).alloc (fbox (.int .i64 M.1) (.bool false) (.string ⟨⟨M.2.1⟩⟩) (.int .i64 M.2.2.1) (.string ⟨⟨M.2.2.2.1⟩⟩) (.int .i64 M.2.2.2.2) (.bool true))).heap[w.heap.size + 1]? = some (nbox (.int .i64 M.1) (.bool false) (.string ⟨⟨M.2.1⟩⟩) (.int .i64 M.2.2.1) (.string ⟨⟨M.2.2.2.1⟩⟩) (.int .i64 M.2.2.2.2)) := at_alloc (put6_box hm4 _ _ _ _ _ _) _
                have be5 : Below w.heap.size w ((put6 w4 (w.heap.size + 1) (.int .i64 M.1) (.bool false) (.string ⟨⟨M.2.1⟩⟩) (.int .i64 M.2.2.1) (.string ⟨⟨M.2.2.2.1⟩⟩) (.int .i64 M.2.2.2.2)).alloc (fbox (.int .i64 M.1) (.bool false) (.string ⟨⟨M.2.1⟩⟩) (.int .i64 M.2.2.1) (.string ⟨⟨M.2.2.2.1⟩⟩) (.int .i64 M.2.2.2.2) (.bool true))) := (put6_below be4 (Nat.le_succ _) _ _ _ _ _ _).alloc (by rw [put6_size]; exact Nat.le_of_lt hlt5) _
                unfold put6 at hn5 hm5 be5
                have HN5 := Lib.hid hn5
                have HM5 := Lib.hid hm5
                have HE5 := Lib.hid be5
                clear hn5 hm5 be5 a0 a1 a2 a3 a4 a5 a6 d0 d1 d2 d3 d4 d5 d6 b0 b1 b2 b3 b4 b5 c0 c1 c2 c3 c4 c5 hn4 hm4 be4 hlt4 hlt5
                generalize ((((((w4.setCell ⟨w.heap.size + 1, 0, none⟩ (.int .i64 M.1)).setCell ⟨w.heap.size + 1, 1, none⟩ (.bool false)).setCell ⟨w.heap.size + 1, 2, none⟩ (.string ⟨⟨M.2.1⟩⟩)).setCell ⟨w.heap.size + 1, 3, none⟩ (.int .i64 M.2.2.1)).setCell ⟨w.heap.size + 1, 4, none⟩ (.string ⟨⟨M.2.2.2.1⟩⟩)).setCell ⟨w.heap.size + 1, 5, none⟩ (.int .i64 M.2.2.2.2)).alloc (fbox (.int .i64 M.1) (.bool false) (.string ⟨⟨M.2.1⟩⟩) (.int .i64 M.2.2.1) (.string ⟨⟨M.2.2.2.1⟩⟩) (.int .i64 M.2.2.2.2) (.bool true)) = w5 at *
                obtain ⟨⟨a0, a1, a2, a3, a4, a5, a6⟩, d0, d1, d2, d3, d4, d5, d6⟩ := fbox_cells HN5.out
                obtain ⟨⟨b0, b1, b2, b3, b4, b5⟩, c0, c1, c2, c3, c4, c5⟩ := box_cells HM5.out
                go_wp2
                refine ret8 (N := w.heap.size) (v0 := .int .i64 M.1) (v1 := .bool true) (v2 := .string ⟨⟨M.2.1⟩⟩) (v3 := .int .i64 M.2.2.1) (v4 := .string ⟨⟨M.2.2.2.1⟩⟩) (v5 := .int .i64 M.2.2.2.2) (v6 := .bool true) (by kernel_rfl) ?_ (by simp [Value.oneCell']) ?_
                · refine put7_box (u0 := .int .i64 0) (u1 := .bool false) (u2 := .string ⟨#[]⟩) (u3 := .int .i64 0) (u4 := .string ⟨#[]⟩) (u5 := .int .i64 0) (u6 := .bool false) ?_ _ _ _ _ _ _ _
                  repeat rw [set_far (by omega)]
                  exact HN5.out
                · refine ⟨rfl, put7_below ?_ _ _ _ _ _ _ _⟩
                  repeat refine Below.setCell ?_ (by show w.heap.size ≤ w.heap.size + 1; omega) _
                  exact HE5.out
      · have hrk3 : r = rn wh s.data.toList (k + 1) := by rw [hrk.out]; exact rn_step HB.out hp
        have HRK : Aside (r = rn wh s.data.toList (k + 1)) := hrk3
        have hkr2 : k + 1 ≤ r := by rw [hrk3]; exact rn_ge _ _ _
        rw [hp] at hraw
        have hrw := of_decide_eq_true hraw.symm
        obtain ⟨n, hn⟩ : ∃ n : Int, n = (b.toNat : Int) := ⟨_, rfl⟩
        have hn0 : 0 ≤ n := by omega
        have hn1 : n < 256 := by omega
        rw [← hn] at HI hrw
        clear hraw hp hrk3 hb hn hb256
        rcases hrw with ⟨q1, q2⟩ | q1
        · go_wp2
          go_round
          case rel => exact ⟨k + 1, by omega, hkr2, by go_num, HRK.out⟩
          case measure => simp [intOf]; omega
        · subst q1
          go_wp2
          go_round
          case rel => exact ⟨k + 1, by omega, hkr2, by go_num, HRK.out⟩
          case measure => simp [intOf]; omega
    · have ek : k = s.size := by omega
      subst ek
      exfalso
      have := hrk.out
      rw [rn_end (by simp)] at this
      omega

set_option maxHeartbeats 16000000 in
theorem rspl_plus {s p : ByteArray} {r : Nat} (hs : s.size ≤ 20000) (hp0 : 0 < p.size) (hp : p.size ≤ 100) (hr : r = rn wh s.data.toList 0) (hc : s.data.toList[r]? = some 43) (w : World) :
    Calls Tryz.prog 8 #[.string p, .string s] w (FPost (spl s.data.toList p.data.toList) w) := by
  have hrn : r ≤ s.size := by rw [hr]; simpa using rn_le wh s.data.toList 0 (Nat.zero_le _)
  have HR : Aside (r = rn wh s.data.toList 0) := hr
  have hlt : r < s.size := by
    rcases Nat.lt_or_ge r s.size with h1 | h1
    · exact h1
    · rw [List.getElem?_eq_none (by simpa using h1)] at hc
      cases hc
  obtain ⟨j, hj⟩ : ∃ j, j = r + 1 := ⟨_, rfl⟩
  have ej : (r : Int) + 1 = (j : Int) := by omega
  have jn : j ≤ s.size := by omega
  have hsg : sg s.data.toList r = j := by unfold sg; rw [hc, hj]; simp
  have hmi : mi s.data.toList r = false := by unfold mi; rw [hc]; rfl
  have HC : Aside (s.data.toList[r]? = some 43) := hc
  have hlt1 : (r : Int) < (s.size : Int) := by omega
  clear hj hc
  obtain ⟨i8, i3, na, P1, P2, M, hC⟩ := splC (s := s) (p := p) (j := j) hs jn hp0 hp
  have HB8 := Lib.hid hC.b8
  have HB3 := Lib.hid hC.b3
  have HBN := Lib.hid hC.bn
  have HNA := Lib.hid hC.nan
  have HNU := Lib.hid hC.num
  obtain ⟨R, hRR⟩ : ∃ R, R = spl s.data.toList p.data.toList := ⟨_, rfl⟩
  have HRV : Aside (R = (if i8 then some (3, [], 0, [], j + 8) else if i3 then some (3, [], 0, [], j + 3) else if na then some (4, [], 0, P1, P2) else M).map fun x => (false, x)) := by
    show R = _
    rw [hRR]
    unfold spl
    rw [← hr, hsg, hmi, hC.val]
  rw [← hRR]
  clear hRR hC hsg hmi hr
  go_enter Tryz.func8, Tryz.ntmps8
  go_wp2
  go_loop [5] (fun i => ∃ k : Nat, k ≤ s.size ∧ k ≤ r ∧ i = .int .i64 k ∧ Aside (r = rn wh s.data.toList k)) (fun i => s.size - (intOf i).toNat)
  case atStart => exact ⟨0, Nat.zero_le _, Nat.zero_le _, rfl, HR.out⟩
  case round =>
    obtain ⟨k, hk, hkr, rfl, hrk⟩ := hrel
    rcases Nat.lt_or_ge k s.size with hlt2 | hge2
    · obtain ⟨b, hb⟩ : ∃ b, s.data.toList[k]? = some b := ⟨_, List.getElem?_eq_getElem (by simpa using hlt2)⟩
      have HI := @run_idx Tryz.prog 9 s k b hb
      have HB : Aside (s.data.toList[k]? = some b) := hb
      have hk1 : (k : Int) < (s.size : Int) := by omega
      have hraw := wh_rawI b
      have hb256 : b.toNat < 256 := b.toNat_lt
      cases hp : wh b
      · have hrk2 : r = k := by rw [hrk.out]; exact rn_stop HB.out hp
        subst hrk2
        have hb45 : b = 43 := by
          have := HB.out
          rw [HC.out] at this
          exact (Option.some.inj this).symm
        subst hb45
        have HI' : ∀ w, (Instr.index 9 (.string s) (.int .i64 (r : Int))).run Tryz.prog w = .ok (.int .u8 43) w := HI Tryz.underlying9
        clear hraw hp hb hb256 HI
        cases i8 with
        | true =>
          have eR : R = some (false, 3, [], 0, [], j + 8) := by rw [HRV.out]; rfl
          subst eR
          clear HB3 HBN HNA HNU
          go_wp2_with (first
            | (go_at_call 16; (with_reducible refine (HB8.out _).mono ?_); rintro e w1 ⟨rfl, m1, rfl⟩; clear HB8))
          refine ret8 (N := w.heap.size) (v0 := .int .i64 3) (v1 := .bool false) (v2 := .string ⟨#[]⟩) (v3 := .int .i64 0) (v4 := .string ⟨#[]⟩) (v5 := .int .i64 ((j : Int) + 8)) (v6 := .bool true) (by kernel_rfl) ?_ (by simp [Value.oneCell']) ?_
          · refine put7_box (u0 := .int .i64 0) (u1 := .bool false) (u2 := .string ⟨#[]⟩) (u3 := .int .i64 0) (u4 := .string ⟨#[]⟩) (u5 := .int .i64 0) (u6 := .bool false) ?_ _ _ _ _ _ _ _
            repeat rw [set_far (by omega)]
            exact (show ((w.alloc fb0).alloc nb0).heap[w.heap.size]? = some fb0 from at_alloc (new_at _ _ rfl) _)
          · refine ⟨rfl, put7_below ?_ _ _ _ _ _ _ _⟩
            repeat refine Below.setCell ?_ (by show w.heap.size ≤ w.heap.size + 1; omega) _
            exact spl_start w _
        | false =>
          cases i3 with
          | true =>
            have eR : R = some (false, 3, [], 0, [], j + 3) := by rw [HRV.out]; rfl
            subst eR
            clear HBN HNA HNU
            go_wp2_with (first
              | (go_at_call 16; (with_reducible refine (HB8.out _).mono ?_); rintro e w1 ⟨rfl, m1, rfl⟩; clear HB8)
              | (go_at_call 16; (with_reducible refine (HB3.out _).mono ?_); rintro e w1 ⟨rfl, m2, rfl⟩; clear HB3))
            refine ret8 (N := w.heap.size) (v0 := .int .i64 3) (v1 := .bool false) (v2 := .string ⟨#[]⟩) (v3 := .int .i64 0) (v4 := .string ⟨#[]⟩) (v5 := .int .i64 ((j : Int) + 3)) (v6 := .bool true) (by kernel_rfl) ?_ (by simp [Value.oneCell']) ?_
            · refine put7_box (u0 := .int .i64 0) (u1 := .bool false) (u2 := .string ⟨#[]⟩) (u3 := .int .i64 0) (u4 := .string ⟨#[]⟩) (u5 := .int .i64 0) (u6 := .bool false) ?_ _ _ _ _ _ _ _
              repeat rw [set_far (by omega)]
              exact (show ((w.alloc fb0).alloc nb0).heap[w.heap.size]? = some fb0 from at_alloc (new_at _ _ rfl) _)
            · refine ⟨rfl, put7_below ?_ _ _ _ _ _ _ _⟩
              repeat refine Below.setCell ?_ (by show w.heap.size ≤ w.heap.size + 1; omega) _
              exact spl_start w _
          | false =>
            cases na with
            | true =>
              have eR : R = some (false, 4, [], 0, P1, P2) := by rw [HRV.out]; rfl
              subst eR
              have HN2 := Lib.hid fun W => HNA.out rfl W
              clear HNU HNA
              go_wp2_with (first
                | (go_at_call 16; (with_reducible refine (HB8.out _).mono ?_); rintro e w1 ⟨rfl, m1, rfl⟩; clear HB8)
                | (go_at_call 16; (with_reducible refine (HB3.out _).mono ?_); rintro e w1 ⟨rfl, m2, rfl⟩; clear HB3)
                | (go_at_call 16; (with_reducible refine (HBN.out _).mono ?_); rintro e w1 ⟨rfl, m3, rfl⟩; clear HBN)
                | (go_at_call 17; (with_reducible refine (HN2.out _).mono ?_); rintro e w2 ⟨rfl, rfl⟩))
              refine ret8 (N := w.heap.size) (v0 := .int .i64 4) (v1 := .bool false) (v2 := .string ⟨#[]⟩) (v3 := .int .i64 0) (v4 := .string ⟨⟨P1⟩⟩) (v5 := .int .i64 P2) (v6 := .bool true) (by kernel_rfl) ?_ (by simp [Value.oneCell']) ?_
              · refine put7_box (u0 := .int .i64 0) (u1 := .bool false) (u2 := .string ⟨#[]⟩) (u3 := .int .i64 0) (u4 := .string ⟨#[]⟩) (u5 := .int .i64 0) (u6 := .bool false) ?_ _ _ _ _ _ _ _
                repeat rw [set_far (by omega)]
                exact (show ((w.alloc fb0).alloc nb0).heap[w.heap.size]? = some fb0 from at_alloc (new_at _ _ rfl) _)
              · refine ⟨rfl, put7_below ?_ _ _ _ _ _ _ _⟩
                repeat refine Below.setCell ?_ (by show w.heap.size ≤ w.heap.size + 1; omega) _
                exact spl_start w _
            | false =>
              clear HNA
              cases M with
              | none =>
                have eR : R = none := by rw [HRV.out]; rfl
                subst eR
                have HNU := Lib.hid fun W => show Calls Tryz.prog 18 #[.string p, .string s, .int .i64 j] W (fun e w' => e = .returned (.agg #[.int .i64 0, .bool false, .string ⟨#[]⟩, .int .i64 0, .string ⟨#[]⟩, .int .i64 0, .bool false]) ∧ Below W.heap.size W w') from HNU.out W
                go_wp2_with (first
                  | (go_at_call 16; (with_reducible refine (HB8.out _).mono ?_); rintro e w1 ⟨rfl, m1, rfl⟩; clear HB8)
                  | (go_at_call 16; (with_reducible refine (HB3.out _).mono ?_); rintro e w1 ⟨rfl, m2, rfl⟩; clear HB3)
                  | (go_at_call 16; (with_reducible refine (HBN.out _).mono ?_); rintro e w1 ⟨rfl, m3, rfl⟩; clear HBN)
                  | (go_at_call 18; (with_reducible refine (HNU.out _).mono ?_); rintro e w4 ⟨rfl, hb4⟩; obtain ⟨hn4, hm4, be4, hlt4, hlt5⟩ := spl_after hb4; obtain ⟨⟨a0, a1, a2, a3, a4, a5, a6⟩, d0, d1, d2, d3, d4, d5, d6⟩ := fbox_cells hn4; obtain ⟨⟨b0, b1, b2, b3, b4, b5⟩, c0, c1, c2, c3, c4, c5⟩ := box_cells hm4))
                refine ret8 (N := w.heap.size) (v0 := .int .i64 0) (v1 := .bool false) (v2 := .string ⟨#[]⟩) (v3 := .int .i64 0) (v4 := .string ⟨#[]⟩) (v5 := .int .i64 0) (v6 := .bool false) (by kernel_rfl) ?_ (by simp [Value.oneCell']) ?_
                · exact at_alloc (put7_box hn4 _ _ _ _ _ _ _) _
                · exact ⟨rfl, (put7_below be4 _ _ _ _ _ _ _).alloc (by rw [put7_size]; exact Nat.le_of_lt hlt5) _⟩
              | some M =>
                have eR : R = some (false, M) := by rw [HRV.out]; rfl
                subst eR
                have HNU := Lib.hid fun W => show Calls Tryz.prog 18 #[.string p, .string s, .int .i64 j] W (fun e w' => e = .returned (.agg #[.int .i64 M.1, .bool false, .string ⟨⟨M.2.1⟩⟩, .int .i64 M.2.2.1, .string ⟨⟨M.2.2.2.1⟩⟩, .int .i64 M.2.2.2.2, .bool true]) ∧ Below W.heap.size W w') from HNU.out W
                go_upto_region 13 with (first
                  | (go_at_call 16; (with_reducible refine (HB8.out _).mono ?_); rintro e w1 ⟨rfl, m1, rfl⟩; clear HB8)
                  | (go_at_call 16; (with_reducible refine (HB3.out _).mono ?_); rintro e w1 ⟨rfl, m2, rfl⟩; clear HB3)
                  | (go_at_call 16; (with_reducible refine (HBN.out _).mono ?_); rintro e w1 ⟨rfl, m3, rfl⟩; clear HBN)
                  | (go_at_call 18; (with_reducible refine (HNU.out _).mono ?_); rintro e w4 ⟨rfl, hb4⟩; obtain ⟨hn4, hm4, be4, hlt4, hlt5⟩ := spl_after hb4; obtain ⟨⟨a0, a1, a2, a3, a4, a5, a6⟩, d0, d1, d2, d3, d4, d5, d6⟩ := fbox_cells hn4; obtain ⟨⟨b0, b1, b2, b3, b4, b5⟩, c0, c1, c2, c3, c4, c5⟩ := box_cells hm4))
                have hn5 : ((put6 w4 (w.heap.size + 1) (.int .i64 M.1) (.bool false) (.string ⟨⟨M.2.1⟩⟩) (.int .i64 M.2.2.1) (.string ⟨⟨M.2.2.2.1⟩⟩) (.int .i64 M.2.2.2.2)).alloc (fbox (.int .i64 M.1) (.bool false) (.string ⟨⟨M.2.1⟩⟩) (.int .i64 M.2.2.1) (.string ⟨⟨M.2.2.2.1⟩⟩) (.int .i64 M.2.2.2.2) (.bool true))).heap[w.heap.size]? = some fb0 := at_alloc ((put6_far (by omega) _ _ _ _ _ _).trans hn4) _
                have hm5 : ((put6 w4 (w.heap.size + 1) (.int .i64 M.1) (.bool false) (.string ⟨⟨M.2.1⟩⟩) (.int .i64 M.2.2.1) (.string ⟨⟨M.2.2.2.1⟩⟩) (.int .i64 M.2.2.2.2)).alloc (fbox (.int .i64 M.1) (.bool false) (.string ⟨⟨M.2.1⟩⟩) (.int .i64 M.2.2.1) (.string ⟨⟨M.2.2.2.1⟩⟩) (.int .i64 M.2.2.2.2) (.bool true))).heap[w.heap.size + 1]? = some (nbox (.int .i64 M.1) (.bool false) (.string ⟨⟨M.2.1⟩⟩) (.int .i64 M.2.2.1) (.string ⟨⟨M.2.2.2.1⟩⟩) (.int .i64 M.2.2.2.2)) := at_alloc (put6_box hm4 _ _ _ _ _ _) _
                have be5 : Below w.heap.size w ((put6 w4 (w.heap.size + 1) (.int .i64 M.1) (.bool false) (.string ⟨⟨M.2.1⟩⟩) (.int .i64 M.2.2.1) (.string ⟨⟨M.2.2.2.1⟩⟩) (.int .i64 M.2.2.2.2)).alloc (fbox (.int .i64 M.1) (.bool false) (.string ⟨⟨M.2.1⟩⟩) (.int .i64 M.2.2.1) (.string ⟨⟨M.2.2.2.1⟩⟩) (.int .i64 M.2.2.2.2) (.bool true))) := (put6_below be4 (Nat.le_succ _) _ _ _ _ _ _).alloc (by rw [put6_size]; exact Nat.le_of_lt hlt5) _
                unfold put6 at hn5 hm5 be5
                have HN5 := Lib.hid hn5
                have HM5 := Lib.hid hm5
                have HE5 := Lib.hid be5
                clear hn5 hm5 be5 a0 a1 a2 a3 a4 a5 a6 d0 d1 d2 d3 d4 d5 d6 b0 b1 b2 b3 b4 b5 c0 c1 c2 c3 c4 c5 hn4 hm4 be4 hlt4 hlt5
                generalize ((((((w4.setCell ⟨w.heap.size + 1, 0, none⟩ (.int .i64 M.1)).setCell ⟨w.heap.size + 1, 1, none⟩ (.bool false)).setCell ⟨w.heap.size + 1, 2, none⟩ (.string ⟨⟨M.2.1⟩⟩)).setCell ⟨w.heap.size + 1, 3, none⟩ (.int .i64 M.2.2.1)).setCell ⟨w.heap.size + 1, 4, none⟩ (.string ⟨⟨M.2.2.2.1⟩⟩)).setCell ⟨w.heap.size + 1, 5, none⟩ (.int .i64 M.2.2.2.2)).alloc (fbox (.int .i64 M.1) (.bool false) (.string ⟨⟨M.2.1⟩⟩) (.int .i64 M.2.2.1) (.string ⟨⟨M.2.2.2.1⟩⟩) (.int .i64 M.2.2.2.2) (.bool true)) = w5 at *
                obtain ⟨⟨a0, a1, a2, a3, a4, a5, a6⟩, d0, d1, d2, d3, d4, d5, d6⟩ := fbox_cells HN5.out
                obtain ⟨⟨b0, b1, b2, b3, b4, b5⟩, c0, c1, c2, c3, c4, c5⟩ := box_cells HM5.out
                go_wp2
                refine ret8 (N := w.heap.size) (v0 := .int .i64 M.1) (v1 := .bool false) (v2 := .string ⟨⟨M.2.1⟩⟩) (v3 := .int .i64 M.2.2.1) (v4 := .string ⟨⟨M.2.2.2.1⟩⟩) (v5 := .int .i64 M.2.2.2.2) (v6 := .bool true) (by kernel_rfl) ?_ (by simp [Value.oneCell']) ?_
                · refine put7_box (u0 := .int .i64 0) (u1 := .bool false) (u2 := .string ⟨#[]⟩) (u3 := .int .i64 0) (u4 := .string ⟨#[]⟩) (u5 := .int .i64 0) (u6 := .bool false) ?_ _ _ _ _ _ _ _
                  repeat rw [set_far (by omega)]
                  exact HN5.out
                · refine ⟨rfl, put7_below ?_ _ _ _ _ _ _ _⟩
                  repeat refine Below.setCell ?_ (by show w.heap.size ≤ w.heap.size + 1; omega) _
                  exact HE5.out
      · have hrk3 : r = rn wh s.data.toList (k + 1) := by rw [hrk.out]; exact rn_step HB.out hp
        have HRK : Aside (r = rn wh s.data.toList (k + 1)) := hrk3
        have hkr2 : k + 1 ≤ r := by rw [hrk3]; exact rn_ge _ _ _
        rw [hp] at hraw
        have hrw := of_decide_eq_true hraw.symm
        obtain ⟨n, hn⟩ : ∃ n : Int, n = (b.toNat : Int) := ⟨_, rfl⟩
        have hn0 : 0 ≤ n := by omega
        have hn1 : n < 256 := by omega
        rw [← hn] at HI hrw
        clear hraw hp hrk3 hb hn hb256
        rcases hrw with ⟨q1, q2⟩ | q1
        · go_wp2
          go_round
          case rel => exact ⟨k + 1, by omega, hkr2, by go_num, HRK.out⟩
          case measure => simp [intOf]; omega
        · subst q1
          go_wp2
          go_round
          case rel => exact ⟨k + 1, by omega, hkr2, by go_num, HRK.out⟩
          case measure => simp [intOf]; omega
    · have ek : k = s.size := by omega
      subst ek
      exfalso
      have := hrk.out
      rw [rn_end (by simp)] at this
      omega

set_option maxHeartbeats 16000000 in
theorem rspl_other {s p : ByteArray} {r : Nat} (hs : s.size ≤ 20000) (hp0 : 0 < p.size) (hp : p.size ≤ 100) (hr : r = rn wh s.data.toList 0) {c : UInt8} (hc : s.data.toList[r]? = some c) (h45 : c ≠ 45) (h43 : c ≠ 43) (w : World) :
    Calls Tryz.prog 8 #[.string p, .string s] w (FPost (spl s.data.toList p.data.toList) w) := by
  have hrn : r ≤ s.size := by rw [hr]; simpa using rn_le wh s.data.toList 0 (Nat.zero_le _)
  have HR : Aside (r = rn wh s.data.toList 0) := hr
  have hlt : r < s.size := by
    rcases Nat.lt_or_ge r s.size with h1 | h1
    · exact h1
    · rw [List.getElem?_eq_none (by simpa using h1)] at hc
      cases hc
  have HC : Aside (s.data.toList[r]? = some c) := hc
  have hsg : sg s.data.toList r = r := by unfold sg; rw [hc]; simp [h45, h43]
  have hmi : mi s.data.toList r = false := by unfold mi; rw [hc]; simp [h45]
  have hlt1 : (r : Int) < (s.size : Int) := by omega
  have H45 : Aside (c ≠ 45) := h45
  have H43 : Aside (c ≠ 43) := h43
  clear hc h45 h43
  obtain ⟨i8, i3, na, P1, P2, M, hC⟩ := splC (s := s) (p := p) (j := r) hs hrn hp0 hp
  have HB8 := Lib.hid hC.b8
  have HB3 := Lib.hid hC.b3
  have HBN := Lib.hid hC.bn
  have HNA := Lib.hid hC.nan
  have HNU := Lib.hid hC.num
  obtain ⟨R, hRR⟩ : ∃ R, R = spl s.data.toList p.data.toList := ⟨_, rfl⟩
  have HRV : Aside (R = (if i8 then some (3, [], 0, [], r + 8) else if i3 then some (3, [], 0, [], r + 3) else if na then some (4, [], 0, P1, P2) else M).map fun x => (false, x)) := by
    show R = _
    rw [hRR]
    unfold spl
    rw [← hr, hsg, hmi, hC.val]
  rw [← hRR]
  clear hRR hC hsg hmi hr
  go_enter Tryz.func8, Tryz.ntmps8
  go_wp2
  go_loop [5] (fun i => ∃ k : Nat, k ≤ s.size ∧ k ≤ r ∧ i = .int .i64 k ∧ Aside (r = rn wh s.data.toList k)) (fun i => s.size - (intOf i).toNat)
  case atStart => exact ⟨0, Nat.zero_le _, Nat.zero_le _, rfl, HR.out⟩
  case round =>
    obtain ⟨k, hk, hkr, rfl, hrk⟩ := hrel
    rcases Nat.lt_or_ge k s.size with hlt2 | hge2
    · obtain ⟨b, hb⟩ : ∃ b, s.data.toList[k]? = some b := ⟨_, List.getElem?_eq_getElem (by simpa using hlt2)⟩
      have HI := @run_idx Tryz.prog 9 s k b hb
      have HB : Aside (s.data.toList[k]? = some b) := hb
      have hk1 : (k : Int) < (s.size : Int) := by omega
      have hraw := wh_rawI b
      have hb256 : b.toNat < 256 := b.toNat_lt
      cases hp : wh b
      · have hrk2 : r = k := by rw [hrk.out]; exact rn_stop HB.out hp
        subst hrk2
        have hbc : b = c := by
          have := HB.out
          rw [HC.out] at this
          exact (Option.some.inj this).symm
        subst hbc
        rw [hp] at hraw
        have hrw := of_decide_eq_false hraw.symm
        have b45 : ((b.toNat : Int) == 45) = false := by
          rw [beq_eq_false_iff_ne]
          intro h
          exact H45.out (UInt8.toNat_inj.1 (by exact_mod_cast h))
        have b43 : ((b.toNat : Int) == 43) = false := by
          rw [beq_eq_false_iff_ne]
          intro h
          exact H43.out (UInt8.toNat_inj.1 (by exact_mod_cast h))
        obtain ⟨n, hn⟩ : ∃ n : Int, n = (b.toNat : Int) := ⟨_, rfl⟩
        have hn0 : 0 ≤ n := by omega
        have hn1 : n < 256 := by omega
        rw [← hn] at HI hrw b45 b43
        have n32 : n ≠ 32 := fun e => hrw (.inr e)
        have HD : Aside (¬ (9 ≤ n ∧ n ≤ 13)) := fun h => hrw (.inl h)
        have b32 : (n == 32) = false := by simpa using n32
        clear hraw hp hb hb256 hrw n32 hn
        by_cases q1 : 9 ≤ n
        · have q2 : ¬ n ≤ 13 := fun h => HD.out ⟨q1, h⟩
          cases i8 with
          | true =>
            have eR : R = some (false, 3, [], 0, [], r + 8) := by rw [HRV.out]; rfl
            subst eR
            clear HB3 HBN HNA HNU
            go_wp2_with (first
              | (go_at_call 16; (with_reducible refine (HB8.out _).mono ?_); rintro e w1 ⟨rfl, m1, rfl⟩; clear HB8))
            refine ret8 (N := w.heap.size) (v0 := .int .i64 3) (v1 := .bool false) (v2 := .string ⟨#[]⟩) (v3 := .int .i64 0) (v4 := .string ⟨#[]⟩) (v5 := .int .i64 ((r : Int) + 8)) (v6 := .bool true) (by kernel_rfl) ?_ (by simp [Value.oneCell']) ?_
            · refine put7_box (u0 := .int .i64 0) (u1 := .bool false) (u2 := .string ⟨#[]⟩) (u3 := .int .i64 0) (u4 := .string ⟨#[]⟩) (u5 := .int .i64 0) (u6 := .bool false) ?_ _ _ _ _ _ _ _
              repeat rw [set_far (by omega)]
              exact (show ((w.alloc fb0).alloc nb0).heap[w.heap.size]? = some fb0 from at_alloc (new_at _ _ rfl) _)
            · refine ⟨rfl, put7_below ?_ _ _ _ _ _ _ _⟩
              repeat refine Below.setCell ?_ (by show w.heap.size ≤ w.heap.size + 1; omega) _
              exact spl_start w _
          | false =>
            cases i3 with
            | true =>
              have eR : R = some (false, 3, [], 0, [], r + 3) := by rw [HRV.out]; rfl
              subst eR
              clear HBN HNA HNU
              go_wp2_with (first
                | (go_at_call 16; (with_reducible refine (HB8.out _).mono ?_); rintro e w1 ⟨rfl, m1, rfl⟩; clear HB8)
                | (go_at_call 16; (with_reducible refine (HB3.out _).mono ?_); rintro e w1 ⟨rfl, m2, rfl⟩; clear HB3))
              refine ret8 (N := w.heap.size) (v0 := .int .i64 3) (v1 := .bool false) (v2 := .string ⟨#[]⟩) (v3 := .int .i64 0) (v4 := .string ⟨#[]⟩) (v5 := .int .i64 ((r : Int) + 3)) (v6 := .bool true) (by kernel_rfl) ?_ (by simp [Value.oneCell']) ?_
              · refine put7_box (u0 := .int .i64 0) (u1 := .bool false) (u2 := .string ⟨#[]⟩) (u3 := .int .i64 0) (u4 := .string ⟨#[]⟩) (u5 := .int .i64 0) (u6 := .bool false) ?_ _ _ _ _ _ _ _
                repeat rw [set_far (by omega)]
                exact (show ((w.alloc fb0).alloc nb0).heap[w.heap.size]? = some fb0 from at_alloc (new_at _ _ rfl) _)
              · refine ⟨rfl, put7_below ?_ _ _ _ _ _ _ _⟩
                repeat refine Below.setCell ?_ (by show w.heap.size ≤ w.heap.size + 1; omega) _
                exact spl_start w _
            | false =>
              cases na with
              | true =>
                have eR : R = some (false, 4, [], 0, P1, P2) := by rw [HRV.out]; rfl
                subst eR
                have HN2 := Lib.hid fun W => HNA.out rfl W
                clear HNU HNA
                go_wp2_with (first
                  | (go_at_call 16; (with_reducible refine (HB8.out _).mono ?_); rintro e w1 ⟨rfl, m1, rfl⟩; clear HB8)
                  | (go_at_call 16; (with_reducible refine (HB3.out _).mono ?_); rintro e w1 ⟨rfl, m2, rfl⟩; clear HB3)
                  | (go_at_call 16; (with_reducible refine (HBN.out _).mono ?_); rintro e w1 ⟨rfl, m3, rfl⟩; clear HBN)
                  | (go_at_call 17; (with_reducible refine (HN2.out _).mono ?_); rintro e w2 ⟨rfl, rfl⟩))
                refine ret8 (N := w.heap.size) (v0 := .int .i64 4) (v1 := .bool false) (v2 := .string ⟨#[]⟩) (v3 := .int .i64 0) (v4 := .string ⟨⟨P1⟩⟩) (v5 := .int .i64 P2) (v6 := .bool true) (by kernel_rfl) ?_ (by simp [Value.oneCell']) ?_
                · refine put7_box (u0 := .int .i64 0) (u1 := .bool false) (u2 := .string ⟨#[]⟩) (u3 := .int .i64 0) (u4 := .string ⟨#[]⟩) (u5 := .int .i64 0) (u6 := .bool false) ?_ _ _ _ _ _ _ _
                  repeat rw [set_far (by omega)]
                  exact (show ((w.alloc fb0).alloc nb0).heap[w.heap.size]? = some fb0 from at_alloc (new_at _ _ rfl) _)
                · refine ⟨rfl, put7_below ?_ _ _ _ _ _ _ _⟩
                  repeat refine Below.setCell ?_ (by show w.heap.size ≤ w.heap.size + 1; omega) _
                  exact spl_start w _
              | false =>
                clear HNA
                cases M with
                | none =>
                  have eR : R = none := by rw [HRV.out]; rfl
                  subst eR
                  have HNU := Lib.hid fun W => show Calls Tryz.prog 18 #[.string p, .string s, .int .i64 r] W (fun e w' => e = .returned (.agg #[.int .i64 0, .bool false, .string ⟨#[]⟩, .int .i64 0, .string ⟨#[]⟩, .int .i64 0, .bool false]) ∧ Below W.heap.size W w') from HNU.out W
                  go_wp2_with (first
                    | (go_at_call 16; (with_reducible refine (HB8.out _).mono ?_); rintro e w1 ⟨rfl, m1, rfl⟩; clear HB8)
                    | (go_at_call 16; (with_reducible refine (HB3.out _).mono ?_); rintro e w1 ⟨rfl, m2, rfl⟩; clear HB3)
                    | (go_at_call 16; (with_reducible refine (HBN.out _).mono ?_); rintro e w1 ⟨rfl, m3, rfl⟩; clear HBN)
                    | (go_at_call 18; (with_reducible refine (HNU.out _).mono ?_); rintro e w4 ⟨rfl, hb4⟩; obtain ⟨hn4, hm4, be4, hlt4, hlt5⟩ := spl_after hb4; obtain ⟨⟨a0, a1, a2, a3, a4, a5, a6⟩, d0, d1, d2, d3, d4, d5, d6⟩ := fbox_cells hn4; obtain ⟨⟨b0, b1, b2, b3, b4, b5⟩, c0, c1, c2, c3, c4, c5⟩ := box_cells hm4))
                  refine ret8 (N := w.heap.size) (v0 := .int .i64 0) (v1 := .bool false) (v2 := .string ⟨#[]⟩) (v3 := .int .i64 0) (v4 := .string ⟨#[]⟩) (v5 := .int .i64 0) (v6 := .bool false) (by kernel_rfl) ?_ (by simp [Value.oneCell']) ?_
                  · exact at_alloc (put7_box hn4 _ _ _ _ _ _ _) _
                  · exact ⟨rfl, (put7_below be4 _ _ _ _ _ _ _).alloc (by rw [put7_size]; exact Nat.le_of_lt hlt5) _⟩
                | some M =>
                  have eR : R = some (false, M) := by rw [HRV.out]; rfl
                  subst eR
                  have HNU := Lib.hid fun W => show Calls Tryz.prog 18 #[.string p, .string s, .int .i64 r] W (fun e w' => e = .returned (.agg #[.int .i64 M.1, .bool false, .string ⟨⟨M.2.1⟩⟩, .int .i64 M.2.2.1, .string ⟨⟨M.2.2.2.1⟩⟩, .int .i64 M.2.2.2.2, .bool true]) ∧ Below W.heap.size W w') from HNU.out W
                  go_upto_region 13 with (first
                    | (go_at_call 16; (with_reducible refine (HB8.out _).mono ?_); rintro e w1 ⟨rfl, m1, rfl⟩; clear HB8)
                    | (go_at_call 16; (with_reducible refine (HB3.out _).mono ?_); rintro e w1 ⟨rfl, m2, rfl⟩; clear HB3)
                    | (go_at_call 16; (with_reducible refine (HBN.out _).mono ?_); rintro e w1 ⟨rfl, m3, rfl⟩; clear HBN)
                    | (go_at_call 18; (with_reducible refine (HNU.out _).mono ?_); rintro e w4 ⟨rfl, hb4⟩; obtain ⟨hn4, hm4, be4, hlt4, hlt5⟩ := spl_after hb4; obtain ⟨⟨a0, a1, a2, a3, a4, a5, a6⟩, d0, d1, d2, d3, d4, d5, d6⟩ := fbox_cells hn4; obtain ⟨⟨b0, b1, b2, b3, b4, b5⟩, c0, c1, c2, c3, c4, c5⟩ := box_cells hm4))
                  have hn5 : ((put6 w4 (w.heap.size + 1) (.int .i64 M.1) (.bool false) (.string ⟨⟨M.2.1⟩⟩) (.int .i64 M.2.2.1) (.string ⟨⟨M.2.2.2.1⟩⟩) (.int .i64 M.2.2.2.2)).alloc (fbox (.int .i64 M.1) (.bool false) (.string ⟨⟨M.2.1⟩⟩) (.int .i64 M.2.2.1) (.string ⟨⟨M.2.2.2.1⟩⟩) (.int .i64 M.2.2.2.2) (.bool true))).heap[w.heap.size]? = some fb0 := at_alloc ((put6_far (by omega) _ _ _ _ _ _).trans hn4) _
                  have hm5 : ((put6 w4 (w.heap.size + 1) (.int .i64 M.1) (.bool false) (.string ⟨⟨M.2.1⟩⟩) (.int .i64 M.2.2.1) (.string ⟨⟨M.2.2.2.1⟩⟩) (.int .i64 M.2.2.2.2)).alloc (fbox (.int .i64 M.1) (.bool false) (.string ⟨⟨M.2.1⟩⟩) (.int .i64 M.2.2.1) (.string ⟨⟨M.2.2.2.1⟩⟩) (.int .i64 M.2.2.2.2) (.bool true))).heap[w.heap.size + 1]? = some (nbox (.int .i64 M.1) (.bool false) (.string ⟨⟨M.2.1⟩⟩) (.int .i64 M.2.2.1) (.string ⟨⟨M.2.2.2.1⟩⟩) (.int .i64 M.2.2.2.2)) := at_alloc (put6_box hm4 _ _ _ _ _ _) _
                  have be5 : Below w.heap.size w ((put6 w4 (w.heap.size + 1) (.int .i64 M.1) (.bool false) (.string ⟨⟨M.2.1⟩⟩) (.int .i64 M.2.2.1) (.string ⟨⟨M.2.2.2.1⟩⟩) (.int .i64 M.2.2.2.2)).alloc (fbox (.int .i64 M.1) (.bool false) (.string ⟨⟨M.2.1⟩⟩) (.int .i64 M.2.2.1) (.string ⟨⟨M.2.2.2.1⟩⟩) (.int .i64 M.2.2.2.2) (.bool true))) := (put6_below be4 (Nat.le_succ _) _ _ _ _ _ _).alloc (by rw [put6_size]; exact Nat.le_of_lt hlt5) _
                  unfold put6 at hn5 hm5 be5
                  have HN5 := Lib.hid hn5
                  have HM5 := Lib.hid hm5
                  have HE5 := Lib.hid be5
                  clear hn5 hm5 be5 a0 a1 a2 a3 a4 a5 a6 d0 d1 d2 d3 d4 d5 d6 b0 b1 b2 b3 b4 b5 c0 c1 c2 c3 c4 c5 hn4 hm4 be4 hlt4 hlt5
                  generalize ((((((w4.setCell ⟨w.heap.size + 1, 0, none⟩ (.int .i64 M.1)).setCell ⟨w.heap.size + 1, 1, none⟩ (.bool false)).setCell ⟨w.heap.size + 1, 2, none⟩ (.string ⟨⟨M.2.1⟩⟩)).setCell ⟨w.heap.size + 1, 3, none⟩ (.int .i64 M.2.2.1)).setCell ⟨w.heap.size + 1, 4, none⟩ (.string ⟨⟨M.2.2.2.1⟩⟩)).setCell ⟨w.heap.size + 1, 5, none⟩ (.int .i64 M.2.2.2.2)).alloc (fbox (.int .i64 M.1) (.bool false) (.string ⟨⟨M.2.1⟩⟩) (.int .i64 M.2.2.1) (.string ⟨⟨M.2.2.2.1⟩⟩) (.int .i64 M.2.2.2.2) (.bool true)) = w5 at *
                  obtain ⟨⟨a0, a1, a2, a3, a4, a5, a6⟩, d0, d1, d2, d3, d4, d5, d6⟩ := fbox_cells HN5.out
                  obtain ⟨⟨b0, b1, b2, b3, b4, b5⟩, c0, c1, c2, c3, c4, c5⟩ := box_cells HM5.out
                  go_wp2
                  refine ret8 (N := w.heap.size) (v0 := .int .i64 M.1) (v1 := .bool false) (v2 := .string ⟨⟨M.2.1⟩⟩) (v3 := .int .i64 M.2.2.1) (v4 := .string ⟨⟨M.2.2.2.1⟩⟩) (v5 := .int .i64 M.2.2.2.2) (v6 := .bool true) (by kernel_rfl) ?_ (by simp [Value.oneCell']) ?_
                  · refine put7_box (u0 := .int .i64 0) (u1 := .bool false) (u2 := .string ⟨#[]⟩) (u3 := .int .i64 0) (u4 := .string ⟨#[]⟩) (u5 := .int .i64 0) (u6 := .bool false) ?_ _ _ _ _ _ _ _
                    repeat rw [set_far (by omega)]
                    exact HN5.out
                  · refine ⟨rfl, put7_below ?_ _ _ _ _ _ _ _⟩
                    repeat refine Below.setCell ?_ (by show w.heap.size ≤ w.heap.size + 1; omega) _
                    exact HE5.out
        · skip
          cases i8 with
          | true =>
            have eR : R = some (false, 3, [], 0, [], r + 8) := by rw [HRV.out]; rfl
            subst eR
            clear HB3 HBN HNA HNU
            go_wp2_with (first
              | (go_at_call 16; (with_reducible refine (HB8.out _).mono ?_); rintro e w1 ⟨rfl, m1, rfl⟩; clear HB8))
            refine ret8 (N := w.heap.size) (v0 := .int .i64 3) (v1 := .bool false) (v2 := .string ⟨#[]⟩) (v3 := .int .i64 0) (v4 := .string ⟨#[]⟩) (v5 := .int .i64 ((r : Int) + 8)) (v6 := .bool true) (by kernel_rfl) ?_ (by simp [Value.oneCell']) ?_
            · refine put7_box (u0 := .int .i64 0) (u1 := .bool false) (u2 := .string ⟨#[]⟩) (u3 := .int .i64 0) (u4 := .string ⟨#[]⟩) (u5 := .int .i64 0) (u6 := .bool false) ?_ _ _ _ _ _ _ _
              repeat rw [set_far (by omega)]
              exact (show ((w.alloc fb0).alloc nb0).heap[w.heap.size]? = some fb0 from at_alloc (new_at _ _ rfl) _)
            · refine ⟨rfl, put7_below ?_ _ _ _ _ _ _ _⟩
              repeat refine Below.setCell ?_ (by show w.heap.size ≤ w.heap.size + 1; omega) _
              exact spl_start w _
          | false =>
            cases i3 with
            | true =>
              have eR : R = some (false, 3, [], 0, [], r + 3) := by rw [HRV.out]; rfl
              subst eR
              clear HBN HNA HNU
              go_wp2_with (first
                | (go_at_call 16; (with_reducible refine (HB8.out _).mono ?_); rintro e w1 ⟨rfl, m1, rfl⟩; clear HB8)
                | (go_at_call 16; (with_reducible refine (HB3.out _).mono ?_); rintro e w1 ⟨rfl, m2, rfl⟩; clear HB3))
              refine ret8 (N := w.heap.size) (v0 := .int .i64 3) (v1 := .bool false) (v2 := .string ⟨#[]⟩) (v3 := .int .i64 0) (v4 := .string ⟨#[]⟩) (v5 := .int .i64 ((r : Int) + 3)) (v6 := .bool true) (by kernel_rfl) ?_ (by simp [Value.oneCell']) ?_
              · refine put7_box (u0 := .int .i64 0) (u1 := .bool false) (u2 := .string ⟨#[]⟩) (u3 := .int .i64 0) (u4 := .string ⟨#[]⟩) (u5 := .int .i64 0) (u6 := .bool false) ?_ _ _ _ _ _ _ _
                repeat rw [set_far (by omega)]
                exact (show ((w.alloc fb0).alloc nb0).heap[w.heap.size]? = some fb0 from at_alloc (new_at _ _ rfl) _)
              · refine ⟨rfl, put7_below ?_ _ _ _ _ _ _ _⟩
                repeat refine Below.setCell ?_ (by show w.heap.size ≤ w.heap.size + 1; omega) _
                exact spl_start w _
            | false =>
              cases na with
              | true =>
                have eR : R = some (false, 4, [], 0, P1, P2) := by rw [HRV.out]; rfl
                subst eR
                have HN2 := Lib.hid fun W => HNA.out rfl W
                clear HNU HNA
                go_wp2_with (first
                  | (go_at_call 16; (with_reducible refine (HB8.out _).mono ?_); rintro e w1 ⟨rfl, m1, rfl⟩; clear HB8)
                  | (go_at_call 16; (with_reducible refine (HB3.out _).mono ?_); rintro e w1 ⟨rfl, m2, rfl⟩; clear HB3)
                  | (go_at_call 16; (with_reducible refine (HBN.out _).mono ?_); rintro e w1 ⟨rfl, m3, rfl⟩; clear HBN)
                  | (go_at_call 17; (with_reducible refine (HN2.out _).mono ?_); rintro e w2 ⟨rfl, rfl⟩))
                refine ret8 (N := w.heap.size) (v0 := .int .i64 4) (v1 := .bool false) (v2 := .string ⟨#[]⟩) (v3 := .int .i64 0) (v4 := .string ⟨⟨P1⟩⟩) (v5 := .int .i64 P2) (v6 := .bool true) (by kernel_rfl) ?_ (by simp [Value.oneCell']) ?_
                · refine put7_box (u0 := .int .i64 0) (u1 := .bool false) (u2 := .string ⟨#[]⟩) (u3 := .int .i64 0) (u4 := .string ⟨#[]⟩) (u5 := .int .i64 0) (u6 := .bool false) ?_ _ _ _ _ _ _ _
                  repeat rw [set_far (by omega)]
                  exact (show ((w.alloc fb0).alloc nb0).heap[w.heap.size]? = some fb0 from at_alloc (new_at _ _ rfl) _)
                · refine ⟨rfl, put7_below ?_ _ _ _ _ _ _ _⟩
                  repeat refine Below.setCell ?_ (by show w.heap.size ≤ w.heap.size + 1; omega) _
                  exact spl_start w _
              | false =>
                clear HNA
                cases M with
                | none =>
                  have eR : R = none := by rw [HRV.out]; rfl
                  subst eR
                  have HNU := Lib.hid fun W => show Calls Tryz.prog 18 #[.string p, .string s, .int .i64 r] W (fun e w' => e = .returned (.agg #[.int .i64 0, .bool false, .string ⟨#[]⟩, .int .i64 0, .string ⟨#[]⟩, .int .i64 0, .bool false]) ∧ Below W.heap.size W w') from HNU.out W
                  go_wp2_with (first
                    | (go_at_call 16; (with_reducible refine (HB8.out _).mono ?_); rintro e w1 ⟨rfl, m1, rfl⟩; clear HB8)
                    | (go_at_call 16; (with_reducible refine (HB3.out _).mono ?_); rintro e w1 ⟨rfl, m2, rfl⟩; clear HB3)
                    | (go_at_call 16; (with_reducible refine (HBN.out _).mono ?_); rintro e w1 ⟨rfl, m3, rfl⟩; clear HBN)
                    | (go_at_call 18; (with_reducible refine (HNU.out _).mono ?_); rintro e w4 ⟨rfl, hb4⟩; obtain ⟨hn4, hm4, be4, hlt4, hlt5⟩ := spl_after hb4; obtain ⟨⟨a0, a1, a2, a3, a4, a5, a6⟩, d0, d1, d2, d3, d4, d5, d6⟩ := fbox_cells hn4; obtain ⟨⟨b0, b1, b2, b3, b4, b5⟩, c0, c1, c2, c3, c4, c5⟩ := box_cells hm4))
                  refine ret8 (N := w.heap.size) (v0 := .int .i64 0) (v1 := .bool false) (v2 := .string ⟨#[]⟩) (v3 := .int .i64 0) (v4 := .string ⟨#[]⟩) (v5 := .int .i64 0) (v6 := .bool false) (by kernel_rfl) ?_ (by simp [Value.oneCell']) ?_
                  · exact at_alloc (put7_box hn4 _ _ _ _ _ _ _) _
                  · exact ⟨rfl, (put7_below be4 _ _ _ _ _ _ _).alloc (by rw [put7_size]; exact Nat.le_of_lt hlt5) _⟩
                | some M =>
                  have eR : R = some (false, M) := by rw [HRV.out]; rfl
                  subst eR
                  have HNU := Lib.hid fun W => show Calls Tryz.prog 18 #[.string p, .string s, .int .i64 r] W (fun e w' => e = .returned (.agg #[.int .i64 M.1, .bool false, .string ⟨⟨M.2.1⟩⟩, .int .i64 M.2.2.1, .string ⟨⟨M.2.2.2.1⟩⟩, .int .i64 M.2.2.2.2, .bool true]) ∧ Below W.heap.size W w') from HNU.out W
                  go_upto_region 13 with (first
                    | (go_at_call 16; (with_reducible refine (HB8.out _).mono ?_); rintro e w1 ⟨rfl, m1, rfl⟩; clear HB8)
                    | (go_at_call 16; (with_reducible refine (HB3.out _).mono ?_); rintro e w1 ⟨rfl, m2, rfl⟩; clear HB3)
                    | (go_at_call 16; (with_reducible refine (HBN.out _).mono ?_); rintro e w1 ⟨rfl, m3, rfl⟩; clear HBN)
                    | (go_at_call 18; (with_reducible refine (HNU.out _).mono ?_); rintro e w4 ⟨rfl, hb4⟩; obtain ⟨hn4, hm4, be4, hlt4, hlt5⟩ := spl_after hb4; obtain ⟨⟨a0, a1, a2, a3, a4, a5, a6⟩, d0, d1, d2, d3, d4, d5, d6⟩ := fbox_cells hn4; obtain ⟨⟨b0, b1, b2, b3, b4, b5⟩, c0, c1, c2, c3, c4, c5⟩ := box_cells hm4))
                  have hn5 : ((put6 w4 (w.heap.size + 1) (.int .i64 M.1) (.bool false) (.string ⟨⟨M.2.1⟩⟩) (.int .i64 M.2.2.1) (.string ⟨⟨M.2.2.2.1⟩⟩) (.int .i64 M.2.2.2.2)).alloc (fbox (.int .i64 M.1) (.bool false) (.string ⟨⟨M.2.1⟩⟩) (.int .i64 M.2.2.1) (.string ⟨⟨M.2.2.2.1⟩⟩) (.int .i64 M.2.2.2.2) (.bool true))).heap[w.heap.size]? = some fb0 := at_alloc ((put6_far (by omega) _ _ _ _ _ _).trans hn4) _
                  have hm5 : ((put6 w4 (w.heap.size + 1) (.int .i64 M.1) (.bool false) (.string ⟨⟨M.2.1⟩⟩) (.int .i64 M.2.2.1) (.string ⟨⟨M.2.2.2.1⟩⟩) (.int .i64 M.2.2.2.2)).alloc (fbox (.int .i64 M.1) (.bool false) (.string ⟨⟨M.2.1⟩⟩) (.int .i64 M.2.2.1) (.string ⟨⟨M.2.2.2.1⟩⟩) (.int .i64 M.2.2.2.2) (.bool true))).heap[w.heap.size + 1]? = some (nbox (.int .i64 M.1) (.bool false) (.string ⟨⟨M.2.1⟩⟩) (.int .i64 M.2.2.1) (.string ⟨⟨M.2.2.2.1⟩⟩) (.int .i64 M.2.2.2.2)) := at_alloc (put6_box hm4 _ _ _ _ _ _) _
                  have be5 : Below w.heap.size w ((put6 w4 (w.heap.size + 1) (.int .i64 M.1) (.bool false) (.string ⟨⟨M.2.1⟩⟩) (.int .i64 M.2.2.1) (.string ⟨⟨M.2.2.2.1⟩⟩) (.int .i64 M.2.2.2.2)).alloc (fbox (.int .i64 M.1) (.bool false) (.string ⟨⟨M.2.1⟩⟩) (.int .i64 M.2.2.1) (.string ⟨⟨M.2.2.2.1⟩⟩) (.int .i64 M.2.2.2.2) (.bool true))) := (put6_below be4 (Nat.le_succ _) _ _ _ _ _ _).alloc (by rw [put6_size]; exact Nat.le_of_lt hlt5) _
                  unfold put6 at hn5 hm5 be5
                  have HN5 := Lib.hid hn5
                  have HM5 := Lib.hid hm5
                  have HE5 := Lib.hid be5
                  clear hn5 hm5 be5 a0 a1 a2 a3 a4 a5 a6 d0 d1 d2 d3 d4 d5 d6 b0 b1 b2 b3 b4 b5 c0 c1 c2 c3 c4 c5 hn4 hm4 be4 hlt4 hlt5
                  generalize ((((((w4.setCell ⟨w.heap.size + 1, 0, none⟩ (.int .i64 M.1)).setCell ⟨w.heap.size + 1, 1, none⟩ (.bool false)).setCell ⟨w.heap.size + 1, 2, none⟩ (.string ⟨⟨M.2.1⟩⟩)).setCell ⟨w.heap.size + 1, 3, none⟩ (.int .i64 M.2.2.1)).setCell ⟨w.heap.size + 1, 4, none⟩ (.string ⟨⟨M.2.2.2.1⟩⟩)).setCell ⟨w.heap.size + 1, 5, none⟩ (.int .i64 M.2.2.2.2)).alloc (fbox (.int .i64 M.1) (.bool false) (.string ⟨⟨M.2.1⟩⟩) (.int .i64 M.2.2.1) (.string ⟨⟨M.2.2.2.1⟩⟩) (.int .i64 M.2.2.2.2) (.bool true)) = w5 at *
                  obtain ⟨⟨a0, a1, a2, a3, a4, a5, a6⟩, d0, d1, d2, d3, d4, d5, d6⟩ := fbox_cells HN5.out
                  obtain ⟨⟨b0, b1, b2, b3, b4, b5⟩, c0, c1, c2, c3, c4, c5⟩ := box_cells HM5.out
                  go_wp2
                  refine ret8 (N := w.heap.size) (v0 := .int .i64 M.1) (v1 := .bool false) (v2 := .string ⟨⟨M.2.1⟩⟩) (v3 := .int .i64 M.2.2.1) (v4 := .string ⟨⟨M.2.2.2.1⟩⟩) (v5 := .int .i64 M.2.2.2.2) (v6 := .bool true) (by kernel_rfl) ?_ (by simp [Value.oneCell']) ?_
                  · refine put7_box (u0 := .int .i64 0) (u1 := .bool false) (u2 := .string ⟨#[]⟩) (u3 := .int .i64 0) (u4 := .string ⟨#[]⟩) (u5 := .int .i64 0) (u6 := .bool false) ?_ _ _ _ _ _ _ _
                    repeat rw [set_far (by omega)]
                    exact HN5.out
                  · refine ⟨rfl, put7_below ?_ _ _ _ _ _ _ _⟩
                    repeat refine Below.setCell ?_ (by show w.heap.size ≤ w.heap.size + 1; omega) _
                    exact HE5.out
      · have hrk3 : r = rn wh s.data.toList (k + 1) := by rw [hrk.out]; exact rn_step HB.out hp
        have HRK : Aside (r = rn wh s.data.toList (k + 1)) := hrk3
        have hkr2 : k + 1 ≤ r := by rw [hrk3]; exact rn_ge _ _ _
        rw [hp] at hraw
        have hrw := of_decide_eq_true hraw.symm
        obtain ⟨n, hn⟩ : ∃ n : Int, n = (b.toNat : Int) := ⟨_, rfl⟩
        have hn0 : 0 ≤ n := by omega
        have hn1 : n < 256 := by omega
        rw [← hn] at HI hrw
        clear hraw hp hrk3 hb hn hb256
        rcases hrw with ⟨q1, q2⟩ | q1
        · go_wp2
          go_round
          case rel => exact ⟨k + 1, by omega, hkr2, by go_num, HRK.out⟩
          case measure => simp [intOf]; omega
        · subst q1
          go_wp2
          go_round
          case rel => exact ⟨k + 1, by omega, hkr2, by go_num, HRK.out⟩
          case measure => simp [intOf]; omega
    · have ek : k = s.size := by omega
      subst ek
      exfalso
      have := hrk.out
      rw [rn_end (by simp)] at this
      omega

set_option maxHeartbeats 16000000 in
theorem rspl_none {s p : ByteArray} {r : Nat} (hs : s.size ≤ 20000) (hp0 : 0 < p.size) (hp : p.size ≤ 100) (hr : r = rn wh s.data.toList 0) (hc : s.data.toList[r]? = none) (w : World) :
    Calls Tryz.prog 8 #[.string p, .string s] w (FPost (spl s.data.toList p.data.toList) w) := by
  have hrn : r ≤ s.size := by rw [hr]; simpa using rn_le wh s.data.toList 0 (Nat.zero_le _)
  have HR : Aside (r = rn wh s.data.toList 0) := hr
  have er : r = s.size := by
    have := List.getElem?_eq_none_iff.1 hc
    have e : s.data.toList.length = s.size := by simp
    omega
  have hsg : sg s.data.toList r = s.size := by unfold sg; rw [hc]; simp [er]
  have hmi : mi s.data.toList r = false := by unfold mi; rw [hc]; rfl
  have HER : Aside (r = s.size) := er
  clear hc er
  obtain ⟨i8, i3, na, P1, P2, M, hC⟩ := splC (s := s) (p := p) (j := s.size) hs (Nat.le_refl _) hp0 hp
  have HB8 := Lib.hid hC.b8
  have HB3 := Lib.hid hC.b3
  have HBN := Lib.hid hC.bn
  have HNA := Lib.hid hC.nan
  have HNU := Lib.hid hC.num
  obtain ⟨R, hRR⟩ : ∃ R, R = spl s.data.toList p.data.toList := ⟨_, rfl⟩
  have HRV : Aside (R = (if i8 then some (3, [], 0, [], s.size + 8) else if i3 then some (3, [], 0, [], s.size + 3) else if na then some (4, [], 0, P1, P2) else M).map fun x => (false, x)) := by
    show R = _
    rw [hRR]
    unfold spl
    rw [← hr, hsg, hmi, hC.val]
  rw [← hRR]
  clear hRR hC hsg hmi hr
  go_enter Tryz.func8, Tryz.ntmps8
  go_wp2
  go_loop [5] (fun i => ∃ k : Nat, k ≤ s.size ∧ k ≤ r ∧ i = .int .i64 k ∧ Aside (r = rn wh s.data.toList k)) (fun i => s.size - (intOf i).toNat)
  case atStart => exact ⟨0, Nat.zero_le _, Nat.zero_le _, rfl, HR.out⟩
  case round =>
    obtain ⟨k, hk, hkr, rfl, hrk⟩ := hrel
    rcases Nat.lt_or_ge k s.size with hlt2 | hge2
    · obtain ⟨b, hb⟩ : ∃ b, s.data.toList[k]? = some b := ⟨_, List.getElem?_eq_getElem (by simpa using hlt2)⟩
      have HI := @run_idx Tryz.prog 9 s k b hb
      have HB : Aside (s.data.toList[k]? = some b) := hb
      have hk1 : (k : Int) < (s.size : Int) := by omega
      have hraw := wh_rawI b
      have hb256 : b.toNat < 256 := b.toNat_lt
      cases hp : wh b
      · have hrk2 : r = k := by rw [hrk.out]; exact rn_stop HB.out hp
        subst hrk2
        exfalso
        have := HER.out
        omega
      · have hrk3 : r = rn wh s.data.toList (k + 1) := by rw [hrk.out]; exact rn_step HB.out hp
        have HRK : Aside (r = rn wh s.data.toList (k + 1)) := hrk3
        have hkr2 : k + 1 ≤ r := by rw [hrk3]; exact rn_ge _ _ _
        rw [hp] at hraw
        have hrw := of_decide_eq_true hraw.symm
        obtain ⟨n, hn⟩ : ∃ n : Int, n = (b.toNat : Int) := ⟨_, rfl⟩
        have hn0 : 0 ≤ n := by omega
        have hn1 : n < 256 := by omega
        rw [← hn] at HI hrw
        clear hraw hp hrk3 hb hn hb256
        rcases hrw with ⟨q1, q2⟩ | q1
        · go_wp2
          go_round
          case rel => exact ⟨k + 1, by omega, hkr2, by go_num, HRK.out⟩
          case measure => simp [intOf]; omega
        · subst q1
          go_wp2
          go_round
          case rel => exact ⟨k + 1, by omega, hkr2, by go_num, HRK.out⟩
          case measure => simp [intOf]; omega
    · have ek : k = s.size := by omega
      subst ek
      cases i8 with
      | true =>
        have eR : R = some (false, 3, [], 0, [], s.size + 8) := by rw [HRV.out]; rfl
        subst eR
        clear HB3 HBN HNA HNU
        go_wp2_with (first
          | (go_at_call 16; (with_reducible refine (HB8.out _).mono ?_); rintro e w1 ⟨rfl, m1, rfl⟩; clear HB8))
        refine ret8 (N := w.heap.size) (v0 := .int .i64 3) (v1 := .bool false) (v2 := .string ⟨#[]⟩) (v3 := .int .i64 0) (v4 := .string ⟨#[]⟩) (v5 := .int .i64 ((s.size : Int) + 8)) (v6 := .bool true) (by kernel_rfl) ?_ (by simp [Value.oneCell']) ?_
        · refine put7_box (u0 := .int .i64 0) (u1 := .bool false) (u2 := .string ⟨#[]⟩) (u3 := .int .i64 0) (u4 := .string ⟨#[]⟩) (u5 := .int .i64 0) (u6 := .bool false) ?_ _ _ _ _ _ _ _
          repeat rw [set_far (by omega)]
          exact (show ((w.alloc fb0).alloc nb0).heap[w.heap.size]? = some fb0 from at_alloc (new_at _ _ rfl) _)
        · refine ⟨rfl, put7_below ?_ _ _ _ _ _ _ _⟩
          repeat refine Below.setCell ?_ (by show w.heap.size ≤ w.heap.size + 1; omega) _
          exact spl_start w _
      | false =>
        cases i3 with
        | true =>
          have eR : R = some (false, 3, [], 0, [], s.size + 3) := by rw [HRV.out]; rfl
          subst eR
          clear HBN HNA HNU
          go_wp2_with (first
            | (go_at_call 16; (with_reducible refine (HB8.out _).mono ?_); rintro e w1 ⟨rfl, m1, rfl⟩; clear HB8)
            | (go_at_call 16; (with_reducible refine (HB3.out _).mono ?_); rintro e w1 ⟨rfl, m2, rfl⟩; clear HB3))
          refine ret8 (N := w.heap.size) (v0 := .int .i64 3) (v1 := .bool false) (v2 := .string ⟨#[]⟩) (v3 := .int .i64 0) (v4 := .string ⟨#[]⟩) (v5 := .int .i64 ((s.size : Int) + 3)) (v6 := .bool true) (by kernel_rfl) ?_ (by simp [Value.oneCell']) ?_
          · refine put7_box (u0 := .int .i64 0) (u1 := .bool false) (u2 := .string ⟨#[]⟩) (u3 := .int .i64 0) (u4 := .string ⟨#[]⟩) (u5 := .int .i64 0) (u6 := .bool false) ?_ _ _ _ _ _ _ _
            repeat rw [set_far (by omega)]
            exact (show ((w.alloc fb0).alloc nb0).heap[w.heap.size]? = some fb0 from at_alloc (new_at _ _ rfl) _)
          · refine ⟨rfl, put7_below ?_ _ _ _ _ _ _ _⟩
            repeat refine Below.setCell ?_ (by show w.heap.size ≤ w.heap.size + 1; omega) _
            exact spl_start w _
        | false =>
          cases na with
          | true =>
            have eR : R = some (false, 4, [], 0, P1, P2) := by rw [HRV.out]; rfl
            subst eR
            have HN2 := Lib.hid fun W => HNA.out rfl W
            clear HNU HNA
            go_wp2_with (first
              | (go_at_call 16; (with_reducible refine (HB8.out _).mono ?_); rintro e w1 ⟨rfl, m1, rfl⟩; clear HB8)
              | (go_at_call 16; (with_reducible refine (HB3.out _).mono ?_); rintro e w1 ⟨rfl, m2, rfl⟩; clear HB3)
              | (go_at_call 16; (with_reducible refine (HBN.out _).mono ?_); rintro e w1 ⟨rfl, m3, rfl⟩; clear HBN)
              | (go_at_call 17; (with_reducible refine (HN2.out _).mono ?_); rintro e w2 ⟨rfl, rfl⟩))
            refine ret8 (N := w.heap.size) (v0 := .int .i64 4) (v1 := .bool false) (v2 := .string ⟨#[]⟩) (v3 := .int .i64 0) (v4 := .string ⟨⟨P1⟩⟩) (v5 := .int .i64 P2) (v6 := .bool true) (by kernel_rfl) ?_ (by simp [Value.oneCell']) ?_
            · refine put7_box (u0 := .int .i64 0) (u1 := .bool false) (u2 := .string ⟨#[]⟩) (u3 := .int .i64 0) (u4 := .string ⟨#[]⟩) (u5 := .int .i64 0) (u6 := .bool false) ?_ _ _ _ _ _ _ _
              repeat rw [set_far (by omega)]
              exact (show ((w.alloc fb0).alloc nb0).heap[w.heap.size]? = some fb0 from at_alloc (new_at _ _ rfl) _)
            · refine ⟨rfl, put7_below ?_ _ _ _ _ _ _ _⟩
              repeat refine Below.setCell ?_ (by show w.heap.size ≤ w.heap.size + 1; omega) _
              exact spl_start w _
          | false =>
            clear HNA
            cases M with
            | none =>
              have eR : R = none := by rw [HRV.out]; rfl
              subst eR
              have HNU := Lib.hid fun W => show Calls Tryz.prog 18 #[.string p, .string s, .int .i64 s.size] W (fun e w' => e = .returned (.agg #[.int .i64 0, .bool false, .string ⟨#[]⟩, .int .i64 0, .string ⟨#[]⟩, .int .i64 0, .bool false]) ∧ Below W.heap.size W w') from HNU.out W
              go_wp2_with (first
                | (go_at_call 16; (with_reducible refine (HB8.out _).mono ?_); rintro e w1 ⟨rfl, m1, rfl⟩; clear HB8)
                | (go_at_call 16; (with_reducible refine (HB3.out _).mono ?_); rintro e w1 ⟨rfl, m2, rfl⟩; clear HB3)
                | (go_at_call 16; (with_reducible refine (HBN.out _).mono ?_); rintro e w1 ⟨rfl, m3, rfl⟩; clear HBN)
                | (go_at_call 18; (with_reducible refine (HNU.out _).mono ?_); rintro e w4 ⟨rfl, hb4⟩; obtain ⟨hn4, hm4, be4, hlt4, hlt5⟩ := spl_after hb4; obtain ⟨⟨a0, a1, a2, a3, a4, a5, a6⟩, d0, d1, d2, d3, d4, d5, d6⟩ := fbox_cells hn4; obtain ⟨⟨b0, b1, b2, b3, b4, b5⟩, c0, c1, c2, c3, c4, c5⟩ := box_cells hm4))
              refine ret8 (N := w.heap.size) (v0 := .int .i64 0) (v1 := .bool false) (v2 := .string ⟨#[]⟩) (v3 := .int .i64 0) (v4 := .string ⟨#[]⟩) (v5 := .int .i64 0) (v6 := .bool false) (by kernel_rfl) ?_ (by simp [Value.oneCell']) ?_
              · exact at_alloc (put7_box hn4 _ _ _ _ _ _ _) _
              · exact ⟨rfl, (put7_below be4 _ _ _ _ _ _ _).alloc (by rw [put7_size]; exact Nat.le_of_lt hlt5) _⟩
            | some M =>
              have eR : R = some (false, M) := by rw [HRV.out]; rfl
              subst eR
              have HNU := Lib.hid fun W => show Calls Tryz.prog 18 #[.string p, .string s, .int .i64 s.size] W (fun e w' => e = .returned (.agg #[.int .i64 M.1, .bool false, .string ⟨⟨M.2.1⟩⟩, .int .i64 M.2.2.1, .string ⟨⟨M.2.2.2.1⟩⟩, .int .i64 M.2.2.2.2, .bool true]) ∧ Below W.heap.size W w') from HNU.out W
              go_upto_region 13 with (first
                | (go_at_call 16; (with_reducible refine (HB8.out _).mono ?_); rintro e w1 ⟨rfl, m1, rfl⟩; clear HB8)
                | (go_at_call 16; (with_reducible refine (HB3.out _).mono ?_); rintro e w1 ⟨rfl, m2, rfl⟩; clear HB3)
                | (go_at_call 16; (with_reducible refine (HBN.out _).mono ?_); rintro e w1 ⟨rfl, m3, rfl⟩; clear HBN)
                | (go_at_call 18; (with_reducible refine (HNU.out _).mono ?_); rintro e w4 ⟨rfl, hb4⟩; obtain ⟨hn4, hm4, be4, hlt4, hlt5⟩ := spl_after hb4; obtain ⟨⟨a0, a1, a2, a3, a4, a5, a6⟩, d0, d1, d2, d3, d4, d5, d6⟩ := fbox_cells hn4; obtain ⟨⟨b0, b1, b2, b3, b4, b5⟩, c0, c1, c2, c3, c4, c5⟩ := box_cells hm4))
              have hn5 : ((put6 w4 (w.heap.size + 1) (.int .i64 M.1) (.bool false) (.string ⟨⟨M.2.1⟩⟩) (.int .i64 M.2.2.1) (.string ⟨⟨M.2.2.2.1⟩⟩) (.int .i64 M.2.2.2.2)).alloc (fbox (.int .i64 M.1) (.bool false) (.string ⟨⟨M.2.1⟩⟩) (.int .i64 M.2.2.1) (.string ⟨⟨M.2.2.2.1⟩⟩) (.int .i64 M.2.2.2.2) (.bool true))).heap[w.heap.size]? = some fb0 := at_alloc ((put6_far (by omega) _ _ _ _ _ _).trans hn4) _
              have hm5 : ((put6 w4 (w.heap.size + 1) (.int .i64 M.1) (.bool false) (.string ⟨⟨M.2.1⟩⟩) (.int .i64 M.2.2.1) (.string ⟨⟨M.2.2.2.1⟩⟩) (.int .i64 M.2.2.2.2)).alloc (fbox (.int .i64 M.1) (.bool false) (.string ⟨⟨M.2.1⟩⟩) (.int .i64 M.2.2.1) (.string ⟨⟨M.2.2.2.1⟩⟩) (.int .i64 M.2.2.2.2) (.bool true))).heap[w.heap.size + 1]? = some (nbox (.int .i64 M.1) (.bool false) (.string ⟨⟨M.2.1⟩⟩) (.int .i64 M.2.2.1) (.string ⟨⟨M.2.2.2.1⟩⟩) (.int .i64 M.2.2.2.2)) := at_alloc (put6_box hm4 _ _ _ _ _ _) _
              have be5 : Below w.heap.size w ((put6 w4 (w.heap.size + 1) (.int .i64 M.1) (.bool false) (.string ⟨⟨M.2.1⟩⟩) (.int .i64 M.2.2.1) (.string ⟨⟨M.2.2.2.1⟩⟩) (.int .i64 M.2.2.2.2)).alloc (fbox (.int .i64 M.1) (.bool false) (.string ⟨⟨M.2.1⟩⟩) (.int .i64 M.2.2.1) (.string ⟨⟨M.2.2.2.1⟩⟩) (.int .i64 M.2.2.2.2) (.bool true))) := (put6_below be4 (Nat.le_succ _) _ _ _ _ _ _).alloc (by rw [put6_size]; exact Nat.le_of_lt hlt5) _
              unfold put6 at hn5 hm5 be5
              have HN5 := Lib.hid hn5
              have HM5 := Lib.hid hm5
              have HE5 := Lib.hid be5
              clear hn5 hm5 be5 a0 a1 a2 a3 a4 a5 a6 d0 d1 d2 d3 d4 d5 d6 b0 b1 b2 b3 b4 b5 c0 c1 c2 c3 c4 c5 hn4 hm4 be4 hlt4 hlt5
              generalize ((((((w4.setCell ⟨w.heap.size + 1, 0, none⟩ (.int .i64 M.1)).setCell ⟨w.heap.size + 1, 1, none⟩ (.bool false)).setCell ⟨w.heap.size + 1, 2, none⟩ (.string ⟨⟨M.2.1⟩⟩)).setCell ⟨w.heap.size + 1, 3, none⟩ (.int .i64 M.2.2.1)).setCell ⟨w.heap.size + 1, 4, none⟩ (.string ⟨⟨M.2.2.2.1⟩⟩)).setCell ⟨w.heap.size + 1, 5, none⟩ (.int .i64 M.2.2.2.2)).alloc (fbox (.int .i64 M.1) (.bool false) (.string ⟨⟨M.2.1⟩⟩) (.int .i64 M.2.2.1) (.string ⟨⟨M.2.2.2.1⟩⟩) (.int .i64 M.2.2.2.2) (.bool true)) = w5 at *
              obtain ⟨⟨a0, a1, a2, a3, a4, a5, a6⟩, d0, d1, d2, d3, d4, d5, d6⟩ := fbox_cells HN5.out
              obtain ⟨⟨b0, b1, b2, b3, b4, b5⟩, c0, c1, c2, c3, c4, c5⟩ := box_cells HM5.out
              go_wp2
              refine ret8 (N := w.heap.size) (v0 := .int .i64 M.1) (v1 := .bool false) (v2 := .string ⟨⟨M.2.1⟩⟩) (v3 := .int .i64 M.2.2.1) (v4 := .string ⟨⟨M.2.2.2.1⟩⟩) (v5 := .int .i64 M.2.2.2.2) (v6 := .bool true) (by kernel_rfl) ?_ (by simp [Value.oneCell']) ?_
              · refine put7_box (u0 := .int .i64 0) (u1 := .bool false) (u2 := .string ⟨#[]⟩) (u3 := .int .i64 0) (u4 := .string ⟨#[]⟩) (u5 := .int .i64 0) (u6 := .bool false) ?_ _ _ _ _ _ _ _
                repeat rw [set_far (by omega)]
                exact HN5.out
              · refine ⟨rfl, put7_below ?_ _ _ _ _ _ _ _⟩
                repeat refine Below.setCell ?_ (by show w.heap.size ≤ w.heap.size + 1; omega) _
                exact HE5.out

theorem rSplit_any {s p : ByteArray} (hs : s.size ≤ 20000) (hp0 : 0 < p.size) (hp : p.size ≤ 100) (w : World) :
    Calls Tryz.prog 8 #[.string p, .string s] w (FPost (spl s.data.toList p.data.toList) w) := by
  cases hc : s.data.toList[rn wh s.data.toList 0]? with
  | none => exact rspl_none hs hp0 hp rfl hc w
  | some c =>
    by_cases h45 : c = 45
    · exact rspl_minus hs hp0 hp rfl (by rw [hc, h45]) w
    · by_cases h43 : c = 43
      · exact rspl_plus hs hp0 hp rfl (by rw [hc, h43]) w
      · exact rspl_other hs hp0 hp rfl hc h45 h43 w
end Go.Proofs.YtilnhkflgfajcaaGreatDoor
