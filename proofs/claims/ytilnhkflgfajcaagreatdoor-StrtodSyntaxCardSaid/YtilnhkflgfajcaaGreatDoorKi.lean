/- The reference's points, words, payloads, exponents and digits: what they return. Conditions: texts of at most 20000 bytes. -/
import Derived.Test.YtilnhkflgfajcaaGreatDoorKh
import Derived.Laws.IdiomStrings
set_option linter.all false
namespace Go.Proofs.YtilnhkflgfajcaaGreatDoor
open Go.Eng Go.RowKit
set_option maxRecDepth 1000000

theorem rsmall_any (b : UInt8) (w : World) : Calls Tryz.prog 47 #[.int .u8 b.toNat] w fun e w' => e = .returned (.int .u8 (lw b).toNat) ∧ w = w' := by
  have hb : b.toNat < 256 := b.toNat_lt
  rw [lw_nat]
  obtain ⟨n, hn⟩ : ∃ n : Nat, n = b.toNat := ⟨_, rfl⟩
  rw [← hn] at hb ⊢
  clear hn
  by_cases h1 : 65 ≤ n
  · by_cases h2 : n ≤ 90
    · rw [if_pos ⟨h1, h2⟩]
      go_enter Tryz.func47, Tryz.ntmps47
      go_wp2
      go_ret
      exact ⟨rfl, rfl⟩
    · rw [if_neg (fun h => h2 h.2)]
      go_enter Tryz.func47, Tryz.ntmps47
      go_wp2
      go_ret
      exact ⟨rfl, rfl⟩
  · rw [if_neg (fun h => h1 h.1)]
    go_enter Tryz.func47, Tryz.ntmps47
    go_wp2
    go_ret
    exact ⟨rfl, rfl⟩
/-- Is it a letter? -/
def isL (b : UInt8) : Bool := decide ((97 ≤ b.toNat ∧ b.toNat ≤ 122) ∨ (65 ≤ b.toNat ∧ b.toNat ≤ 90))
theorem isLetter_any (b : UInt8) (w : World) : Calls Tryz.prog 15 #[.int .u8 b.toNat] w fun e w' => e = .returned (.bool (isL b)) ∧ w = w' := by
  have hb : b.toNat < 256 := b.toNat_lt
  unfold isL
  obtain ⟨n, hn⟩ : ∃ n : Nat, n = b.toNat := ⟨_, rfl⟩
  rw [← hn] at hb ⊢
  clear hn
  by_cases h1 : 97 ≤ n
  · by_cases h2 : n ≤ 122
    · rw [decide_eq_true (.inl ⟨h1, h2⟩)]
      go_enter Tryz.func15, Tryz.ntmps15
      go_wp2
      go_ret
      exact ⟨by simp; try omega, rfl⟩
    · rw [decide_eq_false (by omega)]
      have h3 : 65 ≤ n := by omega
      have h4 : ¬ n ≤ 90 := by omega
      go_enter Tryz.func15, Tryz.ntmps15
      go_wp2
      go_ret
      exact ⟨by simp; try omega, rfl⟩
  · by_cases h3 : 65 ≤ n
    · by_cases h4 : n ≤ 90
      · rw [decide_eq_true (.inr ⟨h3, h4⟩)]
        go_enter Tryz.func15, Tryz.ntmps15
        go_wp2
        go_ret
        exact ⟨by simp; try omega, rfl⟩
      · rw [decide_eq_false (by omega)]
        go_enter Tryz.func15, Tryz.ntmps15
        go_wp2
        go_ret
        exact ⟨by simp; try omega, rfl⟩
    · rw [decide_eq_false (by omega)]
      go_enter Tryz.func15, Tryz.ntmps15
      go_wp2
      go_ret
      exact ⟨by simp; try omega, rfl⟩
theorem rdigit_any (hex : Bool) (b : UInt8) (w : World) : Calls Tryz.prog 112 #[.int .u8 b.toNat, .int .i64 (bs hex)] w fun e w' => e = .returned (.bool (dg hex b)) ∧ w = w' := by
  have HS := Lib.hid fun W => rsmall_any b W
  rw [dg_lw]
  have hv1 : (lw b).toNat < 256 := (lw b).toNat_lt
  obtain ⟨v, hv⟩ : ∃ v : Int, v = ((lw b).toNat : Int) := ⟨_, rfl⟩
  have hv0 : 0 ≤ v := by omega
  have hv2 : v < 256 := by omega
  rw [← hv] at HS ⊢
  clear hv hv1
  cases hex with
  | false =>
    show Calls Tryz.prog 112 #[.int .u8 b.toNat, .int .i64 10] w _
    by_cases g1 : 48 ≤ v
    · by_cases g2 : v ≤ 57
      · have e : dgN false v = true := by unfold dgN; simp; omega
        rw [e]; clear e
        go_enter Tryz.func112, Tryz.ntmps112
        go_wp2_with (go_at_call 47; refine (HS.out _).mono ?_; rintro e w2 ⟨rfl, rfl⟩)
        go_ret
        exact ⟨by simp; try omega, rfl⟩
      · have e : dgN false v = false := by unfold dgN; simp; omega
        rw [e]; clear e
        go_enter Tryz.func112, Tryz.ntmps112
        go_wp2_with (go_at_call 47; refine (HS.out _).mono ?_; rintro e w2 ⟨rfl, rfl⟩)
        go_ret
        exact ⟨by simp; try omega, rfl⟩
    · have e : dgN false v = false := by unfold dgN; simp; omega
      rw [e]; clear e
      go_enter Tryz.func112, Tryz.ntmps112
      go_wp2_with (go_at_call 47; refine (HS.out _).mono ?_; rintro e w2 ⟨rfl, rfl⟩)
      go_ret
      exact ⟨by simp; try omega, rfl⟩
  | true =>
    show Calls Tryz.prog 112 #[.int .u8 b.toNat, .int .i64 16] w _
    by_cases g1 : 48 ≤ v
    · by_cases g2 : v ≤ 57
      · have e : dgN true v = true := by unfold dgN; simp; omega
        rw [e]; clear e
        go_enter Tryz.func112, Tryz.ntmps112
        go_wp2_with (go_at_call 47; refine (HS.out _).mono ?_; rintro e w2 ⟨rfl, rfl⟩)
        go_ret
        exact ⟨by simp; try omega, rfl⟩
      · by_cases g3 : 97 ≤ v
        · by_cases g4 : v ≤ 102
          · have e : dgN true v = true := by unfold dgN; simp; omega
            rw [e]; clear e
            go_enter Tryz.func112, Tryz.ntmps112
            go_wp2_with (go_at_call 47; refine (HS.out _).mono ?_; rintro e w2 ⟨rfl, rfl⟩)
            go_ret
            exact ⟨by simp; try omega, rfl⟩
          · have e : dgN true v = false := by unfold dgN; simp; omega
            rw [e]; clear e
            go_enter Tryz.func112, Tryz.ntmps112
            go_wp2_with (go_at_call 47; refine (HS.out _).mono ?_; rintro e w2 ⟨rfl, rfl⟩)
            go_ret
            exact ⟨by simp; try omega, rfl⟩
        · have e : dgN true v = false := by unfold dgN; simp; omega
          rw [e]; clear e
          go_enter Tryz.func112, Tryz.ntmps112
          go_wp2_with (go_at_call 47; refine (HS.out _).mono ?_; rintro e w2 ⟨rfl, rfl⟩)
          go_ret
          exact ⟨by simp; try omega, rfl⟩
    · have g3 : ¬ 97 ≤ v := by omega
      have e : dgN true v = false := by unfold dgN; simp; omega
      rw [e]; clear e
      go_enter Tryz.func112, Tryz.ntmps112
      go_wp2_with (go_at_call 47; refine (HS.out _).mono ?_; rintro e w2 ⟨rfl, rfl⟩)
      go_ret
      exact ⟨by simp; try omega, rfl⟩
theorem far_any (x : Int) (w : World) : Calls Tryz.prog 113 #[.int .i64 x] w fun e w' => e = .returned (.int .i64 (min (max x (-1073741824)) 1073741824)) ∧ w = w' := by
  go_enter Tryz.func113, Tryz.ntmps113
  go_wp2
  go_ret
  exact ⟨rfl, rfl⟩
theorem bad_raw (b : UInt8) : bad b = decide (b.toNat ≤ 32 ∨ (48 ≤ b.toNat ∧ b.toNat ≤ 57) ∨ isL b = true ∨ b.toNat = 43 ∨ b.toNat = 45) := by
  unfold bad badN isL
  rw [lw_nat, decide_eq_decide, decide_eq_true_eq]
  have := b.toNat_lt
  split <;> omega
theorem bad_rawI (b : UInt8) : bad b = decide ((b.toNat : Int) ≤ 32 ∨ (48 ≤ (b.toNat : Int) ∧ (b.toNat : Int) ≤ 57) ∨ isL b = true ∨ (b.toNat : Int) = 43 ∨ (b.toNat : Int) = 45) := by
  rw [bad_raw, decide_eq_decide, show (b.toNat : Int) ≤ 32 ↔ b.toNat ≤ 32 by omega, show (48 : Int) ≤ (b.toNat : Int) ↔ 48 ≤ b.toNat by omega, show (b.toNat : Int) ≤ 57 ↔ b.toNat ≤ 57 by omega,
    show (b.toNat : Int) = 43 ↔ b.toNat = 43 by omega, show (b.toNat : Int) = 45 ↔ b.toNat = 45 by omega]
end Go.Proofs.YtilnhkflgfajcaaGreatDoor

namespace Go.Proofs.YtilnhkflgfajcaaGreatDoor
open Go.Eng Go.RowKit
set_option maxRecDepth 1000000

set_option maxHeartbeats 2000000 in
theorem rpoint_any (p : ByteArray) (hp : p.size ≤ 9223372036854775807) (w : World) : Calls Tryz.prog 7 #[.string p] w fun e w' => e = .returned (.bool (isP p.data.toList)) ∧ w = w' := by
  obtain ⟨R, hR⟩ : ∃ R, R = isP p.data.toList := ⟨_, rfl⟩
  have HR : Aside (R = isP p.data.toList) := hR
  rw [← hR]
  clear hR
  have HL := Lib.hid isLetter_any
  go_enter Tryz.func7, Tryz.ntmps7
  go_wp2
  go_loop [3] (fun i => ∃ k : Nat, k ≤ p.size ∧ i = .int .i64 k ∧ Aside (∀ j b, j < k → p.data.toList[j]? = some b → bad b = false)) (fun i => p.size - (intOf i).toNat)
  case atStart => exact ⟨0, Nat.zero_le _, rfl, fun j b hj => absurd hj (Nat.not_lt_zero _)⟩
  case round =>
    obtain ⟨k, hk, rfl, hall⟩ := hrel
    rcases Nat.lt_or_ge k p.size with hlt | hge
    · obtain ⟨b, hb⟩ : ∃ b, p.data.toList[k]? = some b := ⟨_, List.getElem?_eq_getElem (by simpa using hlt)⟩
      have HI := @run_idx Tryz.prog 9 p k b hb
      have HBB : Aside (p.data.toList[k]? = some b) := hb
      have hk1 : (k : Int) < (p.size : Int) := by omega
      have hraw := bad_rawI b
      have hb256 : b.toNat < 256 := b.toNat_lt
      have HBL := Lib.hid fun W => HL.out b W
      have hbig : isL b = true → 65 ≤ (b.toNat : Int) := fun h => by unfold isL at h; have := of_decide_eq_true h; omega
      obtain ⟨l, hl⟩ : ∃ l, l = isL b := ⟨_, rfl⟩
      rw [← hl] at hraw hbig HBL
      obtain ⟨n, hn⟩ : ∃ n : Int, n = (b.toNat : Int) := ⟨_, rfl⟩
      have hn0 : 0 ≤ n := by omega
      have hn1 : n < 256 := by omega
      rw [← hn] at hraw hbig HBL HI
      clear hb hl hn hb256
      cases hbd : bad b
      · have HBF : Aside (bad b = false) := hbd
        rw [hbd] at hraw
        have hrw := of_decide_eq_false hraw.symm
        clear hbd hbig hraw
        have n1 : ¬ n ≤ 32 := fun h => hrw (.inl h)
        have n2 : ¬ (48 ≤ n ∧ n ≤ 57) := fun h => hrw (.inr (.inl h))
        have n3 : ¬ l = true := fun h => hrw (.inr (.inr (.inl h)))
        have n4 : ¬ n = 43 := fun h => hrw (.inr (.inr (.inr (.inl h))))
        have n5 : ¬ n = 45 := fun h => hrw (.inr (.inr (.inr (.inr h))))
        have b4 : (n == 43) = false := by simpa using n4
        have b5 : (n == 45) = false := by simpa using n5
        have hl0 : l = false := by simpa using n3
        subst hl0
        have HN2 : Aside (¬ (48 ≤ n ∧ n ≤ 57)) := n2
        clear hrw n2 n3 n4 n5
        by_cases q : 48 ≤ n
        · have q2 : ¬ n ≤ 57 := fun h => HN2.out ⟨q, h⟩
          go_wp2_with (go_at_call 15; refine (HBL.out _).mono ?_; rintro e w2 ⟨rfl, rfl⟩)
          go_round
          case rel =>
            refine ⟨k + 1, by omega, by go_num, fun j c hj hc => ?_⟩
            rcases Nat.lt_or_eq_of_le (Nat.le_of_lt_succ hj) with h1 | h1
            · exact hall.out j c h1 hc
            · rw [h1, HBB.out] at hc
              cases hc
              exact HBF.out
          case measure => simp [intOf]; omega
        · go_wp2_with (go_at_call 15; refine (HBL.out _).mono ?_; rintro e w2 ⟨rfl, rfl⟩)
          go_round
          case rel =>
            refine ⟨k + 1, by omega, by go_num, fun j c hj hc => ?_⟩
            rcases Nat.lt_or_eq_of_le (Nat.le_of_lt_succ hj) with h1 | h1
            · exact hall.out j c h1 hc
            · rw [h1, HBB.out] at hc
              cases hc
              exact HBF.out
          case measure => simp [intOf]; omega
      · have hRf : R = false := by
          rw [HR.out]
          unfold isP
          rw [List.any_eq_true.2 ⟨b, List.mem_of_getElem? HBB.out, hbd⟩]
          rfl
        subst hRf
        rw [hbd] at hraw
        have hrw := of_decide_eq_true hraw.symm
        clear hbd hraw
        by_cases n1 : n ≤ 32
        · clear hrw hbig
          go_wp2_with (go_at_call 15; refine (HBL.out _).mono ?_; rintro e w2 ⟨rfl, rfl⟩)
          go_ret
          exact ⟨rfl, rfl⟩
        by_cases n2 : 48 ≤ n
        · by_cases n3 : n ≤ 57
          · clear hrw hbig
            go_wp2_with (go_at_call 15; refine (HBL.out _).mono ?_; rintro e w2 ⟨rfl, rfl⟩)
            go_ret
            exact ⟨rfl, rfl⟩
          · have hl1 : l = true := by
              rcases hrw with h | h | h | h | h
              · omega
              · omega
              · exact h
              · omega
              · omega
            subst hl1
            clear hrw hbig
            go_wp2_with (go_at_call 15; refine (HBL.out _).mono ?_; rintro e w2 ⟨rfl, rfl⟩)
            go_ret
            exact ⟨rfl, rfl⟩
        · have hl0 : l = false := by
            cases l with
            | false => rfl
            | true => have := hbig rfl; omega
          subst hl0
          have h45 : n = 43 ∨ n = 45 := by
            rcases hrw with h | h | h | h | h
            · omega
            · omega
            · cases h
            · exact .inl h
            · exact .inr h
          clear hrw hbig
          clear hn0 hn1
          rcases h45 with rfl | rfl
          · clear n1 n2
            go_wp2_with (go_at_call 15; refine (HBL.out _).mono ?_; rintro e w2 ⟨rfl, rfl⟩)
            go_ret
            exact ⟨rfl, rfl⟩
          · clear n1 n2
            go_wp2_with (go_at_call 15; refine (HBL.out _).mono ?_; rintro e w2 ⟨rfl, rfl⟩)
            go_ret
            exact ⟨rfl, rfl⟩
    · have ek : k = p.size := by omega
      subst ek
      have hany : p.data.toList.any bad = false := by
        rw [List.any_eq_false]
        intro b hb
        obtain ⟨j, hj, e⟩ := List.getElem_of_mem hb
        rw [hall.out j b (by simpa using hj) (by rw [← e]; exact List.getElem?_eq_getElem hj)]
        simp
      have eR : R = (decide (1 ≤ p.size) && decide (p.size ≤ 4)) := by
        rw [HR.out]
        unfold isP
        rw [hany]
        simp
      clear hany
      by_cases g1 : 1 ≤ p.size
      · by_cases g4 : p.size ≤ 4
        · have e : R = true := by rw [eR]; simp [g1, g4]
          subst e
          clear eR
          go_wp2
          go_ret
          exact ⟨by simp; omega, rfl⟩
        · have e : R = false := by rw [eR]; simp [g4]
          subst e
          clear eR
          go_wp2
          go_ret
          exact ⟨by simp; omega, rfl⟩
      · have e : R = false := by rw [eR]; simp [g1]
        subst e
        clear eR
        go_wp2
        go_ret
        exact ⟨rfl, rfl⟩

set_option maxHeartbeats 2000000 in
theorem begins_any {s v : ByteArray} {a : Nat} (hs : s.size ≤ 20000) (ha : a ≤ s.size) (hv : v.size ≤ 100) (w : World) :
    Calls Tryz.prog 16 #[.string s, .int .i64 a, .string v] w fun e w' => e = .returned (.bool (wd s.data.toList a v.data.toList)) ∧ ∃ m, w' = w.drewN m := by
  obtain ⟨R, hR⟩ : ∃ R, R = wd s.data.toList a v.data.toList := ⟨_, rfl⟩
  have HR : Aside (R = wd s.data.toList a v.data.toList) := hR
  rw [← hR]
  clear hR
  have HL := Lib.hid rsmall_any
  have hwr : IntKind.i64.wrap ((a : Int) + (v.size : Int)) = (a : Int) + (v.size : Int) := wrap_small (by omega) (by omega)
  rcases Nat.lt_or_ge s.size (a + v.size) with hshort | hlong
  · have hRf : R = false := by
      rw [HR.out]
      cases e : wd s.data.toList a v.data.toList with
      | false => rfl
      | true =>
        have := wd_le e (by simpa using ha)
        simp at this
        omega
    subst hRf
    have g : (s.size : Int) < (a : Int) + (v.size : Int) := by omega
    go_enter Tryz.func16, Tryz.ntmps16
    go_wp2
    go_ret
    exact ⟨rfl, 0, rfl⟩
  · have g : ¬ (s.size : Int) < (a : Int) + (v.size : Int) := by omega
    go_enter Tryz.func16, Tryz.ntmps16
    go_wp2
    go_loopw [7] (fun i wr => ∃ k : Nat, k ≤ v.size ∧ i = .int .i64 k ∧ Aside (∀ j, j < k → (s.data.toList[a + j]?).map lw = v.data.toList[j]?) ∧ Aside (∃ m, wr = w.drewN m)) (fun i _ => v.size - (intOf i).toNat)
    case atStart => exact ⟨0, Nat.zero_le _, rfl, fun j hj => absurd hj (Nat.not_lt_zero _), 0, rfl⟩
    case round =>
      obtain ⟨k, hk, rfl, hall, hdr⟩ := hrel
      rcases Nat.lt_or_ge k v.size with hlt | hge
      · have hwk : IntKind.i64.wrap ((a : Int) + (k : Int)) = (a : Int) + (k : Int) := wrap_small (by omega) (by omega)
        obtain ⟨c, hc⟩ : ∃ c, v.data.toList[k]? = some c := ⟨_, List.getElem?_eq_getElem (by simpa using hlt)⟩
        obtain ⟨b, hb⟩ : ∃ b, s.data.toList[a + k]? = some b := ⟨_, List.getElem?_eq_getElem (by simp; omega)⟩
        have HJ := @run_idx Tryz.prog 9 v k c hc
        have HI := @run_idx2 Tryz.prog 9 s a k b hb
        have HC : Aside (v.data.toList[k]? = some c) := hc
        have HB : Aside (s.data.toList[a + k]? = some b) := hb
        have HBL := Lib.hid fun W => HL.out b W
        have hk1 : (k : Int) < (v.size : Int) := by omega
        clear hc hb
        by_cases hbc : lw b = c
        · have e : (((lw b).toNat : Int) != (c.toNat : Int)) = false := by rw [hbc]; simp
          have HBC : Aside (lw b = c) := hbc
          clear hbc
          go_wp2
          go_quiet ((go_at_call 47; refine (HBL.out _).mono ?_; rintro e w2 ⟨rfl, rfl⟩; exact ⟨rfl, _, rfl⟩))
          go_wp2
          go_roundw
          case rel =>
            refine ⟨k + 1, by omega, by go_num, fun j hj => ?_, ?_⟩
            · rcases Nat.lt_or_eq_of_le (Nat.le_of_lt_succ hj) with h1 | h1
              · exact hall.out j h1
              · rw [h1, HB.out, HC.out, Option.map_some, HBC.out]
            · obtain ⟨m, rfl⟩ := hdr.out
              exact ⟨_, World.drewN_drewN _ _ _⟩
          case measure => simp [intOf]; omega
        · have e : (((lw b).toNat : Int) != (c.toNat : Int)) = true := by
            rw [bne_iff_ne]
            intro g
            exact hbc (UInt8.toNat_inj.1 (by exact_mod_cast g))
          have hno : R = false := by rw [HR.out]; exact wd_no (by simpa using hlt) (by rw [HB.out, HC.out]; simpa using hbc)
          subst hno
          clear hbc
          go_wp2
          go_quiet ((go_at_call 47; refine (HBL.out _).mono ?_; rintro e w2 ⟨rfl, rfl⟩; exact ⟨rfl, _, rfl⟩))
          go_wp2
          go_ret
          refine ⟨rfl, ?_⟩
          obtain ⟨m, rfl⟩ := hdr.out
          exact ⟨_, World.drewN_drewN _ _ _⟩
      · have ek : k = v.size := by omega
        subst ek
        have hyes : R = true := by rw [HR.out]; exact wd_iff.2 (by simpa using hall.out)
        subst hyes
        go_wp2
        go_ret
        exact ⟨rfl, hdr.out⟩
end Go.Proofs.YtilnhkflgfajcaaGreatDoor

namespace Go.Proofs.YtilnhkflgfajcaaGreatDoor
open Go.Eng Go.RowKit
set_option maxRecDepth 1000000

theorem py_rawI (b : UInt8) : py b = decide (isL b = true ∨ (48 ≤ (b.toNat : Int) ∧ (b.toNat : Int) ≤ 57) ∨ (b.toNat : Int) = 95) := by
  unfold py isL
  rw [decide_eq_decide, decide_eq_true_eq]
  omega
/-- What a byte at a place is, for a walk. -/
theorem slice_run3 {s : ByteArray} {a r : Nat} (h1 : a ≤ r) (h2 : r ≤ s.size) (w : World) :
    (Instr.slice 9 (.string s) (some (.int .i64 (a : Int))) (some (.int .i64 (r : Int))) none).run Tryz.prog w = .ok (.string ⟨⟨sl s.data.toList a r⟩⟩) w := slice_run h1 h2 w

set_option maxHeartbeats 4000000 in
theorem rnan_any {s : ByteArray} {a : Nat} (hs : s.size ≤ 20000) (ha : a ≤ s.size) (w : World) :
    Calls Tryz.prog 17 #[.string s, .int .i64 a] w fun e w' => e = .returned (.tuple #[.string ⟨⟨(pl s.data.toList a).1⟩⟩, .int .i64 (pl s.data.toList a).2]) ∧ w = w' := by
  obtain ⟨E, hE⟩ : ∃ E, E = pl s.data.toList a := ⟨_, rfl⟩
  have HE : Aside (E = pl s.data.toList a) := hE
  rw [← hE]
  clear hE
  have HL := Lib.hid isLetter_any
  rcases Nat.lt_or_ge a s.size with hlt | hge
  · obtain ⟨b, hb⟩ : ∃ b, s.data.toList[a]? = some b := ⟨_, List.getElem?_eq_getElem (by simpa using hlt)⟩
    have HI := @run_idx Tryz.prog 9 s a b hb
    by_cases h40 : b = 40
    · subst h40
      have HIs : ∀ w, (Instr.index 9 (.string s) (.int .i64 (a : Int))).run Tryz.prog w = .ok (.int .u8 40) w := HI Tryz.underlying9
      obtain ⟨r, hr⟩ : ∃ r, r = rn py s.data.toList (a + 1) := ⟨_, rfl⟩
      have hra : a + 1 ≤ r := by rw [hr]; exact rn_ge _ _ _
      have hrn : r ≤ s.size := by rw [hr]; simpa using rn_le py s.data.toList (a + 1) (by simpa using Nat.succ_le_of_lt hlt)
      have HPL : Aside (E = if s.data.toList[r]? = some 41 then (sl s.data.toList (a + 1) r, r + 1) else ([], a)) := by
        show E = _
        rw [HE.out]
        subst hr
        unfold pl
        rw [if_pos hb]
      have HR : Aside (r = rn py s.data.toList (a + 1)) := hr
      have hsl := slice_run (s := s) (a := a + 1) (r := r) hra hrn
      push_cast at hsl
      have hak1 : (a : Int) < (s.size : Int) := by omega
      have hd0 : decide (s.size ≤ a) = false := decide_eq_false (by omega)
      clear hr HI hb
      go_enter Tryz.func17, Tryz.ntmps17
      go_wp2
      go_loop [6] (fun i => ∃ k : Nat, a + 1 ≤ k ∧ k ≤ s.size ∧ i = .int .i64 k ∧ Aside (r = rn py s.data.toList k)) (fun i => s.size - (intOf i).toNat)
      case atStart => exact ⟨a + 1, Nat.le_refl _, hlt, by go_num, HR.out⟩
      case round =>
        obtain ⟨k, hak, hk, rfl, hrk⟩ := hrel
        rcases Nat.lt_or_ge k s.size with hlt2 | hge2
        · obtain ⟨b, hb⟩ : ∃ b, s.data.toList[k]? = some b := ⟨_, List.getElem?_eq_getElem (by simpa using hlt2)⟩
          have HI := @run_idx Tryz.prog 9 s k b hb
          have HB : Aside (s.data.toList[k]? = some b) := hb
          have hk1 : (k : Int) < (s.size : Int) := by omega
          have HBL := Lib.hid fun W => HL.out b W
          have hraw := py_rawI b
          have hb256 : b.toNat < 256 := b.toNat_lt
          have hbyte : ∀ c : UInt8, (b.toNat : Int) = c.toNat → b = c := fun c h => UInt8.toNat_inj.1 (by exact_mod_cast h)
          have HBY : Aside (∀ c : UInt8, (b.toNat : Int) = c.toNat → b = c) := hbyte
          obtain ⟨l, hl⟩ : ∃ l, l = isL b := ⟨_, rfl⟩
          rw [← hl] at HBL hraw
          obtain ⟨n, hn⟩ : ∃ n : Int, n = (b.toNat : Int) := ⟨_, rfl⟩
          have hn0 : 0 ≤ n := by omega
          have hn1 : n < 256 := by omega
          rw [← hn] at HI HBL hraw HBY
          have HN41 : Aside (n = 41 ↔ b = 41) := ⟨fun h => HBY.out 41 (by rw [h]; rfl), fun h => by rw [hn, h]; rfl⟩
          clear hb hl hn hb256 hbyte
          cases hp : py b
          · have hrk2 : r = k := by rw [hrk.out]; exact rn_stop HB.out hp
            subst hrk2
            rw [hp] at hraw
            have hrw := of_decide_eq_false hraw.symm
            have hl0 : l = false := by
              cases l with
              | false => rfl
              | true => exact absurd (.inl rfl) hrw
            subst hl0
            have n95 : ¬ n = 95 := fun h => hrw (.inr (.inr h))
            have HN2 : Aside (¬ (48 ≤ n ∧ n ≤ 57)) := fun h => hrw (.inr (.inl h))
            have b95 : (n == 95) = false := by simpa using n95
            clear hraw hrw hp n95
            by_cases g41 : n = 41
            · have eE : E = (sl s.data.toList (a + 1) r, r + 1) := by rw [HPL.out, if_pos (by rw [HB.out, HN41.out.1 g41])]
              subst eE
              subst g41
              go_wp2_with (go_at_call 15; refine (HBL.out _).mono ?_; rintro e w2 ⟨rfl, rfl⟩)
              go_ret2
              exact ⟨rfl, rfl⟩
            · have eE : E = ([], a) := by
                rw [HPL.out, if_neg]
                rw [HB.out]
                intro h
                exact g41 (HN41.out.2 (Option.some.inj h))
              subst eE
              have b41 : (n == 41) = false := by simpa using g41
              have b41' : (n != 41) = true := by simpa using g41
              clear g41
              by_cases q : 48 ≤ n
              · have q2 : ¬ n ≤ 57 := fun h => HN2.out ⟨q, h⟩
                go_wp2_with (go_at_call 15; refine (HBL.out _).mono ?_; rintro e w2 ⟨rfl, rfl⟩)
                go_ret2
                exact ⟨rfl, rfl⟩
              · go_wp2_with (go_at_call 15; refine (HBL.out _).mono ?_; rintro e w2 ⟨rfl, rfl⟩)
                go_ret2
                exact ⟨rfl, rfl⟩
          · have HRK : Aside (r = rn py s.data.toList (k + 1)) := by show r = _; rw [hrk.out]; exact rn_step HB.out hp
            rw [hp] at hraw
            have hrw := of_decide_eq_true hraw.symm
            clear hraw hp
            cases l with
            | true =>
              clear hrw
              go_wp2_with (go_at_call 15; refine (HBL.out _).mono ?_; rintro e w2 ⟨rfl, rfl⟩)
              go_round
              case rel => first | exact ⟨k + 1, by omega, by omega, by go_num, HRK.out⟩ | (refine ⟨trivial, ?_⟩; (repeat apply Exists.intro); exact ⟨⟨k + 1, by omega, by omega, by go_num, HRK.out⟩, rfl⟩)
              case measure => simp [intOf]; omega
            | false =>
              have hrw2 : (48 ≤ n ∧ n ≤ 57) ∨ n = 95 := by
                rcases hrw with h | h
                · cases h
                · exact h
              clear hrw
              rcases hrw2 with ⟨h1, h2⟩ | h1
              · go_wp2_with (go_at_call 15; refine (HBL.out _).mono ?_; rintro e w2 ⟨rfl, rfl⟩)
                go_round
                case rel => first | exact ⟨k + 1, by omega, by omega, by go_num, HRK.out⟩ | (refine ⟨trivial, ?_⟩; (repeat apply Exists.intro); exact ⟨⟨k + 1, by omega, by omega, by go_num, HRK.out⟩, rfl⟩)
                case measure => simp [intOf]; omega
              · subst h1
                go_wp2_with (go_at_call 15; refine (HBL.out _).mono ?_; rintro e w2 ⟨rfl, rfl⟩)
                go_round
                case rel => first | exact ⟨k + 1, by omega, by omega, by go_num, HRK.out⟩ | (refine ⟨trivial, ?_⟩; (repeat apply Exists.intro); exact ⟨⟨k + 1, by omega, by omega, by go_num, HRK.out⟩, rfl⟩)
                case measure => simp [intOf]; omega
        · have ek : k = s.size := by omega
          subst ek
          have er : r = s.size := by rw [hrk.out]; exact rn_end (by simp)
          have eE : E = ([], a) := by
            rw [HPL.out, if_neg]
            rw [List.getElem?_eq_none (by simp; omega)]
            simp
          subst eE
          go_wp2
          go_ret2
          exact ⟨rfl, rfl⟩
    · have eE : E = ([], a) := by
        rw [HE.out]
        unfold pl
        rw [if_neg]
        rw [hb]
        intro h
        exact h40 (Option.some.inj h)
      subst eE
      have hak1 : (a : Int) < (s.size : Int) := by omega
      have b40 : ((b.toNat : Int) != 40) = true := by
        rw [bne_iff_ne]
        intro h
        exact h40 (UInt8.toNat_inj.1 (by exact_mod_cast h))
      clear hb h40
      go_enter Tryz.func17, Tryz.ntmps17
      go_wp2
      go_ret2
      exact ⟨rfl, rfl⟩
  · have eE : E = ([], a) := by
      rw [HE.out]
      unfold pl
      rw [if_neg]
      rw [List.getElem?_eq_none (by simpa using hge)]
      simp
    subst eE
    go_enter Tryz.func17, Tryz.ntmps17
    go_wp2
    go_ret2
    exact ⟨rfl, rfl⟩
end Go.Proofs.YtilnhkflgfajcaaGreatDoor

namespace Go.Proofs.YtilnhkflgfajcaaGreatDoor
open Go.Eng Go.RowKit
set_option maxRecDepth 1000000

theorem dg_rawI (b : UInt8) : dg false b = decide (48 ≤ (b.toNat : Int) ∧ (b.toNat : Int) ≤ 57) := by
  unfold dg
  rw [decide_eq_decide]
  simp
  omega
theorem wd_mark {t : List UInt8} {a : Nat} {m : UInt8} : wd t a [m] = decide ((t[a]?).map lw = some m) := by
  cases e : wd t a [m] with
  | true =>
    have := wd_iff.1 e 0 (by simp)
    simp only [Nat.add_zero, List.getElem?_cons_zero] at this
    rw [decide_eq_true this]
  | false =>
    rw [decide_eq_false]
    intro h
    have : wd t a [m] = true := wd_iff.2 fun j hj => by
      simp only [List.length_cons, List.length_nil] at hj
      have : j = 0 := by omega
      subst this
      simpa using h
    rw [this] at e
    cases e
def RPost (E : Int × Nat) (w : World) (e : Ending) (w' : World) : Prop := e = .returned (.tuple #[.int .i64 E.1, .int .i64 E.2]) ∧ ∃ m, w' = w.drewN m
theorem sl_sub {t : List UInt8} {i j k : Nat} (hk : k ≤ j) {b : UInt8} (h : b ∈ sl t i k) : b ∈ sl t i j := by
  unfold sl at h ⊢
  exact (List.take_prefix_take_left (by omega)).subset h
set_option maxHeartbeats 4000000 in
theorem rex_end {s : ByteArray} {a : Nat} {m : UInt8} (hs : s.size ≤ 20000) (hm : (s.data.toList[a]?).map lw = some m) (hc : s.size ≤ a + 1) (w : World) :
    Calls Tryz.prog 49 #[.string s, .int .i64 a, .string ⟨#[m]⟩] w (RPost (ex s.data.toList m a) w) := by
  have hlt : a < s.size := by
    rcases Nat.lt_or_ge a s.size with h1 | h1
    · exact h1
    · rw [List.getElem?_eq_none (by simpa using h1)] at hm
      cases hm
  have HBG := Lib.hid (begins_any (v := ⟨#[m]⟩) hs (Nat.le_of_lt hlt) (by show 1 ≤ 100; decide) w)
  rw [show wd s.data.toList a (⟨#[m]⟩ : ByteArray).data.toList = true from by rw [show (⟨#[m]⟩ : ByteArray).data.toList = [m] from rfl, wd_mark, decide_eq_true hm]] at HBG
  obtain ⟨j1, hj1⟩ : ∃ j1, j1 = a + 1 := ⟨_, rfl⟩
  have ej1 : (a : Int) + 1 = (j1 : Int) := by omega
  have hj1n : j1 ≤ s.size := by omega
  have ge1 : ¬ (j1 : Int) < (s.size : Int) := by omega
  have gd1 : decide (j1 < s.size) = false := decide_eq_false (by omega)
  have hnone : s.data.toList[j1]? = none := List.getElem?_eq_none (by simp; omega)
  have hsg : sg s.data.toList j1 = j1 := by unfold sg; rw [hnone]; simp
  have hmi : mi s.data.toList j1 = false := by unfold mi; rw [hnone]; rfl
  clear hnone hc
  obtain ⟨r, hr⟩ : ∃ r, r = rn (dg false) s.data.toList j1 := ⟨_, rfl⟩
  have HR : Aside (r = rn (dg false) s.data.toList j1) := hr
  have HJR : Aside (j1 ≤ r) := by show j1 ≤ r; rw [hr]; exact rn_ge _ _ _
  have HDG : Aside (∀ k, k ≤ r → ∀ b ∈ sl s.data.toList j1 k, dg false b = true) := fun k hk b hb => mem_run b (by
    rw [← HR.out]
    exact sl_sub hk hb)
  obtain ⟨E, hE⟩ : ∃ E, E = ex s.data.toList m a := ⟨_, rfl⟩
  have HEX : Aside (E = if r = j1 then (0, a) else ( val (sl s.data.toList j1 r), r)) := by
    show E = _
    rw [hE]
    unfold ex
    rw [if_pos hm]
    show (if rn (dg false) s.data.toList (sg s.data.toList (a + 1)) = sg s.data.toList (a + 1) then ((0 : Int), a) else _) = _
    rw [← hj1, hsg, hmi, ← hr]
    rfl
  rw [← hE]
  clear hE hr hj1 hsg hmi hm hlt
  go_enter Tryz.func49, Tryz.ntmps49
  go_wp2_with (go_at_call 16; (with_reducible refine HBG.out.mono ?_); rintro e w2 ⟨rfl, m0, rfl⟩)
  go_loop [10, 11] (fun n i => ∃ k : Nat, j1 ≤ k ∧ k ≤ s.size ∧ i = .int .i64 k ∧ n = .int .i64 (val (sl s.data.toList j1 k)) ∧ Aside (r = rn (dg false) s.data.toList k) ∧ Aside (k ≤ r)) (fun _ i => s.size - (intOf i).toNat)
  case atStart => exact ⟨j1, Nat.le_refl _, by omega, rfl, by rw [sl_self]; rfl, HR.out, HJR.out⟩
  case round =>
    obtain ⟨k, hak, hk, rfl, rfl, hrk, hkr⟩ := hrel
    have hvb := val_bounds (sl s.data.toList j1 k) (fun b hb => HDG.out k hkr.out b hb)
    obtain ⟨vv, hvv⟩ : ∃ vv, vv = val (sl s.data.toList j1 k) := ⟨_, rfl⟩
    have HVV : Aside (vv = val (sl s.data.toList j1 k)) := hvv
    rw [← hvv] at hvb ⊢
    clear hvv
    obtain ⟨hv0, hv1⟩ := hvb
    rcases Nat.lt_or_ge k s.size with hlt2 | hge2
    · obtain ⟨b, hb⟩ : ∃ b, s.data.toList[k]? = some b := ⟨_, List.getElem?_eq_getElem (by simpa using hlt2)⟩
      have HI := @run_idx Tryz.prog 9 s k b hb
      have HB : Aside (s.data.toList[k]? = some b) := hb
      have hk1 : (k : Int) < (s.size : Int) := by omega
      have hraw := dg_rawI b
      have hb256 : b.toNat < 256 := b.toNat_lt
      obtain ⟨n, hn⟩ : ∃ n : Int, n = (b.toNat : Int) := ⟨_, rfl⟩
      have hn0 : 0 ≤ n := by omega
      have hn1 : n < 256 := by omega
      have HN : Aside (n = (b.toNat : Int)) := hn
      rw [← hn] at HI hraw
      clear hb hn hb256
      cases hp : dg false b
      · have hrk2 : r = k := by rw [hrk.out]; exact rn_stop HB.out hp
        subst hrk2
        rw [hp] at hraw
        have hrw := of_decide_eq_false hraw.symm
        have HN2 : Aside (¬ (48 ≤ n ∧ n ≤ 57)) := hrw
        clear hraw hrw hp
        by_cases hrj : r = j1
        · have eE : E = (0, a) := by rw [HEX.out, if_pos hrj]
          subst eE
          subst hrj
          by_cases q : 48 ≤ n
          · have q2 : ¬ n ≤ 57 := fun h => HN2.out ⟨q, h⟩
            go_wp2
            go_ret2
            exact ⟨rfl, _, rfl⟩
          · go_wp2
            go_ret2
            exact ⟨rfl, _, rfl⟩
        · have eE : E = ( vv, r) := by rw [HEX.out, if_neg hrj, HVV.out]
          subst eE
          have bne : ((r : Int) == (j1 : Int)) = false := by simp; omega
          clear hrj
          by_cases q : 48 ≤ n
          · have q2 : ¬ n ≤ 57 := fun h => HN2.out ⟨q, h⟩
            go_wp2
            go_ret2
            exact ⟨rfl, _, rfl⟩
          · go_wp2
            go_ret2
            exact ⟨rfl, _, rfl⟩
      · have hrk3 : r = rn (dg false) s.data.toList (k + 1) := by rw [hrk.out]; exact rn_step HB.out hp
        have HRK : Aside (r = rn (dg false) s.data.toList (k + 1)) := hrk3
        have HKR : Aside (k + 1 ≤ r) := by show k + 1 ≤ r; rw [hrk3]; exact rn_ge _ _ _
        rw [hp] at hraw
        have hrw := of_decide_eq_true hraw.symm
        clear hraw hp hrk3
        obtain ⟨q1, q2⟩ := hrw
        go_wp2
        go_round
        case rel =>
          refine ⟨k + 1, by omega, by omega, by go_num, ?_, HRK.out, HKR.out⟩
          rw [sl_snoc hak HB.out, val_snoc, ← HVV.out, ← HN.out]
        case measure => simp [intOf]; omega
    · have ek : k = s.size := by omega
      subst ek
      have er : r = s.size := by rw [hrk.out]; exact rn_end (by simp)
      by_cases hrj : r = j1
      · have eE : E = (0, a) := by rw [HEX.out, if_pos hrj]
        subst eE
        have bne : ((s.size : Int) == (j1 : Int)) = true := by simp; omega
        clear hrj er
        go_wp2
        go_ret2
        exact ⟨rfl, _, rfl⟩
      · have eE : E = ( vv, s.size) := by rw [HEX.out, if_neg hrj, HVV.out, er]
        subst eE
        have bne : ((s.size : Int) == (j1 : Int)) = false := by simp; omega
        clear hrj er
        go_wp2
        go_ret2
        exact ⟨rfl, _, rfl⟩
set_option maxHeartbeats 4000000 in
theorem rex_minus {s : ByteArray} {a : Nat} {m : UInt8} (hs : s.size ≤ 20000) (hm : (s.data.toList[a]?).map lw = some m) (hc : s.data.toList[a + 1]? = some 45) (w : World) :
    Calls Tryz.prog 49 #[.string s, .int .i64 a, .string ⟨#[m]⟩] w (RPost (ex s.data.toList m a) w) := by
  have hlt : a < s.size := by
    rcases Nat.lt_or_ge a s.size with h1 | h1
    · exact h1
    · rw [List.getElem?_eq_none (by simpa using h1)] at hm
      cases hm
  have HBG := Lib.hid (begins_any (v := ⟨#[m]⟩) hs (Nat.le_of_lt hlt) (by show 1 ≤ 100; decide) w)
  rw [show wd s.data.toList a (⟨#[m]⟩ : ByteArray).data.toList = true from by rw [show (⟨#[m]⟩ : ByteArray).data.toList = [m] from rfl, wd_mark, decide_eq_true hm]] at HBG
  obtain ⟨j1, hj1⟩ : ∃ j1, j1 = a + 1 := ⟨_, rfl⟩
  have ej1 : (a : Int) + 1 = (j1 : Int) := by omega
  have hj1n : j1 ≤ s.size := by omega
  have hlt1 : j1 < s.size := by
    rcases Nat.lt_or_ge j1 s.size with h1 | h1
    · exact h1
    · rw [List.getElem?_eq_none (by simp; omega)] at hc
      cases hc
  have hlt1' : (j1 : Int) < (s.size : Int) := by omega
  have HJ1 := @run_idx Tryz.prog 9 s j1 45 (by rw [hj1]; exact hc)
  rw [← hj1] at hc
  have HJ1' : ∀ w, (Instr.index 9 (.string s) (.int .i64 (j1 : Int))).run Tryz.prog w = .ok (.int .u8 45) w := HJ1 Tryz.underlying9
  obtain ⟨j2, hj2⟩ : ∃ j2, j2 = j1 + 1 := ⟨_, rfl⟩
  have ej2 : (j1 : Int) + 1 = (j2 : Int) := by omega
  have hj2n : j2 ≤ s.size := by omega
  have hsg : sg s.data.toList j1 = j2 := by unfold sg; rw [hc, hj2]; simp
  have hmi : mi s.data.toList j1 = true := by unfold mi; rw [hc]; rfl
  clear hc hj2 HJ1
  obtain ⟨r, hr⟩ : ∃ r, r = rn (dg false) s.data.toList j2 := ⟨_, rfl⟩
  have HR : Aside (r = rn (dg false) s.data.toList j2) := hr
  have HJR : Aside (j2 ≤ r) := by show j2 ≤ r; rw [hr]; exact rn_ge _ _ _
  have HDG : Aside (∀ k, k ≤ r → ∀ b ∈ sl s.data.toList j2 k, dg false b = true) := fun k hk b hb => mem_run b (by
    rw [← HR.out]
    exact sl_sub hk hb)
  obtain ⟨E, hE⟩ : ∃ E, E = ex s.data.toList m a := ⟨_, rfl⟩
  have HEX : Aside (E = if r = j2 then (0, a) else (- val (sl s.data.toList j2 r), r)) := by
    show E = _
    rw [hE]
    unfold ex
    rw [if_pos hm]
    show (if rn (dg false) s.data.toList (sg s.data.toList (a + 1)) = sg s.data.toList (a + 1) then ((0 : Int), a) else _) = _
    rw [← hj1, hsg, hmi, ← hr]
    rfl
  rw [← hE]
  clear hE hr hj1 hsg hmi hm hlt
  go_enter Tryz.func49, Tryz.ntmps49
  go_wp2_with (go_at_call 16; (with_reducible refine HBG.out.mono ?_); rintro e w2 ⟨rfl, m0, rfl⟩)
  go_loop [10, 11] (fun n i => ∃ k : Nat, j2 ≤ k ∧ k ≤ s.size ∧ i = .int .i64 k ∧ n = .int .i64 (val (sl s.data.toList j2 k)) ∧ Aside (r = rn (dg false) s.data.toList k) ∧ Aside (k ≤ r)) (fun _ i => s.size - (intOf i).toNat)
  case atStart => exact ⟨j2, Nat.le_refl _, by omega, rfl, by rw [sl_self]; rfl, HR.out, HJR.out⟩
  case round =>
    obtain ⟨k, hak, hk, rfl, rfl, hrk, hkr⟩ := hrel
    have hvb := val_bounds (sl s.data.toList j2 k) (fun b hb => HDG.out k hkr.out b hb)
    obtain ⟨vv, hvv⟩ : ∃ vv, vv = val (sl s.data.toList j2 k) := ⟨_, rfl⟩
    have HVV : Aside (vv = val (sl s.data.toList j2 k)) := hvv
    rw [← hvv] at hvb ⊢
    clear hvv
    obtain ⟨hv0, hv1⟩ := hvb
    rcases Nat.lt_or_ge k s.size with hlt2 | hge2
    · obtain ⟨b, hb⟩ : ∃ b, s.data.toList[k]? = some b := ⟨_, List.getElem?_eq_getElem (by simpa using hlt2)⟩
      have HI := @run_idx Tryz.prog 9 s k b hb
      have HB : Aside (s.data.toList[k]? = some b) := hb
      have hk1 : (k : Int) < (s.size : Int) := by omega
      have hraw := dg_rawI b
      have hb256 : b.toNat < 256 := b.toNat_lt
      obtain ⟨n, hn⟩ : ∃ n : Int, n = (b.toNat : Int) := ⟨_, rfl⟩
      have hn0 : 0 ≤ n := by omega
      have hn1 : n < 256 := by omega
      have HN : Aside (n = (b.toNat : Int)) := hn
      rw [← hn] at HI hraw
      clear hb hn hb256
      cases hp : dg false b
      · have hrk2 : r = k := by rw [hrk.out]; exact rn_stop HB.out hp
        subst hrk2
        rw [hp] at hraw
        have hrw := of_decide_eq_false hraw.symm
        have HN2 : Aside (¬ (48 ≤ n ∧ n ≤ 57)) := hrw
        clear hraw hrw hp
        by_cases hrj : r = j2
        · have eE : E = (0, a) := by rw [HEX.out, if_pos hrj]
          subst eE
          subst hrj
          by_cases q : 48 ≤ n
          · have q2 : ¬ n ≤ 57 := fun h => HN2.out ⟨q, h⟩
            go_wp2
            go_ret2
            exact ⟨rfl, _, rfl⟩
          · go_wp2
            go_ret2
            exact ⟨rfl, _, rfl⟩
        · have eE : E = (- vv, r) := by rw [HEX.out, if_neg hrj, HVV.out]
          subst eE
          have bne : ((r : Int) == (j2 : Int)) = false := by simp; omega
          clear hrj
          by_cases q : 48 ≤ n
          · have q2 : ¬ n ≤ 57 := fun h => HN2.out ⟨q, h⟩
            go_wp2
            go_ret2
            exact ⟨by simp, _, rfl⟩
          · go_wp2
            go_ret2
            exact ⟨by simp, _, rfl⟩
      · have hrk3 : r = rn (dg false) s.data.toList (k + 1) := by rw [hrk.out]; exact rn_step HB.out hp
        have HRK : Aside (r = rn (dg false) s.data.toList (k + 1)) := hrk3
        have HKR : Aside (k + 1 ≤ r) := by show k + 1 ≤ r; rw [hrk3]; exact rn_ge _ _ _
        rw [hp] at hraw
        have hrw := of_decide_eq_true hraw.symm
        clear hraw hp hrk3
        obtain ⟨q1, q2⟩ := hrw
        go_wp2
        go_round
        case rel =>
          refine ⟨k + 1, by omega, by omega, by go_num, ?_, HRK.out, HKR.out⟩
          rw [sl_snoc hak HB.out, val_snoc, ← HVV.out, ← HN.out]
        case measure => simp [intOf]; omega
    · have ek : k = s.size := by omega
      subst ek
      have er : r = s.size := by rw [hrk.out]; exact rn_end (by simp)
      by_cases hrj : r = j2
      · have eE : E = (0, a) := by rw [HEX.out, if_pos hrj]
        subst eE
        have bne : ((s.size : Int) == (j2 : Int)) = true := by simp; omega
        clear hrj er
        go_wp2
        go_ret2
        exact ⟨rfl, _, rfl⟩
      · have eE : E = (- vv, s.size) := by rw [HEX.out, if_neg hrj, HVV.out, er]
        subst eE
        have bne : ((s.size : Int) == (j2 : Int)) = false := by simp; omega
        clear hrj er
        go_wp2
        go_ret2
        exact ⟨by simp, _, rfl⟩
set_option maxHeartbeats 4000000 in
theorem rex_plus {s : ByteArray} {a : Nat} {m : UInt8} (hs : s.size ≤ 20000) (hm : (s.data.toList[a]?).map lw = some m) (hc : s.data.toList[a + 1]? = some 43) (w : World) :
    Calls Tryz.prog 49 #[.string s, .int .i64 a, .string ⟨#[m]⟩] w (RPost (ex s.data.toList m a) w) := by
  have hlt : a < s.size := by
    rcases Nat.lt_or_ge a s.size with h1 | h1
    · exact h1
    · rw [List.getElem?_eq_none (by simpa using h1)] at hm
      cases hm
  have HBG := Lib.hid (begins_any (v := ⟨#[m]⟩) hs (Nat.le_of_lt hlt) (by show 1 ≤ 100; decide) w)
  rw [show wd s.data.toList a (⟨#[m]⟩ : ByteArray).data.toList = true from by rw [show (⟨#[m]⟩ : ByteArray).data.toList = [m] from rfl, wd_mark, decide_eq_true hm]] at HBG
  obtain ⟨j1, hj1⟩ : ∃ j1, j1 = a + 1 := ⟨_, rfl⟩
  have ej1 : (a : Int) + 1 = (j1 : Int) := by omega
  have hj1n : j1 ≤ s.size := by omega
  have hlt1 : j1 < s.size := by
    rcases Nat.lt_or_ge j1 s.size with h1 | h1
    · exact h1
    · rw [List.getElem?_eq_none (by simp; omega)] at hc
      cases hc
  have hlt1' : (j1 : Int) < (s.size : Int) := by omega
  have HJ1 := @run_idx Tryz.prog 9 s j1 43 (by rw [hj1]; exact hc)
  rw [← hj1] at hc
  have HJ1' : ∀ w, (Instr.index 9 (.string s) (.int .i64 (j1 : Int))).run Tryz.prog w = .ok (.int .u8 43) w := HJ1 Tryz.underlying9
  obtain ⟨j2, hj2⟩ : ∃ j2, j2 = j1 + 1 := ⟨_, rfl⟩
  have ej2 : (j1 : Int) + 1 = (j2 : Int) := by omega
  have hj2n : j2 ≤ s.size := by omega
  have hsg : sg s.data.toList j1 = j2 := by unfold sg; rw [hc, hj2]; simp
  have hmi : mi s.data.toList j1 = false := by unfold mi; rw [hc]; rfl
  clear hc hj2 HJ1
  obtain ⟨r, hr⟩ : ∃ r, r = rn (dg false) s.data.toList j2 := ⟨_, rfl⟩
  have HR : Aside (r = rn (dg false) s.data.toList j2) := hr
  have HJR : Aside (j2 ≤ r) := by show j2 ≤ r; rw [hr]; exact rn_ge _ _ _
  have HDG : Aside (∀ k, k ≤ r → ∀ b ∈ sl s.data.toList j2 k, dg false b = true) := fun k hk b hb => mem_run b (by
    rw [← HR.out]
    exact sl_sub hk hb)
  obtain ⟨E, hE⟩ : ∃ E, E = ex s.data.toList m a := ⟨_, rfl⟩
  have HEX : Aside (E = if r = j2 then (0, a) else ( val (sl s.data.toList j2 r), r)) := by
    show E = _
    rw [hE]
    unfold ex
    rw [if_pos hm]
    show (if rn (dg false) s.data.toList (sg s.data.toList (a + 1)) = sg s.data.toList (a + 1) then ((0 : Int), a) else _) = _
    rw [← hj1, hsg, hmi, ← hr]
    rfl
  rw [← hE]
  clear hE hr hj1 hsg hmi hm hlt
  go_enter Tryz.func49, Tryz.ntmps49
  go_wp2_with (go_at_call 16; (with_reducible refine HBG.out.mono ?_); rintro e w2 ⟨rfl, m0, rfl⟩)
  go_loop [10, 11] (fun n i => ∃ k : Nat, j2 ≤ k ∧ k ≤ s.size ∧ i = .int .i64 k ∧ n = .int .i64 (val (sl s.data.toList j2 k)) ∧ Aside (r = rn (dg false) s.data.toList k) ∧ Aside (k ≤ r)) (fun _ i => s.size - (intOf i).toNat)
  case atStart => exact ⟨j2, Nat.le_refl _, by omega, rfl, by rw [sl_self]; rfl, HR.out, HJR.out⟩
  case round =>
    obtain ⟨k, hak, hk, rfl, rfl, hrk, hkr⟩ := hrel
    have hvb := val_bounds (sl s.data.toList j2 k) (fun b hb => HDG.out k hkr.out b hb)
    obtain ⟨vv, hvv⟩ : ∃ vv, vv = val (sl s.data.toList j2 k) := ⟨_, rfl⟩
    have HVV : Aside (vv = val (sl s.data.toList j2 k)) := hvv
    rw [← hvv] at hvb ⊢
    clear hvv
    obtain ⟨hv0, hv1⟩ := hvb
    rcases Nat.lt_or_ge k s.size with hlt2 | hge2
    · obtain ⟨b, hb⟩ : ∃ b, s.data.toList[k]? = some b := ⟨_, List.getElem?_eq_getElem (by simpa using hlt2)⟩
      have HI := @run_idx Tryz.prog 9 s k b hb
      have HB : Aside (s.data.toList[k]? = some b) := hb
      have hk1 : (k : Int) < (s.size : Int) := by omega
      have hraw := dg_rawI b
      have hb256 : b.toNat < 256 := b.toNat_lt
      obtain ⟨n, hn⟩ : ∃ n : Int, n = (b.toNat : Int) := ⟨_, rfl⟩
      have hn0 : 0 ≤ n := by omega
      have hn1 : n < 256 := by omega
      have HN : Aside (n = (b.toNat : Int)) := hn
      rw [← hn] at HI hraw
      clear hb hn hb256
      cases hp : dg false b
      · have hrk2 : r = k := by rw [hrk.out]; exact rn_stop HB.out hp
        subst hrk2
        rw [hp] at hraw
        have hrw := of_decide_eq_false hraw.symm
        have HN2 : Aside (¬ (48 ≤ n ∧ n ≤ 57)) := hrw
        clear hraw hrw hp
        by_cases hrj : r = j2
        · have eE : E = (0, a) := by rw [HEX.out, if_pos hrj]
          subst eE
          subst hrj
          by_cases q : 48 ≤ n
          · have q2 : ¬ n ≤ 57 := fun h => HN2.out ⟨q, h⟩
            go_wp2
            go_ret2
            exact ⟨rfl, _, rfl⟩
          · go_wp2
            go_ret2
            exact ⟨rfl, _, rfl⟩
        · have eE : E = ( vv, r) := by rw [HEX.out, if_neg hrj, HVV.out]
          subst eE
          have bne : ((r : Int) == (j2 : Int)) = false := by simp; omega
          clear hrj
          by_cases q : 48 ≤ n
          · have q2 : ¬ n ≤ 57 := fun h => HN2.out ⟨q, h⟩
            go_wp2
            go_ret2
            exact ⟨rfl, _, rfl⟩
          · go_wp2
            go_ret2
            exact ⟨rfl, _, rfl⟩
      · have hrk3 : r = rn (dg false) s.data.toList (k + 1) := by rw [hrk.out]; exact rn_step HB.out hp
        have HRK : Aside (r = rn (dg false) s.data.toList (k + 1)) := hrk3
        have HKR : Aside (k + 1 ≤ r) := by show k + 1 ≤ r; rw [hrk3]; exact rn_ge _ _ _
        rw [hp] at hraw
        have hrw := of_decide_eq_true hraw.symm
        clear hraw hp hrk3
        obtain ⟨q1, q2⟩ := hrw
        go_wp2
        go_round
        case rel =>
          refine ⟨k + 1, by omega, by omega, by go_num, ?_, HRK.out, HKR.out⟩
          rw [sl_snoc hak HB.out, val_snoc, ← HVV.out, ← HN.out]
        case measure => simp [intOf]; omega
    · have ek : k = s.size := by omega
      subst ek
      have er : r = s.size := by rw [hrk.out]; exact rn_end (by simp)
      by_cases hrj : r = j2
      · have eE : E = (0, a) := by rw [HEX.out, if_pos hrj]
        subst eE
        have bne : ((s.size : Int) == (j2 : Int)) = true := by simp; omega
        clear hrj er
        go_wp2
        go_ret2
        exact ⟨rfl, _, rfl⟩
      · have eE : E = ( vv, s.size) := by rw [HEX.out, if_neg hrj, HVV.out, er]
        subst eE
        have bne : ((s.size : Int) == (j2 : Int)) = false := by simp; omega
        clear hrj er
        go_wp2
        go_ret2
        exact ⟨rfl, _, rfl⟩
set_option maxHeartbeats 4000000 in
theorem rex_other {s : ByteArray} {a : Nat} {m : UInt8} (hs : s.size ≤ 20000) (hm : (s.data.toList[a]?).map lw = some m) {c : UInt8} (hc : s.data.toList[a + 1]? = some c) (h45 : c ≠ 45) (h43 : c ≠ 43) (w : World) :
    Calls Tryz.prog 49 #[.string s, .int .i64 a, .string ⟨#[m]⟩] w (RPost (ex s.data.toList m a) w) := by
  have hlt : a < s.size := by
    rcases Nat.lt_or_ge a s.size with h1 | h1
    · exact h1
    · rw [List.getElem?_eq_none (by simpa using h1)] at hm
      cases hm
  have HBG := Lib.hid (begins_any (v := ⟨#[m]⟩) hs (Nat.le_of_lt hlt) (by show 1 ≤ 100; decide) w)
  rw [show wd s.data.toList a (⟨#[m]⟩ : ByteArray).data.toList = true from by rw [show (⟨#[m]⟩ : ByteArray).data.toList = [m] from rfl, wd_mark, decide_eq_true hm]] at HBG
  obtain ⟨j1, hj1⟩ : ∃ j1, j1 = a + 1 := ⟨_, rfl⟩
  have ej1 : (a : Int) + 1 = (j1 : Int) := by omega
  have hj1n : j1 ≤ s.size := by omega
  have hlt1 : j1 < s.size := by
    rcases Nat.lt_or_ge j1 s.size with h1 | h1
    · exact h1
    · rw [List.getElem?_eq_none (by simp; omega)] at hc
      cases hc
  have hlt1' : (j1 : Int) < (s.size : Int) := by omega
  have HJ1 := @run_idx Tryz.prog 9 s j1 c (by rw [hj1]; exact hc)
  rw [← hj1] at hc
  have b45 : ((c.toNat : Int) == 45) = false := by
    rw [beq_eq_false_iff_ne]
    intro h
    exact h45 (UInt8.toNat_inj.1 (by exact_mod_cast h))
  have b43 : ((c.toNat : Int) == 43) = false := by
    rw [beq_eq_false_iff_ne]
    intro h
    exact h43 (UInt8.toNat_inj.1 (by exact_mod_cast h))
  have hsg : sg s.data.toList j1 = j1 := by unfold sg; rw [hc]; simp [h45, h43]
  have hmi : mi s.data.toList j1 = false := by unfold mi; rw [hc]; simp [h45]
  obtain ⟨cn, hcn⟩ : ∃ cn : Int, cn = (c.toNat : Int) := ⟨_, rfl⟩
  rw [← hcn] at b45 b43 HJ1
  clear hc h45 h43 hcn
  obtain ⟨r, hr⟩ : ∃ r, r = rn (dg false) s.data.toList j1 := ⟨_, rfl⟩
  have HR : Aside (r = rn (dg false) s.data.toList j1) := hr
  have HJR : Aside (j1 ≤ r) := by show j1 ≤ r; rw [hr]; exact rn_ge _ _ _
  have HDG : Aside (∀ k, k ≤ r → ∀ b ∈ sl s.data.toList j1 k, dg false b = true) := fun k hk b hb => mem_run b (by
    rw [← HR.out]
    exact sl_sub hk hb)
  obtain ⟨E, hE⟩ : ∃ E, E = ex s.data.toList m a := ⟨_, rfl⟩
  have HEX : Aside (E = if r = j1 then (0, a) else ( val (sl s.data.toList j1 r), r)) := by
    show E = _
    rw [hE]
    unfold ex
    rw [if_pos hm]
    show (if rn (dg false) s.data.toList (sg s.data.toList (a + 1)) = sg s.data.toList (a + 1) then ((0 : Int), a) else _) = _
    rw [← hj1, hsg, hmi, ← hr]
    rfl
  rw [← hE]
  clear hE hr hj1 hsg hmi hm hlt
  go_enter Tryz.func49, Tryz.ntmps49
  go_wp2_with (go_at_call 16; (with_reducible refine HBG.out.mono ?_); rintro e w2 ⟨rfl, m0, rfl⟩)
  go_loop [10, 11] (fun n i => ∃ k : Nat, j1 ≤ k ∧ k ≤ s.size ∧ i = .int .i64 k ∧ n = .int .i64 (val (sl s.data.toList j1 k)) ∧ Aside (r = rn (dg false) s.data.toList k) ∧ Aside (k ≤ r)) (fun _ i => s.size - (intOf i).toNat)
  case atStart => exact ⟨j1, Nat.le_refl _, by omega, rfl, by rw [sl_self]; rfl, HR.out, HJR.out⟩
  case round =>
    obtain ⟨k, hak, hk, rfl, rfl, hrk, hkr⟩ := hrel
    have hvb := val_bounds (sl s.data.toList j1 k) (fun b hb => HDG.out k hkr.out b hb)
    obtain ⟨vv, hvv⟩ : ∃ vv, vv = val (sl s.data.toList j1 k) := ⟨_, rfl⟩
    have HVV : Aside (vv = val (sl s.data.toList j1 k)) := hvv
    rw [← hvv] at hvb ⊢
    clear hvv
    obtain ⟨hv0, hv1⟩ := hvb
    rcases Nat.lt_or_ge k s.size with hlt2 | hge2
    · obtain ⟨b, hb⟩ : ∃ b, s.data.toList[k]? = some b := ⟨_, List.getElem?_eq_getElem (by simpa using hlt2)⟩
      have HI := @run_idx Tryz.prog 9 s k b hb
      have HB : Aside (s.data.toList[k]? = some b) := hb
      have hk1 : (k : Int) < (s.size : Int) := by omega
      have hraw := dg_rawI b
      have hb256 : b.toNat < 256 := b.toNat_lt
      obtain ⟨n, hn⟩ : ∃ n : Int, n = (b.toNat : Int) := ⟨_, rfl⟩
      have hn0 : 0 ≤ n := by omega
      have hn1 : n < 256 := by omega
      have HN : Aside (n = (b.toNat : Int)) := hn
      rw [← hn] at HI hraw
      clear hb hn hb256
      cases hp : dg false b
      · have hrk2 : r = k := by rw [hrk.out]; exact rn_stop HB.out hp
        subst hrk2
        rw [hp] at hraw
        have hrw := of_decide_eq_false hraw.symm
        have HN2 : Aside (¬ (48 ≤ n ∧ n ≤ 57)) := hrw
        clear hraw hrw hp
        by_cases hrj : r = j1
        · have eE : E = (0, a) := by rw [HEX.out, if_pos hrj]
          subst eE
          subst hrj
          by_cases q : 48 ≤ n
          · have q2 : ¬ n ≤ 57 := fun h => HN2.out ⟨q, h⟩
            go_wp2
            go_ret2
            exact ⟨rfl, _, rfl⟩
          · go_wp2
            go_ret2
            exact ⟨rfl, _, rfl⟩
        · have eE : E = ( vv, r) := by rw [HEX.out, if_neg hrj, HVV.out]
          subst eE
          have bne : ((r : Int) == (j1 : Int)) = false := by simp; omega
          clear hrj
          by_cases q : 48 ≤ n
          · have q2 : ¬ n ≤ 57 := fun h => HN2.out ⟨q, h⟩
            go_wp2
            go_ret2
            exact ⟨rfl, _, rfl⟩
          · go_wp2
            go_ret2
            exact ⟨rfl, _, rfl⟩
      · have hrk3 : r = rn (dg false) s.data.toList (k + 1) := by rw [hrk.out]; exact rn_step HB.out hp
        have HRK : Aside (r = rn (dg false) s.data.toList (k + 1)) := hrk3
        have HKR : Aside (k + 1 ≤ r) := by show k + 1 ≤ r; rw [hrk3]; exact rn_ge _ _ _
        rw [hp] at hraw
        have hrw := of_decide_eq_true hraw.symm
        clear hraw hp hrk3
        obtain ⟨q1, q2⟩ := hrw
        go_wp2
        go_round
        case rel =>
          refine ⟨k + 1, by omega, by omega, by go_num, ?_, HRK.out, HKR.out⟩
          rw [sl_snoc hak HB.out, val_snoc, ← HVV.out, ← HN.out]
        case measure => simp [intOf]; omega
    · have ek : k = s.size := by omega
      subst ek
      have er : r = s.size := by rw [hrk.out]; exact rn_end (by simp)
      by_cases hrj : r = j1
      · have eE : E = (0, a) := by rw [HEX.out, if_pos hrj]
        subst eE
        have bne : ((s.size : Int) == (j1 : Int)) = true := by simp; omega
        clear hrj er
        go_wp2
        go_ret2
        exact ⟨rfl, _, rfl⟩
      · have eE : E = ( vv, s.size) := by rw [HEX.out, if_neg hrj, HVV.out, er]
        subst eE
        have bne : ((s.size : Int) == (j1 : Int)) = false := by simp; omega
        clear hrj er
        go_wp2
        go_ret2
        exact ⟨rfl, _, rfl⟩
theorem rexponent_any {s : ByteArray} {a : Nat} {m : UInt8} (hs : s.size ≤ 20000) (ha : a ≤ s.size) (w : World) :
    Calls Tryz.prog 49 #[.string s, .int .i64 a, .string ⟨#[m]⟩] w (RPost (ex s.data.toList m a) w) := by
  by_cases hm : (s.data.toList[a]?).map lw = some m
  · cases hc : s.data.toList[a + 1]? with
    | none =>
      refine rex_end hs hm ?_ w
      have := List.getElem?_eq_none_iff.1 hc
      simpa using this
    | some c =>
      by_cases h45 : c = 45
      · exact rex_minus hs hm (by rw [hc, h45]) w
      · by_cases h43 : c = 43
        · exact rex_plus hs hm (by rw [hc, h43]) w
        · exact rex_other hs hm hc h45 h43 w
  · have HBG := Lib.hid (begins_any (v := ⟨#[m]⟩) hs ha (by show 1 ≤ 100; decide) w)
    rw [show wd s.data.toList a (⟨#[m]⟩ : ByteArray).data.toList = false from by rw [show (⟨#[m]⟩ : ByteArray).data.toList = [m] from rfl, wd_mark, decide_eq_false hm]] at HBG
    rw [ex_no hm]
    clear hm
    go_enter Tryz.func49, Tryz.ntmps49
    go_wp2_with (go_at_call 16; (with_reducible refine HBG.out.mono ?_); rintro e w2 ⟨rfl, m0, rfl⟩)
    go_ret2
    exact ⟨rfl, _, rfl⟩
end Go.Proofs.YtilnhkflgfajcaaGreatDoor

namespace Go.Proofs.YtilnhkflgfajcaaGreatDoor
open Go.Eng Go.RowKit
set_option maxRecDepth 1000000

/-- The digits of a run, how many stand behind the point, where it ends. -/
def fin (hex : Bool) (t p : List UInt8) (k : Nat) (seen : Bool) (L : List UInt8) (c : Int) : List UInt8 × Int × Nat :=
  let r := rn (dg hex) t k
  if seen then (L ++ (sl t k r).map lw, c + ((r : Int) - k), r)
  else if p.isPrefixOf (t.drop r) then
    let r2 := rn (dg hex) t (r + p.length)
    (L ++ (sl t k r).map lw ++ (sl t (r + p.length) r2).map lw, c + ((r2 : Int) - ((r + p.length : Nat) : Int)), r2)
  else (L ++ (sl t k r).map lw, c, r)
theorem sl_cons {q : UInt8 → Bool} {t : List UInt8} {k : Nat} {b : UInt8} (h : t[k]? = some b) (hb : q b = true) : sl t k (rn q t k) = b :: sl t (k + 1) (rn q t k) := by
  obtain ⟨hi, e⟩ := List.getElem?_eq_some_iff.1 h
  unfold sl
  have h1 : k + 1 ≤ rn q t k := by rw [rn_step h hb]; exact rn_ge _ _ _
  rw [List.drop_eq_getElem_cons hi, e, show rn q t k - k = (rn q t k - (k + 1)) + 1 by omega, List.take_succ_cons]
theorem fin_digit {hex : Bool} {t p : List UInt8} {k : Nat} {seen : Bool} {L : List UInt8} {c : Int} {b : UInt8} (h : t[k]? = some b) (hb : dg hex b = true) :
    fin hex t p k seen L c = fin hex t p (k + 1) seen (L ++ [lw b]) (if seen then c + 1 else c) := by
  simp only [fin]
  rw [sl_cons h hb, rn_step h hb]
  cases seen with
  | true =>
    simp only [if_true, List.map_cons, List.append_assoc, List.singleton_append, Prod.mk.injEq, true_and, and_true]
    push_cast
    omega
  | false =>
    simp only [Bool.false_eq_true, if_false, List.map_cons, List.append_assoc, List.singleton_append]
theorem fin_point {hex : Bool} {t p : List UInt8} {k : Nat} {L : List UInt8} {c : Int} (h : rn (dg hex) t k = k) (hp : p.isPrefixOf (t.drop k) = true) :
    fin hex t p k false L c = fin hex t p (k + p.length) true L c := by
  simp only [fin]
  rw [h]
  simp only [Bool.false_eq_true, if_false, hp, if_true, sl_self, List.map_nil, List.append_nil]
theorem fin_stop {hex : Bool} {t p : List UInt8} {k : Nat} {seen : Bool} {L : List UInt8} {c : Int} (h : rn (dg hex) t k = k) (hp : seen = true ∨ p.isPrefixOf (t.drop k) = false) :
    fin hex t p k seen L c = (L, c, k) := by
  simp only [fin]
  rw [h]
  cases seen with
  | true => simp [sl_self]
  | false =>
    rcases hp with hp | hp
    · cases hp
    · simp [hp, sl_self]
/-- A run's box. -/
abbrev rbox (L : List UInt8) (c e : Int) : Obj := .cells #[.string ⟨⟨L⟩⟩, .int .i64 c, .int .i64 e] 106 (0, 0)
theorem rbox_cells {W : World} {N : Nat} {L : List UInt8} {c x : Int} (e : W.heap[N]? = some (rbox L c x)) :
    (W.cell? ⟨N, 0, none⟩ = some (.string ⟨⟨L⟩⟩) ∧ W.cell? ⟨N, 1, none⟩ = some (.int .i64 c) ∧ W.cell? ⟨N, 2, none⟩ = some (.int .i64 x)) ∧
    (W.frozen? ⟨N, 0, none⟩ = false ∧ W.frozen? ⟨N, 1, none⟩ = false ∧ W.frozen? ⟨N, 2, none⟩ = false) := by
  refine ⟨⟨?_, ?_, ?_⟩, ?_, ?_, ?_⟩
  all_goals first
    | (simp only [World.cell?, e]; rfl)
    | (simp only [World.frozen?, e]; rfl)

def put3 (W : World) (N : Nat) (v0 v1 v2 : Value) : World := ((W.setCell ⟨N, 0, none⟩ v0).setCell ⟨N, 1, none⟩ v1).setCell ⟨N, 2, none⟩ v2
theorem put3_box {W : World} {N : Nat} {L : List UInt8} {c x : Int} (h : W.heap[N]? = some (rbox L c x)) (L' : List UInt8) (c' x' : Int) : (put3 W N (.string ⟨⟨L'⟩⟩) (.int .i64 c') (.int .i64 x')).heap[N]? = some (rbox L' c' x') :=
  cells_set (o := 2) (cells_set (o := 1) (cells_set (o := 0) h _) _) _
theorem put3_below {w w' : World} {n : Nat} (h : Below n w w') (v0 v1 v2 : Value) : Below n w (put3 w' n v0 v1 v2) :=
  ((h.setCell (Nat.le_refl _) _).setCell (Nat.le_refl _) _).setCell (Nat.le_refl _) _
theorem ret48 {R : Ending → World → Prop} {tmps : Array Value} {W : World} {N : Nat} {L : List UInt8} {c x : Int} (h8 : tmps[8]? = some (.pointer (some ⟨N, 0, none⟩)))
    (hb : W.heap[N]? = some (rbox L c x)) (hR : R (.returned (.agg #[.string ⟨⟨L⟩⟩, .int .i64 c, .int .i64 x])) W) : bodyPost Tryz.prog Tryz.f48 R .ret { tmps := tmps, defers := [] } W := by
  obtain ⟨⟨c0, c1, c2⟩, _⟩ := rbox_cells hb
  refine ⟨rfl, _, ?_, hR⟩
  simp [results, Tryz.results48, go_sem, h8, c0, c1, c2]
/-- A byte as a string. -/
theorem conv_one (x : UInt8) (W : World) (N : Nat) (h : W.heap[N]? = some (.cells #[.int .u8 x.toNat] 5 (0, 0))) :
    (convert 53 9 (.slice (some ⟨N, 0, none⟩) 1 1)).run Tryz.prog W = .ok (.string ⟨⟨[x]⟩⟩) W :=
  run_convert_bytes_back W 53 9 5 ⟨N, 0, none⟩ 1 [x] Tryz.underlying53 Tryz.underlying5 Tryz.underlying9 fun j hj => by
    have hj0 : j = 0 := by simpa using hj
    subst hj0
    exact (one_cell h).1
theorem app_box {W : World} {N : Nat} {L : List UInt8} {c : Int} (h : W.heap[N]? = some (rbox L c 0)) (x : UInt8) : ((W.setCell ⟨N, 0, none⟩ (.string (⟨⟨L⟩⟩ ++ ⟨⟨[x]⟩⟩))).drew).heap[N]? = some (rbox (L ++ [x]) c 0) := by
  have e : ((⟨⟨L⟩⟩ : ByteArray) ++ ⟨⟨[x]⟩⟩) = ⟨⟨L ++ [x]⟩⟩ := ByteArray.ext (by simp [ByteArray.data_append])
  rw [e]
  exact cells_set (o := 0) h _
set_option maxHeartbeats 4000000 in
theorem rdigits_any (hex : Bool) {s p : ByteArray} {a : Nat} (hs : s.size ≤ 20000) (ha : a ≤ s.size) (hp0 : 0 < p.size) (hp : p.size ≤ 100) (w : World) :
    Calls Tryz.prog 48 #[.string s, .int .i64 a, .int .i64 (bs hex), .string p] w fun e w' => e = .returned (.agg #[.string ⟨⟨(fin hex s.data.toList p.data.toList a false [] 0).1⟩⟩, .int .i64 (fin hex s.data.toList p.data.toList a false [] 0).2.1, .int .i64 (fin hex s.data.toList p.data.toList a false [] 0).2.2]) ∧ Below w.heap.size w w' := by
  obtain ⟨F, hF⟩ : ∃ F, F = fin hex s.data.toList p.data.toList a false [] 0 := ⟨_, rfl⟩
  have HF : Aside (F = fin hex s.data.toList p.data.toList a false [] 0) := hF
  rw [← hF]
  clear hF
  have HDD := Lib.hid (rdigit_any hex)
  have HSM := Lib.hid rsmall_any
  go_enter Tryz.func48, Tryz.ntmps48
  go_wp2
  go_loopw [1, 10] (fun i sn wr => ∃ (k : Nat) (seen : Bool) (L : List UInt8) (c : Int), k ≤ s.size ∧ i = .int .i64 k ∧ sn = .bool seen ∧ L.length ≤ k ∧ 0 ≤ c ∧ c ≤ k ∧ Aside (F = fin hex s.data.toList p.data.toList k seen L c) ∧ Aside (wr.heap[w.heap.size + 1]? = some (rbox L c 0)) ∧ Aside (wr.heap[w.heap.size]? = some (rbox [] 0 0)) ∧ Aside (Below w.heap.size w wr)) (fun i _ _ => s.size - (intOf i).toNat)
  case atStart =>
    refine ⟨a, false, [], 0, ha, rfl, rfl, Nat.zero_le _, Int.le_refl _, by omega, HF.out, ?_, ?_, ?_⟩
    · exact new_at _ _ (by simp [World.size_alloc])
    · exact at_alloc (new_at _ _ rfl) _
    · exact ((Below.refl _ _).alloc (Nat.le_refl _) _).alloc (by simp [World.size_alloc]) _
  case round =>
    obtain ⟨k, seen, L, c, hk, rfl, rfl, hL, hc0, hc1, hfin, hbx, hb0, hbel⟩ := hrel
    obtain ⟨⟨q0, q1, q2⟩, z0, z1, z2⟩ := rbox_cells hbx.out
    obtain ⟨⟨y0, y1, y2⟩, x0, x1, x2⟩ := rbox_cells hb0.out
    have hsz : w.heap.size + 1 < wr.heap.size := (Array.getElem?_eq_some_iff.1 hbx.out).1
    have HSZ : Aside (w.heap.size + 1 < wr.heap.size) := hsz
    clear hsz
    rcases Nat.lt_or_ge k s.size with hlt2 | hge2
    · obtain ⟨b, hb⟩ : ∃ b, s.data.toList[k]? = some b := ⟨_, List.getElem?_eq_getElem (by simpa using hlt2)⟩
      have HI := @run_idx Tryz.prog 9 s k b hb
      have HB : Aside (s.data.toList[k]? = some b) := hb
      have hk1 : (k : Int) < (s.size : Int) := by omega
      have HBD := Lib.hid fun W => HDD.out b W
      have HBS := Lib.hid fun W => HSM.out b W
      clear hb
      cases hd : dg hex b
      · rw [hd] at HBD
        have hrk : rn (dg hex) s.data.toList k = k := rn_stop HB.out hd
        clear hd
        cases seen with
        | true =>
          have hF2 : F = (L, c, k) := by rw [hfin.out]; exact fin_stop hrk (.inl rfl)
          subst hF2
          clear hrk
          go_wp2_with (go_at_call 112; refine (HBD.out _).mono ?_; rintro e w2 ⟨rfl, rfl⟩)
          refine ret48 (N := w.heap.size) (L := L) (c := c) (x := (k : Int)) (by kernel_rfl) ?_ ?_
          · exact put3_box ((set_far (by omega)).trans hb0.out) _ _ _
          · exact ⟨rfl, put3_below (hbel.out.setCell (by show w.heap.size ≤ w.heap.size + 1; omega) _) _ _ _⟩
        | false =>
          cases hpf : p.data.toList.isPrefixOf (s.data.toList.drop k)
          · have hF2 : F = (L, c, k) := by rw [hfin.out]; exact fin_stop hrk (.inr hpf)
            subst hF2
            have HPF : Aside (p.data.toList.isPrefixOf (s.data.toList.drop k) = false) := hpf
            clear hrk hpf
            rcases Nat.lt_or_ge s.size (k + p.size) with hov | hov
            · have hov1 : (s.size : Int) < (k : Int) + (p.size : Int) := by omega
              go_wp2_with (go_at_call 112; refine (HBD.out _).mono ?_; rintro e w2 ⟨rfl, rfl⟩)
              refine ret48 (N := w.heap.size) (L := L) (c := c) (x := (k : Int)) (by kernel_rfl) ?_ ?_
              · exact put3_box ((set_far (by omega)).trans hb0.out) _ _ _
              · exact ⟨rfl, put3_below (hbel.out.setCell (by show w.heap.size ≤ w.heap.size + 1; omega) _) _ _ _⟩
            · have hov1 : ¬ (s.size : Int) < (k : Int) + (p.size : Int) := by omega
              have hsl := slice_run (s := s) (a := k) (r := k + p.size) (by omega) hov
              push_cast at hsl
              have hne : (sl s.data.toList k (k + p.size) == p.toList) = false := by
                rw [ByteArray.toList_eq, beq_eq_false_iff_ne]
                intro e
                have h1 := HPF.out
                rw [← e] at h1
                rw [show (sl s.data.toList k (k + p.size)).isPrefixOf (s.data.toList.drop k) = true from List.isPrefixOf_iff_prefix.2 (List.take_prefix _ _)] at h1
                cases h1
              go_wp2_with (go_at_call 112; refine (HBD.out _).mono ?_; rintro e w2 ⟨rfl, rfl⟩)
              refine ret48 (N := w.heap.size) (L := L) (c := c) (x := (k : Int)) (by kernel_rfl) ?_ ?_
              · exact put3_box ((set_far (by omega)).trans hb0.out) _ _ _
              · exact ⟨rfl, put3_below (hbel.out.setCell (by show w.heap.size ≤ w.heap.size + 1; omega) _) _ _ _⟩
          · have hpre := List.isPrefixOf_iff_prefix.1 hpf
            have hov : k + p.size ≤ s.size := by
              have := hpre.length_le
              rw [List.length_drop] at this
              have e1 : p.data.toList.length = p.size := by simp
              have e2 : s.data.toList.length = s.size := by simp
              omega
            have hov1 : ¬ (s.size : Int) < (k : Int) + (p.size : Int) := by omega
            have hsl := slice_run (s := s) (a := k) (r := k + p.size) (by omega) hov
            push_cast at hsl
            have heq : (sl s.data.toList k (k + p.size) == p.toList) = true := by
              rw [ByteArray.toList_eq, beq_iff_eq]
              have := List.prefix_iff_eq_take.1 hpre
              unfold sl
              rw [show k + p.size - k = p.data.toList.length by simp]
              exact this.symm
            have HFP : Aside (F = fin hex s.data.toList p.data.toList (k + p.size) true L c) := by
              show F = _
              have := fin_point (p := p.data.toList) (L := L) (c := c) hrk hpf
              rw [hfin.out, this]
              simp
            clear hpre hpf hrk
            go_wp2_with (go_at_call 112; refine (HBD.out _).mono ?_; rintro e w2 ⟨rfl, rfl⟩)
            go_roundw
            case rel => exact ⟨k + p.size, true, L, c, by omega, by go_num, rfl, by omega, hc0, by omega, HFP.out, hbx.out, hb0.out, hbel.out⟩
            case measure => simp [intOf]; omega
      · rw [hd] at HBD
        have HD : Aside (dg hex b = true) := hd
        clear hd
        go_wp2_with (go_at_call 112; refine (HBD.out _).mono ?_; rintro e w2 ⟨rfl, rfl⟩)
        have hcat : ¬ 9223372036854775807 < L.length + 1 := by omega
        have HBXA : Aside ((wr.alloc (.cells #[.int .u8 (lw b).toNat] 5 (0, 0))).heap[w.heap.size + 1]? = some (rbox L c 0)) := at_alloc hbx.out _
        obtain ⟨⟨g0, g1, g2⟩, j0, j1, j2⟩ := rbox_cells HBXA.out
        have hcv := conv_one (lw b) (wr.alloc (.cells #[.int .u8 (lw b).toNat] 5 (0, 0))) wr.heap.size (new_at _ _ rfl)
        have hcv2 := conv_one (lw b) (wr.alloc (.cells #[.int .u8 (lw b).toNat] 5 (0, 0))).drew wr.heap.size (new_at _ _ rfl)
        refine wp_region_held_drew (S := fun W => Below w.heap.size w W) (by kernel_rfl) (hbel.out.trans ⟨rfl, rfl, rfl, Nat.le_refl _, fun _ _ => rfl⟩) (fun hHeld => ?_)
        refine wpAnyH_take (i := 0) (v := (.pointer (some ⟨w.heap.size + 1, 0, none⟩))) rfl (by kernel_rfl) (by kernel_rfl) (by kernel_rfl) (fun _ _ _ h => h) (Or.inl ⟨by rfl, fun wS hSw => ?_⟩) hHeld ?_
        · first | rfl | (go_simp; done) | (go_simp; with_reducible rfl)
        try simp only [Act.put, List.getElem_toArray, List.getElem_cons_zero, List.getElem_cons_succ, List.setIfInBounds_toArray, List.set_cons_zero, List.set_cons_succ]
        refine wpAnyH_take (i := 2) (v := (.string s)) rfl (by kernel_rfl) (by kernel_rfl) (by kernel_rfl) (fun _ _ _ h => h) (Or.inl ⟨by rfl, fun wS hSw => ?_⟩) hHeld ?_
        · first | rfl | (go_simp; done) | (go_simp; with_reducible rfl)
        try simp only [Act.put, List.getElem_toArray, List.getElem_cons_zero, List.getElem_cons_succ, List.setIfInBounds_toArray, List.set_cons_zero, List.set_cons_succ]
        refine wpAnyH_take (i := 3) (v := (.int .i64 k)) rfl (by kernel_rfl) (by kernel_rfl) (by kernel_rfl) (fun _ _ _ h => h) (Or.inl ⟨by rfl, fun wS hSw => ?_⟩) hHeld ?_
        · first | rfl | (go_simp; done) | (go_simp; with_reducible rfl)
        try simp only [Act.put, List.getElem_toArray, List.getElem_cons_zero, List.getElem_cons_succ, List.setIfInBounds_toArray, List.set_cons_zero, List.set_cons_succ]
        refine wpAnyH_take (i := 4) (v := (.int .u8 b.toNat)) rfl (by kernel_rfl) (by kernel_rfl) (by kernel_rfl) (fun _ _ _ h => h) (Or.inl ⟨by rfl, fun wS hSw => ?_⟩) hHeld ?_
        · first | rfl | (go_simp; done) | (go_simp; with_reducible rfl)
        try simp only [Act.put, List.getElem_toArray, List.getElem_cons_zero, List.getElem_cons_succ, List.setIfInBounds_toArray, List.set_cons_zero, List.set_cons_succ]
        refine wpAnyH_ready (rs := [1, 5]) (by kernel_rfl) (by simp) ?_
        refine AllReadyH.cons rfl (fun KC hC => ?_) (AllReadyH.cons rfl (fun KC hC => ?_) AllReadyH.nil)
        · go_simp
          refine hC.out _ _ hHeld (fun hHeld => ?_)
          clear hC KC
          try simp only [Act.put, List.getElem_toArray, List.getElem_cons_zero, List.getElem_cons_succ, List.setIfInBounds_toArray, List.set_cons_zero, List.set_cons_succ]
          refine wpAnyH_ready (rs := [5]) (by kernel_rfl) (by simp) ?_
          refine AllReadyH.cons rfl (fun KC hC => ?_) AllReadyH.nil
          go_simp
          go_at_call 47
          refine (HBS.out _).mono ?_
          rintro e w6 ⟨rfl, rfl⟩
          refine hC.out _ _ hHeld (fun hHeld => ?_)
          clear hC KC
          try simp only [Act.put, List.getElem_toArray, List.getElem_cons_zero, List.getElem_cons_succ, List.setIfInBounds_toArray, List.set_cons_zero, List.set_cons_succ]
          refine wpAnyH_ready (rs := [6]) (by kernel_rfl) (by simp) ?_
          refine AllReadyH.cons rfl (fun KC hC => ?_) AllReadyH.nil
          go_simp
          refine hC.out _ _ (hHeld.alloc (by have := HSZ.out; show w.heap.size ≤ wr.heap.size; omega) _) (fun hHeld => ?_)
          clear hC KC
          try simp only [Act.put, List.getElem_toArray, List.getElem_cons_zero, List.getElem_cons_succ, List.setIfInBounds_toArray, List.set_cons_zero, List.set_cons_succ]
          refine wpAnyH_ready (rs := [7]) (by kernel_rfl) (by simp) ?_
          refine AllReadyH.cons rfl (fun KC hC => ?_) AllReadyH.nil
          go_simp
          refine hC.out _ _ hHeld (fun hHeld => ?_)
          clear hC KC
          try simp only [Act.put, List.getElem_toArray, List.getElem_cons_zero, List.getElem_cons_succ, List.setIfInBounds_toArray, List.set_cons_zero, List.set_cons_succ]
          refine wpAnyH_ready (rs := [8]) (by kernel_rfl) (by simp) ?_
          refine AllReadyH.cons rfl (fun KC hC => ?_) AllReadyH.nil
          go_simp
          refine hC.out _ _ hHeld (fun hHeld => ?_)
          clear hC KC
          try simp only [Act.put, List.getElem_toArray, List.getElem_cons_zero, List.getElem_cons_succ, List.setIfInBounds_toArray, List.set_cons_zero, List.set_cons_succ]
          refine wpAnyH_take (i := 9) (v := (.pointer (some ⟨w.heap.size + 1, 0, none⟩))) rfl (by kernel_rfl) (by kernel_rfl) (by kernel_rfl) (fun _ _ _ h => h) (Or.inl ⟨by rfl, fun wS hSw => ?_⟩) hHeld ?_
          · first | rfl | (go_simp; done) | (go_simp; with_reducible rfl)
          try simp only [Act.put, List.getElem_toArray, List.getElem_cons_zero, List.getElem_cons_succ, List.setIfInBounds_toArray, List.set_cons_zero, List.set_cons_succ]
          refine wpAnyH_ready (rs := [10]) (by kernel_rfl) (by simp) ?_
          refine AllReadyH.cons rfl (fun KC hC => ?_) AllReadyH.nil
          go_simp
          refine hC.out _ _ (hHeld.setCell (by show w.heap.size ≤ w.heap.size + 1; omega) _) (fun hHeld => ?_)
          clear hC KC
          try simp only [Act.put, List.getElem_toArray, List.getElem_cons_zero, List.getElem_cons_succ, List.setIfInBounds_toArray, List.set_cons_zero, List.set_cons_succ]
          refine wpAnyH_done (by kernel_rfl) ?_ _
          have HBX9 : Aside ((((wr.alloc (.cells #[.int .u8 (lw b).toNat] 5 (0, 0))).setCell ⟨w.heap.size + 1, 0, none⟩ (.string (⟨⟨L⟩⟩ ++ ⟨⟨[lw b]⟩⟩))).drew).heap[w.heap.size + 1]? = some (rbox (L ++ [lw b]) c 0)) := app_box HBXA.out (lw b)
          have HB09 : Aside ((((wr.alloc (.cells #[.int .u8 (lw b).toNat] 5 (0, 0))).setCell ⟨w.heap.size + 1, 0, none⟩ (.string (⟨⟨L⟩⟩ ++ ⟨⟨[lw b]⟩⟩))).drew).heap[w.heap.size]? = some (rbox [] 0 0)) := (set_far (W := wr.alloc _) (by omega)).trans (at_alloc hb0.out _)
          have HBEL9 : Aside (Below w.heap.size w (((wr.alloc (.cells #[.int .u8 (lw b).toNat] 5 (0, 0))).setCell ⟨w.heap.size + 1, 0, none⟩ (.string (⟨⟨L⟩⟩ ++ ⟨⟨[lw b]⟩⟩))).drew)) := hHeld
          clear q0 q1 q2 z0 z1 z2 g0 g1 g2 j0 j1 j2 hHeld hcv hcv2 y0 y1 y2 x0 x1 x2
          generalize ((wr.alloc (.cells #[.int .u8 (lw b).toNat] 5 (0, 0))).setCell ⟨w.heap.size + 1, 0, none⟩ (.string (⟨⟨L⟩⟩ ++ ⟨⟨[lw b]⟩⟩))).drew = w9 at *
          obtain ⟨⟨q0, q1, q2⟩, z0, z1, z2⟩ := rbox_cells HBX9.out
          have HF9 : Aside (F = fin hex s.data.toList p.data.toList (k + 1) seen (L ++ [lw b]) (if seen then c + 1 else c)) := hfin.out.trans (fin_digit HB.out HD.out)
          cases seen with
          | false =>
            go_wp2
            go_roundw
            case rel => exact ⟨k + 1, false, L ++ [lw b], c, by omega, by go_num, rfl, by simp; omega, hc0, by omega, HF9.out, HBX9.out, HB09.out, HBEL9.out⟩
            case measure => simp [intOf]; omega
          | true =>
            go_wp2
            go_roundw
            case rel =>
              exact ⟨k + 1, true, L ++ [lw b], c + 1, by omega, by go_num, rfl, by simp; omega, by omega, by omega, HF9.out, cells_set (o := 1) HBX9.out _, (set_far (by omega)).trans HB09.out, HBEL9.out.setCell (by show w.heap.size ≤ w.heap.size + 1; omega) _⟩
            case measure => simp [intOf]; omega
        · go_simp
          go_at_call 47
          refine (HBS.out _).mono ?_
          rintro e w6 ⟨rfl, rfl⟩
          refine hC.out _ _ hHeld (fun hHeld => ?_)
          clear hC KC
          try simp only [Act.put, List.getElem_toArray, List.getElem_cons_zero, List.getElem_cons_succ, List.setIfInBounds_toArray, List.set_cons_zero, List.set_cons_succ]
          refine wpAnyH_ready (rs := [1, 6]) (by kernel_rfl) (by simp) ?_
          refine AllReadyH.cons rfl (fun KC hC => ?_) (AllReadyH.cons rfl (fun KC hC => ?_) AllReadyH.nil)
          · go_simp
            refine hC.out _ _ hHeld (fun hHeld => ?_)
            clear hC KC
            try simp only [Act.put, List.getElem_toArray, List.getElem_cons_zero, List.getElem_cons_succ, List.setIfInBounds_toArray, List.set_cons_zero, List.set_cons_succ]
            refine wpAnyH_ready (rs := [6]) (by kernel_rfl) (by simp) ?_
            refine AllReadyH.cons rfl (fun KC hC => ?_) AllReadyH.nil
            go_simp
            refine hC.out _ _ (hHeld.alloc (by have := HSZ.out; show w.heap.size ≤ wr.heap.size; omega) _) (fun hHeld => ?_)
            clear hC KC
            try simp only [Act.put, List.getElem_toArray, List.getElem_cons_zero, List.getElem_cons_succ, List.setIfInBounds_toArray, List.set_cons_zero, List.set_cons_succ]
            refine wpAnyH_ready (rs := [7]) (by kernel_rfl) (by simp) ?_
            refine AllReadyH.cons rfl (fun KC hC => ?_) AllReadyH.nil
            go_simp
            refine hC.out _ _ hHeld (fun hHeld => ?_)
            clear hC KC
            try simp only [Act.put, List.getElem_toArray, List.getElem_cons_zero, List.getElem_cons_succ, List.setIfInBounds_toArray, List.set_cons_zero, List.set_cons_succ]
            refine wpAnyH_ready (rs := [8]) (by kernel_rfl) (by simp) ?_
            refine AllReadyH.cons rfl (fun KC hC => ?_) AllReadyH.nil
            go_simp
            refine hC.out _ _ hHeld (fun hHeld => ?_)
            clear hC KC
            try simp only [Act.put, List.getElem_toArray, List.getElem_cons_zero, List.getElem_cons_succ, List.setIfInBounds_toArray, List.set_cons_zero, List.set_cons_succ]
            refine wpAnyH_take (i := 9) (v := (.pointer (some ⟨w.heap.size + 1, 0, none⟩))) rfl (by kernel_rfl) (by kernel_rfl) (by kernel_rfl) (fun _ _ _ h => h) (Or.inl ⟨by rfl, fun wS hSw => ?_⟩) hHeld ?_
            · first | rfl | (go_simp; done) | (go_simp; with_reducible rfl)
            try simp only [Act.put, List.getElem_toArray, List.getElem_cons_zero, List.getElem_cons_succ, List.setIfInBounds_toArray, List.set_cons_zero, List.set_cons_succ]
            refine wpAnyH_ready (rs := [10]) (by kernel_rfl) (by simp) ?_
            refine AllReadyH.cons rfl (fun KC hC => ?_) AllReadyH.nil
            go_simp
            refine hC.out _ _ (hHeld.setCell (by show w.heap.size ≤ w.heap.size + 1; omega) _) (fun hHeld => ?_)
            clear hC KC
            try simp only [Act.put, List.getElem_toArray, List.getElem_cons_zero, List.getElem_cons_succ, List.setIfInBounds_toArray, List.set_cons_zero, List.set_cons_succ]
            refine wpAnyH_done (by kernel_rfl) ?_ _
            have HBX9 : Aside ((((wr.alloc (.cells #[.int .u8 (lw b).toNat] 5 (0, 0))).setCell ⟨w.heap.size + 1, 0, none⟩ (.string (⟨⟨L⟩⟩ ++ ⟨⟨[lw b]⟩⟩))).drew).heap[w.heap.size + 1]? = some (rbox (L ++ [lw b]) c 0)) := app_box HBXA.out (lw b)
            have HB09 : Aside ((((wr.alloc (.cells #[.int .u8 (lw b).toNat] 5 (0, 0))).setCell ⟨w.heap.size + 1, 0, none⟩ (.string (⟨⟨L⟩⟩ ++ ⟨⟨[lw b]⟩⟩))).drew).heap[w.heap.size]? = some (rbox [] 0 0)) := (set_far (W := wr.alloc _) (by omega)).trans (at_alloc hb0.out _)
            have HBEL9 : Aside (Below w.heap.size w (((wr.alloc (.cells #[.int .u8 (lw b).toNat] 5 (0, 0))).setCell ⟨w.heap.size + 1, 0, none⟩ (.string (⟨⟨L⟩⟩ ++ ⟨⟨[lw b]⟩⟩))).drew)) := hHeld
            clear q0 q1 q2 z0 z1 z2 g0 g1 g2 j0 j1 j2 hHeld hcv hcv2 y0 y1 y2 x0 x1 x2
            generalize ((wr.alloc (.cells #[.int .u8 (lw b).toNat] 5 (0, 0))).setCell ⟨w.heap.size + 1, 0, none⟩ (.string (⟨⟨L⟩⟩ ++ ⟨⟨[lw b]⟩⟩))).drew = w9 at *
            obtain ⟨⟨q0, q1, q2⟩, z0, z1, z2⟩ := rbox_cells HBX9.out
            have HF9 : Aside (F = fin hex s.data.toList p.data.toList (k + 1) seen (L ++ [lw b]) (if seen then c + 1 else c)) := hfin.out.trans (fin_digit HB.out HD.out)
            cases seen with
            | false =>
              go_wp2
              go_roundw
              case rel => exact ⟨k + 1, false, L ++ [lw b], c, by omega, by go_num, rfl, by simp; omega, hc0, by omega, HF9.out, HBX9.out, HB09.out, HBEL9.out⟩
              case measure => simp [intOf]; omega
            | true =>
              go_wp2
              go_roundw
              case rel =>
                exact ⟨k + 1, true, L ++ [lw b], c + 1, by omega, by go_num, rfl, by simp; omega, by omega, by omega, HF9.out, cells_set (o := 1) HBX9.out _, (set_far (by omega)).trans HB09.out, HBEL9.out.setCell (by show w.heap.size ≤ w.heap.size + 1; omega) _⟩
              case measure => simp [intOf]; omega
          · go_simp
            refine hC.out _ _ (hHeld.alloc (by have := HSZ.out; show w.heap.size ≤ wr.heap.size; omega) _) (fun hHeld => ?_)
            clear hC KC
            try simp only [Act.put, List.getElem_toArray, List.getElem_cons_zero, List.getElem_cons_succ, List.setIfInBounds_toArray, List.set_cons_zero, List.set_cons_succ]
            refine wpAnyH_ready (rs := [1, 7]) (by kernel_rfl) (by simp) ?_
            refine AllReadyH.cons rfl (fun KC hC => ?_) (AllReadyH.cons rfl (fun KC hC => ?_) AllReadyH.nil)
            · go_simp
              refine hC.out _ _ hHeld (fun hHeld => ?_)
              clear hC KC
              try simp only [Act.put, List.getElem_toArray, List.getElem_cons_zero, List.getElem_cons_succ, List.setIfInBounds_toArray, List.set_cons_zero, List.set_cons_succ]
              refine wpAnyH_ready (rs := [7]) (by kernel_rfl) (by simp) ?_
              refine AllReadyH.cons rfl (fun KC hC => ?_) AllReadyH.nil
              go_simp
              refine hC.out _ _ hHeld (fun hHeld => ?_)
              clear hC KC
              try simp only [Act.put, List.getElem_toArray, List.getElem_cons_zero, List.getElem_cons_succ, List.setIfInBounds_toArray, List.set_cons_zero, List.set_cons_succ]
              refine wpAnyH_ready (rs := [8]) (by kernel_rfl) (by simp) ?_
              refine AllReadyH.cons rfl (fun KC hC => ?_) AllReadyH.nil
              go_simp
              refine hC.out _ _ hHeld (fun hHeld => ?_)
              clear hC KC
              try simp only [Act.put, List.getElem_toArray, List.getElem_cons_zero, List.getElem_cons_succ, List.setIfInBounds_toArray, List.set_cons_zero, List.set_cons_succ]
              refine wpAnyH_take (i := 9) (v := (.pointer (some ⟨w.heap.size + 1, 0, none⟩))) rfl (by kernel_rfl) (by kernel_rfl) (by kernel_rfl) (fun _ _ _ h => h) (Or.inl ⟨by rfl, fun wS hSw => ?_⟩) hHeld ?_
              · first | rfl | (go_simp; done) | (go_simp; with_reducible rfl)
              try simp only [Act.put, List.getElem_toArray, List.getElem_cons_zero, List.getElem_cons_succ, List.setIfInBounds_toArray, List.set_cons_zero, List.set_cons_succ]
              refine wpAnyH_ready (rs := [10]) (by kernel_rfl) (by simp) ?_
              refine AllReadyH.cons rfl (fun KC hC => ?_) AllReadyH.nil
              go_simp
              refine hC.out _ _ (hHeld.setCell (by show w.heap.size ≤ w.heap.size + 1; omega) _) (fun hHeld => ?_)
              clear hC KC
              try simp only [Act.put, List.getElem_toArray, List.getElem_cons_zero, List.getElem_cons_succ, List.setIfInBounds_toArray, List.set_cons_zero, List.set_cons_succ]
              refine wpAnyH_done (by kernel_rfl) ?_ _
              have HBX9 : Aside ((((wr.alloc (.cells #[.int .u8 (lw b).toNat] 5 (0, 0))).setCell ⟨w.heap.size + 1, 0, none⟩ (.string (⟨⟨L⟩⟩ ++ ⟨⟨[lw b]⟩⟩))).drew).heap[w.heap.size + 1]? = some (rbox (L ++ [lw b]) c 0)) := app_box HBXA.out (lw b)
              have HB09 : Aside ((((wr.alloc (.cells #[.int .u8 (lw b).toNat] 5 (0, 0))).setCell ⟨w.heap.size + 1, 0, none⟩ (.string (⟨⟨L⟩⟩ ++ ⟨⟨[lw b]⟩⟩))).drew).heap[w.heap.size]? = some (rbox [] 0 0)) := (set_far (W := wr.alloc _) (by omega)).trans (at_alloc hb0.out _)
              have HBEL9 : Aside (Below w.heap.size w (((wr.alloc (.cells #[.int .u8 (lw b).toNat] 5 (0, 0))).setCell ⟨w.heap.size + 1, 0, none⟩ (.string (⟨⟨L⟩⟩ ++ ⟨⟨[lw b]⟩⟩))).drew)) := hHeld
              clear q0 q1 q2 z0 z1 z2 g0 g1 g2 j0 j1 j2 hHeld hcv hcv2 y0 y1 y2 x0 x1 x2
              generalize ((wr.alloc (.cells #[.int .u8 (lw b).toNat] 5 (0, 0))).setCell ⟨w.heap.size + 1, 0, none⟩ (.string (⟨⟨L⟩⟩ ++ ⟨⟨[lw b]⟩⟩))).drew = w9 at *
              obtain ⟨⟨q0, q1, q2⟩, z0, z1, z2⟩ := rbox_cells HBX9.out
              have HF9 : Aside (F = fin hex s.data.toList p.data.toList (k + 1) seen (L ++ [lw b]) (if seen then c + 1 else c)) := hfin.out.trans (fin_digit HB.out HD.out)
              cases seen with
              | false =>
                go_wp2
                go_roundw
                case rel => exact ⟨k + 1, false, L ++ [lw b], c, by omega, by go_num, rfl, by simp; omega, hc0, by omega, HF9.out, HBX9.out, HB09.out, HBEL9.out⟩
                case measure => simp [intOf]; omega
              | true =>
                go_wp2
                go_roundw
                case rel =>
                  exact ⟨k + 1, true, L ++ [lw b], c + 1, by omega, by go_num, rfl, by simp; omega, by omega, by omega, HF9.out, cells_set (o := 1) HBX9.out _, (set_far (by omega)).trans HB09.out, HBEL9.out.setCell (by show w.heap.size ≤ w.heap.size + 1; omega) _⟩
                case measure => simp [intOf]; omega
            · go_simp
              refine hC.out _ _ hHeld (fun hHeld => ?_)
              clear hC KC
              try simp only [Act.put, List.getElem_toArray, List.getElem_cons_zero, List.getElem_cons_succ, List.setIfInBounds_toArray, List.set_cons_zero, List.set_cons_succ]
              refine wpAnyH_ready (rs := [1]) (by kernel_rfl) (by simp) ?_
              refine AllReadyH.cons rfl (fun KC hC => ?_) AllReadyH.nil
              go_simp
              refine hC.out _ _ hHeld (fun hHeld => ?_)
              clear hC KC
              try simp only [Act.put, List.getElem_toArray, List.getElem_cons_zero, List.getElem_cons_succ, List.setIfInBounds_toArray, List.set_cons_zero, List.set_cons_succ]
              refine wpAnyH_ready (rs := [8]) (by kernel_rfl) (by simp) ?_
              refine AllReadyH.cons rfl (fun KC hC => ?_) AllReadyH.nil
              go_simp
              refine hC.out _ _ hHeld (fun hHeld => ?_)
              clear hC KC
              try simp only [Act.put, List.getElem_toArray, List.getElem_cons_zero, List.getElem_cons_succ, List.setIfInBounds_toArray, List.set_cons_zero, List.set_cons_succ]
              refine wpAnyH_take (i := 9) (v := (.pointer (some ⟨w.heap.size + 1, 0, none⟩))) rfl (by kernel_rfl) (by kernel_rfl) (by kernel_rfl) (fun _ _ _ h => h) (Or.inl ⟨by rfl, fun wS hSw => ?_⟩) hHeld ?_
              · first | rfl | (go_simp; done) | (go_simp; with_reducible rfl)
              try simp only [Act.put, List.getElem_toArray, List.getElem_cons_zero, List.getElem_cons_succ, List.setIfInBounds_toArray, List.set_cons_zero, List.set_cons_succ]
              refine wpAnyH_ready (rs := [10]) (by kernel_rfl) (by simp) ?_
              refine AllReadyH.cons rfl (fun KC hC => ?_) AllReadyH.nil
              go_simp
              refine hC.out _ _ (hHeld.setCell (by show w.heap.size ≤ w.heap.size + 1; omega) _) (fun hHeld => ?_)
              clear hC KC
              try simp only [Act.put, List.getElem_toArray, List.getElem_cons_zero, List.getElem_cons_succ, List.setIfInBounds_toArray, List.set_cons_zero, List.set_cons_succ]
              refine wpAnyH_done (by kernel_rfl) ?_ _
              have HBX9 : Aside ((((wr.alloc (.cells #[.int .u8 (lw b).toNat] 5 (0, 0))).setCell ⟨w.heap.size + 1, 0, none⟩ (.string (⟨⟨L⟩⟩ ++ ⟨⟨[lw b]⟩⟩))).drew).heap[w.heap.size + 1]? = some (rbox (L ++ [lw b]) c 0)) := app_box HBXA.out (lw b)
              have HB09 : Aside ((((wr.alloc (.cells #[.int .u8 (lw b).toNat] 5 (0, 0))).setCell ⟨w.heap.size + 1, 0, none⟩ (.string (⟨⟨L⟩⟩ ++ ⟨⟨[lw b]⟩⟩))).drew).heap[w.heap.size]? = some (rbox [] 0 0)) := (set_far (W := wr.alloc _) (by omega)).trans (at_alloc hb0.out _)
              have HBEL9 : Aside (Below w.heap.size w (((wr.alloc (.cells #[.int .u8 (lw b).toNat] 5 (0, 0))).setCell ⟨w.heap.size + 1, 0, none⟩ (.string (⟨⟨L⟩⟩ ++ ⟨⟨[lw b]⟩⟩))).drew)) := hHeld
              clear q0 q1 q2 z0 z1 z2 g0 g1 g2 j0 j1 j2 hHeld hcv hcv2 y0 y1 y2 x0 x1 x2
              generalize ((wr.alloc (.cells #[.int .u8 (lw b).toNat] 5 (0, 0))).setCell ⟨w.heap.size + 1, 0, none⟩ (.string (⟨⟨L⟩⟩ ++ ⟨⟨[lw b]⟩⟩))).drew = w9 at *
              obtain ⟨⟨q0, q1, q2⟩, z0, z1, z2⟩ := rbox_cells HBX9.out
              have HF9 : Aside (F = fin hex s.data.toList p.data.toList (k + 1) seen (L ++ [lw b]) (if seen then c + 1 else c)) := hfin.out.trans (fin_digit HB.out HD.out)
              cases seen with
              | false =>
                go_wp2
                go_roundw
                case rel => exact ⟨k + 1, false, L ++ [lw b], c, by omega, by go_num, rfl, by simp; omega, hc0, by omega, HF9.out, HBX9.out, HB09.out, HBEL9.out⟩
                case measure => simp [intOf]; omega
              | true =>
                go_wp2
                go_roundw
                case rel =>
                  exact ⟨k + 1, true, L ++ [lw b], c + 1, by omega, by go_num, rfl, by simp; omega, by omega, by omega, HF9.out, cells_set (o := 1) HBX9.out _, (set_far (by omega)).trans HB09.out, HBEL9.out.setCell (by show w.heap.size ≤ w.heap.size + 1; omega) _⟩
                case measure => simp [intOf]; omega
    · have ek : k = s.size := by omega
      have hF2 : F = (L, c, k) := by
        rw [hfin.out]
        refine fin_stop (rn_end (by simp; omega)) (.inr ?_)
        rw [List.drop_eq_nil_of_le (by simp; omega)]
        cases hpl : p.data.toList with
        | nil =>
          have : p.data.toList.length = p.size := by simp
          rw [hpl] at this
          simp at this
          omega
        | cons _ _ => rfl
      subst hF2
      subst ek
      go_wp2
      refine ret48 (N := w.heap.size) (L := L) (c := c) (x := (s.size : Int)) (by kernel_rfl) ?_ ?_
      · exact put3_box ((set_far (by omega)).trans hb0.out) _ _ _
      · exact ⟨rfl, put3_below (hbel.out.setCell (by show w.heap.size ≤ w.heap.size + 1; omega) _) _ _ _⟩
end Go.Proofs.YtilnhkflgfajcaaGreatDoor
