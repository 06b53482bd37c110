/- What fact, Has and Union of the law and of its reference implementation return, for every fact and value. Conditions: none. -/
import Derived.Test.YtdfdhobfodljbaaGreatDoorRows
import Derived.KernelRfl
import Derived.WalkKit
import Derived.RegionTactic
import Derived.ChangeAlike
import Derived.LoopTactic
import Derived.Outline
import Derived.Lib.Hide
set_option linter.all false
namespace Go.Proofs.YtdfdhobfodljbaaGreatDoor
open Go.RowKit

/-- A fact as a value. -/
abbrev fv (k l h : Int) : Value := .agg #[.int .i64 k, .int .i64 l, .int .i64 h]
abbrev rv (k : Int) (s : ByteArray) (n : Int) : Value := .agg #[.int .i64 k, .string s, .int .i64 n]

set_option maxHeartbeats 400000 in
theorem fact_lo (k l h : Int) (w : World) (hk : k < 0) :
    Calls Tryz.prog 5 #[fv k l h] w fun e w' => e = .returned (.bool false) ∧ Below w.heap.size w w' := by
  go_enter Tryz.func5, Tryz.ntmps5
  go_wp2
  go_ret
  exact ⟨rfl, (Below.refl _ _).alloc (Nat.le_refl _) _⟩

set_option maxHeartbeats 400000 in
theorem fact_hi (k l h : Int) (w : World) (hk : 7 < k) :
    Calls Tryz.prog 5 #[fv k l h] w fun e w' => e = .returned (.bool false) ∧ Below w.heap.size w w' := by
  go_enter Tryz.func5, Tryz.ntmps5
  go_wp2
  go_ret
  exact ⟨rfl, (Below.refl _ _).alloc (Nat.le_refl _) _⟩

theorem eight {k : Int} (h0 : 0 ≤ k) (h7 : k ≤ 7) : k = 0 ∨ k = 1 ∨ k = 2 ∨ k = 3 ∨ k = 4 ∨ k = 5 ∨ k = 6 ∨ k = 7 := by omega

set_option maxHeartbeats 800000 in
theorem fact_small (k l h : Int) (w : World) (h0 : 0 ≤ k) (h3 : k ≤ 3) :
    Calls Tryz.prog 5 #[fv k l h] w fun e w' => e = .returned (.bool (decide (l = 0) && decide (h = 0))) ∧ Below w.heap.size w w' := by
  rcases (show k = 0 ∨ k = 1 ∨ k = 2 ∨ k = 3 by omega) with rfl | rfl | rfl | rfl
  all_goals
    clear h0 h3
    by_cases hl : l = 0
    · subst hl
      by_cases hh : h = 0
      · subst hh
        go_enter Tryz.func5, Tryz.ntmps5
        go_wp2
        go_ret
        exact ⟨rfl, (Below.refl _ _).alloc (Nat.le_refl _) _⟩
      · have hb : (h == 0) = false := by simpa using hh
        have hd : decide (h = 0) = false := by simpa using hh
        rw [hd]
        clear hh hd
        go_enter Tryz.func5, Tryz.ntmps5
        go_wp2
        go_ret
        exact ⟨rfl, (Below.refl _ _).alloc (Nat.le_refl _) _⟩
    · have hb : (l == 0) = false := by simpa using hl
      have hd : decide (l = 0) = false := by simpa using hl
      rw [hd]
      clear hl hd
      go_enter Tryz.func5, Tryz.ntmps5
      go_wp2
      go_ret
      exact ⟨rfl, (Below.refl _ _).alloc (Nat.le_refl _) _⟩

set_option maxHeartbeats 800000 in
theorem fact_big (k l h : Int) (w : World) (h0 : 4 ≤ k) (h3 : k ≤ 7) :
    Calls Tryz.prog 5 #[fv k l h] w fun e w' => e = .returned (.bool (decide (l ≤ h))) ∧ Below w.heap.size w w' := by
  rcases (show k = 4 ∨ k = 5 ∨ k = 6 ∨ k = 7 by omega) with rfl | rfl | rfl | rfl
  all_goals
    clear h0 h3
    go_enter Tryz.func5, Tryz.ntmps5
    go_wp2
    go_ret
    exact ⟨rfl, (Below.refl _ _).alloc (Nat.le_refl _) _⟩
end Go.Proofs.YtdfdhobfodljbaaGreatDoor

namespace Go.Proofs.YtdfdhobfodljbaaGreatDoor
open Go.RowKit

def bitB (k : Int) (i : Nat) : Bool := k.toNat.testBit i
/-- What a fact says of a value. -/
def hasB (k l h c n : Int) : Bool :=
  if c = 0 then bitB k 0 else if c = 1 then bitB k 1 else if c = 2 then bitB k 2 && (decide (l ≤ n) && decide (n ≤ h)) else false

set_option maxHeartbeats 400000 in
theorem has_lo (k l h c n : Int) (s : ByteArray) (w : World) (hc : c < 0) :
    Calls Tryz.prog 8 #[fv k l h, rv c s n] w fun e w' => e = .returned (.bool false) ∧ Below w.heap.size w w' := by
  go_enter Tryz.func8, Tryz.ntmps8
  go_wp2
  go_ret
  exact ⟨rfl, ((Below.refl _ _).alloc (Nat.le_refl _) _).alloc (by simp) _⟩

set_option maxHeartbeats 400000 in
theorem has_hi (k l h c n : Int) (s : ByteArray) (w : World) (hc : 2 < c) :
    Calls Tryz.prog 8 #[fv k l h, rv c s n] w fun e w' => e = .returned (.bool false) ∧ Below w.heap.size w w' := by
  go_enter Tryz.func8, Tryz.ntmps8
  go_wp2
  go_ret
  exact ⟨rfl, ((Below.refl _ _).alloc (Nat.le_refl _) _).alloc (by simp) _⟩

set_option maxHeartbeats 2000000 in
theorem has_01 (k l h c n : Int) (s : ByteArray) (w : World) (h0 : 0 ≤ k) (h7 : k ≤ 7) (hc : c = 0 ∨ c = 1) :
    Calls Tryz.prog 8 #[fv k l h, rv c s n] w fun e w' => e = .returned (.bool (hasB k l h c n)) ∧ Below w.heap.size w w' := by
  rcases eight h0 h7 with rfl | rfl | rfl | rfl | rfl | rfl | rfl | rfl <;> rcases hc with rfl | rfl
  all_goals
    clear h0 h7
    go_enter Tryz.func8, Tryz.ntmps8
    go_wp2
    go_ret
    exact ⟨rfl, ((Below.refl _ _).alloc (Nat.le_refl _) _).alloc (by simp) _⟩

theorem hasB_2no {k l h n : Int} (hb : bitB k 2 = false) : hasB k l h 2 n = false := by simp [hasB, hb]
theorem hasB_2 {k l h n : Int} (hb : bitB k 2 = true) : hasB k l h 2 n = (decide (l ≤ n) && decide (n ≤ h)) := by simp [hasB, hb]

set_option maxHeartbeats 2000000 in
theorem has_2 (k l h n : Int) (s : ByteArray) (w : World) (h0 : 0 ≤ k) (h7 : k ≤ 7) :
    Calls Tryz.prog 8 #[fv k l h, rv 2 s n] w fun e w' => e = .returned (.bool (hasB k l h 2 n)) ∧ Below w.heap.size w w' := by
  rcases (show (k = 0 ∨ k = 1 ∨ k = 2 ∨ k = 3) ∨ (k = 4 ∨ k = 5 ∨ k = 6 ∨ k = 7) by omega) with hk | hk
  · rcases hk with rfl | rfl | rfl | rfl
    all_goals
      clear h0 h7
      rw [hasB_2no (by decide)]
      go_enter Tryz.func8, Tryz.ntmps8
      go_wp2
      go_ret
      exact ⟨rfl, ((Below.refl _ _).alloc (Nat.le_refl _) _).alloc (by simp) _⟩
  · rcases hk with rfl | rfl | rfl | rfl
    all_goals
      clear h0 h7
      rw [hasB_2 (by decide)]
      by_cases hl : l ≤ n
      · by_cases hh : n ≤ h
        · rw [decide_eq_true hl, decide_eq_true hh]
          go_enter Tryz.func8, Tryz.ntmps8
          go_wp2
          go_ret
          exact ⟨rfl, ((Below.refl _ _).alloc (Nat.le_refl _) _).alloc (by simp) _⟩
        · rw [decide_eq_true hl, decide_eq_false hh]
          go_enter Tryz.func8, Tryz.ntmps8
          go_wp2
          go_ret
          exact ⟨rfl, ((Below.refl _ _).alloc (Nat.le_refl _) _).alloc (by simp) _⟩
      · rw [decide_eq_false hl]
        go_enter Tryz.func8, Tryz.ntmps8
        go_wp2
        go_ret
        exact ⟨rfl, ((Below.refl _ _).alloc (Nat.le_refl _) _).alloc (by simp) _⟩
end Go.Proofs.YtdfdhobfodljbaaGreatDoor

namespace Go.Proofs.YtdfdhobfodljbaaGreatDoor
open Go.RowKit
set_option maxHeartbeats 400000 in
theorem rhas_lo (k l h c n : Int) (s : ByteArray) (w : World) (hc : c < 0) :
    Calls Tryz.prog 9 #[fv k l h, rv c s n] w fun e w' => e = .returned (.bool false) ∧ Below w.heap.size w w' := by
  go_enter Tryz.func9, Tryz.ntmps9
  go_wp2
  go_ret
  exact ⟨rfl, ((Below.refl _ _).alloc (Nat.le_refl _) _).alloc (by simp) _⟩

set_option maxHeartbeats 400000 in
theorem rhas_hi (k l h c n : Int) (s : ByteArray) (w : World) (hc : 2 < c) :
    Calls Tryz.prog 9 #[fv k l h, rv c s n] w fun e w' => e = .returned (.bool false) ∧ Below w.heap.size w w' := by
  go_enter Tryz.func9, Tryz.ntmps9
  go_wp2
  go_ret
  exact ⟨rfl, ((Below.refl _ _).alloc (Nat.le_refl _) _).alloc (by simp) _⟩

set_option maxHeartbeats 2000000 in
theorem rhas_01 (k l h c n : Int) (s : ByteArray) (w : World) (h0 : 0 ≤ k) (h7 : k ≤ 7) (hc : c = 0 ∨ c = 1) :
    Calls Tryz.prog 9 #[fv k l h, rv c s n] w fun e w' => e = .returned (.bool (hasB k l h c n)) ∧ Below w.heap.size w w' := by
  rcases eight h0 h7 with rfl | rfl | rfl | rfl | rfl | rfl | rfl | rfl <;> rcases hc with rfl | rfl
  all_goals
    clear h0 h7
    go_enter Tryz.func9, Tryz.ntmps9
    go_wp2
    go_ret
    exact ⟨rfl, ((Below.refl _ _).alloc (Nat.le_refl _) _).alloc (by simp) _⟩

set_option maxHeartbeats 2000000 in
theorem rhas_2 (k l h n : Int) (s : ByteArray) (w : World) (h0 : 0 ≤ k) (h7 : k ≤ 7) :
    Calls Tryz.prog 9 #[fv k l h, rv 2 s n] w fun e w' => e = .returned (.bool (hasB k l h 2 n)) ∧ Below w.heap.size w w' := by
  rcases (show (k = 0 ∨ k = 1 ∨ k = 2 ∨ k = 3) ∨ (k = 4 ∨ k = 5 ∨ k = 6 ∨ k = 7) by omega) with hk | hk
  · rcases hk with rfl | rfl | rfl | rfl
    all_goals
      clear h0 h7
      rw [hasB_2no (by decide)]
      go_enter Tryz.func9, Tryz.ntmps9
      go_wp2
      go_ret
      exact ⟨rfl, ((Below.refl _ _).alloc (Nat.le_refl _) _).alloc (by simp) _⟩
  · rcases hk with rfl | rfl | rfl | rfl
    all_goals
      clear h0 h7
      rw [hasB_2 (by decide)]
      by_cases hl : l ≤ n
      · by_cases hh : n ≤ h
        · rw [decide_eq_true hl, decide_eq_true hh]
          go_enter Tryz.func9, Tryz.ntmps9
          go_wp2
          go_ret
          exact ⟨rfl, ((Below.refl _ _).alloc (Nat.le_refl _) _).alloc (by simp) _⟩
        · rw [decide_eq_true hl, decide_eq_false hh]
          go_enter Tryz.func9, Tryz.ntmps9
          go_wp2
          go_ret
          exact ⟨rfl, ((Below.refl _ _).alloc (Nat.le_refl _) _).alloc (by simp) _⟩
      · rw [decide_eq_false hl]
        go_enter Tryz.func9, Tryz.ntmps9
        go_wp2
        go_ret
        exact ⟨rfl, ((Below.refl _ _).alloc (Nat.le_refl _) _).alloc (by simp) _⟩

theorem hasB_out {k l h c n : Int} (hc : c < 0 ∨ 2 < c) : hasB k l h c n = false := by
  unfold hasB
  rw [if_neg (by omega), if_neg (by omega), if_neg (by omega)]

theorem has_any (k l h c n : Int) (s : ByteArray) (w : World) (h0 : 0 ≤ k) (h7 : k ≤ 7) :
    Calls Tryz.prog 8 #[fv k l h, rv c s n] w fun e w' => e = .returned (.bool (hasB k l h c n)) ∧ Below w.heap.size w w' := by
  rcases (show c < 0 ∨ 2 < c ∨ (c = 0 ∨ c = 1) ∨ c = 2 by omega) with hc | hc | hc | rfl
  · rw [hasB_out (.inl hc)]; exact has_lo k l h c n s w hc
  · rw [hasB_out (.inr hc)]; exact has_hi k l h c n s w hc
  · exact has_01 k l h c n s w h0 h7 hc
  · exact has_2 k l h n s w h0 h7

theorem rhas_any (k l h c n : Int) (s : ByteArray) (w : World) (h0 : 0 ≤ k) (h7 : k ≤ 7) :
    Calls Tryz.prog 9 #[fv k l h, rv c s n] w fun e w' => e = .returned (.bool (hasB k l h c n)) ∧ Below w.heap.size w w' := by
  rcases (show c < 0 ∨ 2 < c ∨ (c = 0 ∨ c = 1) ∨ c = 2 by omega) with hc | hc | hc | rfl
  · rw [hasB_out (.inl hc)]; exact rhas_lo k l h c n s w hc
  · rw [hasB_out (.inr hc)]; exact rhas_hi k l h c n s w hc
  · exact rhas_01 k l h c n s w h0 h7 hc
  · exact rhas_2 k l h n s w h0 h7
end Go.Proofs.YtdfdhobfodljbaaGreatDoor

namespace Go.Proofs.YtdfdhobfodljbaaGreatDoor
open Go.RowKit
theorem below4 (w : World) (a b c d : Obj) : Below w.heap.size w ((((w.alloc a).alloc b).alloc c).alloc d) :=
  ((((Below.refl _ _).alloc (Nat.le_refl _) _).alloc (by simp) _).alloc (by simp; omega) _).alloc (by simp; omega) _
set_option maxHeartbeats 400000 in
theorem un_nn (ka la ha kb lb hb : Int) (w : World) (ea : (bits BinOp.and IntKind.i64 ka 4 == 0) = false) (eb : (bits BinOp.and IntKind.i64 kb 4 == 0) = false) :
    Calls Tryz.prog 6 #[fv ka la ha, fv kb lb hb] w fun e w' => e = .returned (fv (bits BinOp.or IntKind.i64 ka kb) (min la lb) (max ha hb)) ∧ Below w.heap.size w w' := by
  rcases (show la ≤ lb ∨ lb < la by omega) with hl | hl <;> rcases (show hb ≤ ha ∨ ha < hb by omega) with hh | hh
  · rw [show min la lb = la by omega, show max ha hb = ha by omega]
    go_enter Tryz.func6, Tryz.ntmps6
    go_wp2
    exact bodyPost_ret (v := fv (bits BinOp.or IntKind.i64 ka kb) la ha) (by simp [results, Tryz.results6, go_sem]) rfl ⟨rfl, below4 _ _ _ _ _⟩
  · rw [show min la lb = la by omega, show max ha hb = hb by omega]
    go_enter Tryz.func6, Tryz.ntmps6
    go_wp2
    exact bodyPost_ret (v := fv (bits BinOp.or IntKind.i64 ka kb) la hb) (by simp [results, Tryz.results6, go_sem]) rfl ⟨rfl, below4 _ _ _ _ _⟩
  · rw [show min la lb = lb by omega, show max ha hb = ha by omega]
    go_enter Tryz.func6, Tryz.ntmps6
    go_wp2
    exact bodyPost_ret (v := fv (bits BinOp.or IntKind.i64 ka kb) lb ha) (by simp [results, Tryz.results6, go_sem]) rfl ⟨rfl, below4 _ _ _ _ _⟩
  · rw [show min la lb = lb by omega, show max ha hb = hb by omega]
    go_enter Tryz.func6, Tryz.ntmps6
    go_wp2
    exact bodyPost_ret (v := fv (bits BinOp.or IntKind.i64 ka kb) lb hb) (by simp [results, Tryz.results6, go_sem]) rfl ⟨rfl, below4 _ _ _ _ _⟩
set_option maxHeartbeats 400000 in
theorem un_00 (ka la ha kb lb hb : Int) (w : World) (ea : (bits BinOp.and IntKind.i64 ka 4 == 0) = true) (eb : (bits BinOp.and IntKind.i64 kb 4 == 0) = true) :
    Calls Tryz.prog 6 #[fv ka la ha, fv kb lb hb] w fun e w' => e = .returned (fv (bits BinOp.or IntKind.i64 ka kb) 0 0) ∧ Below w.heap.size w w' := by
  rcases (show la ≤ lb ∨ lb < la by omega) with hl | hl <;> rcases (show hb ≤ ha ∨ ha < hb by omega) with hh | hh
  all_goals
    go_enter Tryz.func6, Tryz.ntmps6
    go_wp2
    exact bodyPost_ret (v := fv (bits BinOp.or IntKind.i64 ka kb) 0 0) (by simp [results, Tryz.results6, go_sem]) rfl ⟨rfl, below4 _ _ _ _ _⟩
set_option maxHeartbeats 800000 in
theorem un_0n (ka la ha kb lb hb : Int) (w : World) (ea : (bits BinOp.and IntKind.i64 ka 4 == 0) = true) (eb : (bits BinOp.and IntKind.i64 kb 4 == 0) = false) :
    Calls Tryz.prog 6 #[fv ka la ha, fv kb lb hb] w fun e w' => e = .returned (fv (bits BinOp.or IntKind.i64 ka kb) lb hb) ∧ Below w.heap.size w w' := by
  rcases (show la ≤ lb ∨ lb < la by omega) with hl | hl <;> rcases (show hb ≤ ha ∨ ha < hb by omega) with hh | hh
  all_goals
    go_enter Tryz.func6, Tryz.ntmps6
    go_wp2
    go_region
    go_wp2
    exact bodyPost_ret (v := fv (bits BinOp.or IntKind.i64 ka kb) lb hb) (by simp [results, Tryz.results6, go_sem]) rfl ⟨rfl, (below4 _ _ _ _ _).drew⟩
set_option maxHeartbeats 800000 in
theorem un_n0 (ka la ha kb lb hb : Int) (w : World) (ea : (bits BinOp.and IntKind.i64 ka 4 == 0) = false) (eb : (bits BinOp.and IntKind.i64 kb 4 == 0) = true) :
    Calls Tryz.prog 6 #[fv ka la ha, fv kb lb hb] w fun e w' => e = .returned (fv (bits BinOp.or IntKind.i64 ka kb) la ha) ∧ Below w.heap.size w w' := by
  rcases (show la ≤ lb ∨ lb < la by omega) with hl | hl <;> rcases (show hb ≤ ha ∨ ha < hb by omega) with hh | hh
  all_goals
    go_enter Tryz.func6, Tryz.ntmps6
    go_wp2
    go_region
    go_wp2
    exact bodyPost_ret (v := fv (bits BinOp.or IntKind.i64 ka kb) la ha) (by simp [results, Tryz.results6, go_sem]) rfl ⟨rfl, (below4 _ _ _ _ _).drew⟩

/-- Kinds of a union. -/
def kU (ka kb : Int) : Int := ((ka.toNat ||| kb.toNat : Nat) : Int)
def lU (ka la kb lb : Int) : Int := if ka < 4 then (if kb < 4 then 0 else lb) else if kb < 4 then la else min la lb
def hU (ka ha kb hb : Int) : Int := if ka < 4 then (if kb < 4 then 0 else hb) else if kb < 4 then ha else max ha hb

theorem and4 {k : Int} (h0 : 0 ≤ k) (h7 : k ≤ 7) : (bits BinOp.and IntKind.i64 k 4 == 0) = decide (k < 4) := by
  rcases eight h0 h7 with rfl | rfl | rfl | rfl | rfl | rfl | rfl | rfl <;> decide +kernel
theorem or8 {ka kb : Int} (a0 : 0 ≤ ka) (a7 : ka ≤ 7) (b0 : 0 ≤ kb) (b7 : kb ≤ 7) : bits BinOp.or IntKind.i64 ka kb = kU ka kb := by
  rcases eight a0 a7 with rfl | rfl | rfl | rfl | rfl | rfl | rfl | rfl <;> rcases eight b0 b7 with rfl | rfl | rfl | rfl | rfl | rfl | rfl | rfl <;> decide +kernel

theorem un_any (ka la ha kb lb hb : Int) (w : World) (a0 : 0 ≤ ka) (a7 : ka ≤ 7) (b0 : 0 ≤ kb) (b7 : kb ≤ 7) :
    Calls Tryz.prog 6 #[fv ka la ha, fv kb lb hb] w fun e w' => e = .returned (fv (kU ka kb) (lU ka la kb lb) (hU ka ha kb hb)) ∧ Below w.heap.size w w' := by
  have ea := and4 a0 a7
  have eb := and4 b0 b7
  rw [← or8 a0 a7 b0 b7]
  by_cases ha4 : ka < 4 <;> by_cases hb4 : kb < 4
  · rw [decide_eq_true ha4] at ea; rw [decide_eq_true hb4] at eb
    rw [show lU ka la kb lb = 0 by simp [lU, ha4, hb4], show hU ka ha kb hb = 0 by simp [hU, ha4, hb4]]
    exact un_00 ka la ha kb lb hb w ea eb
  · rw [decide_eq_true ha4] at ea; rw [decide_eq_false hb4] at eb
    rw [show lU ka la kb lb = lb by simp [lU, ha4, hb4], show hU ka ha kb hb = hb by simp [hU, ha4, hb4]]
    exact un_0n ka la ha kb lb hb w ea eb
  · rw [decide_eq_false ha4] at ea; rw [decide_eq_true hb4] at eb
    rw [show lU ka la kb lb = la by simp [lU, ha4, hb4], show hU ka ha kb hb = ha by simp [hU, ha4, hb4]]
    exact un_n0 ka la ha kb lb hb w ea eb
  · rw [decide_eq_false ha4] at ea; rw [decide_eq_false hb4] at eb
    rw [show lU ka la kb lb = min la lb by simp [lU, ha4, hb4], show hU ka ha kb hb = max ha hb by simp [hU, ha4, hb4]]
    exact un_nn ka la ha kb lb hb w ea eb
end Go.Proofs.YtdfdhobfodljbaaGreatDoor

namespace Go.Proofs.YtdfdhobfodljbaaGreatDoor
open Go.RowKit
set_option maxHeartbeats 400000 in
theorem isn_any (k l h : Int) (w : World) (h0 : 0 ≤ k) (h7 : k ≤ 7) :
    Calls Tryz.prog 15 #[fv k l h] w fun e w' => e = .returned (.bool (decide (4 ≤ k))) ∧ Below w.heap.size w w' := by
  rcases eight h0 h7 with rfl | rfl | rfl | rfl | rfl | rfl | rfl | rfl
  all_goals
    clear h0 h7
    go_enter Tryz.func15, Tryz.ntmps15
    go_wp2
    go_ret
    exact ⟨rfl, (Below.refl _ _).alloc (Nat.le_refl _) _⟩
end Go.Proofs.YtdfdhobfodljbaaGreatDoor

namespace Go.Proofs.YtdfdhobfodljbaaGreatDoor
open Go.RowKit
/-- The kinds below a bit. -/
def pU (ka kb k : Int) : Int := (((ka.toNat ||| kb.toNat) % k.toNat : Nat) : Int)
noncomputable def W4 (w : World) (ka la ha kb lb hb p : Int) : World :=
  (((w.alloc (.cells #[.int .i64 ka, .int .i64 la, .int .i64 ha] 23)).alloc (.cells #[.int .i64 kb, .int .i64 lb, .int .i64 hb] 23)).alloc (.cells #[.int .i64 0, .int .i64 0, .int .i64 0] 23)).alloc (.cells #[.int .i64 p, .int .i64 0, .int .i64 0] 23)

section
variable {ka kb : Int} (a0 : 0 ≤ ka) (a7 : ka ≤ 7) (b0 : 0 ≤ kb) (b7 : kb ≤ 7)
include a0 a7 b0 b7
theorem pU_yes {k : Int} (hk : k = 1 ∨ k = 2 ∨ k = 4) (h : ka / k % 2 = 1 ∨ kb / k % 2 = 1) : pU ka kb (2 * k) = pU ka kb k + k := by
  revert h
  rcases hk with rfl | rfl | rfl <;> rcases eight a0 a7 with rfl | rfl | rfl | rfl | rfl | rfl | rfl | rfl <;> rcases eight b0 b7 with rfl | rfl | rfl | rfl | rfl | rfl | rfl | rfl <;> decide +kernel
theorem pU_no {k : Int} (hk : k = 1 ∨ k = 2 ∨ k = 4) (h1 : ¬ ka / k % 2 = 1) (h2 : ¬ kb / k % 2 = 1) : pU ka kb (2 * k) = pU ka kb k := by
  revert h1 h2
  rcases hk with rfl | rfl | rfl <;> rcases eight a0 a7 with rfl | rfl | rfl | rfl | rfl | rfl | rfl | rfl <;> rcases eight b0 b7 with rfl | rfl | rfl | rfl | rfl | rfl | rfl | rfl <;> decide +kernel
theorem pU_bd {k : Int} : 0 ≤ pU ka kb k ∧ pU ka kb k ≤ 7 := by
  refine ⟨by unfold pU; omega, ?_⟩
  have h1 : ka.toNat < 2 ^ 3 := by omega
  have h2 : kb.toNat < 2 ^ 3 := by omega
  have h3 := Nat.or_lt_two_pow h1 h2
  have h4 : (ka.toNat ||| kb.toNat) % k.toNat ≤ ka.toNat ||| kb.toNat := Nat.mod_le _ _
  unfold pU
  omega
theorem pU_8 : pU ka kb 8 = kU ka kb := by
  rcases eight a0 a7 with rfl | rfl | rfl | rfl | rfl | rfl | rfl | rfl <;> rcases eight b0 b7 with rfl | rfl | rfl | rfl | rfl | rfl | rfl | rfl <;> decide +kernel
omit b0 b7 in
theorem num_a : (ka / 4 % 2 == 1) = !decide (ka < 4) := by
  rcases eight a0 a7 with rfl | rfl | rfl | rfl | rfl | rfl | rfl | rfl <;> decide +kernel
end

theorem W4_eq {w : World} {ka la ha kb lb hb p q : Int} (h : p = q) : W4 w ka la ha kb lb hb p = W4 w ka la ha kb lb hb q := by rw [h]

/-- What the loop leaves: from here on the walk is that of the end. -/
abbrev Ends (ka la ha kb lb hb L H : Int) (w : World) : Ending → World → Prop := fun e w' => e = .returned (fv (kU ka kb) L H) ∧ Below w.heap.size w w'

end Go.Proofs.YtdfdhobfodljbaaGreatDoor

namespace Go.Proofs.YtdfdhobfodljbaaGreatDoor
open Go.RowKit
set_option maxHeartbeats 1000000 in
theorem run_nn1 (ka la ha kb lb hb : Int) (w : World) (a0 : 0 ≤ ka) (a7 : ka ≤ 7) (b0 : 0 ≤ kb) (b7 : kb ≤ 7) (ea : (ka / 4 % 2 == 1) = true) (eb : (kb / 4 % 2 == 1) = true) (hl : la ≤ lb) (hh : hb ≤ ha) :
    Calls Tryz.prog 7 #[fv ka la ha, fv kb lb hb] w (Ends ka la ha kb lb hb la ha w) := by
  go_enter Tryz.func7, Tryz.ntmps7
  go_wp2
  go_loopw [6] (fun i wr => ∃ k : Int, (k = 1 ∨ k = 2 ∨ k = 4 ∨ k = 8) ∧ i = .int .i64 k ∧ wr = W4 w ka la ha kb lb hb (pU ka kb k)) (fun i _ => (8 - intOf i).toNat)
  case atStart => exact ⟨1, .inl rfl, rfl, by unfold W4 pU; simp [Nat.mod_one]⟩
  case round =>
    obtain ⟨k, hk, rfl, rfl⟩ := hrel
    have HY := Lib.hid (fun k : Int => pU_yes a0 a7 b0 b7 (k := k))
    have HN := Lib.hid (fun k : Int => pU_no a0 a7 b0 b7 (k := k))
    have hb := @pU_bd ka kb a0 a7 b0 b7 k
    have h8 := Lib.hid (pU_8 a0 a7 b0 b7)
    obtain ⟨p, hp⟩ : ∃ p, p = pU ka kb k := ⟨_, rfl⟩
    rw [← hp] at hb ⊢
    have HP := Lib.hid hp
    clear hp
    obtain ⟨p0, p7⟩ := hb
    rcases hk with rfl | rfl | rfl | rfl
    · unfold W4
      go_wp2
      all_goals
        go_roundw
        case rel => exact ⟨2, .inr (.inl rfl), rfl, W4_eq (by first | (rw [HP.out]; exact (HY.out 1 (.inl rfl) (by simp_all)).symm) | (rw [HP.out]; exact (HN.out 1 (.inl rfl) (by simp_all) (by simp_all)).symm))⟩
        case measure => simp [intOf]
    · unfold W4
      go_wp2
      all_goals
        go_roundw
        case rel => exact ⟨4, .inr (.inr (.inl rfl)), rfl, W4_eq (by first | (rw [HP.out]; exact (HY.out 2 (.inr (.inl rfl)) (by simp_all)).symm) | (rw [HP.out]; exact (HN.out 2 (.inr (.inl rfl)) (by simp_all) (by simp_all)).symm))⟩
        case measure => simp [intOf]
    · unfold W4
      go_wp2
      all_goals
        go_roundw
        case rel => exact ⟨8, .inr (.inr (.inr rfl)), rfl, W4_eq (by first | (rw [HP.out]; exact (HY.out 4 (.inr (.inr rfl)) (by simp_all)).symm) | (rw [HP.out]; exact (HN.out 4 (.inr (.inr rfl)) (by simp_all) (by simp_all)).symm))⟩
        case measure => simp [intOf]
    · have HK : Hid (p = kU ka kb) := Lib.hid (HP.out.trans h8.out)
      unfold W4
      go_wp2
      exact bodyPost_ret (v := fv p la ha) (by simp [results, Tryz.results7, go_sem]) rfl ⟨by rw [HK.out], by repeat (first | exact Below.refl _ _ | refine Below.alloc ?_ (by simp <;> omega) _ | refine Below.alloc ?_ (by simp) _)⟩
set_option maxHeartbeats 1000000 in
theorem run_nn2 (ka la ha kb lb hb : Int) (w : World) (a0 : 0 ≤ ka) (a7 : ka ≤ 7) (b0 : 0 ≤ kb) (b7 : kb ≤ 7) (ea : (ka / 4 % 2 == 1) = true) (eb : (kb / 4 % 2 == 1) = true) (hl : la ≤ lb) (hh : ha < hb) :
    Calls Tryz.prog 7 #[fv ka la ha, fv kb lb hb] w (Ends ka la ha kb lb hb la hb w) := by
  go_enter Tryz.func7, Tryz.ntmps7
  go_wp2
  go_loopw [6] (fun i wr => ∃ k : Int, (k = 1 ∨ k = 2 ∨ k = 4 ∨ k = 8) ∧ i = .int .i64 k ∧ wr = W4 w ka la ha kb lb hb (pU ka kb k)) (fun i _ => (8 - intOf i).toNat)
  case atStart => exact ⟨1, .inl rfl, rfl, by unfold W4 pU; simp [Nat.mod_one]⟩
  case round =>
    obtain ⟨k, hk, rfl, rfl⟩ := hrel
    have HY := Lib.hid (fun k : Int => pU_yes a0 a7 b0 b7 (k := k))
    have HN := Lib.hid (fun k : Int => pU_no a0 a7 b0 b7 (k := k))
    have hb := @pU_bd ka kb a0 a7 b0 b7 k
    have h8 := Lib.hid (pU_8 a0 a7 b0 b7)
    obtain ⟨p, hp⟩ : ∃ p, p = pU ka kb k := ⟨_, rfl⟩
    rw [← hp] at hb ⊢
    have HP := Lib.hid hp
    clear hp
    obtain ⟨p0, p7⟩ := hb
    rcases hk with rfl | rfl | rfl | rfl
    · unfold W4
      go_wp2
      all_goals
        go_roundw
        case rel => exact ⟨2, .inr (.inl rfl), rfl, W4_eq (by first | (rw [HP.out]; exact (HY.out 1 (.inl rfl) (by simp_all)).symm) | (rw [HP.out]; exact (HN.out 1 (.inl rfl) (by simp_all) (by simp_all)).symm))⟩
        case measure => simp [intOf]
    · unfold W4
      go_wp2
      all_goals
        go_roundw
        case rel => exact ⟨4, .inr (.inr (.inl rfl)), rfl, W4_eq (by first | (rw [HP.out]; exact (HY.out 2 (.inr (.inl rfl)) (by simp_all)).symm) | (rw [HP.out]; exact (HN.out 2 (.inr (.inl rfl)) (by simp_all) (by simp_all)).symm))⟩
        case measure => simp [intOf]
    · unfold W4
      go_wp2
      all_goals
        go_roundw
        case rel => exact ⟨8, .inr (.inr (.inr rfl)), rfl, W4_eq (by first | (rw [HP.out]; exact (HY.out 4 (.inr (.inr rfl)) (by simp_all)).symm) | (rw [HP.out]; exact (HN.out 4 (.inr (.inr rfl)) (by simp_all) (by simp_all)).symm))⟩
        case measure => simp [intOf]
    · have HK : Hid (p = kU ka kb) := Lib.hid (HP.out.trans h8.out)
      unfold W4
      go_wp2
      exact bodyPost_ret (v := fv p la hb) (by simp [results, Tryz.results7, go_sem]) rfl ⟨by rw [HK.out], by repeat (first | exact Below.refl _ _ | refine Below.alloc ?_ (by simp <;> omega) _ | refine Below.alloc ?_ (by simp) _)⟩
set_option maxHeartbeats 1000000 in
theorem run_nn3 (ka la ha kb lb hb : Int) (w : World) (a0 : 0 ≤ ka) (a7 : ka ≤ 7) (b0 : 0 ≤ kb) (b7 : kb ≤ 7) (ea : (ka / 4 % 2 == 1) = true) (eb : (kb / 4 % 2 == 1) = true) (hl : lb < la) (hh : hb ≤ ha) :
    Calls Tryz.prog 7 #[fv ka la ha, fv kb lb hb] w (Ends ka la ha kb lb hb lb ha w) := by
  go_enter Tryz.func7, Tryz.ntmps7
  go_wp2
  go_loopw [6] (fun i wr => ∃ k : Int, (k = 1 ∨ k = 2 ∨ k = 4 ∨ k = 8) ∧ i = .int .i64 k ∧ wr = W4 w ka la ha kb lb hb (pU ka kb k)) (fun i _ => (8 - intOf i).toNat)
  case atStart => exact ⟨1, .inl rfl, rfl, by unfold W4 pU; simp [Nat.mod_one]⟩
  case round =>
    obtain ⟨k, hk, rfl, rfl⟩ := hrel
    have HY := Lib.hid (fun k : Int => pU_yes a0 a7 b0 b7 (k := k))
    have HN := Lib.hid (fun k : Int => pU_no a0 a7 b0 b7 (k := k))
    have hb := @pU_bd ka kb a0 a7 b0 b7 k
    have h8 := Lib.hid (pU_8 a0 a7 b0 b7)
    obtain ⟨p, hp⟩ : ∃ p, p = pU ka kb k := ⟨_, rfl⟩
    rw [← hp] at hb ⊢
    have HP := Lib.hid hp
    clear hp
    obtain ⟨p0, p7⟩ := hb
    rcases hk with rfl | rfl | rfl | rfl
    · unfold W4
      go_wp2
      all_goals
        go_roundw
        case rel => exact ⟨2, .inr (.inl rfl), rfl, W4_eq (by first | (rw [HP.out]; exact (HY.out 1 (.inl rfl) (by simp_all)).symm) | (rw [HP.out]; exact (HN.out 1 (.inl rfl) (by simp_all) (by simp_all)).symm))⟩
        case measure => simp [intOf]
    · unfold W4
      go_wp2
      all_goals
        go_roundw
        case rel => exact ⟨4, .inr (.inr (.inl rfl)), rfl, W4_eq (by first | (rw [HP.out]; exact (HY.out 2 (.inr (.inl rfl)) (by simp_all)).symm) | (rw [HP.out]; exact (HN.out 2 (.inr (.inl rfl)) (by simp_all) (by simp_all)).symm))⟩
        case measure => simp [intOf]
    · unfold W4
      go_wp2
      all_goals
        go_roundw
        case rel => exact ⟨8, .inr (.inr (.inr rfl)), rfl, W4_eq (by first | (rw [HP.out]; exact (HY.out 4 (.inr (.inr rfl)) (by simp_all)).symm) | (rw [HP.out]; exact (HN.out 4 (.inr (.inr rfl)) (by simp_all) (by simp_all)).symm))⟩
        case measure => simp [intOf]
    · have HK : Hid (p = kU ka kb) := Lib.hid (HP.out.trans h8.out)
      unfold W4
      go_wp2
      exact bodyPost_ret (v := fv p lb ha) (by simp [results, Tryz.results7, go_sem]) rfl ⟨by rw [HK.out], by repeat (first | exact Below.refl _ _ | refine Below.alloc ?_ (by simp <;> omega) _ | refine Below.alloc ?_ (by simp) _)⟩
set_option maxHeartbeats 1000000 in
theorem run_nn4 (ka la ha kb lb hb : Int) (w : World) (a0 : 0 ≤ ka) (a7 : ka ≤ 7) (b0 : 0 ≤ kb) (b7 : kb ≤ 7) (ea : (ka / 4 % 2 == 1) = true) (eb : (kb / 4 % 2 == 1) = true) (hl : lb < la) (hh : ha < hb) :
    Calls Tryz.prog 7 #[fv ka la ha, fv kb lb hb] w (Ends ka la ha kb lb hb lb hb w) := by
  go_enter Tryz.func7, Tryz.ntmps7
  go_wp2
  go_loopw [6] (fun i wr => ∃ k : Int, (k = 1 ∨ k = 2 ∨ k = 4 ∨ k = 8) ∧ i = .int .i64 k ∧ wr = W4 w ka la ha kb lb hb (pU ka kb k)) (fun i _ => (8 - intOf i).toNat)
  case atStart => exact ⟨1, .inl rfl, rfl, by unfold W4 pU; simp [Nat.mod_one]⟩
  case round =>
    obtain ⟨k, hk, rfl, rfl⟩ := hrel
    have HY := Lib.hid (fun k : Int => pU_yes a0 a7 b0 b7 (k := k))
    have HN := Lib.hid (fun k : Int => pU_no a0 a7 b0 b7 (k := k))
    have hb := @pU_bd ka kb a0 a7 b0 b7 k
    have h8 := Lib.hid (pU_8 a0 a7 b0 b7)
    obtain ⟨p, hp⟩ : ∃ p, p = pU ka kb k := ⟨_, rfl⟩
    rw [← hp] at hb ⊢
    have HP := Lib.hid hp
    clear hp
    obtain ⟨p0, p7⟩ := hb
    rcases hk with rfl | rfl | rfl | rfl
    · unfold W4
      go_wp2
      all_goals
        go_roundw
        case rel => exact ⟨2, .inr (.inl rfl), rfl, W4_eq (by first | (rw [HP.out]; exact (HY.out 1 (.inl rfl) (by simp_all)).symm) | (rw [HP.out]; exact (HN.out 1 (.inl rfl) (by simp_all) (by simp_all)).symm))⟩
        case measure => simp [intOf]
    · unfold W4
      go_wp2
      all_goals
        go_roundw
        case rel => exact ⟨4, .inr (.inr (.inl rfl)), rfl, W4_eq (by first | (rw [HP.out]; exact (HY.out 2 (.inr (.inl rfl)) (by simp_all)).symm) | (rw [HP.out]; exact (HN.out 2 (.inr (.inl rfl)) (by simp_all) (by simp_all)).symm))⟩
        case measure => simp [intOf]
    · unfold W4
      go_wp2
      all_goals
        go_roundw
        case rel => exact ⟨8, .inr (.inr (.inr rfl)), rfl, W4_eq (by first | (rw [HP.out]; exact (HY.out 4 (.inr (.inr rfl)) (by simp_all)).symm) | (rw [HP.out]; exact (HN.out 4 (.inr (.inr rfl)) (by simp_all) (by simp_all)).symm))⟩
        case measure => simp [intOf]
    · have HK : Hid (p = kU ka kb) := Lib.hid (HP.out.trans h8.out)
      unfold W4
      go_wp2
      exact bodyPost_ret (v := fv p lb hb) (by simp [results, Tryz.results7, go_sem]) rfl ⟨by rw [HK.out], by repeat (first | exact Below.refl _ _ | refine Below.alloc ?_ (by simp <;> omega) _ | refine Below.alloc ?_ (by simp) _)⟩
set_option maxHeartbeats 1000000 in
theorem run_n0 (ka la ha kb lb hb : Int) (w : World) (a0 : 0 ≤ ka) (a7 : ka ≤ 7) (b0 : 0 ≤ kb) (b7 : kb ≤ 7) (ea : (ka / 4 % 2 == 1) = true) (eb : (kb / 4 % 2 == 1) = false) :
    Calls Tryz.prog 7 #[fv ka la ha, fv kb lb hb] w (Ends ka la ha kb lb hb la ha w) := by
  go_enter Tryz.func7, Tryz.ntmps7
  go_wp2
  go_loopw [6] (fun i wr => ∃ k : Int, (k = 1 ∨ k = 2 ∨ k = 4 ∨ k = 8) ∧ i = .int .i64 k ∧ wr = W4 w ka la ha kb lb hb (pU ka kb k)) (fun i _ => (8 - intOf i).toNat)
  case atStart => exact ⟨1, .inl rfl, rfl, by unfold W4 pU; simp [Nat.mod_one]⟩
  case round =>
    obtain ⟨k, hk, rfl, rfl⟩ := hrel
    have HY := Lib.hid (fun k : Int => pU_yes a0 a7 b0 b7 (k := k))
    have HN := Lib.hid (fun k : Int => pU_no a0 a7 b0 b7 (k := k))
    have hb := @pU_bd ka kb a0 a7 b0 b7 k
    have h8 := Lib.hid (pU_8 a0 a7 b0 b7)
    obtain ⟨p, hp⟩ : ∃ p, p = pU ka kb k := ⟨_, rfl⟩
    rw [← hp] at hb ⊢
    have HP := Lib.hid hp
    clear hp
    obtain ⟨p0, p7⟩ := hb
    rcases hk with rfl | rfl | rfl | rfl
    · unfold W4
      go_wp2
      all_goals
        go_roundw
        case rel => exact ⟨2, .inr (.inl rfl), rfl, W4_eq (by first | (rw [HP.out]; exact (HY.out 1 (.inl rfl) (by simp_all)).symm) | (rw [HP.out]; exact (HN.out 1 (.inl rfl) (by simp_all) (by simp_all)).symm))⟩
        case measure => simp [intOf]
    · unfold W4
      go_wp2
      all_goals
        go_roundw
        case rel => exact ⟨4, .inr (.inr (.inl rfl)), rfl, W4_eq (by first | (rw [HP.out]; exact (HY.out 2 (.inr (.inl rfl)) (by simp_all)).symm) | (rw [HP.out]; exact (HN.out 2 (.inr (.inl rfl)) (by simp_all) (by simp_all)).symm))⟩
        case measure => simp [intOf]
    · unfold W4
      go_wp2
      all_goals
        go_roundw
        case rel => exact ⟨8, .inr (.inr (.inr rfl)), rfl, W4_eq (by first | (rw [HP.out]; exact (HY.out 4 (.inr (.inr rfl)) (by simp_all)).symm) | (rw [HP.out]; exact (HN.out 4 (.inr (.inr rfl)) (by simp_all) (by simp_all)).symm))⟩
        case measure => simp [intOf]
    · have HK : Hid (p = kU ka kb) := Lib.hid (HP.out.trans h8.out)
      unfold W4
      go_wp2
      exact bodyPost_ret (v := fv p la ha) (by simp [results, Tryz.results7, go_sem]) rfl ⟨by rw [HK.out], by repeat (first | exact Below.refl _ _ | refine Below.alloc ?_ (by simp <;> omega) _ | refine Below.alloc ?_ (by simp) _)⟩
set_option maxHeartbeats 1000000 in
theorem run_0n (ka la ha kb lb hb : Int) (w : World) (a0 : 0 ≤ ka) (a7 : ka ≤ 7) (b0 : 0 ≤ kb) (b7 : kb ≤ 7) (ea : (ka / 4 % 2 == 1) = false) (eb : (kb / 4 % 2 == 1) = true) :
    Calls Tryz.prog 7 #[fv ka la ha, fv kb lb hb] w (Ends ka la ha kb lb hb lb hb w) := by
  go_enter Tryz.func7, Tryz.ntmps7
  go_wp2
  go_loopw [6] (fun i wr => ∃ k : Int, (k = 1 ∨ k = 2 ∨ k = 4 ∨ k = 8) ∧ i = .int .i64 k ∧ wr = W4 w ka la ha kb lb hb (pU ka kb k)) (fun i _ => (8 - intOf i).toNat)
  case atStart => exact ⟨1, .inl rfl, rfl, by unfold W4 pU; simp [Nat.mod_one]⟩
  case round =>
    obtain ⟨k, hk, rfl, rfl⟩ := hrel
    have HY := Lib.hid (fun k : Int => pU_yes a0 a7 b0 b7 (k := k))
    have HN := Lib.hid (fun k : Int => pU_no a0 a7 b0 b7 (k := k))
    have hb := @pU_bd ka kb a0 a7 b0 b7 k
    have h8 := Lib.hid (pU_8 a0 a7 b0 b7)
    obtain ⟨p, hp⟩ : ∃ p, p = pU ka kb k := ⟨_, rfl⟩
    rw [← hp] at hb ⊢
    have HP := Lib.hid hp
    clear hp
    obtain ⟨p0, p7⟩ := hb
    rcases hk with rfl | rfl | rfl | rfl
    · unfold W4
      go_wp2
      all_goals
        go_roundw
        case rel => exact ⟨2, .inr (.inl rfl), rfl, W4_eq (by first | (rw [HP.out]; exact (HY.out 1 (.inl rfl) (by simp_all)).symm) | (rw [HP.out]; exact (HN.out 1 (.inl rfl) (by simp_all) (by simp_all)).symm))⟩
        case measure => simp [intOf]
    · unfold W4
      go_wp2
      all_goals
        go_roundw
        case rel => exact ⟨4, .inr (.inr (.inl rfl)), rfl, W4_eq (by first | (rw [HP.out]; exact (HY.out 2 (.inr (.inl rfl)) (by simp_all)).symm) | (rw [HP.out]; exact (HN.out 2 (.inr (.inl rfl)) (by simp_all) (by simp_all)).symm))⟩
        case measure => simp [intOf]
    · unfold W4
      go_wp2
      all_goals
        go_roundw
        case rel => exact ⟨8, .inr (.inr (.inr rfl)), rfl, W4_eq (by first | (rw [HP.out]; exact (HY.out 4 (.inr (.inr rfl)) (by simp_all)).symm) | (rw [HP.out]; exact (HN.out 4 (.inr (.inr rfl)) (by simp_all) (by simp_all)).symm))⟩
        case measure => simp [intOf]
    · have HK : Hid (p = kU ka kb) := Lib.hid (HP.out.trans h8.out)
      unfold W4
      go_wp2
      exact bodyPost_ret (v := fv p lb hb) (by simp [results, Tryz.results7, go_sem]) rfl ⟨by rw [HK.out], by repeat (first | exact Below.refl _ _ | refine Below.alloc ?_ (by simp <;> omega) _ | refine Below.alloc ?_ (by simp) _)⟩
set_option maxHeartbeats 1000000 in
theorem run_00 (ka la ha kb lb hb : Int) (w : World) (a0 : 0 ≤ ka) (a7 : ka ≤ 7) (b0 : 0 ≤ kb) (b7 : kb ≤ 7) (ea : (ka / 4 % 2 == 1) = false) (eb : (kb / 4 % 2 == 1) = false) :
    Calls Tryz.prog 7 #[fv ka la ha, fv kb lb hb] w (Ends ka la ha kb lb hb 0 0 w) := by
  go_enter Tryz.func7, Tryz.ntmps7
  go_wp2
  go_loopw [6] (fun i wr => ∃ k : Int, (k = 1 ∨ k = 2 ∨ k = 4 ∨ k = 8) ∧ i = .int .i64 k ∧ wr = W4 w ka la ha kb lb hb (pU ka kb k)) (fun i _ => (8 - intOf i).toNat)
  case atStart => exact ⟨1, .inl rfl, rfl, by unfold W4 pU; simp [Nat.mod_one]⟩
  case round =>
    obtain ⟨k, hk, rfl, rfl⟩ := hrel
    have HY := Lib.hid (fun k : Int => pU_yes a0 a7 b0 b7 (k := k))
    have HN := Lib.hid (fun k : Int => pU_no a0 a7 b0 b7 (k := k))
    have hb := @pU_bd ka kb a0 a7 b0 b7 k
    have h8 := Lib.hid (pU_8 a0 a7 b0 b7)
    obtain ⟨p, hp⟩ : ∃ p, p = pU ka kb k := ⟨_, rfl⟩
    rw [← hp] at hb ⊢
    have HP := Lib.hid hp
    clear hp
    obtain ⟨p0, p7⟩ := hb
    rcases hk with rfl | rfl | rfl | rfl
    · unfold W4
      go_wp2
      all_goals
        go_roundw
        case rel => exact ⟨2, .inr (.inl rfl), rfl, W4_eq (by first | (rw [HP.out]; exact (HY.out 1 (.inl rfl) (by simp_all)).symm) | (rw [HP.out]; exact (HN.out 1 (.inl rfl) (by simp_all) (by simp_all)).symm))⟩
        case measure => simp [intOf]
    · unfold W4
      go_wp2
      all_goals
        go_roundw
        case rel => exact ⟨4, .inr (.inr (.inl rfl)), rfl, W4_eq (by first | (rw [HP.out]; exact (HY.out 2 (.inr (.inl rfl)) (by simp_all)).symm) | (rw [HP.out]; exact (HN.out 2 (.inr (.inl rfl)) (by simp_all) (by simp_all)).symm))⟩
        case measure => simp [intOf]
    · unfold W4
      go_wp2
      all_goals
        go_roundw
        case rel => exact ⟨8, .inr (.inr (.inr rfl)), rfl, W4_eq (by first | (rw [HP.out]; exact (HY.out 4 (.inr (.inr rfl)) (by simp_all)).symm) | (rw [HP.out]; exact (HN.out 4 (.inr (.inr rfl)) (by simp_all) (by simp_all)).symm))⟩
        case measure => simp [intOf]
    · have HK : Hid (p = kU ka kb) := Lib.hid (HP.out.trans h8.out)
      unfold W4
      go_wp2
      exact bodyPost_ret (v := fv p 0 0) (by simp [results, Tryz.results7, go_sem]) rfl ⟨by rw [HK.out], by repeat (first | exact Below.refl _ _ | refine Below.alloc ?_ (by simp <;> omega) _ | refine Below.alloc ?_ (by simp) _)⟩

theorem run_any (ka la ha kb lb hb : Int) (w : World) (a0 : 0 ≤ ka) (a7 : ka ≤ 7) (b0 : 0 ≤ kb) (b7 : kb ≤ 7) :
    Calls Tryz.prog 7 #[fv ka la ha, fv kb lb hb] w fun e w' => e = .returned (fv (kU ka kb) (lU ka la kb lb) (hU ka ha kb hb)) ∧ Below w.heap.size w w' := by
  have ea := num_a a0 a7
  have eb := num_a b0 b7
  by_cases ha4 : ka < 4 <;> by_cases hb4 : kb < 4
  · rw [decide_eq_true ha4] at ea; rw [decide_eq_true hb4] at eb
    rw [show lU ka la kb lb = 0 by simp [lU, ha4, hb4], show hU ka ha kb hb = 0 by simp [hU, ha4, hb4]]
    exact run_00 ka la ha kb lb hb w a0 a7 b0 b7 ea eb
  · rw [decide_eq_true ha4] at ea; rw [decide_eq_false hb4] at eb
    rw [show lU ka la kb lb = lb by simp [lU, ha4, hb4], show hU ka ha kb hb = hb by simp [hU, ha4, hb4]]
    exact run_0n ka la ha kb lb hb w a0 a7 b0 b7 ea eb
  · rw [decide_eq_false ha4] at ea; rw [decide_eq_true hb4] at eb
    rw [show lU ka la kb lb = la by simp [lU, ha4, hb4], show hU ka ha kb hb = ha by simp [hU, ha4, hb4]]
    exact run_n0 ka la ha kb lb hb w a0 a7 b0 b7 ea eb
  · rw [decide_eq_false ha4] at ea; rw [decide_eq_false hb4] at eb
    rw [show lU ka la kb lb = min la lb by simp [lU, ha4, hb4], show hU ka ha kb hb = max ha hb by simp [hU, ha4, hb4]]
    rcases (show la ≤ lb ∨ lb < la by omega) with hl | hl <;> rcases (show hb ≤ ha ∨ ha < hb by omega) with hh | hh
    · rw [show min la lb = la by omega, show max ha hb = ha by omega]; exact run_nn1 ka la ha kb lb hb w a0 a7 b0 b7 ea eb hl hh
    · rw [show min la lb = la by omega, show max ha hb = hb by omega]; exact run_nn2 ka la ha kb lb hb w a0 a7 b0 b7 ea eb hl hh
    · rw [show min la lb = lb by omega, show max ha hb = ha by omega]; exact run_nn3 ka la ha kb lb hb w a0 a7 b0 b7 ea eb hl hh
    · rw [show min la lb = lb by omega, show max ha hb = hb by omega]; exact run_nn4 ka la ha kb lb hb w a0 a7 b0 b7 ea eb hl hh
end Go.Proofs.YtdfdhobfodljbaaGreatDoor
