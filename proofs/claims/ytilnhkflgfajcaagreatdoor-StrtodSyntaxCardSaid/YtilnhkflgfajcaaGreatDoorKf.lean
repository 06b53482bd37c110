/- The scanner's small parts: letters, signs, digits, words, exponents, payloads. Conditions: texts of at most 20000 bytes. -/
import Derived.KernelRfl
import Derived.Test.YtilnhkflgfajcaaGreatDoorKd
import Derived.BigQuiet
import Derived.Deep.QuietTactic
import Derived.Lib.Hide
import Derived.OwnWalk
import Derived.WalkSmall
import Derived.Test.YtilnhkflgfajcaaGreatDoorKe
import Derived.Deep.LoopGhost
import Derived.Deep.RegionHeld3
import Derived.Lib.ConvBytes
set_option linter.all false
namespace Go.Proofs.YtilnhkflgfajcaaGreatDoor
set_option maxRecDepth 1000000

/-- A letter as a small one. -/
def lw (b : UInt8) : UInt8 := if 65 ≤ b.toNat ∧ b.toNat ≤ 90 then b + 32 else b
theorem lw_nat (b : UInt8) : (lw b).toNat = if 65 ≤ b.toNat ∧ b.toNat ≤ 90 then b.toNat + 32 else b.toNat := by
  unfold lw
  split
  · rw [UInt8.toNat_add]
    show (b.toNat + 32) % 256 = _
    omega
  · rfl
/-- White space. -/
def wh (b : UInt8) : Bool := decide ((9 ≤ b.toNat ∧ b.toNat ≤ 13) ∨ b.toNat = 32)
/-- A digit to the base 10, or 16. -/
def dg (hex : Bool) (b : UInt8) : Bool := decide ((48 ≤ b.toNat ∧ b.toNat ≤ 57) ∨ (hex = true ∧ ((97 ≤ b.toNat ∧ b.toNat ≤ 102) ∨ (65 ≤ b.toNat ∧ b.toNat ≤ 70))))
/-- What can stand in a payload. -/
def py (b : UInt8) : Bool := decide ((48 ≤ b.toNat ∧ b.toNat ≤ 57) ∨ (97 ≤ b.toNat ∧ b.toNat ≤ 122) ∨ (65 ≤ b.toNat ∧ b.toNat ≤ 90) ∨ b.toNat = 95)

/-- Where a run of bytes ends that begins at a place. -/
def rn (q : UInt8 → Bool) (t : List UInt8) (i : Nat) : Nat := i + ((t.drop i).takeWhile q).length
theorem rn_ge (q : UInt8 → Bool) (t : List UInt8) (i : Nat) : i ≤ rn q t i := Nat.le_add_right _ _
theorem rn_le (q : UInt8 → Bool) (t : List UInt8) (i : Nat) (h : i ≤ t.length) : rn q t i ≤ t.length := by
  unfold rn
  have h1 := (List.takeWhile_prefix (l := t.drop i) q).length_le
  rw [List.length_drop] at h1
  omega
theorem rn_step {q : UInt8 → Bool} {t : List UInt8} {i : Nat} {b : UInt8} (h : t[i]? = some b) (hb : q b = true) : rn q t i = rn q t (i + 1) := by
  obtain ⟨hi, e⟩ := List.getElem?_eq_some_iff.1 h
  unfold rn
  rw [List.drop_eq_getElem_cons hi, e, List.takeWhile_cons_of_pos hb, List.length_cons]
  omega
theorem rn_stop {q : UInt8 → Bool} {t : List UInt8} {i : Nat} {b : UInt8} (h : t[i]? = some b) (hb : q b = false) : rn q t i = i := by
  obtain ⟨hi, e⟩ := List.getElem?_eq_some_iff.1 h
  unfold rn
  rw [List.drop_eq_getElem_cons hi, e, List.takeWhile_cons_of_neg (by simp [hb])]
  rfl
theorem rn_end {q : UInt8 → Bool} {t : List UInt8} {i : Nat} (h : t.length ≤ i) : rn q t i = i := by
  unfold rn
  rw [List.drop_eq_nil_of_le h]
  rfl
/-- What stands from a place to another. -/
def sl (t : List UInt8) (i j : Nat) : List UInt8 := (t.drop i).take (j - i)
theorem sl_len (t : List UInt8) (i j : Nat) (h : j ≤ t.length) : (sl t i j).length = j - i := by
  unfold sl
  rw [List.length_take, List.length_drop]
  omega
theorem sl_snoc {t : List UInt8} {i j : Nat} {b : UInt8} (hi : i ≤ j) (h : t[j]? = some b) : sl t i (j + 1) = sl t i j ++ [b] := by
  unfold sl
  rw [show j + 1 - i = (j - i) + 1 by omega, List.take_add_one, List.getElem?_drop, show i + (j - i) = j by omega, h]
  rfl
theorem sl_self (t : List UInt8) (i : Nat) : sl t i i = [] := by simp [sl]
theorem mem_run {q : UInt8 → Bool} {t : List UInt8} {i : Nat} (b : UInt8) (h : b ∈ sl t i (rn q t i)) : q b = true := by
  unfold sl rn at h
  rw [Nat.add_sub_cancel_left] at h
  have e : (t.drop i).take ((t.drop i).takeWhile q).length = (t.drop i).takeWhile q := (List.prefix_iff_eq_take.1 (List.takeWhile_prefix q)).symm
  rw [e] at h
  exact (List.all_eq_true.1 (List.all_takeWhile)) b h

/-- Whether a word of small letters stands at a place. -/
def wd (t : List UInt8) (i : Nat) (w : List UInt8) : Bool := ((t.drop i).take w.length).map lw == w
/-- The value of digits, held. -/
def val (l : List UInt8) : Int := l.foldl (fun n b => min 1099511627776 (10 * n + ((b.toNat : Int) - 48))) 0
/-- A sign at a place. -/
def mi (t : List UInt8) (i : Nat) : Bool := t[i]? == some 45
def sg (t : List UInt8) (i : Nat) : Nat := if t[i]? = some 45 ∨ t[i]? = some 43 then i + 1 else i
/-- An exponent: its value and where it ends. -/
def ex (t : List UInt8) (mark : UInt8) (i : Nat) : Int × Nat :=
  if (t[i]?).map lw = some mark then
    let j := sg t (i + 1)
    let k := rn (dg false) t j
    if k = j then (0, i) else (if mi t (i + 1) then - val (sl t j k) else val (sl t j k), k)
  else (0, i)
def lead (l : List UInt8) : List UInt8 := l.dropWhile (· == 48)
def trail (l : List UInt8) : List UInt8 := (l.reverse.dropWhile (· == 48)).reverse
/-- Digits without zeros at their ends, and the exponent. -/
def strip (all : List UInt8) (behind : Nat) (x : Int) (each : Int) : List UInt8 × Int :=
  let a := lead all
  let k := trail a
  (k, if k = [] then 0 else max (-1073741824) (min (x - each * behind + each * ((a.length : Int) - k.length)) 1073741824))
/-- A number: its digits, its exponent, and where it ends. -/
def nm (hex : Bool) (m : UInt8) (un : Int) (t p : List UInt8) (i : Nat) : Option (List UInt8 × Int × Nat) :=
  let a := rn (dg hex) t i
  let has := p.isPrefixOf (t.drop a)
  let b0 := a + p.length
  let b := if has then rn (dg hex) t b0 else a
  let behind := if has then sl t b0 b else []
  let all := sl t i a ++ behind
  if all = [] then none else
    let e := ex t m b
    let s := strip (all.map lw) behind.length e.1 un
    some (s.1, s.2, e.2)
/-- A payload, and where it ends. -/
def pl (t : List UInt8) (i : Nat) : List UInt8 × Nat :=
  if t[i]? = some 40 then
    let j := rn py t (i + 1)
    if t[j]? = some 41 then (sl t (i + 1) j, j + 1) else ([], i)
  else ([], i)
end Go.Proofs.YtilnhkflgfajcaaGreatDoor

namespace Go.Proofs.YtilnhkflgfajcaaGreatDoor
set_option maxRecDepth 1000000

theorem nm_has {hex : Bool} {m : UInt8} {un : Int} {t p : List UInt8} {a a1 b1 : Nat} {A D : List UInt8} (ha1 : a1 = rn (dg hex) t a) (hh : p.isPrefixOf (t.drop a1) = true) (hb1 : b1 = rn (dg hex) t (a1 + p.length))
    (hA : A = (sl t a a1).map lw) (hD : D = (sl t (a1 + p.length) b1).map lw) :
    nm hex m un t p a = if A ++ D = [] then none else some ((strip (A ++ D) D.length (ex t m b1).1 un).1, (strip (A ++ D) D.length (ex t m b1).1 un).2, (ex t m b1).2) := by
  subst ha1 hb1 hA hD
  unfold nm
  simp only [hh, if_true]
  rw [← List.map_append, List.length_map]
  by_cases e : sl t a (rn (dg hex) t a) ++ sl t (rn (dg hex) t a + p.length) (rn (dg hex) t (rn (dg hex) t a + p.length)) = []
  · rw [if_pos e, if_pos (by rw [e]; rfl)]
  · rw [if_neg e, if_neg (by rw [List.map_eq_nil_iff]; exact e)]
theorem nm_none {hex : Bool} {m : UInt8} {un : Int} {t p : List UInt8} {a a1 : Nat} {A : List UInt8} (ha1 : a1 = rn (dg hex) t a) (hh : p.isPrefixOf (t.drop a1) = false)
    (hA : A = (sl t a a1).map lw) :
    nm hex m un t p a = if A = [] then none else some ((strip A 0 (ex t m a1).1 un).1, (strip A 0 (ex t m a1).1 un).2, (ex t m a1).2) := by
  subst ha1 hA
  unfold nm
  simp only [hh, Bool.false_eq_true, if_false, List.append_nil, List.length_nil]
  by_cases e : sl t a (rn (dg hex) t a) = []
  · rw [if_pos e, if_pos (by rw [e]; rfl)]
  · rw [if_neg e, if_neg (by rw [List.map_eq_nil_iff]; exact e)]
end Go.Proofs.YtilnhkflgfajcaaGreatDoor

namespace Go.Proofs.YtilnhkflgfajcaaGreatDoor
open Go.Eng Go.RowKit
set_option maxRecDepth 1000000

theorem run_idx {P : Program} {t : TypeId} {s : ByteArray} {a : Nat} {b : UInt8} (hb : s.data.toList[a]? = some b) (h : P.underlying t = some .string) (w : World) :
    (Instr.index t (.string s) (.int .i64 (a : Int))).run P w = .ok (.int .u8 b.toNat) w := by
  obtain ⟨hl, e⟩ := List.getElem?_eq_some_iff.1 hb
  rw [run_index_string w t s .i64 a h]
  have hl' : a < s.size := by simpa using hl
  rw [dif_pos ⟨by omega, by omega⟩]
  have : s[((a : Int)).toNat]'(by omega) = b := by rw [← e]; rfl
  rw [this]

theorem letter_any (b : UInt8) (w : World) : Calls Tryz.prog 42 #[.int .u8 b.toNat] w fun e w' => e = .returned (.int .u8 (lw b).toNat) ∧ w' = w := by
  have hb : b.toNat < 256 := b.toNat_lt
  rw [lw_nat]
  obtain ⟨n, hn⟩ : ∃ n : Nat, n = b.toNat := ⟨_, rfl⟩
  rw [← hn] at hb ⊢
  clear hn
  by_cases h1 : 65 ≤ n
  · by_cases h2 : n ≤ 90
    · rw [if_pos ⟨h1, h2⟩]
      go_enter Tryz.func42, Tryz.ntmps42
      go_wp2
      go_ret
      refine ⟨?_, rfl⟩
      show Ending.returned (.int .u8 ((n : Int) + 97 - 65)) = .returned (.int .u8 ((n + 32 : Nat) : Int))
      rw [show (n : Int) + 97 - 65 = ((n + 32 : Nat) : Int) by omega]
    · rw [if_neg (fun h => h2 h.2)]
      go_enter Tryz.func42, Tryz.ntmps42
      go_wp2
      go_ret
      exact ⟨rfl, rfl⟩
  · rw [if_neg (fun h => h1 h.1)]
    go_enter Tryz.func42, Tryz.ntmps42
    go_wp2
    go_ret
    exact ⟨rfl, rfl⟩

/-- A reader, as it lies in memory: where it is, its text, its point. -/
def Sc (w : World) (B : Nat) (a : Nat) (s p : ByteArray) : Prop := ∃ T, w.heap[B]? = some (.cells #[.int .i64 a, .string s, .string p] T (0, 0))
theorem Sc.lt {w : World} {B a : Nat} {s p : ByteArray} (h : Sc w B a s p) : B < w.heap.size := by
  obtain ⟨T, h⟩ := h
  exact (Array.getElem?_eq_some_iff.1 h).1
theorem Sc.cells {w : World} {B a : Nat} {s p : ByteArray} (h : Sc w B a s p) :
    w.cell? ⟨B, 0, none⟩ = some (.int .i64 a) ∧ w.cell? ⟨B, 1, none⟩ = some (.string s) ∧ w.cell? ⟨B, 2, none⟩ = some (.string p) ∧ w.frozen? ⟨B, 0, none⟩ = false := by
  obtain ⟨T, e⟩ := h
  refine ⟨?_, ?_, ?_, ?_⟩
  all_goals first
    | (simp only [World.cell?, e]; rfl)
    | (simp only [World.frozen?, e]; rfl)
theorem Sc.below {w w' : World} {B a : Nat} {s p : ByteArray} (h : Sc w B a s p) (hb : Below w.heap.size w w') : Sc w' B a s p := by
  have hl := h.lt
  obtain ⟨T, e⟩ := h
  exact ⟨T, (hb.block B hl).trans e⟩
theorem Sc.set {w : World} {B a : Nat} {s p : ByteArray} (h : Sc w B a s p) (b : Nat) : Sc (w.setCell ⟨B, 0, none⟩ (.int .i64 b)) B b s p := by
  obtain ⟨T, e⟩ := h
  refine ⟨T, ?_⟩
  simp only [World.setCell, Array.getElem?_modify, e]
  rfl
/-- What stands at a place, small; 0 at the end. -/
def pk (t : List UInt8) (a : Nat) : Int := match t[a]? with
  | some b => (lw b).toNat
  | none => 0

theorem peek_any {w : World} {B a : Nat} {s p : ByteArray} (h : Sc w B a s p) (hs : s.size ≤ 20000) (ha : a ≤ s.size) :
    Calls Tryz.prog 43 #[.pointer (some ⟨B, 0, none⟩)] w fun e w' => e = .returned (.int .u8 (pk s.data.toList a)) ∧ ∃ m, w' = w.drewN m := by
  obtain ⟨c0, c1, _, _⟩ := h.cells
  have H0 := h.lt
  have HL := Lib.hid letter_any
  clear h
  rcases Nat.lt_or_ge a s.size with hlt | hge
  · obtain ⟨b, hb⟩ : ∃ b, s.data.toList[a]? = some b := ⟨_, List.getElem?_eq_getElem (by simpa using hlt)⟩
    have HI := @run_idx Tryz.prog 9 s a b hb
    have e : pk s.data.toList a = (lw b).toNat := by unfold pk; rw [hb]
    rw [e]
    clear e hb
    go_enter Tryz.func43, Tryz.ntmps43
    go_wp2
    go_quiet (fail)
    go_wp2
    go_quiet ((go_at_call 42; refine (HL.out b _).mono ?_; rintro e w2 ⟨rfl, rfl⟩; exact ⟨rfl, _, rfl⟩))
    go_wp2
    go_ret
    exact ⟨rfl, _, World.drewN_drewN _ _ _⟩
  · have e : pk s.data.toList a = 0 := by unfold pk; rw [List.getElem?_eq_none (by simpa using hge)]
    rw [e]
    clear e
    go_enter Tryz.func43, Tryz.ntmps43
    go_wp2
    go_quiet (fail)
    go_wp2
    go_ret
    exact ⟨rfl, _, rfl⟩
/-- Is that a small digit? -/
def dgN (hex : Bool) (n : Int) : Bool := decide ((48 ≤ n ∧ n ≤ 57) ∨ (hex = true ∧ 97 ≤ n ∧ n ≤ 102))
theorem dg_lw (hex : Bool) (b : UInt8) : dg hex b = dgN hex ((lw b).toNat : Int) := by
  unfold dg dgN
  rw [lw_nat]
  have := b.toNat_lt
  rw [decide_eq_decide]
  cases hex <;> split <;> simp <;> omega
def bs (hex : Bool) : Int := if hex then 16 else 10
theorem isDigit_any (hex : Bool) (n : Int) (h0 : 0 ≤ n) (h1 : n < 256) (w : World) : Calls Tryz.prog 117 #[.int .u8 n, .int .i64 (bs hex)] w fun e w' => e = .returned (.bool (dgN hex n)) ∧ w' = w := by
  cases hex with
  | false =>
    show Calls Tryz.prog 117 #[.int .u8 n, .int .i64 10] w _
    by_cases g1 : 48 ≤ n
    · by_cases g2 : n ≤ 57
      · have e : dgN false n = true := by unfold dgN; simp; omega
        rw [e]; clear e
        go_enter Tryz.func117, Tryz.ntmps117
        go_wp2
        go_ret
        exact ⟨rfl, rfl⟩
      · have e : dgN false n = false := by unfold dgN; simp; omega
        rw [e]; clear e
        go_enter Tryz.func117, Tryz.ntmps117
        go_wp2
        go_ret
        exact ⟨rfl, rfl⟩
    · have e : dgN false n = false := by unfold dgN; simp; omega
      rw [e]; clear e
      go_enter Tryz.func117, Tryz.ntmps117
      go_wp2
      go_ret
      exact ⟨rfl, rfl⟩
  | true =>
    show Calls Tryz.prog 117 #[.int .u8 n, .int .i64 16] w _
    by_cases g1 : 48 ≤ n
    · by_cases g2 : n ≤ 57
      · have e : dgN true n = true := by unfold dgN; simp; omega
        rw [e]; clear e
        go_enter Tryz.func117, Tryz.ntmps117
        go_wp2
        go_ret
        exact ⟨rfl, rfl⟩
      · by_cases g3 : 97 ≤ n
        · by_cases g4 : n ≤ 102
          · have e : dgN true n = true := by unfold dgN; simp; omega
            rw [e]; clear e
            go_enter Tryz.func117, Tryz.ntmps117
            go_wp2
            go_ret
            exact ⟨rfl, rfl⟩
          · have e : dgN true n = false := by unfold dgN; simp; omega
            rw [e]; clear e
            go_enter Tryz.func117, Tryz.ntmps117
            go_wp2
            go_ret
            exact ⟨rfl, rfl⟩
        · have e : dgN true n = false := by unfold dgN; simp; omega
          rw [e]; clear e
          go_enter Tryz.func117, Tryz.ntmps117
          go_wp2
          go_ret
          exact ⟨rfl, rfl⟩
    · have g3 : ¬ 97 ≤ n := by omega
      have e : dgN true n = false := by unfold dgN; simp; omega
      rw [e]; clear e
      go_enter Tryz.func117, Tryz.ntmps117
      go_wp2
      go_ret
      exact ⟨rfl, rfl⟩
end Go.Proofs.YtilnhkflgfajcaaGreatDoor

namespace Go.Proofs.YtilnhkflgfajcaaGreatDoor
open Go.Eng Go.RowKit
set_option maxRecDepth 1000000

theorem pk_lt (t : List UInt8) (a : Nat) : 0 ≤ pk t a ∧ pk t a < 256 := by
  unfold pk
  split
  · rename_i b _
    have := (lw b).toNat_lt
    omega
  · omega
/-- A byte that is no letter. -/
theorem pk_is {t : List UInt8} {a : Nat} {c : UInt8} (h0 : 0 < c.toNat) (h1 : c.toNat < 65 ∨ (90 < c.toNat ∧ c.toNat < 97) ∨ 122 < c.toNat) : pk t a = (c.toNat : Int) ↔ t[a]? = some c := by
  unfold pk
  cases h : t[a]? with
  | none => simp; omega
  | some b =>
    simp only [Option.some.injEq]
    rw [← UInt8.toNat_inj, lw_nat]
    split <;> omega
theorem grown_refl (w : World) (r : Option Nat) : w.grownBy w r := ⟨rfl, rfl, rfl, Nat.le_refl _, fun _ _ _ => rfl⟩
theorem grown_drew {w w' : World} {r : Option Nat} (h : w.grownBy w' r) (n : Nat) : w.grownBy (w'.drewN n) r := ⟨h.os, h.tape, h.output, h.size, h.block⟩
theorem grown_set {w w' : World} {B : Nat} (h : w.grownBy w' (some B)) (o : Nat) (v : Value) : w.grownBy (w'.setCell ⟨B, o, none⟩ v) (some B) :=
  ⟨h.os, h.tape, h.output, by show _ ≤ (w'.heap.modify _ _).size; rw [Array.size_modify]; exact h.size, fun k hk hne => by
    rw [← h.block k hk hne]
    simp only [World.setCell, Array.getElem?_modify]
    rw [if_neg (fun e => hne (by rw [e]))]⟩
theorem grown_below {w w' w'' : World} {B : Nat} (h : w.grownBy w' (some B)) (hb : Below w'.heap.size w' w'') : w.grownBy w'' (some B) :=
  ⟨hb.os.trans h.os, hb.tape.trans h.tape, hb.output.trans h.output, Nat.le_trans h.size hb.size, fun k hk hne => (hb.block k (Nat.lt_of_lt_of_le hk h.size)).trans (h.block k hk hne)⟩
theorem grown_trans {w w' w'' : World} {B : Nat} (h : w.grownBy w' (some B)) (hb : w'.grownBy w'' (some B)) : w.grownBy w'' (some B) :=
  ⟨hb.os.trans h.os, hb.tape.trans h.tape, hb.output.trans h.output, Nat.le_trans h.size hb.size, fun k hk hne => (hb.block k (Nat.lt_of_lt_of_le hk h.size) hne).trans (h.block k hk hne)⟩
theorem Sc.drew {w : World} {B a : Nat} {s p : ByteArray} (h : Sc w B a s p) (n : Nat) : Sc (w.drewN n) B a s p := h

theorem sign_any {w : World} {B a : Nat} {s p : ByteArray} (h : Sc w B a s p) (hs : s.size ≤ 20000) (ha : a ≤ s.size) :
    Calls Tryz.prog 44 #[.pointer (some ⟨B, 0, none⟩)] w fun e w' => e = .returned (.bool (mi s.data.toList a)) ∧ Sc w' B (sg s.data.toList a) s p ∧ w.grownBy w' (some B) := by
  have HP := Lib.hid (peek_any h hs ha)
  have HS : Aside (Sc w B a s p) := h
  obtain ⟨c0, c1, _, c3⟩ := h.cells
  have hl := h.lt
  clear h
  obtain ⟨n, hn⟩ : ∃ n, n = pk s.data.toList a := ⟨_, rfl⟩
  have hr := pk_lt s.data.toList a
  have e45 : n = 45 ↔ s.data.toList[a]? = some 45 := by rw [hn]; exact pk_is (c := 45) (by decide) (by decide)
  have e43 : n = 43 ↔ s.data.toList[a]? = some 43 := by rw [hn]; exact pk_is (c := 43) (by decide) (by decide)
  rw [← hn] at hr HP
  have em : mi s.data.toList a = decide (n = 45) := by
    unfold mi
    by_cases g : n = 45
    · rw [e45.1 g]; simp [g]
    · rw [decide_eq_false g]
      cases g2 : (s.data.toList[a]? == some 45) with
      | false => rfl
      | true => exact absurd (e45.2 (by simpa using g2)) g
  have es : sg s.data.toList a = if n = 45 ∨ n = 43 then a + 1 else a := by
    unfold sg
    by_cases g : n = 45 ∨ n = 43
    · rw [if_pos g, if_pos (g.imp e45.1 e43.1)]
    · rw [if_neg g, if_neg (fun h => g (h.imp e45.2 e43.2))]
  rw [em, es]
  clear em es e45 e43 hn
  by_cases g1 : n = 43
  · subst g1
    rw [if_pos (.inr rfl)]
    go_enter Tryz.func44, Tryz.ntmps44
    go_wp2_with (go_at_call 43; refine HP.out.mono ?_; rintro e w2 ⟨rfl, m, rfl⟩)
    go_ret
    exact ⟨rfl, (HS.out.drew _).set _, grown_set (grown_drew (grown_refl _ _) _) _ _⟩
  · by_cases g2 : n = 45
    · subst g2
      rw [if_pos (.inl rfl)]
      go_enter Tryz.func44, Tryz.ntmps44
      go_wp2_with (go_at_call 43; refine HP.out.mono ?_; rintro e w2 ⟨rfl, m, rfl⟩)
      go_ret
      exact ⟨rfl, (HS.out.drew _).set _, grown_set (grown_drew (grown_refl _ _) _) _ _⟩
    · rw [if_neg (fun h => h.elim g2 g1), decide_eq_false g2]
      have b1 : (n == 43) = false := by simpa using g1
      have b2 : (n == 45) = false := by simpa using g2
      go_enter Tryz.func44, Tryz.ntmps44
      go_wp2_with (go_at_call 43; refine HP.out.mono ?_; rintro e w2 ⟨rfl, m, rfl⟩)
      go_ret
      exact ⟨rfl, HS.out.drew _, grown_drew (grown_refl _ _) _⟩
end Go.Proofs.YtilnhkflgfajcaaGreatDoor

namespace Go.Proofs.YtilnhkflgfajcaaGreatDoor
open Go.Eng Go.RowKit
set_option maxRecDepth 1000000

/-- Where a reader is. -/
def atW (w : World) (B : Nat) : Nat := match w.cell? ⟨B, 0, none⟩ with
  | some (.int .i64 z) => z.toNat
  | _ => 0
theorem Sc.atW {w : World} {B a : Nat} {s p : ByteArray} (h : Sc w B a s p) : atW w B = a := by
  unfold Go.Proofs.YtilnhkflgfajcaaGreatDoor.atW
  rw [h.cells.1]
  simp
theorem pk_dg {hex : Bool} {t : List UInt8} {a : Nat} {b : UInt8} (h : t[a]? = some b) : dgN hex (pk t a) = dg hex b := by
  unfold pk
  rw [h, dg_lw]
theorem pk_end {hex : Bool} {t : List UInt8} {a : Nat} (h : t.length ≤ a) : dgN hex (pk t a) = false := by
  unfold pk
  rw [List.getElem?_eq_none h]
  cases hex <;> decide
theorem sub_list (s : ByteArray) (a b : Nat) : (s.extract a b).data.toList = sl s.data.toList a b := by
  unfold sl
  simp [ByteArray.data_extract, Array.toList_extract, List.extract_eq_take_drop]
theorem lowerB_lw (b : UInt8) : Lib.lowerB b = lw b := by
  unfold Lib.lowerB lw
  have e : Lib.isUpperB b = true ↔ (65 ≤ b.toNat ∧ b.toNat ≤ 90) := by
    unfold Lib.isUpperB
    simp only [Bool.and_eq_true, decide_eq_true_eq, UInt8.le_iff_toNat_le]
    exact Iff.rfl
  by_cases h : 65 ≤ b.toNat ∧ b.toNat ≤ 90
  · rw [if_pos h, if_pos (e.2 h)]
  · rw [if_neg h, if_neg (fun g => h (e.1 g))]
theorem small_ascii {hex : Bool} {t : List UInt8} {a : Nat} (j : Nat) (b : UInt8) (h : (sl t a (rn (dg hex) t a))[j]? = some b) : b.toNat < 128 := by
  have := mem_run b (List.mem_of_getElem? h)
  unfold dg at this
  simp only [decide_eq_true_eq] at this
  omega

set_option maxHeartbeats 4000000 in
theorem digits_any (hex : Bool) {w : World} {B a : Nat} {s p : ByteArray} (h : Sc w B a s p) (hs : s.size ≤ 20000) (ha : a ≤ s.size) :
    Calls Tryz.prog 165 #[.pointer (some ⟨B, 0, none⟩), .int .i64 (bs hex)] w fun e w' => e = .returned (.string ⟨⟨(sl s.data.toList a (rn (dg hex) s.data.toList a)).map lw⟩⟩) ∧ Sc w' B (rn (dg hex) s.data.toList a) s p ∧ w.grownBy w' (some B) := by
  obtain ⟨r, hr⟩ : ∃ r, r = rn (dg hex) s.data.toList a := ⟨_, rfl⟩
  have hra : a ≤ r := by rw [hr]; exact rn_ge _ _ _
  have hrn : r ≤ s.size := by
    have := rn_le (dg hex) s.data.toList a (by simpa using ha)
    rw [← hr] at this
    simpa using this
  have HR : Aside (r = rn (dg hex) s.data.toList a) := hr
  have HE : Aside ((s.extract a r).data.toList = sl s.data.toList a (rn (dg hex) s.data.toList a)) := by rw [← hr]; exact sub_list s a r
  have HA : Aside (∀ (j : Nat) (b : UInt8), (s.extract a r).data.toList[j]? = some b → b.toNat < 128) := fun j b hb => by rw [HE.out] at hb; exact small_ascii j b hb
  have HSZ : Aside ((s.extract a r).size = r - a) := by
    show (s.extract a r).size = r - a
    rw [ByteArray.size_extract]
    omega
  have HV : (⟨(Lib.toLowerA (s.extract a r).data.toList).toArray⟩ : ByteArray) = ⟨⟨(sl s.data.toList a (rn (dg hex) s.data.toList a)).map lw⟩⟩ := by
    rw [HE.out]
    show (⟨(Lib.toLowerA _).toArray⟩ : ByteArray) = _
    rw [show Lib.toLowerA = List.map lw from funext fun l => by unfold Lib.toLowerA; exact List.map_congr_left fun b _ => lowerB_lw b]
  obtain ⟨D, hD⟩ : ∃ D : ByteArray, D = ⟨⟨(sl s.data.toList a (rn (dg hex) s.data.toList a)).map lw⟩⟩ := ⟨_, rfl⟩
  have HTL := Lib.hid fun W => show Calls Tryz.prog 197 #[.string (s.extract a r)] W fun e w' => e = .returned (.string D) ∧ Below W.heap.size W w' by
    refine (Tryz.strings_ToLower_ascii (s.extract a r) W (by rw [HSZ.out]; omega) HA.out).mono ?_
    rintro e w6 ⟨rfl, hb6⟩
    exact ⟨by rw [HV, ← hD], hb6⟩
  rw [← hD, ← hr]
  clear hD HV
  clear hr
  have HS : Aside (Sc w B a s p) := h
  obtain ⟨c0, c1, _, c3⟩ := h.cells
  clear h
  go_enter Tryz.func165, Tryz.ntmps165
  go_wp2
  go_loopw [] (fun wr => ∃ k : Nat, a ≤ k ∧ k ≤ s.size ∧ Aside (r = rn (dg hex) s.data.toList k) ∧ Aside (Sc wr B k s p) ∧ Aside (w.grownBy wr (some B))) (fun wr => s.size - atW wr B)
  case atStart => exact ⟨a, Nat.le_refl _, ha, HR.out, HS.out, grown_refl _ _⟩
  case round =>
    obtain ⟨k, hak, hk, hrk, hsc, hgr⟩ := hrel
    have HP := Lib.hid (peek_any hsc.out hs hk)
    have HI := Lib.hid fun n h0 h1 w => isDigit_any hex n h0 h1 w
    have hpk := pk_lt s.data.toList k
    have HPK : Aside (0 ≤ pk s.data.toList k ∧ pk s.data.toList k < 256) := hpk
    obtain ⟨n, hn⟩ : ∃ n, n = pk s.data.toList k := ⟨_, rfl⟩
    have HN : Aside (n = pk s.data.toList k) := hn
    rw [← hn] at HP HPK
    clear hn hpk
    cases hd : dgN hex n
    · -- no digit
      have hrk2 : r = k := by
        rw [hrk.out]
        rcases Nat.lt_or_ge k s.size with hlt | hge
        · obtain ⟨b, hb⟩ : ∃ b, s.data.toList[k]? = some b := ⟨_, List.getElem?_eq_getElem (by simpa using hlt)⟩
          exact rn_stop hb (by rw [← pk_dg hb, ← HN.out, hd])
        · exact rn_end (by simpa using hge)
      have HD : Aside (dgN hex n = false) := hd
      clear hd
      subst hrk2
      go_wp2_with (first | (go_at_call 43; refine HP.out.mono ?_; rintro e w2 ⟨rfl, m, rfl⟩) | (go_at_call 117; refine (HI.out n HPK.out.1 HPK.out.2 _).mono ?_; rw [HD.out]; rintro e w3 ⟨rfl, rfl⟩))
      obtain ⟨g0, g1, _, _⟩ := hsc.out.cells
      refine wp_region_held_drew (S := fun W => Sc W B r s p ∧ w.grownBy W (some B)) (by kernel_rfl) ⟨(hsc.out.drew m).drew 1, grown_drew (grown_drew hgr.out _) 1⟩ (fun hHeld => ?_)
      refine wpAnyH_take (i := 0) (v := (.pointer (some ⟨B, 0, none⟩))) rfl (by kernel_rfl) (by kernel_rfl) (by kernel_rfl) (fun _ _ _ h => h) (Or.inl ⟨by rfl, fun wS hSw => ?_⟩) hHeld ?_
      · obtain ⟨⟨g0, g1, _, _⟩, _⟩ := And.intro hSw.1.cells hSw.2
        first | rfl | (go_simp; done) | (go_simp; with_reducible rfl)
      try simp only [Act.put, List.getElem_toArray, List.getElem_cons_zero, List.getElem_cons_succ, List.setIfInBounds_toArray, List.set_cons_zero, List.set_cons_succ]
      refine wpAnyH_take (i := 1) (v := (.pointer (some ⟨B, 0, none⟩))) rfl (by kernel_rfl) (by kernel_rfl) (by kernel_rfl) (fun _ _ _ h => h) (Or.inl ⟨by rfl, fun wS hSw => ?_⟩) hHeld ?_
      · obtain ⟨⟨g0, g1, _, _⟩, _⟩ := And.intro hSw.1.cells hSw.2
        first | rfl | (go_simp; done) | (go_simp; with_reducible rfl)
      try simp only [Act.put, List.getElem_toArray, List.getElem_cons_zero, List.getElem_cons_succ, List.setIfInBounds_toArray, List.set_cons_zero, List.set_cons_succ]
      refine wpAnyH_take (i := 2) (v := (.pointer (some ⟨B, 1, none⟩))) rfl (by kernel_rfl) (by kernel_rfl) (by kernel_rfl) (fun _ _ _ h => h) (Or.inl ⟨by rfl, fun wS hSw => ?_⟩) hHeld ?_
      · obtain ⟨⟨g0, g1, _, _⟩, _⟩ := And.intro hSw.1.cells hSw.2
        first | rfl | (go_simp; done) | (go_simp; with_reducible rfl)
      try simp only [Act.put, List.getElem_toArray, List.getElem_cons_zero, List.getElem_cons_succ, List.setIfInBounds_toArray, List.set_cons_zero, List.set_cons_succ]
      refine wpAnyH_take (i := 3) (v := (.string s)) rfl (by kernel_rfl) (by kernel_rfl) (by kernel_rfl) (fun _ _ _ h => h) (Or.inl ⟨by rfl, fun wS hSw => ?_⟩) hHeld ?_
      · obtain ⟨⟨g0, g1, _, _⟩, _⟩ := And.intro hSw.1.cells hSw.2
        first | rfl | (go_simp; done) | (go_simp; with_reducible rfl)
      try simp only [Act.put, List.getElem_toArray, List.getElem_cons_zero, List.getElem_cons_succ, List.setIfInBounds_toArray, List.set_cons_zero, List.set_cons_succ]
      refine wpAnyH_take (i := 4) (v := (.int .i64 a)) rfl (by kernel_rfl) (by kernel_rfl) (by kernel_rfl) (fun _ _ _ h => h) (Or.inl ⟨by rfl, fun wS hSw => ?_⟩) hHeld ?_
      · obtain ⟨⟨g0, g1, _, _⟩, _⟩ := And.intro hSw.1.cells hSw.2
        first | rfl | (go_simp; done) | (go_simp; with_reducible rfl)
      try simp only [Act.put, List.getElem_toArray, List.getElem_cons_zero, List.getElem_cons_succ, List.setIfInBounds_toArray, List.set_cons_zero, List.set_cons_succ]
      refine wpAnyH_take (i := 5) (v := (.pointer (some ⟨B, 0, none⟩))) rfl (by kernel_rfl) (by kernel_rfl) (by kernel_rfl) (fun _ _ _ h => h) (Or.inl ⟨by rfl, fun wS hSw => ?_⟩) hHeld ?_
      · obtain ⟨⟨g0, g1, _, _⟩, _⟩ := And.intro hSw.1.cells hSw.2
        first | rfl | (go_simp; done) | (go_simp; with_reducible rfl)
      try simp only [Act.put, List.getElem_toArray, List.getElem_cons_zero, List.getElem_cons_succ, List.setIfInBounds_toArray, List.set_cons_zero, List.set_cons_succ]
      refine wpAnyH_take (i := 6) (v := (.pointer (some ⟨B, 0, none⟩))) rfl (by kernel_rfl) (by kernel_rfl) (by kernel_rfl) (fun _ _ _ h => h) (Or.inl ⟨by rfl, fun wS hSw => ?_⟩) hHeld ?_
      · obtain ⟨⟨g0, g1, _, _⟩, _⟩ := And.intro hSw.1.cells hSw.2
        first | rfl | (go_simp; done) | (go_simp; with_reducible rfl)
      try simp only [Act.put, List.getElem_toArray, List.getElem_cons_zero, List.getElem_cons_succ, List.setIfInBounds_toArray, List.set_cons_zero, List.set_cons_succ]
      refine wpAnyH_take (i := 7) (v := (.pointer (some ⟨B, 0, none⟩))) rfl (by kernel_rfl) (by kernel_rfl) (by kernel_rfl) (fun _ _ _ h => h) (Or.inl ⟨by rfl, fun wS hSw => ?_⟩) hHeld ?_
      · obtain ⟨⟨g0, g1, _, _⟩, _⟩ := And.intro hSw.1.cells hSw.2
        first | rfl | (go_simp; done) | (go_simp; with_reducible rfl)
      try simp only [Act.put, List.getElem_toArray, List.getElem_cons_zero, List.getElem_cons_succ, List.setIfInBounds_toArray, List.set_cons_zero, List.set_cons_succ]
      refine wpAnyH_take (i := 8) (v := (.pointer (some ⟨B, 0, none⟩))) rfl (by kernel_rfl) (by kernel_rfl) (by kernel_rfl) (fun _ _ _ h => h) (Or.inl ⟨by rfl, fun wS hSw => ?_⟩) hHeld ?_
      · obtain ⟨⟨g0, g1, _, _⟩, _⟩ := And.intro hSw.1.cells hSw.2
        first | rfl | (go_simp; done) | (go_simp; with_reducible rfl)
      try simp only [Act.put, List.getElem_toArray, List.getElem_cons_zero, List.getElem_cons_succ, List.setIfInBounds_toArray, List.set_cons_zero, List.set_cons_succ]
      refine wpAnyH_take (i := 9) (v := (.int .i64 r)) rfl (by kernel_rfl) (by kernel_rfl) (by kernel_rfl) (fun _ _ _ h => h) (Or.inl ⟨by rfl, fun wS hSw => ?_⟩) hHeld ?_
      · obtain ⟨⟨g0, g1, _, _⟩, _⟩ := And.intro hSw.1.cells hSw.2
        first | rfl | (go_simp; done) | (go_simp; with_reducible rfl)
      try simp only [Act.put, List.getElem_toArray, List.getElem_cons_zero, List.getElem_cons_succ, List.setIfInBounds_toArray, List.set_cons_zero, List.set_cons_succ]
      refine wpAnyH_take (i := 10) (v := (.string (s.extract a r))) rfl (by kernel_rfl) (by kernel_rfl) (by kernel_rfl) (fun _ _ _ h => h) (Or.inl ⟨by rfl, fun wS hSw => ?_⟩) hHeld ?_
      · obtain ⟨⟨g0, g1, _, _⟩, _⟩ := And.intro hSw.1.cells hSw.2
        first | rfl | (go_simp; done) | (go_simp; with_reducible rfl)
      try simp only [Act.put, List.getElem_toArray, List.getElem_cons_zero, List.getElem_cons_succ, List.setIfInBounds_toArray, List.set_cons_zero, List.set_cons_succ]
      refine wpAnyH_ready (rs := [11]) (by kernel_rfl) (by simp) ?_
      refine AllReadyH.cons rfl (fun KC hC => ?_) AllReadyH.nil
      go_simp
      go_at_call 197
      refine (HTL.out _).mono ?_
      rintro e w6 ⟨rfl, hb6⟩
      refine hC.out _ _ ⟨hHeld.1.below hb6, grown_below hHeld.2 hb6⟩ (fun hHeld => ?_)
      clear hC KC
      try simp only [Act.put, List.getElem_toArray, List.getElem_cons_zero, List.getElem_cons_succ, List.setIfInBounds_toArray, List.set_cons_zero, List.set_cons_succ]
      refine wpAnyH_ready (rs := [12]) (by kernel_rfl) (by simp) ?_
      refine AllReadyH.cons rfl (fun KC hC => ?_) AllReadyH.nil
      go_simp
      refine hC.out _ _ hHeld (fun hHeld => ?_)
      clear hC KC
      try simp only [Act.put, List.getElem_toArray, List.getElem_cons_zero, List.getElem_cons_succ, List.setIfInBounds_toArray, List.set_cons_zero, List.set_cons_succ]
      refine wpAnyH_done (by kernel_rfl) ?_ _
      go_wp2
      go_ret
      obtain ⟨q1, q2⟩ := hHeld
      exact ⟨rfl, q1, q2⟩
    · have hlt : k < s.size := by
        rcases Nat.lt_or_ge k s.size with hlt | hge
        · exact hlt
        · rw [HN.out, pk_end (by simpa using hge)] at hd
          cases hd
      have hrk2 : r = rn (dg hex) s.data.toList (k + 1) := by
        obtain ⟨b, hb⟩ : ∃ b, s.data.toList[k]? = some b := ⟨_, List.getElem?_eq_getElem (by simpa using hlt)⟩
        rw [hrk.out]
        exact rn_step hb (by rw [← pk_dg hb, ← HN.out, hd])
      have HRK : Aside (r = rn (dg hex) s.data.toList (k + 1)) := hrk2
      have HD : Aside (dgN hex n = true) := hd
      clear hd hrk2
      obtain ⟨d0, d1, _, d3⟩ := hsc.out.cells
      go_wp2_with (first | (go_at_call 43; refine HP.out.mono ?_; rintro e w2 ⟨rfl, m, rfl⟩) | (go_at_call 117; refine (HI.out n HPK.out.1 HPK.out.2 _).mono ?_; rw [HD.out]; rintro e w3 ⟨rfl, rfl⟩))
      go_roundw
      case rel => exact ⟨k + 1, by omega, by omega, HRK.out, (by have := (hsc.out.drew m).set (k + 1); push_cast at this; exact this), grown_set (grown_drew hgr.out _) _ _⟩
      case measure =>
        have e1 := hsc.out.atW
        have e2 : atW ((wr.drewN m).setCell ⟨B, 0, none⟩ (.int .i64 ((k : Int) + 1))) B = k + 1 := by
          have := (hsc.out.drew m).set (k + 1)
          push_cast at this
          exact this.atW
        rw [e1, e2]
        omega
end Go.Proofs.YtilnhkflgfajcaaGreatDoor

namespace Go.Proofs.YtilnhkflgfajcaaGreatDoor
open Go.Eng Go.RowKit
set_option maxRecDepth 1000000

theorem run_idx2 {P : Program} {t : TypeId} {s : ByteArray} {a k : Nat} {b : UInt8} (hb : s.data.toList[a + k]? = some b) (h : P.underlying t = some .string) (w : World) :
    (Instr.index t (.string s) (.int .i64 ((a : Int) + (k : Int)))).run P w = .ok (.int .u8 b.toNat) w := by
  have := run_idx (P := P) hb h w
  push_cast at this
  exact this
theorem wrap_small {x : Int} (h0 : -9223372036854775808 ≤ x) (h1 : x < 9223372036854775808) : IntKind.i64.wrap x = x := by
  rw [IntKind.wrap_i64]
  omega
theorem wd_iff {t w : List UInt8} {i : Nat} : wd t i w = true ↔ ∀ j, j < w.length → (t[i + j]?).map lw = w[j]? := by
  unfold wd
  rw [beq_iff_eq]
  constructor
  · intro h j hj
    have := congrArg (·[j]?) h
    simp only [List.getElem?_map, List.getElem?_take, hj, if_true, List.getElem?_drop] at this
    exact this
  · intro h
    apply List.ext_getElem?
    intro j
    rw [List.getElem?_map, List.getElem?_take]
    by_cases hj : j < w.length
    · rw [if_pos hj, List.getElem?_drop]; exact h j hj
    · rw [if_neg hj, List.getElem?_eq_none (by omega)]; rfl
theorem wd_no {t w : List UInt8} {i j : Nat} (hj : j < w.length) (h : (t[i + j]?).map lw ≠ w[j]?) : wd t i w = false := by
  cases e : wd t i w with
  | false => rfl
  | true => exact absurd (wd_iff.1 e j hj) h

set_option maxHeartbeats 4000000 in
theorem word_any {w : World} {B a : Nat} {s p v : ByteArray} (h : Sc w B a s p) (hs : s.size ≤ 20000) (ha : a ≤ s.size) (hv : v.size ≤ 100) :
    Calls Tryz.prog 105 #[.pointer (some ⟨B, 0, none⟩), .string v] w fun e w' => e = .returned (.bool (wd s.data.toList a v.data.toList)) ∧ Sc w' B (if wd s.data.toList a v.data.toList then a + v.size else a) s p ∧ w.grownBy w' (some B) := by
  obtain ⟨r, hr⟩ : ∃ r, r = wd s.data.toList a v.data.toList := ⟨_, rfl⟩
  have HR : Aside (r = wd s.data.toList a v.data.toList) := hr
  rw [← hr]
  clear hr
  have HS : Aside (Sc w B a s p) := h
  have HL := Lib.hid letter_any
  clear h
  go_enter Tryz.func105, Tryz.ntmps105
  go_wp2
  go_loopw [8] (fun i wr => ∃ k : Nat, k ≤ v.size ∧ i = .int .i64 k ∧ Aside (∀ j, j < k → (s.data.toList[a + j]?).map lw = v.data.toList[j]?) ∧ Aside (Sc wr B a s p) ∧ Aside (w.grownBy wr (some B))) (fun i _ => v.size - (intOf i).toNat)
  case atStart => exact ⟨0, Nat.zero_le _, rfl, fun j hj => absurd hj (Nat.not_lt_zero _), HS.out, grown_refl _ _⟩
  case round =>
    obtain ⟨k, hk, rfl, hall, hsc, hgr⟩ := hrel
    obtain ⟨c0, c1, _, c3⟩ := hsc.out.cells
    rcases Nat.lt_or_ge k v.size with hlt | hge
    · have hwr : IntKind.i64.wrap ((a : Int) + (k : Int)) = (a : Int) + (k : Int) := wrap_small (by omega) (by omega)
      obtain ⟨c, hc⟩ : ∃ c, v.data.toList[k]? = some c := ⟨_, List.getElem?_eq_getElem (by simpa using hlt)⟩
      have HJ := @run_idx Tryz.prog 9 v k c hc
      have HC : Aside (v.data.toList[k]? = some c) := hc
      have hk1 : (k : Int) < (v.size : Int) := by omega
      clear hc
      rcases Nat.lt_or_ge (a + k) s.size with hl2 | hg2
      · obtain ⟨b, hb⟩ : ∃ b, s.data.toList[a + k]? = some b := ⟨_, List.getElem?_eq_getElem (by simpa using hl2)⟩
        have HI := @run_idx2 Tryz.prog 9 s a k b hb
        have HB : Aside (s.data.toList[a + k]? = some b) := hb
        clear hb
        have g1 : ¬ (s.size : Int) ≤ (a : Int) + (k : Int) := by omega
        have g2 : decide ((s.size : Int) ≤ (a : Int) + (k : Int)) = false := decide_eq_false g1
        by_cases hbc : lw b = c
        · have e : (((lw b).toNat : Int) != (c.toNat : Int)) = false := by rw [hbc]; simp
          have HBC : Aside (lw b = c) := hbc
          clear hbc
          go_wp2
          go_quiet ((go_at_call 42; refine (HL.out b _).mono ?_; rintro e w2 ⟨rfl, rfl⟩; exact ⟨rfl, _, rfl⟩))
          go_wp2
          go_roundw
          case rel =>
            refine ⟨k + 1, by omega, by go_num, fun j hj => ?_, hsc.out.drew _, grown_drew hgr.out _⟩
            rcases Nat.lt_or_eq_of_le (Nat.le_of_lt_succ hj) with h1 | h1
            · exact hall.out j h1
            · rw [h1, HB.out, HC.out, Option.map_some, HBC.out]
          case measure => simp [intOf]; omega
        · have e : (((lw b).toNat : Int) != (c.toNat : Int)) = true := by
            rw [bne_iff_ne]
            intro g
            exact hbc (UInt8.toNat_inj.1 (by exact_mod_cast g))
          have hno : r = false := by rw [HR.out]; exact wd_no (by simpa using hlt) (by rw [HB.out, HC.out]; simpa using hbc)
          subst hno
          clear hbc
          go_wp2
          go_quiet ((go_at_call 42; refine (HL.out b _).mono ?_; rintro e w2 ⟨rfl, rfl⟩; exact ⟨rfl, _, rfl⟩))
          go_wp2
          go_ret
          exact ⟨rfl, hsc.out.drew _, grown_drew hgr.out _⟩
      · have hno : r = false := by rw [HR.out]; exact wd_no (by simpa using hlt) (by rw [HC.out, List.getElem?_eq_none (by simpa using hg2)]; simp)
        subst hno
        have g1 : (s.size : Int) ≤ (a : Int) + (k : Int) := by omega
        have g2 : decide ((s.size : Int) ≤ (a : Int) + (k : Int)) = true := decide_eq_true g1
        have hud : (undef : Value) = .tuple #[] := rfl
        go_wp2
        go_quiet (fail)
        go_wp2
        go_ret
        exact ⟨rfl, hsc.out.drew _, grown_drew hgr.out _⟩
    · have ek : k = v.size := by omega
      subst ek
      have hyes : r = true := by rw [HR.out]; exact wd_iff.2 (by simpa using hall.out)
      subst hyes
      have hwr : IntKind.i64.wrap ((a : Int) + (v.size : Int)) = (a : Int) + (v.size : Int) := wrap_small (by omega) (by omega)
      go_wp2
      go_ret
      refine ⟨rfl, ?_, grown_set hgr.out _ _⟩
      have := hsc.out.set (a + v.size)
      push_cast at this
      exact this
end Go.Proofs.YtilnhkflgfajcaaGreatDoor

namespace Go.Proofs.YtilnhkflgfajcaaGreatDoor
open Go.Eng Go.RowKit
set_option maxRecDepth 1000000

theorem pk_mark {t : List UInt8} {a : Nat} {m : UInt8} (h0 : 0 < m.toNat) : pk t a = (m.toNat : Int) ↔ (t[a]?).map lw = some m := by
  unfold pk
  cases h : t[a]? with
  | none => simp; omega
  | some b =>
    simp only [Option.map_some, Option.some.injEq]
    rw [← UInt8.toNat_inj]
    omega
theorem ex_no {t : List UInt8} {m : UInt8} {a : Nat} (h : (t[a]?).map lw ≠ some m) : ex t m a = (0, a) := by
  unfold ex
  rw [if_neg h]
theorem bytes_cells (W : World) (D : List UInt8) (k : Nat) (b : UInt8) (h : D[k]? = some b) : (Lib.bytesWorld W 5 ⟨⟨D⟩⟩).cell? ⟨W.heap.size, k, none⟩ = some (.int .u8 b.toNat) := by
  obtain ⟨hl, e⟩ := List.getElem?_eq_some_iff.1 h
  rw [Lib.bytesWorld_cell W 5 ⟨⟨D⟩⟩ k hl]
  simp [List.getD, h]
theorem bytes_grown (W : World) (D : List UInt8) (r : Option Nat) : W.grownBy (Lib.bytesWorld W 5 ⟨⟨D⟩⟩) r :=
  ⟨rfl, rfl, rfl, by rw [Lib.bytesWorld_size]; omega, fun k hk _ => Lib.bytesWorld_at_old W 5 _ k hk⟩
theorem bytes_sc {W : World} {B a : Nat} {s p : ByteArray} (h : Sc W B a s p) (D : List UInt8) : Sc (Lib.bytesWorld W 5 ⟨⟨D⟩⟩) B a s p := by
  have hl := h.lt
  obtain ⟨T, e⟩ := h
  exact ⟨T, (Lib.bytesWorld_at_old W 5 _ B hl).trans e⟩
theorem val_snoc (l : List UInt8) (b : UInt8) : val (l ++ [b]) = min 1099511627776 (10 * val l + ((b.toNat : Int) - 48)) := by
  unfold val
  rw [List.foldl_append]
  rfl
theorem val_inv : ∀ (l : List UInt8) (n : Int), 0 ≤ n → n ≤ 1099511627776 → (∀ b ∈ l, dg false b = true) → 0 ≤ l.foldl (fun n b => min 1099511627776 (10 * n + ((b.toNat : Int) - 48))) n ∧ l.foldl (fun n b => min 1099511627776 (10 * n + ((b.toNat : Int) - 48))) n ≤ 1099511627776
  | [], n, h0, h1, _ => ⟨h0, h1⟩
  | b :: l, n, h0, h1, h => by
    rw [List.foldl_cons]
    have := h b List.mem_cons_self
    unfold dg at this
    simp at this
    exact val_inv l _ (by omega) (by omega) (fun x hx => h x (List.mem_cons_of_mem _ hx))
theorem val_bounds (l : List UInt8) (h : ∀ b ∈ l, dg false b = true) : 0 ≤ val l ∧ val l ≤ 1099511627776 := val_inv l 0 (by decide) (by decide) h
theorem lw_dig {b : UInt8} (h : dg false b = true) : lw b = b := by
  unfold dg at h
  simp at h
  unfold lw
  rw [if_neg (by omega)]
theorem map_lw_dig {l : List UInt8} (h : ∀ b ∈ l, dg false b = true) : l.map lw = l := by
  have : l.map lw = l.map id := List.map_congr_left fun b hb => lw_dig (h b hb)
  rw [this, List.map_id]

set_option maxHeartbeats 4000000 in
theorem exponent_any {w : World} {B a : Nat} {s p : ByteArray} {m : UInt8} (hm : 0 < m.toNat) (h : Sc w B a s p) (hs : s.size ≤ 20000) (ha : a ≤ s.size) :
    Calls Tryz.prog 167 #[.pointer (some ⟨B, 0, none⟩), .int .u8 m.toNat] w fun e w' => e = .returned (.int .i64 (ex s.data.toList m a).1) ∧ Sc w' B (ex s.data.toList m a).2 s p ∧ w.grownBy w' (some B) := by
  have HP := Lib.hid (peek_any h hs ha)
  have HS : Aside (Sc w B a s p) := h
  obtain ⟨c0, c1, _, c3⟩ := h.cells
  clear h
  obtain ⟨n, hn⟩ : ∃ n, n = pk s.data.toList a := ⟨_, rfl⟩
  have hmk := pk_mark (t := s.data.toList) (a := a) hm
  rw [← hn] at hmk HP
  clear hn
  by_cases g : n = (m.toNat : Int)
  · have hmm := hmk.1 g
    clear hmk
    subst g
    have hlt : a < s.size := by
      rcases Nat.lt_or_ge a s.size with h1 | h1
      · exact h1
      · rw [List.getElem?_eq_none (by simpa using h1)] at hmm
        cases hmm
    obtain ⟨j, hj⟩ : ∃ j, j = sg s.data.toList (a + 1) := ⟨_, rfl⟩
    obtain ⟨r, hr⟩ : ∃ r, r = rn (dg false) s.data.toList j := ⟨_, rfl⟩
    have hjn : j ≤ s.size := by
      rw [hj]
      unfold sg
      split
      · rename_i h1
        rcases Nat.lt_or_ge (a + 1) s.size with h2 | h2
        · omega
        · rw [List.getElem?_eq_none (by simpa using h2)] at h1
          simp at h1
      · omega
    have HRJ : Aside (r = rn (dg false) s.data.toList j) := hr
    have hjr : j ≤ r := by rw [hr]; exact rn_ge _ _ _
    have hrn : r ≤ s.size := by rw [hr]; simpa using rn_le (dg false) s.data.toList j (by simpa using hjn)
    obtain ⟨D, hD⟩ : ∃ D, D = (sl s.data.toList j r).map lw := ⟨_, rfl⟩
    have hex : ex s.data.toList m a = if r = j then (0, a) else (if mi s.data.toList (a + 1) then - val (sl s.data.toList j r) else val (sl s.data.toList j r), r) := by
      subst hr
      subst hj
      unfold ex
      rw [if_pos hmm]
    have HSI := Lib.hid fun W (hW : Sc W B (a + 1) s p) => sign_any hW hs (by omega)
    have HDI := Lib.hid fun W (hW : Sc W B j s p) => digits_any false hW hs hjn
    rw [← hj] at HSI
    rw [← hr, ← hD] at HDI
    obtain ⟨neg, hneg⟩ : ∃ neg, neg = mi s.data.toList (a + 1) := ⟨_, rfl⟩
    rw [← hneg] at hex HSI
    have HEX : Aside (ex s.data.toList m a = if r = j then (0, a) else (if neg then - val (sl s.data.toList j r) else val (sl s.data.toList j r), r)) := hex
    clear hex hneg hmm hr hj
    obtain ⟨E, hE⟩ : ∃ E, E = ex s.data.toList m a := ⟨_, rfl⟩
    rw [← hE] at HEX
    rw [← hE]
    clear hE
    simp only [bs, Bool.false_eq_true, if_false] at HDI
    by_cases hrj : r = j
    · subst hrj
      have e0 : E = (0, a) := by rw [HEX.out]; simp
      subst e0
      have hD0 : D = [] := by rw [hD, sl_self]; rfl
      clear hD
      subst hD0
      go_enter Tryz.func167, Tryz.ntmps167
      go_wp2_with (first
        | (go_at_call 43; refine HP.out.mono ?_; rintro e w2 ⟨rfl, m1, rfl⟩)
        | (go_at_call 44; refine (HSI.out _ (by have := (HS.out.drew m1).set (a + 1); push_cast at this; exact this)).mono ?_; rintro e w3 ⟨rfl, hsc3, hgr3⟩)
        | (go_at_call 165; refine (HDI.out _ hsc3).mono ?_; rintro e w4 ⟨rfl, hsc4, hgr4⟩; obtain ⟨d0, d1, _, d3⟩ := hsc4.cells))
      go_ret
      exact ⟨rfl, hsc4.set a, grown_set (grown_trans (grown_trans (grown_set (grown_drew (grown_refl _ _) _) _ _) hgr3) hgr4) _ _⟩
    · have e0 : E = (if neg then - val (sl s.data.toList j r) else val (sl s.data.toList j r), r) := by rw [HEX.out, if_neg hrj]
      subst e0
      have hDn : D ≠ [] := by
        intro e
        have := congrArg List.length e
        rw [hD, List.length_map, sl_len _ _ _ (by simpa using hrn)] at this
        simp at this
        omega
      have hemp : D.isEmpty = false := by cases D with
        | nil => exact absurd rfl hDn
        | cons _ _ => rfl
      have hdig0 : ∀ b ∈ sl s.data.toList j r, dg false b = true := fun b hb => mem_run b (by rw [← HRJ.out]; exact hb)
      have hDD : D = sl s.data.toList j r := by rw [hD, map_lw_dig hdig0]
      have hval : val (sl s.data.toList j r) = val D := by rw [hDD]
      have hdig : ∀ b ∈ D, dg false b = true := by rw [hDD]; exact hdig0
      have hlen : D.length ≤ 20000 := by
        rw [hD, List.length_map, sl_len _ _ _ (by simpa using hrn)]
        omega
      have HDG : Aside (∀ b ∈ D, dg false b = true) := hdig
      rw [hval]
      clear hdig hval hDn hD hDD hdig0
      have kc := fun w => Lib.run_convert_string_bytes (P := Tryz.prog) w 9 53 5 ⟨⟨D⟩⟩ Tryz.underlying9 Tryz.underlying53 Tryz.underlying5
      go_enter Tryz.func167, Tryz.ntmps167
      go_wp2_with (first
        | (go_at_call 43; refine HP.out.mono ?_; rintro e w2 ⟨rfl, m1, rfl⟩)
        | (go_at_call 44; refine (HSI.out _ (by have := (HS.out.drew m1).set (a + 1); push_cast at this; exact this)).mono ?_; rintro e w3 ⟨rfl, hsc3, hgr3⟩)
        | (go_at_call 165; refine (HDI.out _ hsc3).mono ?_; rintro e w4 ⟨rfl, hsc4, hgr4⟩; obtain ⟨d0, d1, _, d3⟩ := hsc4.cells))
      go_loopw [8, 43] (fun n i wr => ∃ k : Nat, k ≤ D.length ∧ n = .int .i64 (val (D.take k)) ∧ i = .int .i64 k ∧ Aside (∀ k b, D[k]? = some b → wr.cell? ⟨w4.heap.size, k, none⟩ = some (.int .u8 b.toNat)) ∧ Aside (Sc wr B r s p) ∧ Aside (w.grownBy wr (some B))) (fun _ i _ => D.length - (intOf i).toNat)
      case atStart => exact ⟨0, Nat.zero_le _, rfl, rfl, bytes_cells w4 D, bytes_sc hsc4 D, (grown_trans (grown_trans (grown_trans (grown_set (grown_drew (grown_refl _ _) _) _ _) hgr3) hgr4) (bytes_grown _ _ _))⟩
      case round =>
        obtain ⟨k, hk, rfl, rfl, hcl, hsc, hgr⟩ := hrel
        have hvb := val_bounds (D.take k) (fun b hb => HDG.out b (List.mem_of_mem_take hb))
        obtain ⟨vv, hvv⟩ : ∃ vv, vv = val (D.take k) := ⟨_, rfl⟩
        rw [← hvv] at hvb ⊢
        have HVV : Aside (vv = val (D.take k)) := hvv
        clear hvv
        rcases Nat.lt_or_ge k D.length with hlt | hge
        · obtain ⟨b, hb⟩ : ∃ b, D[k]? = some b := ⟨_, List.getElem?_eq_getElem hlt⟩
          have hcc := hcl.out k b hb
          have hdb := HDG.out b (List.mem_of_getElem? hb)
          have HB : Aside (D[k]? = some b) := hb
          have hb48 : 48 ≤ b.toNat ∧ b.toNat ≤ 57 := by
            unfold dg at hdb
            simpa using hdb
          clear hb hdb
          have hk1 : (k : Int) < (D.length : Int) := by omega
          have w1 : wrap64 (10 * vv) = 10 * vv := by unfold wrap64; omega
          have w2 : wrap64 (10 * vv + ((b.toNat : Int) - 48)) = 10 * vv + ((b.toNat : Int) - 48) := by unfold wrap64; omega
          go_wp2
          go_roundw
          case rel =>
            refine ⟨k + 1, by omega, ?_, by go_num, hcl.out, hsc.out, hgr.out⟩
            rw [List.take_add_one, HB.out, Option.toList_some, val_snoc, ← HVV.out]
          case measure => simp [intOf]; omega
        · have ek : k = D.length := by omega
          subst ek
          have ev : vv = val D := by rw [HVV.out, List.take_length]
          subst ev
          cases neg with
          | true =>
            have w1 : wrap64 (-val D) = -val D := by unfold wrap64; omega
            go_wp2
            go_ret
            exact ⟨rfl, hsc.out, hgr.out⟩
          | false =>
            go_wp2
            go_ret
            exact ⟨rfl, hsc.out, hgr.out⟩
  · have hmm : (s.data.toList[a]?).map lw ≠ some m := fun h => g (hmk.2 h)
    rw [ex_no hmm]
    have gb : (n == (m.toNat : Int)) = false := by simpa using g
    clear hmk hmm g
    go_enter Tryz.func167, Tryz.ntmps167
    go_wp2_with (go_at_call 43; refine HP.out.mono ?_; rintro e w2 ⟨rfl, m1, rfl⟩)
    go_ret
    exact ⟨rfl, HS.out.drew _, grown_drew (grown_refl _ _) _⟩
end Go.Proofs.YtilnhkflgfajcaaGreatDoor

namespace Go.Proofs.YtilnhkflgfajcaaGreatDoor
open Go.Eng Go.RowKit
set_option maxRecDepth 1000000

theorem wd_one {t : List UInt8} {a : Nat} {c : UInt8} (h1 : c.toNat < 65 ∨ (90 < c.toNat ∧ c.toNat < 97) ∨ 122 < c.toNat) : wd t a [c] = decide (t[a]? = some c) := by
  have e : wd t a [c] = true ↔ t[a]? = some c := by
    rw [wd_iff]
    constructor
    · intro h
      have := h 0 (by simp)
      simp only [Nat.add_zero, List.getElem?_cons_zero] at this
      cases g : t[a]? with
      | none => rw [g] at this; cases this
      | some b =>
        rw [g] at this
        simp only [Option.map_some, Option.some.injEq] at this
        rw [← UInt8.toNat_inj, lw_nat] at this
        rw [Option.some.injEq, ← UInt8.toNat_inj]
        split at this <;> omega
    · intro h j hj
      simp only [List.length_cons, List.length_nil] at hj
      have : j = 0 := by omega
      subst this
      simp only [Nat.add_zero, List.getElem?_cons_zero, h, Option.map_some, Option.some.injEq]
      rw [← UInt8.toNat_inj, lw_nat, if_neg (by omega)]
  cases g : wd t a [c] with
  | true => rw [decide_eq_true (e.1 g)]
  | false => rw [decide_eq_false (fun h => by rw [e.2 h] at g; cases g)]
theorem slice_run {s : ByteArray} {a r : Nat} (h1 : a ≤ r) (h2 : r ≤ s.size) (w : World) :
    (Instr.slice 9 (.string s) (some (.int .i64 (a : Int))) (some (.int .i64 (r : Int))) none).run Tryz.prog w = .ok (.string ⟨⟨sl s.data.toList a r⟩⟩) w := by
  rw [run_slice_string w 9 s .i64 .i64 _ _ Tryz.underlying9 (by omega) (by omega) (by omega)]
  have e : s.extract a r = ⟨⟨sl s.data.toList a r⟩⟩ := by
    have := sub_list s a r
    rw [← this]
  simp only [Int.toNat_natCast]
  rw [e]
def pyN (n : Int) : Bool := decide ((48 ≤ n ∧ n ≤ 57) ∨ (97 ≤ n ∧ n ≤ 122) ∨ n = 95)
theorem py_lw (b : UInt8) : py b = pyN ((lw b).toNat : Int) := by
  unfold py pyN
  rw [lw_nat]
  have := b.toNat_lt
  rw [decide_eq_decide]
  split <;> omega
theorem pk_py {t : List UInt8} {a : Nat} {b : UInt8} (h : t[a]? = some b) : pyN (pk t a) = py b := by
  unfold pk
  rw [h, py_lw]
theorem pk_py_end {t : List UInt8} {a : Nat} (h : t.length ≤ a) : pyN (pk t a) = false := by
  unfold pk
  rw [List.getElem?_eq_none h]
  decide

set_option maxHeartbeats 8000000 in
theorem payload_any {w : World} {B a : Nat} {s p : ByteArray} (h : Sc w B a s p) (hs : s.size ≤ 20000) (ha : a ≤ s.size) :
    Calls Tryz.prog 107 #[.pointer (some ⟨B, 0, none⟩)] w fun e w' => e = .returned (.string ⟨⟨(pl s.data.toList a).1⟩⟩) ∧ Sc w' B (pl s.data.toList a).2 s p ∧ w.grownBy w' (some B) := by
  have HW0 := Lib.hid (word_any (v := ⟨#[40]⟩) h hs ha (by decide))
  have e1 : wd s.data.toList a [40] = decide (s.data.toList[a]? = some 40) := wd_one (by decide)
  have e1' : wd s.data.toList a (⟨#[40]⟩ : ByteArray).data.toList = decide (s.data.toList[a]? = some 40) := e1
  rw [e1'] at HW0
  have HS : Aside (Sc w B a s p) := h
  obtain ⟨c0, c1, _, c3⟩ := h.cells
  clear h e1 e1'
  by_cases g : s.data.toList[a]? = some 40
  · have hlt : a < s.size := by
      rcases Nat.lt_or_ge a s.size with h1 | h1
      · exact h1
      · rw [List.getElem?_eq_none (by simpa using h1)] at g
        cases g
    obtain ⟨r, hr⟩ : ∃ r, r = rn py s.data.toList (a + 1) := ⟨_, rfl⟩
    have hra : a + 1 ≤ r := by rw [hr]; exact rn_ge _ _ _
    have hrn : r ≤ s.size := by rw [hr]; simpa using rn_le py s.data.toList (a + 1) (by simpa using Nat.succ_le_of_lt hlt)
    have hpl : pl s.data.toList a = if s.data.toList[r]? = some 41 then (sl s.data.toList (a + 1) r, r + 1) else ([], a) := by
      subst hr
      unfold pl
      rw [if_pos g]
    have HPL : Aside (pl s.data.toList a = if s.data.toList[r]? = some 41 then (sl s.data.toList (a + 1) r, r + 1) else ([], a)) := hpl
    obtain ⟨E, hE⟩ : ∃ E, E = pl s.data.toList a := ⟨_, rfl⟩
    rw [← hE] at HPL
    rw [← hE]
    have HR : Aside (r = rn py s.data.toList (a + 1)) := hr
    rw [decide_eq_true g] at HW0
    simp only [if_true] at HW0
    clear hpl hE g hr
    have HW := Lib.hid fun W (hW : Sc W B r s p) => word_any (v := ⟨#[41]⟩) hW hs hrn (by decide)
    have e1 : wd s.data.toList r (⟨#[41]⟩ : ByteArray).data.toList = decide (s.data.toList[r]? = some 41) := wd_one (by decide)
    rw [e1] at HW
    clear e1
    have HP1 := Lib.hid fun W (hW : Sc W B (a + 1) s p) => peek_any hW hs hlt
    go_enter Tryz.func107, Tryz.ntmps107
    go_wp2_with (first
      | (go_at_call 105; refine HW0.out.mono ?_; rintro e w2 ⟨rfl, hsc2, hgr2⟩; obtain ⟨d0, d1, _, d3⟩ := hsc2.cells)
      | (go_at_call 43; refine (HP1.out _ hsc2).mono ?_; rintro e w3 ⟨rfl, m0, rfl⟩))
    have hsl := slice_run (s := s) (a := a + 1) (r := r) hra hrn
    push_cast at hsl
    go_loopw [5] (fun b wr => ∃ k : Nat, a + 1 ≤ k ∧ k ≤ s.size ∧ b = .int .u8 (pk s.data.toList k) ∧ Aside (r = rn py s.data.toList k) ∧ Aside (Sc wr B k s p) ∧ Aside (w.grownBy wr (some B))) (fun _ wr => s.size - atW wr B)
    case atStart => exact ⟨a + 1, Nat.le_refl _, hlt, rfl, HR.out, hsc2.drew _, grown_drew hgr2 _⟩
    case round =>
      obtain ⟨k, hak, hk, rfl, hrk, hsc, hgr⟩ := hrel
      have hpk := pk_lt s.data.toList k
      obtain ⟨n, hn⟩ : ∃ n, n = pk s.data.toList k := ⟨_, rfl⟩
      have HN : Aside (n = pk s.data.toList k) := hn
      rw [← hn] at hpk ⊢
      clear hn
      obtain ⟨hn0, hn1⟩ := hpk
      obtain ⟨d0, d1, _, d3⟩ := hsc.out.cells
      cases hd : pyN n
      · have hrk2 : r = k := by
          rw [hrk.out]
          rcases Nat.lt_or_ge k s.size with hlt | hge
          · obtain ⟨b, hb⟩ : ∃ b, s.data.toList[k]? = some b := ⟨_, List.getElem?_eq_getElem (by simpa using hlt)⟩
            exact rn_stop hb (by rw [← pk_py hb, ← HN.out, hd])
          · exact rn_end (by simpa using hge)
        unfold pyN at hd
        have hd := of_decide_eq_false hd
        subst hrk2
        have HD : Aside (¬ ((48 ≤ n ∧ n ≤ 57) ∨ (97 ≤ n ∧ n ≤ 122) ∨ n = 95)) := hd
        have n95 : n ≠ 95 := fun e => HD.out (.inr (.inr e))
        clear hd
        have b95 : (n == 95) = false := by simpa using n95
        clear n95
        by_cases g41 : s.data.toList[r]? = some 41
        · have eE : E = (sl s.data.toList (a + 1) r, r + 1) := by rw [HPL.out, if_pos g41]
          subst eE
          rw [decide_eq_true g41] at HW
          simp only [if_true] at HW
          clear g41
          by_cases q1 : 48 ≤ n
          · have q2 : ¬ n ≤ 57 := fun h => HD.out (.inl ⟨q1, h⟩)
            by_cases q3 : 97 ≤ n
            · have q4 : ¬ n ≤ 122 := fun h => HD.out (.inr (.inl ⟨q3, h⟩))
              go_wp2
              go_quiet (fail)
              go_wp2_with (go_at_call 105; refine (HW.out _ (hsc.out.drew _)).mono ?_; rintro e w5 ⟨rfl, hsc5, hgr5⟩; obtain ⟨f0, f1, _, f3⟩ := hsc5.cells)
              go_ret
              exact ⟨rfl, hsc5, grown_trans (grown_drew hgr.out _) hgr5⟩
            ·
              go_wp2
              go_quiet (fail)
              go_wp2_with (go_at_call 105; refine (HW.out _ (hsc.out.drew _)).mono ?_; rintro e w5 ⟨rfl, hsc5, hgr5⟩; obtain ⟨f0, f1, _, f3⟩ := hsc5.cells)
              go_ret
              exact ⟨rfl, hsc5, grown_trans (grown_drew hgr.out _) hgr5⟩
          · have q3 : ¬ 97 ≤ n := by omega
            go_wp2
            go_quiet (fail)
            go_wp2_with (go_at_call 105; refine (HW.out _ (hsc.out.drew _)).mono ?_; rintro e w5 ⟨rfl, hsc5, hgr5⟩; obtain ⟨f0, f1, _, f3⟩ := hsc5.cells)
            go_ret
            exact ⟨rfl, hsc5, grown_trans (grown_drew hgr.out _) hgr5⟩
        · have eE : E = ([], a) := by rw [HPL.out, if_neg g41]
          subst eE
          rw [decide_eq_false g41] at HW
          simp only [Bool.false_eq_true, if_false] at HW
          clear g41
          by_cases q1 : 48 ≤ n
          · have q2 : ¬ n ≤ 57 := fun h => HD.out (.inl ⟨q1, h⟩)
            by_cases q3 : 97 ≤ n
            · have q4 : ¬ n ≤ 122 := fun h => HD.out (.inr (.inl ⟨q3, h⟩))
              go_wp2
              go_quiet (fail)
              go_wp2_with (go_at_call 105; refine (HW.out _ (hsc.out.drew _)).mono ?_; rintro e w5 ⟨rfl, hsc5, hgr5⟩; obtain ⟨f0, f1, _, f3⟩ := hsc5.cells)
              go_ret
              exact ⟨rfl, hsc5.set a, grown_set (grown_trans (grown_drew hgr.out _) hgr5) _ _⟩
            ·
              go_wp2
              go_quiet (fail)
              go_wp2_with (go_at_call 105; refine (HW.out _ (hsc.out.drew _)).mono ?_; rintro e w5 ⟨rfl, hsc5, hgr5⟩; obtain ⟨f0, f1, _, f3⟩ := hsc5.cells)
              go_ret
              exact ⟨rfl, hsc5.set a, grown_set (grown_trans (grown_drew hgr.out _) hgr5) _ _⟩
          · have q3 : ¬ 97 ≤ n := by omega
            go_wp2
            go_quiet (fail)
            go_wp2_with (go_at_call 105; refine (HW.out _ (hsc.out.drew _)).mono ?_; rintro e w5 ⟨rfl, hsc5, hgr5⟩; obtain ⟨f0, f1, _, f3⟩ := hsc5.cells)
            go_ret
            exact ⟨rfl, hsc5.set a, grown_set (grown_trans (grown_drew hgr.out _) hgr5) _ _⟩
      · have hlt : k < s.size := by
          rcases Nat.lt_or_ge k s.size with hlt | hge
          · exact hlt
          · rw [HN.out, pk_py_end (by simpa using hge)] at hd
            cases hd
        have hrk2 : r = rn py s.data.toList (k + 1) := by
          obtain ⟨b, hb⟩ : ∃ b, s.data.toList[k]? = some b := ⟨_, List.getElem?_eq_getElem (by simpa using hlt)⟩
          rw [hrk.out]
          exact rn_step hb (by rw [← pk_py hb, ← HN.out, hd])
        have HRK : Aside (r = rn py s.data.toList (k + 1)) := hrk2
        have HPK := Lib.hid fun W (hW : Sc W B (k + 1) s p) => peek_any hW hs hlt
        unfold pyN at hd
        have hd := of_decide_eq_true hd
        clear hrk2
        rcases hd with ⟨h1, h2⟩ | ⟨h1, h2⟩ | h1
        · have q := h1

          go_wp2_with (go_at_call 43; refine (HPK.out _ (by have := hsc.out.set (k + 1); push_cast at this; exact this)).mono ?_; rintro e w2 ⟨rfl, m1, rfl⟩)
          go_roundw
          case rel => exact ⟨k + 1, by omega, by omega, rfl, HRK.out, (by have := (hsc.out.set (k + 1)).drew m1; push_cast at this; exact this), grown_drew (grown_set hgr.out _ _) _⟩
          case measure =>
            have e1 := hsc.out.atW
            have e2 : atW ((wr.setCell ⟨B, 0, none⟩ (.int .i64 ((k : Int) + 1))).drewN m1) B = k + 1 := by
              have := (hsc.out.set (k + 1)).drew m1
              push_cast at this
              exact this.atW
            rw [e1, e2]
            omega
        · have q1 : 48 ≤ n := by omega
          have q2 : ¬ n ≤ 57 := by omega
          go_wp2_with (go_at_call 43; refine (HPK.out _ (by have := hsc.out.set (k + 1); push_cast at this; exact this)).mono ?_; rintro e w2 ⟨rfl, m1, rfl⟩)
          go_roundw
          case rel => exact ⟨k + 1, by omega, by omega, rfl, HRK.out, (by have := (hsc.out.set (k + 1)).drew m1; push_cast at this; exact this), grown_drew (grown_set hgr.out _ _) _⟩
          case measure =>
            have e1 := hsc.out.atW
            have e2 : atW ((wr.setCell ⟨B, 0, none⟩ (.int .i64 ((k : Int) + 1))).drewN m1) B = k + 1 := by
              have := (hsc.out.set (k + 1)).drew m1
              push_cast at this
              exact this.atW
            rw [e1, e2]
            omega
        · subst h1

          go_wp2_with (go_at_call 43; refine (HPK.out _ (by have := hsc.out.set (k + 1); push_cast at this; exact this)).mono ?_; rintro e w2 ⟨rfl, m1, rfl⟩)
          go_roundw
          case rel => exact ⟨k + 1, by omega, by omega, rfl, HRK.out, (by have := (hsc.out.set (k + 1)).drew m1; push_cast at this; exact this), grown_drew (grown_set hgr.out _ _) _⟩
          case measure =>
            have e1 := hsc.out.atW
            have e2 : atW ((wr.setCell ⟨B, 0, none⟩ (.int .i64 ((k : Int) + 1))).drewN m1) B = k + 1 := by
              have := (hsc.out.set (k + 1)).drew m1
              push_cast at this
              exact this.atW
            rw [e1, e2]
            omega
  · have e : pl s.data.toList a = ([], a) := by unfold pl; rw [if_neg g]
    rw [e]
    rw [decide_eq_false g] at HW0
    simp only [Bool.false_eq_true, if_false] at HW0
    clear g e
    go_enter Tryz.func107, Tryz.ntmps107
    go_wp2_with (go_at_call 105; refine HW0.out.mono ?_; rintro e w2 ⟨rfl, hsc2, hgr2⟩)
    go_ret
    exact ⟨rfl, hsc2, hgr2⟩
end Go.Proofs.YtilnhkflgfajcaaGreatDoor
