/- What the reference's Text returns, whatever the types. Conditions: none. -/
import Derived.Test.YtfcglnmfcniojaaGreatDoorAc
import Derived.Test.YtfcglnmfcniojaaGreatDoorAe
set_option linter.all false
namespace Go.Proofs.YtfcglnmfcniojaaGreatDoor
open Go.Eng Go.RowKit
set_option maxRecDepth 1000000

set_option maxHeartbeats 4000000 in
theorem rvalid_any (k b f : Int) (w : World) : Calls Tryz.prog 41 #[.agg #[.int .i64 k, .int .i64 b, .int .i64 f]] w fun e w' => e = .returned (.bool (vT (k, b, f))) ∧ Below w.heap.size w w' := by
  go_enter Tryz.func41, Tryz.ntmps41
  go_wp2
  all_goals
    go_ret
    refine ⟨ret_bool ?_, (Below.refl _ _).alloc (Nat.le_refl _) _⟩
    simp only [beq_iff_eq, Bool.not_eq_true, beq_eq_false_iff_ne, ne_eq, vT, decide_eq_true_eq] at *
    try simp
    try omega
end Go.Proofs.YtfcglnmfcniojaaGreatDoor

namespace Go.Proofs.YtfcglnmfcniojaaGreatDoor
open Go.Eng Go.RowKit
set_option maxRecDepth 1000000

theorem jn_snoc : ∀ (ws : List (List UInt8)) (w : List UInt8), ws ≠ [] → jn (ws ++ [w]) = jn ws ++ 32 :: w
  | [], w, h => absurd rfl h
  | [v], w, _ => by rw [List.singleton_append, jn_cons2, jn_one, jn_one]
  | v :: u :: ws, w, _ => by
    have ih := jn_snoc (u :: ws) w (by simp)
    rw [List.cons_append, List.cons_append, jn_cons2, jn_cons2, ← List.cons_append, ih]
    simp
/-- The text of the first k types. -/
def J (ts : List Ty) (k : Nat) : List UInt8 := jn ((ts.take k).map tx)
theorem J_zero (ts : List Ty) : J ts 0 = [] := rfl
theorem J_one {ts : List Ty} {t : Ty} (h : ts[0]? = some t) : J ts 1 = tx t := by
  cases ts with
  | nil => simp at h
  | cons u ts => simp at h; subst h; exact jn_one _
theorem J_succ {ts : List Ty} {k : Nat} {t : Ty} (h : ts[k]? = some t) (hk : 0 < k) : J ts (k + 1) = J ts k ++ 32 :: tx t := by
  unfold J
  rw [List.take_add_one, h, List.map_append]
  have hne : (ts.take k).map tx ≠ [] := by
    intro e
    have h1 := congrArg List.length e
    have h2 := (List.getElem?_eq_some_iff.1 h).1
    simp at h1
    rcases h1 with h1 | h1
    · omega
    · subst h1; simp at h2
  exact jn_snoc _ _ hne
theorem J_len (ts : List Ty) (k : Nat) (h : (ts.take k).all vT = true) (hk : k ≤ 64) : (J ts k).length ≤ 256 := by
  have h1 := jn_len (ts.take k) h
  have h2 : (ts.take k).length ≤ k := List.length_take_le k ts
  unfold J
  omega

theorem bytes_ext {a b : ByteArray} (h : a.data.toList = b.data.toList) : a = b := by
  obtain ⟨⟨a⟩⟩ := a
  obtain ⟨⟨b⟩⟩ := b
  simp only at h
  rw [h]
theorem app_blank (a b : List UInt8) : (⟨⟨a⟩⟩ : ByteArray) ++ ⟨#[32]⟩ ++ ⟨⟨b⟩⟩ = ⟨⟨a ++ 32 :: b⟩⟩ := by
  apply bytes_ext
  simp [ByteArray.data_append]
theorem app_first (b : List UInt8) : (⟨⟨[]⟩⟩ : ByteArray) ++ ⟨⟨b⟩⟩ = ⟨⟨b⟩⟩ := by
  apply bytes_ext
  simp [ByteArray.data_append]
theorem rtext_long (a : Option Addr) (n cap : Nat) (w : World) (hn : 64 < n) :
    Calls Tryz.prog 16 #[.slice a n cap] w fun e w' => e = .returned (.tuple #[.string ⟨⟨[]⟩⟩, .int .i64 2]) ∧ Below w.heap.size w w' := by
  have h1 : (64 : Int) < (n : Int) := by omega
  go_enter Tryz.func16, Tryz.ntmps16
  go_wp2
  go_ret2
  exact ⟨rfl, Below.refl _ _⟩
theorem rtext_nil (a : Option Addr) (cap : Nat) (w : World) :
    Calls Tryz.prog 16 #[.slice a 0 cap] w fun e w' => e = .returned (.tuple #[.string ⟨⟨[]⟩⟩, .int .i64 0]) ∧ Below w.heap.size w w' := by
  go_enter Tryz.func16, Tryz.ntmps16
  go_wp2
  refine wp_loop_rounds 1 ?_
  rw [rounds_succ]
  go_wp2
  go_ret2
  exact ⟨rfl, Below.refl _ _⟩

set_option maxHeartbeats 4000000 in
theorem rtext_ok (b off cap : Nat) (ts : List Ty) (w : World) (hg : Gl w) (hn : ts.length ≤ 64) (hl : TyAt w (some ⟨b, off, none⟩) ts) (hb : b < w.heap.size) (hv : ts.all vT = true) :
    Calls Tryz.prog 16 #[.slice (some ⟨b, off, none⟩) ts.length cap] w fun e w' => e = .returned (.tuple #[.string ⟨⟨jn (ts.map tx)⟩⟩, .int .i64 0]) ∧ Below w.heap.size w w' := by
  have HL : Aside (TyAt w (some ⟨b, off, none⟩) ts) := hl
  have HV : Aside (ts.all vT = true) := hv
  have HG : Aside (Gl w) := hg
  obtain ⟨n, hnn⟩ : ∃ n, n = ts.length := ⟨_, rfl⟩
  rw [← hnn] at hn ⊢
  have hn1 : ¬ (64 : Int) < (n : Int) := by omega
  have HNN : Aside (n = ts.length) := hnn
  clear hl hv hg hnn
  go_enter Tryz.func16, Tryz.ntmps16
  go_wp2
  go_loopw [4, 5] (fun v i wr => ∃ k : Nat, k ≤ n ∧ i = .int .i64 k ∧ v = .string ⟨⟨J ts k⟩⟩ ∧ Aside (Below w.heap.size w wr)) (fun _ i _ => n - (intOf i).toNat)
  case atStart => exact ⟨0, Nat.zero_le _, rfl, rfl, Below.refl _ _⟩
  case round =>
    obtain ⟨k, hk, rfl, rfl, hB⟩ := hrel
    by_cases hlt : k < n
    · obtain ⟨t, ht⟩ : ∃ t, ts[k]? = some t := ⟨_, List.getElem?_eq_getElem (by have := HNN.out; omega)⟩
      have hvt : vT t = true := List.all_eq_true.1 HV.out t (List.mem_of_getElem? ht)
      have HT : Aside (ts[k]? = some t) := ht
      obtain ⟨g, o, hgo, _, hcells⟩ := (HL.out.since hB.out (Nat.le_refl _)) (fun e => by subst e; simp at ht)
      cases hgo
      obtain ⟨hc0, hc1, hc2⟩ := hcells k t ht
      obtain ⟨K, Bt, F⟩ := t
      simp only at hc0 hc1 hc2
      have HVAL : Hid (∀ W, Calls Tryz.prog 41 #[.agg #[.int .i64 K, .int .i64 Bt, .int .i64 F]] W fun e w' => e = .returned (.bool true) ∧ Below W.heap.size W w') := Lib.hid fun W => by
        have := rvalid_any K Bt F W
        rw [hvt] at this
        exact this
      have HTXT : Hid (∀ W, Gl W → Calls Tryz.prog 42 #[.agg #[.int .i64 K, .int .i64 Bt, .int .i64 F]] W fun e w' => e = .returned (.string ⟨⟨tx (K, Bt, F)⟩⟩) ∧ Below W.heap.size W w') := Lib.hid fun W hg => rtext_any (K, Bt, F) hvt W hg
      have HJL : Aside ((J ts k).length ≤ 256) := J_len ts k (by rw [List.all_eq_true]; intro x hx; exact List.all_eq_true.1 HV.out x (List.mem_of_mem_take hx)) (by omega)
      have HTL : Aside ((tx (K, Bt, F)).length ≤ 3) := tx_len hvt
      have hgr : Aside (Gl wr) := HG.out.since hB.out
      clear ht hvt
      have hk0 : (0 : Int) ≤ (k : Int) := by omega
      have hk1 : (k : Int) < (n : Int) := by omega
      have hcb : b < wr.heap.size := Nat.lt_of_lt_of_le hb hB.out.size
      have l1 : ¬ 9223372036854775807 < (J ts k).length + 1 := by have := HJL.out; omega
      have l2 : ¬ 9223372036854775807 < (J ts k).length + 1 + (tx (K, Bt, F)).length := by have := HJL.out; have := HTL.out; omega
      have l3 : ¬ 9223372036854775807 < (J ts k).length + (tx (K, Bt, F)).length := by have := HJL.out; have := HTL.out; omega
      rcases Nat.eq_zero_or_pos k with hz | hpos
      · have hk2 : ¬ (0 : Int) < (k : Int) := by omega
        have HZ : Aside (k = 0) := hz
        clear hz
        go_wp2_with (first
          | (go_at_call 41; refine (HVAL.out _).mono ?_; rintro e w2 ⟨rfl, hB2⟩; obtain ⟨e0, e1, e2⟩ := (show _ ∧ _ ∧ _ from ⟨(hB2.cell (p := ⟨b, off + k * 3, none⟩) hcb).trans hc0, (hB2.cell (p := ⟨b, off + k * 3 + 1, none⟩) hcb).trans hc1, (hB2.cell (p := ⟨b, off + k * 3 + 2, none⟩) hcb).trans hc2⟩))
          | (go_at_call 42; refine (HTXT.out _ (hgr.out.since hB2)).mono ?_; rintro e w4 ⟨rfl, hB4⟩))
        go_roundw
        case rel => exact ⟨k + 1, by omega, by go_num, by have hz := HZ.out; subst hz; rw [J_one HT.out]; exact congrArg Value.string (app_first _), hB.out.trans ((step hB2 hB4).mono hB.out.size)⟩
        case measure => simp [intOf]; omega
      · have hk2 : (0 : Int) < (k : Int) := by omega
        go_wp2_with (first
          | (go_at_call 41; refine (HVAL.out _).mono ?_; rintro e w2 ⟨rfl, hB2⟩; obtain ⟨e0, e1, e2⟩ := (show _ ∧ _ ∧ _ from ⟨(hB2.cell (p := ⟨b, off + k * 3, none⟩) hcb).trans hc0, (hB2.cell (p := ⟨b, off + k * 3 + 1, none⟩) hcb).trans hc1, (hB2.cell (p := ⟨b, off + k * 3 + 2, none⟩) hcb).trans hc2⟩))
          | (go_at_call 42; refine (HTXT.out _ (hgr.out.since hB2)).mono ?_; rintro e w4 ⟨rfl, hB4⟩))
        go_roundw
        case rel => exact ⟨k + 1, by omega, by go_num, by rw [J_succ HT.out hpos]; exact congrArg Value.string (app_blank _ _), hB.out.trans ((step hB2 hB4).mono hB.out.size)⟩
        case measure => simp [intOf]; omega
    · have e : k = n := by omega
      subst e
      go_wp2
      go_ret2
      refine ⟨?_, hB.out⟩
      have e2 : J ts k = jn (ts.map tx) := by unfold J; rw [HNN.out, List.take_length]
      rw [← e2]
      rfl
end Go.Proofs.YtfcglnmfcniojaaGreatDoor

namespace Go.Proofs.YtfcglnmfcniojaaGreatDoor
open Go.Eng Go.RowKit
set_option maxRecDepth 1000000

set_option maxHeartbeats 4000000 in
theorem rtext_bad (b off cap : Nat) (ts : List Ty) (w : World) (hg : Gl w) (hn : ts.length ≤ 64) (hl : TyAt w (some ⟨b, off, none⟩) ts) (hb : b < w.heap.size) (q : Nat) (tq : Ty) (hq : ts[q]? = some tq) (hv : (ts.take q).all vT = true) (hbad : vT tq = false) :
    Calls Tryz.prog 16 #[.slice (some ⟨b, off, none⟩) ts.length cap] w fun e w' => e = .returned (.tuple #[.string ⟨⟨[]⟩⟩, .int .i64 1]) ∧ Below w.heap.size w w' := by
  have HL : Aside (TyAt w (some ⟨b, off, none⟩) ts) := hl
  have HV : Aside ((ts.take q).all vT = true) := hv
  have HQ : Aside (ts[q]? = some tq) := hq
  have hqn0 : q < ts.length := (List.getElem?_eq_some_iff.1 hq).1
  have HG : Aside (Gl w) := hg
  obtain ⟨n, hnn⟩ : ∃ n, n = ts.length := ⟨_, rfl⟩
  rw [← hnn] at hn hqn0 ⊢
  have hn1 : ¬ (64 : Int) < (n : Int) := by omega
  have HNN : Aside (n = ts.length) := hnn
  clear hl hv hg hnn hq
  go_enter Tryz.func16, Tryz.ntmps16
  go_wp2
  go_loopw [4, 5] (fun v i wr => ∃ k : Nat, k ≤ q ∧ i = .int .i64 k ∧ v = .string ⟨⟨J ts k⟩⟩ ∧ Aside (Below w.heap.size w wr)) (fun _ i _ => n - (intOf i).toNat)
  case atStart => exact ⟨0, Nat.zero_le _, rfl, rfl, Below.refl _ _⟩
  case round =>
    obtain ⟨k, hk, rfl, rfl, hB⟩ := hrel
    by_cases hlt : k < q
    · obtain ⟨t, ht⟩ : ∃ t, ts[k]? = some t := ⟨_, List.getElem?_eq_getElem (by have := HNN.out; omega)⟩
      have hvt : vT t = true := List.all_eq_true.1 HV.out t (List.mem_of_getElem? (i := k) (by rw [List.getElem?_take, if_pos hlt]; exact ht))
      have HT : Aside (ts[k]? = some t) := ht
      obtain ⟨g, o, hgo, _, hcells⟩ := (HL.out.since hB.out (Nat.le_refl _)) (fun e => by subst e; simp at ht)
      cases hgo
      obtain ⟨hc0, hc1, hc2⟩ := hcells k t ht
      obtain ⟨K, Bt, F⟩ := t
      simp only at hc0 hc1 hc2
      have HVAL : Hid (∀ W, Calls Tryz.prog 41 #[.agg #[.int .i64 K, .int .i64 Bt, .int .i64 F]] W fun e w' => e = .returned (.bool true) ∧ Below W.heap.size W w') := Lib.hid fun W => by
        have := rvalid_any K Bt F W
        rw [hvt] at this
        exact this
      have HTXT : Hid (∀ W, Gl W → Calls Tryz.prog 42 #[.agg #[.int .i64 K, .int .i64 Bt, .int .i64 F]] W fun e w' => e = .returned (.string ⟨⟨tx (K, Bt, F)⟩⟩) ∧ Below W.heap.size W w') := Lib.hid fun W hg => rtext_any (K, Bt, F) hvt W hg
      have HJL : Aside ((J ts k).length ≤ 256) := J_len ts k (by rw [List.all_eq_true]; intro x hx; exact List.all_eq_true.1 HV.out x ((List.take_prefix_take_left (show k ≤ q by omega)).subset hx)) (by omega)
      have HTL : Aside ((tx (K, Bt, F)).length ≤ 3) := tx_len hvt
      have hgr : Aside (Gl wr) := HG.out.since hB.out
      clear ht hvt
      have hk0 : (0 : Int) ≤ (k : Int) := by omega
      have hk1 : (k : Int) < (n : Int) := by omega
      have hcb : b < wr.heap.size := Nat.lt_of_lt_of_le hb hB.out.size
      have l1 : ¬ 9223372036854775807 < (J ts k).length + 1 := by have := HJL.out; omega
      have l2 : ¬ 9223372036854775807 < (J ts k).length + 1 + (tx (K, Bt, F)).length := by have := HJL.out; have := HTL.out; omega
      have l3 : ¬ 9223372036854775807 < (J ts k).length + (tx (K, Bt, F)).length := by have := HJL.out; have := HTL.out; omega
      rcases Nat.eq_zero_or_pos k with hz | hpos
      · have hk2 : ¬ (0 : Int) < (k : Int) := by omega
        have HZ : Aside (k = 0) := hz
        clear hz
        go_wp2_with (first
          | (go_at_call 41; refine (HVAL.out _).mono ?_; rintro e w2 ⟨rfl, hB2⟩; obtain ⟨e0, e1, e2⟩ := (show _ ∧ _ ∧ _ from ⟨(hB2.cell (p := ⟨b, off + k * 3, none⟩) hcb).trans hc0, (hB2.cell (p := ⟨b, off + k * 3 + 1, none⟩) hcb).trans hc1, (hB2.cell (p := ⟨b, off + k * 3 + 2, none⟩) hcb).trans hc2⟩))
          | (go_at_call 42; refine (HTXT.out _ (hgr.out.since hB2)).mono ?_; rintro e w4 ⟨rfl, hB4⟩))
        go_roundw
        case rel => exact ⟨k + 1, by omega, by go_num, by have hz := HZ.out; subst hz; rw [J_one HT.out]; exact congrArg Value.string (app_first _), hB.out.trans ((step hB2 hB4).mono hB.out.size)⟩
        case measure => simp [intOf]; omega
      · have hk2 : (0 : Int) < (k : Int) := by omega
        go_wp2_with (first
          | (go_at_call 41; refine (HVAL.out _).mono ?_; rintro e w2 ⟨rfl, hB2⟩; obtain ⟨e0, e1, e2⟩ := (show _ ∧ _ ∧ _ from ⟨(hB2.cell (p := ⟨b, off + k * 3, none⟩) hcb).trans hc0, (hB2.cell (p := ⟨b, off + k * 3 + 1, none⟩) hcb).trans hc1, (hB2.cell (p := ⟨b, off + k * 3 + 2, none⟩) hcb).trans hc2⟩))
          | (go_at_call 42; refine (HTXT.out _ (hgr.out.since hB2)).mono ?_; rintro e w4 ⟨rfl, hB4⟩))
        go_roundw
        case rel => exact ⟨k + 1, by omega, by go_num, by rw [J_succ HT.out hpos]; exact congrArg Value.string (app_blank _ _), hB.out.trans ((step hB2 hB4).mono hB.out.size)⟩
        case measure => simp [intOf]; omega
    · have e : k = q := by omega
      subst e
      obtain ⟨g, o, hgo, _, hcells⟩ := (HL.out.since hB.out (Nat.le_refl _)) (fun e => by subst e; have := HQ.out; simp at this)
      cases hgo
      obtain ⟨hc0, hc1, hc2⟩ := hcells k tq HQ.out
      obtain ⟨K, Bt, F⟩ := tq
      simp only at hc0 hc1 hc2
      have HVAL : Hid (∀ W, Calls Tryz.prog 41 #[.agg #[.int .i64 K, .int .i64 Bt, .int .i64 F]] W fun e w' => e = .returned (.bool false) ∧ Below W.heap.size W w') := Lib.hid fun W => by
        have := rvalid_any K Bt F W
        rw [hbad] at this
        exact this
      clear hcells hbad
      have hk0 : (0 : Int) ≤ (k : Int) := by omega
      have hk1 : (k : Int) < (n : Int) := by omega
      go_wp2_with (go_at_call 41; refine (HVAL.out _).mono ?_; rintro e w2 ⟨rfl, hB2⟩)
      go_ret2
      exact ⟨rfl, hB.out.trans (hB2.mono hB.out.size)⟩

theorem rtext_val (v : Value) (ts : List Ty) (w : World) (hg : Gl w) (hv : TysOf w v ts) :
    Calls Tryz.prog 16 #[v] w fun e w' => e = .returned (.tuple #[.string ⟨⟨textS ts⟩⟩, .int .i64 (textE ts)]) ∧ Below w.heap.size w w' := by
  obtain ⟨a, c, rfl, hl⟩ := hv
  by_cases h64 : 64 < ts.length
  · have hE : textE ts = 2 := by unfold textE; rw [if_pos h64]
    rw [textS_no (by rw [hE]; decide), hE]
    exact rtext_long a ts.length c w h64
  · cases ts with
    | nil => exact rtext_nil a c w
    | cons t ts =>
      obtain ⟨g, o, rfl, hgs, _⟩ := hl (by simp)
      cases ha : (t :: ts).all vT with
      | true =>
        have hE : textE (t :: ts) = 0 := by unfold textE; rw [if_neg h64, if_pos ha]
        rw [textS, if_pos hE, hE]
        exact rtext_ok g o c (t :: ts) w hg (by omega) hl hgs ha
      | false =>
        have hE : textE (t :: ts) = 1 := by unfold textE; rw [if_neg h64, if_neg (by rw [ha]; simp)]
        rw [textS_no (by rw [hE]; decide), hE]
        obtain ⟨q, u, h1, h2, h3⟩ := first_bad _ ha
        exact rtext_bad g o c (t :: ts) w hg (by omega) hl hgs q u h1 h2 h3
end Go.Proofs.YtfcglnmfcniojaaGreatDoor
