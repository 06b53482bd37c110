/- Words between blanks, the texts of types, and what Text and Parse return: each undoes the other. Conditions: none. -/
import Derived.Lib.Join
import Derived.Lib.Split
import Derived.RowKit
import Derived.Lib.SplitLaws
import Derived.Lib.Atoi
import Derived.Lib.Bytealg
set_option linter.all false
namespace Go.Proofs.YtfcglnmfcniojaaGreatDoor
open Go.RowKit
set_option maxRecDepth 100000

/-- A type: its kind, its bits, its format. -/
abbrev Ty := Int × Int × Int
/-- The types, with their texts. -/
def tyTab : List (Ty × List UInt8) := [((1, 8, 0), [105, 56]), ((1, 16, 0), [105, 49, 54]), ((1, 32, 0), [105, 51, 50]), ((1, 64, 0), [105, 54, 52]),
  ((2, 0, 1), [114, 49]), ((2, 0, 2), [114, 50]), ((2, 0, 3), [114, 51]), ((2, 0, 4), [114, 52]), ((2, 0, 5), [114, 53]), ((2, 0, 6), [114, 54]), ((2, 0, 7), [114, 55]), ((2, 0, 8), [114, 56]),
  ((3, 0, 0), [115]), ((4, 0, 0), [119]), ((5, 0, 0), [99]), ((6, 0, 0), [112]), ((7, 8, 0), [110, 56]), ((7, 16, 0), [110, 49, 54]), ((7, 32, 0), [110, 51, 50]), ((7, 64, 0), [110, 54, 52])]
def tx (t : Ty) : List UInt8 := match tyTab.find? (fun p => p.1 == t) with | some p => p.2 | none => []
def ty (w : List UInt8) : Option Ty := match tyTab.find? (fun p => p.2 == w) with | some p => some p.1 | none => none
/-- Whether a type is valid. -/
def vT (t : Ty) : Bool := decide (((t.1 = 1 ∨ t.1 = 7) ∧ (t.2.1 = 8 ∨ t.2.1 = 16 ∨ t.2.1 = 32 ∨ t.2.1 = 64) ∧ t.2.2 = 0) ∨ (t.1 = 2 ∧ 1 ≤ t.2.2 ∧ t.2.2 ≤ 8 ∧ t.2.1 = 0) ∨ ((t.1 = 3 ∨ t.1 = 4 ∨ t.1 = 5 ∨ t.1 = 6) ∧ t.2.1 = 0 ∧ t.2.2 = 0))

theorem tab_facts : ∀ p ∈ tyTab, tx p.1 = p.2 ∧ ty p.2 = some p.1 ∧ vT p.1 = true ∧ (32 : UInt8) ∉ p.2 ∧ p.2 ≠ [] ∧ p.2.length ≤ 3 := by decide +kernel

theorem vT_mem (t : Ty) (h : vT t = true) : (t, tx t) ∈ tyTab := by
  obtain ⟨k, b, f⟩ := t
  simp only [vT, decide_eq_true_eq] at h
  rcases h with ⟨rfl | rfl, rfl | rfl | rfl | rfl, rfl⟩ | ⟨rfl, h1, h2, rfl⟩ | ⟨rfl | rfl | rfl | rfl, rfl, rfl⟩
  all_goals first
    | decide +kernel
    | (rcases (show f = 1 ∨ f = 2 ∨ f = 3 ∨ f = 4 ∨ f = 5 ∨ f = 6 ∨ f = 7 ∨ f = 8 by omega) with rfl | rfl | rfl | rfl | rfl | rfl | rfl | rfl <;> decide +kernel)

theorem ty_mem {w : List UInt8} {t : Ty} (h : ty w = some t) : (t, w) ∈ tyTab := by
  unfold ty at h
  split at h
  · rename_i p hp
    cases h
    have h1 := List.find?_some hp
    have h2 := List.mem_of_find?_eq_some hp
    obtain ⟨a, b⟩ := p
    simp only [beq_iff_eq] at h1
    subst h1
    exact h2
  · cases h
theorem ty_tx {t : Ty} (h : vT t = true) : ty (tx t) = some t := (tab_facts _ (vT_mem t h)).2.1
theorem ty_ok {w : List UInt8} {t : Ty} (h : ty w = some t) : vT t = true ∧ tx t = w := ⟨(tab_facts _ (ty_mem h)).2.2.1, (tab_facts _ (ty_mem h)).1⟩
theorem ty_iff {w : List UInt8} {t : Ty} : ty w = some t ↔ vT t = true ∧ tx t = w := ⟨ty_ok, fun ⟨h1, h2⟩ => h2 ▸ ty_tx h1⟩
theorem tx_blank {t : Ty} (h : vT t = true) : (32 : UInt8) ∉ tx t := (tab_facts _ (vT_mem t h)).2.2.2.1
theorem tx_ne {t : Ty} (h : vT t = true) : tx t ≠ [] := (tab_facts _ (vT_mem t h)).2.2.2.2.1
theorem tx_len {t : Ty} (h : vT t = true) : (tx t).length ≤ 3 := (tab_facts _ (vT_mem t h)).2.2.2.2.2

/-! ### Words -/

/-- The words between single blanks. -/
def wd : List UInt8 → List (List UInt8)
  | [] => [[]]
  | c :: cs => if c = 32 then [] :: wd cs else match wd cs with
    | [] => [[c]]
    | w :: ws => (c :: w) :: ws
def jn (ws : List (List UInt8)) : List UInt8 := Lib.join ws [32]

theorem wd_ne : ∀ s, wd s ≠ []
  | [] => by simp [wd]
  | c :: cs => by
    unfold wd
    split
    · simp
    · split <;> simp
theorem jn_cons2 (w v : List UInt8) (ws : List (List UInt8)) : jn (w :: v :: ws) = w ++ 32 :: jn (v :: ws) := by
  simp only [jn, Lib.join_cons, Lib.joinTail, List.map_cons, List.flatten_cons]
  simp
theorem jn_one (w : List UInt8) : jn [w] = w := Lib.join_one w [32]
theorem jn_head (c : UInt8) (w : List UInt8) : ∀ ws, jn ((c :: w) :: ws) = c :: jn (w :: ws)
  | [] => by rw [jn_one, jn_one]
  | v :: ws => by rw [jn_cons2, jn_cons2, List.cons_append]

theorem jn_wd : ∀ s, jn (wd s) = s
  | [] => by rw [wd, jn_one]
  | c :: cs => by
    have ih := jn_wd cs
    unfold wd
    split
    · rename_i h
      subst h
      cases hw : wd cs with
      | nil => exact absurd hw (wd_ne _)
      | cons v ws => rw [jn_cons2, ← hw, ih]; rfl
    · split
      · rename_i hw; exact absurd hw (wd_ne _)
      · rename_i w ws hw
        rw [jn_head, ← hw, ih]

theorem wd_plain : ∀ w : List UInt8, (32 : UInt8) ∉ w → wd w = [w]
  | [], _ => rfl
  | c :: w, h => by
    simp only [List.mem_cons, not_or] at h
    unfold wd
    rw [if_neg (fun e => h.1 e.symm), wd_plain w h.2]
theorem wd_app : ∀ (w s : List UInt8), (32 : UInt8) ∉ w → wd (w ++ 32 :: s) = w :: wd s
  | [], s, _ => by simp [wd]
  | c :: w, s, h => by
    simp only [List.mem_cons, not_or] at h
    rw [List.cons_append]
    conv => lhs; unfold wd
    rw [if_neg (fun e => h.1 e.symm), wd_app w s h.2]
theorem wd_jn : ∀ (w : List UInt8) (ws : List (List UInt8)), (∀ v ∈ w :: ws, (32 : UInt8) ∉ v) → wd (jn (w :: ws)) = w :: ws
  | w, [], h => by rw [jn_one, wd_plain w (h w (by simp))]
  | w, v :: ws, h => by rw [jn_cons2, wd_app _ _ (h w (by simp)), wd_jn v ws fun u hu => h u (by simp_all)]

theorem wd_blank : ∀ (s : List UInt8), ∀ w ∈ wd s, (32 : UInt8) ∉ w
  | [], w, h => by simp [wd] at h; subst h; simp
  | c :: cs, w, h => by
    have ih := wd_blank cs
    unfold wd at h
    split at h
    · rcases List.mem_cons.1 h with rfl | h
      · simp
      · exact ih w h
    · rename_i hc
      split at h
      · rename_i hw; exact absurd hw (wd_ne _)
      · rename_i v ws hw
        rcases List.mem_cons.1 h with rfl | h
        · simp only [List.mem_cons, not_or]
          exact ⟨fun e => hc e.symm, ih v (by rw [hw]; simp)⟩
        · exact ih w (by rw [hw]; simp [h])

theorem wd_length : ∀ s : List UInt8, (wd s).length = s.count 32 + 1
  | [] => rfl
  | c :: cs => by
    have ih := wd_length cs
    unfold wd
    split
    · rename_i h; subst h; simp [ih]
    · rename_i h
      split
      · rename_i hw; exact absurd hw (wd_ne _)
      · rename_i w ws hw
        rw [List.count_cons_of_ne (fun e => h e), ← ih, hw]
        rfl

/-! ### What Text and Parse return -/

def textE (ts : List Ty) : Int := if 64 < ts.length then 2 else if ts.all vT then 0 else 1
def textS (ts : List Ty) : List UInt8 := if textE ts = 0 then jn (ts.map tx) else []
def parseE (s : List UInt8) : Int := if s = [] then 0 else if 64 < (wd s).length then 2 else if (wd s).all (fun w => (ty w).isSome) then 0 else 6
def parseT (s : List UInt8) : List Ty := if s = [] then [] else if parseE s = 0 then (wd s).filterMap ty else []

theorem jn_nil_iff (w : List UInt8) (ws : List (List UInt8)) (h : w ≠ []) : jn (w :: ws) ≠ [] := by
  cases ws with
  | nil => rwa [jn_one]
  | cons v ws => rw [jn_cons2]; simp

theorem filterMap_tx : ∀ ts : List Ty, ts.all vT = true → (ts.map tx).filterMap ty = ts
  | [], _ => rfl
  | t :: ts, h => by
    simp only [List.all_cons, Bool.and_eq_true] at h
    rw [List.map_cons, List.filterMap_cons, ty_tx h.1, filterMap_tx ts h.2]

/-- Parse undoes Text. -/
theorem back_text (ts : List Ty) (h : textE ts = 0) : parseE (textS ts) = 0 ∧ parseT (textS ts) = ts := by
  have hs : textS ts = jn (ts.map tx) := by rw [textS, if_pos h]
  rw [hs]
  have h' := h
  unfold textE at h
  split at h
  · cases h
  · rename_i hl
    split at h
    · rename_i ha
      cases ts with
      | nil => exact ⟨rfl, rfl⟩
      | cons t ts =>
        have ha' := ha
        simp only [List.all_cons, Bool.and_eq_true] at ha
        have hne : jn ((t :: ts).map tx) ≠ [] := by rw [List.map_cons]; exact jn_nil_iff _ _ (tx_ne ha.1)
        have hb : ∀ v ∈ (t :: ts).map tx, (32 : UInt8) ∉ v := by
          intro v hv
          obtain ⟨u, hu, rfl⟩ := List.mem_map.1 hv
          exact tx_blank (List.all_eq_true.1 ha' u hu)
        have hw : wd (jn ((t :: ts).map tx)) = (t :: ts).map tx := by rw [List.map_cons] at hb ⊢; exact wd_jn _ _ hb
        have hall : ((t :: ts).map tx).all (fun w => (ty w).isSome) = true := by
          rw [List.all_eq_true]
          intro v hv
          obtain ⟨u, hu, rfl⟩ := List.mem_map.1 hv
          rw [ty_tx (List.all_eq_true.1 ha' u hu)]
          rfl
        have he : parseE (jn ((t :: ts).map tx)) = 0 := by
          unfold parseE
          rw [if_neg hne, hw, if_neg (by rw [List.length_map]; exact hl), if_pos hall]
        refine ⟨he, ?_⟩
        unfold parseT
        rw [if_neg hne, if_pos he, hw, filterMap_tx _ ha']
    · cases h

theorem map_back : ∀ ws : List (List UInt8), ws.all (fun w => (ty w).isSome) = true → (ws.filterMap ty).map tx = ws ∧ (ws.filterMap ty).all vT = true ∧ (ws.filterMap ty).length = ws.length
  | [], _ => ⟨rfl, rfl, rfl⟩
  | w :: ws, h => by
    simp only [List.all_cons, Bool.and_eq_true] at h
    obtain ⟨t, ht⟩ := Option.isSome_iff_exists.1 h.1
    obtain ⟨h1, h2, h3⟩ := map_back ws h.2
    rw [List.filterMap_cons, ht]
    simp only [List.map_cons, List.all_cons, List.length_cons, h1, h2, h3, (ty_ok ht).1, (ty_ok ht).2]
    simp

/-- Text undoes Parse. -/
theorem back_parse (s : List UInt8) (h : parseE s = 0) : textE (parseT s) = 0 ∧ textS (parseT s) = s := by
  by_cases hs : s = []
  · subst hs; exact ⟨rfl, rfl⟩
  · have hT : parseT s = (wd s).filterMap ty := by unfold parseT; rw [if_neg hs, if_pos h]
    unfold parseE at h
    rw [if_neg hs] at h
    split at h
    · cases h
    · rename_i hl
      split at h
      · rename_i ha
        obtain ⟨h1, h2, h3⟩ := map_back _ ha
        have hE : textE (parseT s) = 0 := by rw [hT]; unfold textE; rw [if_neg (by rw [h3]; exact hl), if_pos h2]
        refine ⟨hE, ?_⟩
        rw [textS, if_pos hE, hT, h1, jn_wd]
      · cases h
theorem parseT_no {s : List UInt8} (h : parseE s ≠ 0) : parseT s = [] := by
  unfold parseT
  rw [if_neg h]
  exact ite_self _
theorem textS_no {ts : List Ty} (h : textE ts ≠ 0) : textS ts = [] := by rw [textS, if_neg h]
end Go.Proofs.YtfcglnmfcniojaaGreatDoor

namespace Go.Proofs.YtfcglnmfcniojaaGreatDoor
open Go.Lib

theorem index_nil : index [] [(32 : UInt8)] = -1 := rfl
theorem index_eq (l : List UInt8) : index (32 :: l) [32] = 0 := by rw [index]; simp [List.isPrefixOf]
theorem index_ne (c : UInt8) (l : List UInt8) (h : c ≠ 32) : index (c :: l) [32] = if index l [32] == -1 then -1 else index l [32] + 1 := by
  rw [index]
  simp [List.isPrefixOf, Ne.symm h]
theorem index_miss : ∀ s : List UInt8, s.count 32 = 0 → index s [32] = -1
  | [], _ => index_nil
  | c :: l, h => by
    have hc : c ≠ 32 := fun e => by subst e; simp at h
    rw [List.count_cons_of_ne (by simpa using hc)] at h
    rw [index_ne c l hc, index_miss l h]
    rfl
theorem index_has : ∀ s : List UInt8, s.count 32 ≠ 0 → ∃ j : Nat, index s [32] = j
  | [], h => absurd rfl h
  | c :: l, h => by
    by_cases hc : c = 32
    · subst hc; exact ⟨0, index_eq l⟩
    · rw [List.count_cons_of_ne (by simpa using hc)] at h
      obtain ⟨j, hj⟩ := index_has l h
      refine ⟨j + 1, ?_⟩
      rw [index_ne c l hc, hj, if_neg (by simp)]
      omega

theorem splitK_wd : ∀ (s : List UInt8), splitK [32] 0 (s.count 32) s = wd s
  | [] => rfl
  | c :: cs => by
    have ih := splitK_wd cs
    by_cases hc : c = 32
    · subst hc
      rw [List.count_cons_self, splitK, index_eq, wd, if_pos rfl, ← ih]
      rfl
    · rw [List.count_cons_of_ne (by simpa using hc), wd, if_neg hc, ← ih]
      cases hk : cs.count 32 with
      | zero => rfl
      | succ k =>
        obtain ⟨j, hj⟩ := index_has cs (by omega)
        rw [splitK, splitK, index_ne c cs hc, hj]
        rw [if_neg (show ¬ ((j : Int) == -1) = true by simp), if_neg (show ¬ (((j : Int) == -1) = true) by simp)]
        rw [if_neg (show ¬ (((j : Int) + 1) == -1) = true by simp; omega)]
        have e : ((j : Int) + 1).toNat = j + 1 := by omega
        rw [e]
        simp

/-- What strings.Split returns, cut at blanks. -/
theorem splitB_wd (s : ByteArray) : (splitB ⟨#[32]⟩ 0 (countB s ⟨#[32]⟩) s).map (·.data.toList) = wd s.data.toList := by
  rw [splitB_data]
  show splitK [32] 0 (count s.data.toList [32]) s.data.toList = _
  rw [count_one, splitK_wd]
theorem countB_wd (s : ByteArray) : countB s ⟨#[32]⟩ + 1 = (wd s.data.toList).length := by
  show count s.data.toList [32] + 1 = _
  rw [count_one, wd_length]
end Go.Proofs.YtfcglnmfcniojaaGreatDoor

namespace Go.Proofs.YtfcglnmfcniojaaGreatDoor
set_option maxRecDepth 100000

/-- The letters of the kinds. -/
def lettersL : List UInt8 := [105, 114, 115, 119, 99, 112, 110]
/-- The number behind the first letter. -/
def numOf (l : List UInt8) : Int := if 1 < l.length ∧ l.length ≤ 3 then (Lib.atoi (l.drop 1)).getD 0 else 0
def kindOf (l : List UInt8) : Int := 1 + Lib.indexByte lettersL (l.headD 0)
def tOf (l : List UInt8) : Ty := if kindOf l = 2 then (2, 0, numOf l) else (kindOf l, numOf l, 0)
def okOf (l : List UInt8) : Bool := vT (tOf l) && (tx (tOf l) == l)

theorem tOf_tab : ∀ p ∈ tyTab, tOf p.2 = p.1 := by decide +kernel
/-- What typeOf returns. -/
theorem ty_tOf (l : List UInt8) : ty l = if okOf l then some (tOf l) else none := by
  cases h : okOf l with
  | true =>
    simp only [okOf, Bool.and_eq_true, beq_iff_eq] at h
    rw [if_pos rfl]
    exact ty_iff.2 h
  | false =>
    rw [if_neg (by simp)]
    cases ht : ty l with
    | none => rfl
    | some t =>
      have h1 := tOf_tab _ (ty_mem ht)
      obtain ⟨h2, h3⟩ := ty_ok ht
      simp only at h1
      rw [okOf, h1, h2, h3] at h
      simp at h
theorem kindOf_le (l : List UInt8) : 0 ≤ kindOf l := by
  have := Lib.indexByte_ge lettersL (l.headD 0)
  unfold kindOf
  omega
end Go.Proofs.YtfcglnmfcniojaaGreatDoor
