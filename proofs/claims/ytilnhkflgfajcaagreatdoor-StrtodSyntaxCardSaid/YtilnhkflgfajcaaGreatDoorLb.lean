/- What a reader finds hangs on nothing behind it; with white space ahead, and with large letters, it finds the same. Conditions: none. -/
import Derived.Test.YtilnhkflgfajcaaGreatDoorKf
import Derived.Test.YtilnhkflgfajcaaGreatDoorKk
set_option linter.all false
namespace Go.Proofs.YtilnhkflgfajcaaGreatDoor
set_option maxRecDepth 1000000

theorem takeWhile_take {q : UInt8 → Bool} : ∀ (l : List UInt8) (k : Nat), ((l.take k).takeWhile q).length = min ((l.takeWhile q).length) k
  | [], k => by simp
  | b :: l, 0 => by simp
  | b :: l, k + 1 => by
    rw [List.take_succ_cons]
    cases h : q b with
    | true => rw [List.takeWhile_cons_of_pos h, List.takeWhile_cons_of_pos h, List.length_cons, List.length_cons, takeWhile_take l k]; omega
    | false => rw [List.takeWhile_cons_of_neg (by simp [h]), List.takeWhile_cons_of_neg (by simp [h])]; simp
theorem rn_take {q : UInt8 → Bool} {t : List UInt8} {a i : Nat} (h : a ≤ i) : rn q (t.take i) a = min (rn q t a) i := by
  unfold rn
  rw [List.drop_take, takeWhile_take]
  omega
theorem get_take {t : List UInt8} {a i : Nat} (h : a < i) : (t.take i)[a]? = t[a]? := by
  rw [List.getElem?_take, if_pos h]
theorem get_take_end {t : List UInt8} {a i : Nat} (h : i ≤ a) : (t.take i)[a]? = none := by
  rw [List.getElem?_take, if_neg (by omega)]
theorem sl_take {t : List UInt8} {a b i : Nat} (h : b ≤ i) : sl (t.take i) a b = sl t a b := by
  unfold sl
  rw [List.drop_take, List.take_take]
  congr 1
  omega
theorem wd_take {t w : List UInt8} {a i : Nat} (h : a + w.length ≤ i) : wd (t.take i) a w = wd t a w := by
  unfold wd
  rw [List.drop_take, List.take_take, show min w.length (i - a) = w.length by omega]
theorem wd_take_no {t w : List UInt8} {a i : Nat} (h : i < a + w.length) (ha : a ≤ i) : wd (t.take i) a w = false := by
  cases e : wd (t.take i) a w with
  | false => rfl
  | true =>
    unfold wd at e
    have := congrArg List.length (beq_iff_eq.1 e)
    rw [List.length_map, List.length_take, List.length_drop, List.length_take] at this
    omega
theorem wd_take_of {t w : List UInt8} {a i : Nat} (ha : a ≤ i) (h : wd t a w = false) : wd (t.take i) a w = false := by
  rcases Nat.lt_or_ge i (a + w.length) with h1 | h1
  · exact wd_take_no h1 ha
  · rw [wd_take h1, h]
theorem pre_take {t p : List UInt8} {a i : Nat} (h : a + p.length ≤ i) : p.isPrefixOf ((t.take i).drop a) = p.isPrefixOf (t.drop a) := by
  rw [List.drop_take, Bool.eq_iff_iff, List.isPrefixOf_iff_prefix, List.isPrefixOf_iff_prefix, List.prefix_iff_eq_take, List.prefix_iff_eq_take, List.take_take, show min p.length (i - a) = p.length by omega]
theorem pre_take_no {t p : List UInt8} {a i : Nat} (h : p.isPrefixOf (t.drop a) = false) : p.isPrefixOf ((t.take i).drop a) = false := by
  cases e : p.isPrefixOf ((t.take i).drop a) with
  | false => rfl
  | true =>
    rw [List.drop_take] at e
    rw [List.isPrefixOf_iff_prefix.2 ((List.isPrefixOf_iff_prefix.1 e).trans (List.take_prefix _ _))] at h
    cases h
theorem pre_take_yes {t p : List UInt8} {a i : Nat} (ha : a ≤ i) (h : p.isPrefixOf ((t.take i).drop a) = true) : a + p.length ≤ i ∧ p.isPrefixOf (t.drop a) = true := by
  have h1 := List.isPrefixOf_iff_prefix.1 h
  have hl := h1.length_le
  rw [List.length_drop, List.length_take] at hl
  refine ⟨by omega, ?_⟩
  rw [List.drop_take] at h1
  exact List.isPrefixOf_iff_prefix.2 (h1.trans (List.take_prefix _ _))
theorem sg_take {t : List UInt8} {a i : Nat} (h : a < i) : sg (t.take i) a = sg t a := by
  unfold sg
  rw [get_take h]
theorem sg_take_end {t : List UInt8} {a i : Nat} (h : i ≤ a) : sg (t.take i) a = a := by
  unfold sg
  rw [get_take_end h]
  simp
theorem mi_take {t : List UInt8} {a i : Nat} (h : a < i) : mi (t.take i) a = mi t a := by
  unfold mi
  rw [get_take h]
theorem sg_ge (t : List UInt8) (a : Nat) : a ≤ sg t a ∧ sg t a ≤ a + 1 := by
  unfold sg
  split <;> omega
theorem sg_lt {t : List UInt8} {a : Nat} (h : sg t a ≠ a) : a < t.length := by
  unfold sg at h
  split at h
  · rename_i h1
    rcases h1 with h1 | h1
    · exact (List.getElem?_eq_some_iff.1 h1).1
    · exact (List.getElem?_eq_some_iff.1 h1).1
  · exact absurd rfl h
/-- An exponent, with nothing of the text behind it. -/
theorem ex_end (t : List UInt8) (m : UInt8) (b : Nat) : b ≤ (ex t m b).2 := by
  unfold ex
  split
  · simp only
    split
    · exact Nat.le_refl _
    · have h1 := rn_ge (dg false) t (sg t (b + 1))
      have h2 := (sg_ge t (b + 1)).1
      show b ≤ rn (dg false) t (sg t (b + 1))
      omega
  · exact Nat.le_refl _
theorem ex_take {t : List UInt8} {m : UInt8} {b i : Nat} (hb : b ≤ i) (he : (ex t m b).2 ≤ i) : ex (t.take i) m b = ex t m b := by
  by_cases hm : (t[b]?).map lw = some m
  · have hE : ex t m b = (if rn (dg false) t (sg t (b + 1)) = sg t (b + 1) then ((0 : Int), b) else (if mi t (b + 1) then - val (sl t (sg t (b + 1)) (rn (dg false) t (sg t (b + 1)))) else val (sl t (sg t (b + 1)) (rn (dg false) t (sg t (b + 1)))), rn (dg false) t (sg t (b + 1)))) := by
      unfold ex
      rw [if_pos hm]
    rcases Nat.lt_or_ge b i with hbi | hbi
    · have hm' : ((t.take i)[b]?).map lw = some m := by rw [get_take hbi]; exact hm
      have hE' : ex (t.take i) m b = (if rn (dg false) (t.take i) (sg (t.take i) (b + 1)) = sg (t.take i) (b + 1) then ((0 : Int), b) else (if mi (t.take i) (b + 1) then - val (sl (t.take i) (sg (t.take i) (b + 1)) (rn (dg false) (t.take i) (sg (t.take i) (b + 1)))) else val (sl (t.take i) (sg (t.take i) (b + 1)) (rn (dg false) (t.take i) (sg (t.take i) (b + 1)))), rn (dg false) (t.take i) (sg (t.take i) (b + 1)))) := by
        unfold ex
        rw [if_pos hm']
      have h2 := sg_ge t (b + 1)
      have h3 := rn_ge (dg false) t (sg t (b + 1))
      rcases Nat.lt_or_ge (b + 1) i with h1 | h1
      · rw [hE', hE, sg_take h1, mi_take h1, rn_take (by omega)]
        by_cases hk : rn (dg false) t (sg t (b + 1)) = sg t (b + 1)
        · rw [if_pos hk, if_pos (by omega)]
        · have he' := he
          rw [hE, if_neg hk] at he'
          have he2 : rn (dg false) t (sg t (b + 1)) ≤ i := he'
          rw [if_neg hk, show min (rn (dg false) t (sg t (b + 1))) i = rn (dg false) t (sg t (b + 1)) by omega, if_neg hk, sl_take he2]
      · rw [hE', sg_take_end h1, rn_end (by simp; omega), if_pos rfl, hE]
        by_cases hk : rn (dg false) t (sg t (b + 1)) = sg t (b + 1)
        · rw [if_pos hk]
        · rw [hE, if_neg hk] at he
          have he2 : rn (dg false) t (sg t (b + 1)) ≤ i := he
          omega
    · have hn : ((t.take i)[b]?).map lw ≠ some m := by rw [get_take_end hbi]; simp
      have e1 : ex (t.take i) m b = (0, b) := by unfold ex; rw [if_neg hn]
      rw [e1, hE]
      by_cases hk : rn (dg false) t (sg t (b + 1)) = sg t (b + 1)
      · rw [if_pos hk]
      · rw [hE, if_neg hk] at he
        have he2 : rn (dg false) t (sg t (b + 1)) ≤ i := he
        have h2 := sg_ge t (b + 1)
        have h3 := rn_ge (dg false) t (sg t (b + 1))
        omega
  · have e0 : ex t m b = (0, b) := by unfold ex; rw [if_neg hm]
    have hn : ((t.take i)[b]?).map lw ≠ some m := by
      rcases Nat.lt_or_ge b i with hbi | hbi
      · rw [get_take hbi]; exact hm
      · rw [get_take_end hbi]; simp
    rw [e0]
    unfold ex
    rw [if_neg hn]
/-- A payload. -/
theorem pl_end (t : List UInt8) (a : Nat) : a ≤ (pl t a).2 := by
  unfold pl
  split
  · simp only
    split
    · have := rn_ge py t (a + 1)
      show a ≤ rn py t (a + 1) + 1
      omega
    · exact Nat.le_refl _
  · exact Nat.le_refl _
theorem pl_take {t : List UInt8} {a i : Nat} (ha : a ≤ i) (he : (pl t a).2 ≤ i) : pl (t.take i) a = pl t a := by
  by_cases h40 : t[a]? = some 40
  · have hE : pl t a = if t[rn py t (a + 1)]? = some 41 then (sl t (a + 1) (rn py t (a + 1)), rn py t (a + 1) + 1) else ([], a) := by unfold pl; rw [if_pos h40]
    rcases Nat.lt_or_ge a i with h1 | h1
    · have h40' : (t.take i)[a]? = some 40 := by rw [get_take h1]; exact h40
      have hE' : pl (t.take i) a = if (t.take i)[rn py (t.take i) (a + 1)]? = some 41 then (sl (t.take i) (a + 1) (rn py (t.take i) (a + 1)), rn py (t.take i) (a + 1) + 1) else ([], a) := by unfold pl; rw [if_pos h40']
      rw [hE', hE, rn_take h1]
      by_cases h41 : t[rn py t (a + 1)]? = some 41
      · rw [hE, if_pos h41] at he
        have he2 : rn py t (a + 1) + 1 ≤ i := he
        rw [show min (rn py t (a + 1)) i = rn py t (a + 1) by omega, get_take (by omega), if_pos h41, if_pos h41, sl_take (by omega)]
      · rw [if_neg h41]
        rcases Nat.lt_or_ge (rn py t (a + 1)) i with h2 | h2
        · rw [show min (rn py t (a + 1)) i = rn py t (a + 1) by omega, get_take h2, if_neg h41]
        · rw [show min (rn py t (a + 1)) i = i by omega, get_take_end (Nat.le_refl _), if_neg (by simp)]
    · have e1 : pl (t.take i) a = ([], a) := by unfold pl; rw [get_take_end h1, if_neg (by simp)]
      rw [e1, hE]
      by_cases h41 : t[rn py t (a + 1)]? = some 41
      · rw [hE, if_pos h41] at he
        have he2 : rn py t (a + 1) + 1 ≤ i := he
        have := rn_ge py t (a + 1)
        omega
      · rw [if_neg h41]
  · have e0 : pl t a = ([], a) := by unfold pl; rw [if_neg h40]
    rw [e0]
    unfold pl
    rw [if_neg]
    rcases Nat.lt_or_ge a i with h1 | h1
    · rw [get_take h1]; exact h40
    · rw [get_take_end h1]; simp
end Go.Proofs.YtilnhkflgfajcaaGreatDoor

namespace Go.Proofs.YtilnhkflgfajcaaGreatDoor
set_option maxRecDepth 1000000

theorem nm_take_some {hex : Bool} {m : UInt8} {un : Int} {t p : List UInt8} {a i : Nat} {r : List UInt8 × Int × Nat} (h : nm hex m un t p a = some r) (ha : a ≤ i) (he : r.2.2 ≤ i) : nm hex m un (t.take i) p a = some r := by
  have g0 := rn_ge (dg hex) t a
  cases hh : p.isPrefixOf (t.drop (rn (dg hex) t a)) with
  | true =>
    have e1 := nm_has (m := m) (un := un) rfl hh rfl rfl rfl
    rw [e1] at h
    split at h
    · cases h
    · rename_i hne
      cases h
      have g1 := ex_end t m (rn (dg hex) t (rn (dg hex) t a + p.length))
      have g2 := rn_ge (dg hex) t (rn (dg hex) t a + p.length)
      have he' : (ex t m (rn (dg hex) t (rn (dg hex) t a + p.length))).2 ≤ i := he
      have k1 : rn (dg hex) t a = rn (dg hex) (t.take i) a := by rw [rn_take ha]; omega
      have k2 : p.isPrefixOf ((t.take i).drop (rn (dg hex) t a)) = true := by rw [pre_take (by omega), hh]
      have k3 : rn (dg hex) t (rn (dg hex) t a + p.length) = rn (dg hex) (t.take i) (rn (dg hex) t a + p.length) := by rw [rn_take (by omega)]; omega
      have k4 : (sl t a (rn (dg hex) t a)).map lw = (sl (t.take i) a (rn (dg hex) t a)).map lw := by rw [sl_take (by omega)]
      have k5 : (sl t (rn (dg hex) t a + p.length) (rn (dg hex) t (rn (dg hex) t a + p.length))).map lw = (sl (t.take i) (rn (dg hex) t a + p.length) (rn (dg hex) t (rn (dg hex) t a + p.length))).map lw := by rw [sl_take (by omega)]
      have e2 := nm_has (m := m) (un := un) k1 k2 k3 k4 k5
      rw [e2, if_neg hne, ex_take (by omega) he']
  | false =>
    have e1 := nm_none (m := m) (un := un) rfl hh rfl
    rw [e1] at h
    split at h
    · cases h
    · rename_i hne
      cases h
      have g1 := ex_end t m (rn (dg hex) t a)
      have he' : (ex t m (rn (dg hex) t a)).2 ≤ i := he
      have k1 : rn (dg hex) t a = rn (dg hex) (t.take i) a := by rw [rn_take ha]; omega
      have k4 : (sl t a (rn (dg hex) t a)).map lw = (sl (t.take i) a (rn (dg hex) t a)).map lw := by rw [sl_take (by omega)]
      have e2 := nm_none (m := m) (un := un) k1 (pre_take_no hh) k4
      rw [e2, if_neg hne, ex_take (by omega) he']
theorem sl_nil {t : List UInt8} {a b : Nat} (hb : b ≤ t.length) (hab : a ≤ b) (h : sl t a b = []) : b = a := by
  have := sl_len t a b hb
  rw [h] at this
  simp at this
  omega
theorem nm_take_none {hex : Bool} {m : UInt8} {un : Int} {t p : List UInt8} {a i : Nat} (h : nm hex m un t p a = none) (hat : a ≤ t.length) (ha : a ≤ i) : nm hex m un (t.take i) p a = none := by
  have g0 := rn_ge (dg hex) t a
  have gl := rn_le (dg hex) t a hat
  cases hh : p.isPrefixOf (t.drop (rn (dg hex) t a)) with
  | true =>
    have e1 := nm_has (m := m) (un := un) rfl hh rfl rfl rfl
    rw [e1] at h
    split at h
    · rename_i hem
      have hA := List.map_eq_nil_iff.1 (List.append_eq_nil_iff.1 hem).1
      have hD := List.map_eq_nil_iff.1 (List.append_eq_nil_iff.1 hem).2
      have ea : rn (dg hex) t a = a := sl_nil gl g0 hA
      have hb0 : rn (dg hex) t a + p.length ≤ t.length := by
        have := (List.isPrefixOf_iff_prefix.1 hh).length_le
        rw [List.length_drop] at this
        omega
      have eb : rn (dg hex) t (rn (dg hex) t a + p.length) = rn (dg hex) t a + p.length := sl_nil (rn_le _ _ _ hb0) (rn_ge _ _ _) hD
      rw [ea] at eb
      have k1 : a = rn (dg hex) (t.take i) a := by rw [rn_take ha, ea]; omega
      cases hu : p.isPrefixOf ((t.take i).drop a) with
      | true =>
        have hbi := (pre_take_yes ha hu).1
        have k3 : a + p.length = rn (dg hex) (t.take i) (a + p.length) := by rw [rn_take hbi, eb]; omega
        have e2 := nm_has (m := m) (un := un) k1 hu k3 rfl rfl
        rw [e2, sl_self, sl_self, if_pos (by rfl)]
      | false =>
        have e2 := nm_none (m := m) (un := un) k1 hu rfl
        rw [e2, sl_self, if_pos (by rfl)]
    · cases h
  | false =>
    have e1 := nm_none (m := m) (un := un) rfl hh rfl
    rw [e1] at h
    split at h
    · rename_i hem
      have hA := List.map_eq_nil_iff.1 hem
      have ea : rn (dg hex) t a = a := sl_nil gl g0 hA
      rw [ea] at hh
      have k1 : a = rn (dg hex) (t.take i) a := by rw [rn_take ha, ea]; omega
      have e2 := nm_none (m := m) (un := un) k1 (pre_take_no hh) rfl
      rw [e2, sl_self, if_pos (by rfl)]
    · cases h
theorem nm_end {hex : Bool} {m : UInt8} {un : Int} {t p : List UInt8} {a : Nat} {r : List UInt8 × Int × Nat} (h : nm hex m un t p a = some r) (hat : a ≤ t.length) (hp : 0 < p.length) : a < r.2.2 := by
  have g0 := rn_ge (dg hex) t a
  cases hh : p.isPrefixOf (t.drop (rn (dg hex) t a)) with
  | true =>
    have e1 := nm_has (m := m) (un := un) rfl hh rfl rfl rfl
    rw [e1] at h
    split at h
    · cases h
    · cases h
      have g1 := ex_end t m (rn (dg hex) t (rn (dg hex) t a + p.length))
      have g2 := rn_ge (dg hex) t (rn (dg hex) t a + p.length)
      show a < (ex t m (rn (dg hex) t (rn (dg hex) t a + p.length))).2
      omega
  | false =>
    have e1 := nm_none (m := m) (un := un) rfl hh rfl
    rw [e1] at h
    split at h
    · cases h
    · rename_i hne
      cases h
      have g1 := ex_end t m (rn (dg hex) t a)
      show a < (ex t m (rn (dg hex) t a)).2
      rcases Nat.lt_or_ge a (rn (dg hex) t a) with h1 | h1
      · omega
      · exfalso
        have : rn (dg hex) t a = a := by omega
        rw [this, sl_self] at hne
        exact hne rfl
end Go.Proofs.YtilnhkflgfajcaaGreatDoor

namespace Go.Proofs.YtilnhkflgfajcaaGreatDoor
set_option maxRecDepth 1000000

theorem drop_shift (z t : List UInt8) (i : Nat) : (z ++ t).drop (i + z.length) = t.drop i := by
  rw [Nat.add_comm, ← List.drop_drop, List.drop_left]
theorem get_shift (z t : List UInt8) (i : Nat) : (z ++ t)[i + z.length]? = t[i]? := by
  rw [List.getElem?_append_right (by omega)]
  congr 1
  omega
theorem rn_shift (q : UInt8 → Bool) (z t : List UInt8) (i : Nat) : rn q (z ++ t) (i + z.length) = rn q t i + z.length := by
  unfold rn
  rw [drop_shift]
  omega
theorem sl_shift (z t : List UInt8) (i j : Nat) : sl (z ++ t) (i + z.length) (j + z.length) = sl t i j := by
  unfold sl
  rw [drop_shift, show j + z.length - (i + z.length) = j - i by omega]
theorem wd_shift (z t w : List UInt8) (i : Nat) : wd (z ++ t) (i + z.length) w = wd t i w := by
  unfold wd
  rw [drop_shift]
theorem sg_shift (z t : List UInt8) (i : Nat) : sg (z ++ t) (i + z.length) = sg t i + z.length := by
  unfold sg
  rw [get_shift]
  split <;> omega
theorem mi_shift (z t : List UInt8) (i : Nat) : mi (z ++ t) (i + z.length) = mi t i := by
  unfold mi
  rw [get_shift]
theorem ex_yes {t : List UInt8} {m : UInt8} {b : Nat} (hm : (t[b]?).map lw = some m) : ex t m b = (if rn (dg false) t (sg t (b + 1)) = sg t (b + 1) then ((0 : Int), b) else (if mi t (b + 1) then - val (sl t (sg t (b + 1)) (rn (dg false) t (sg t (b + 1)))) else val (sl t (sg t (b + 1)) (rn (dg false) t (sg t (b + 1)))), rn (dg false) t (sg t (b + 1)))) := by
  unfold ex
  rw [if_pos hm]
theorem ex_not {t : List UInt8} {m : UInt8} {b : Nat} (hm : (t[b]?).map lw ≠ some m) : ex t m b = (0, b) := by
  unfold ex
  rw [if_neg hm]
theorem ex_shift (z t : List UInt8) (m : UInt8) (b : Nat) : ex (z ++ t) m (b + z.length) = ((ex t m b).1, (ex t m b).2 + z.length) := by
  by_cases hm : (t[b]?).map lw = some m
  · have hm' : ((z ++ t)[b + z.length]?).map lw = some m := by rw [get_shift]; exact hm
    rw [ex_yes hm, ex_yes hm', show b + z.length + 1 = (b + 1) + z.length by omega, sg_shift, rn_shift, mi_shift, sl_shift]
    by_cases hk : rn (dg false) t (sg t (b + 1)) = sg t (b + 1)
    · rw [if_pos hk, if_pos (by omega)]
    · rw [if_neg hk, if_neg (by omega)]
  · have hm' : ((z ++ t)[b + z.length]?).map lw ≠ some m := by rw [get_shift]; exact hm
    rw [ex_not hm, ex_not hm']
theorem pl_shift (z t : List UInt8) (a : Nat) : pl (z ++ t) (a + z.length) = ((pl t a).1, (pl t a).2 + z.length) := by
  unfold pl
  rw [get_shift]
  by_cases h40 : t[a]? = some 40
  · rw [if_pos h40, if_pos h40]
    simp only
    rw [show a + z.length + 1 = (a + 1) + z.length by omega, rn_shift, get_shift]
    by_cases h41 : t[rn py t (a + 1)]? = some 41
    · rw [if_pos h41, if_pos h41, sl_shift]
      simp only [Prod.mk.injEq, true_and]
      omega
    · rw [if_neg h41, if_neg h41]
  · rw [if_neg h40, if_neg h40]
theorem nm_shift (hex : Bool) (m : UInt8) (un : Int) (z t p : List UInt8) (a : Nat) : nm hex m un (z ++ t) p (a + z.length) = (nm hex m un t p a).map fun r => (r.1, r.2.1, r.2.2 + z.length) := by
  have k1 : rn (dg hex) t a + z.length = rn (dg hex) (z ++ t) (a + z.length) := (rn_shift _ _ _ _).symm
  cases hh : p.isPrefixOf (t.drop (rn (dg hex) t a)) with
  | true =>
    have hh' : p.isPrefixOf ((z ++ t).drop (rn (dg hex) t a + z.length)) = true := by rw [drop_shift]; exact hh
    have k3 : rn (dg hex) t (rn (dg hex) t a + p.length) + z.length = rn (dg hex) (z ++ t) (rn (dg hex) t a + z.length + p.length) := by
      rw [show rn (dg hex) t a + z.length + p.length = (rn (dg hex) t a + p.length) + z.length by omega, rn_shift]
    have k4 : (sl t a (rn (dg hex) t a)).map lw = (sl (z ++ t) (a + z.length) (rn (dg hex) t a + z.length)).map lw := by rw [sl_shift]
    have k5 : (sl t (rn (dg hex) t a + p.length) (rn (dg hex) t (rn (dg hex) t a + p.length))).map lw = (sl (z ++ t) (rn (dg hex) t a + z.length + p.length) (rn (dg hex) t (rn (dg hex) t a + p.length) + z.length)).map lw := by
      rw [show rn (dg hex) t a + z.length + p.length = (rn (dg hex) t a + p.length) + z.length by omega, sl_shift]
    rw [nm_has (m := m) (un := un) k1 hh' k3 k4 k5, nm_has (m := m) (un := un) rfl hh rfl rfl rfl, ex_shift]
    split <;> rfl
  | false =>
    have hh' : p.isPrefixOf ((z ++ t).drop (rn (dg hex) t a + z.length)) = false := by rw [drop_shift]; exact hh
    have k4 : (sl t a (rn (dg hex) t a)).map lw = (sl (z ++ t) (a + z.length) (rn (dg hex) t a + z.length)).map lw := by rw [sl_shift]
    rw [nm_none (m := m) (un := un) k1 hh' k4, nm_none (m := m) (un := un) rfl hh rfl, ex_shift]
    split <;> rfl
/-! Large letters. -/
def up (b : UInt8) : UInt8 := if 97 ≤ b.toNat ∧ b.toNat ≤ 122 then b - 32 else b
theorem up_nat (b : UInt8) : (up b).toNat = if 97 ≤ b.toNat ∧ b.toNat ≤ 122 then b.toNat - 32 else b.toNat := by
  unfold up
  split
  · rw [UInt8.toNat_sub]
    show (256 - 32 + b.toNat) % 256 = _
    have := b.toNat_lt
    omega
  · rfl
theorem lw_up (b : UInt8) : lw (up b) = lw b := by
  rw [← UInt8.toNat_inj, lw_nat, lw_nat, up_nat]
  have := b.toNat_lt
  repeat' split
  all_goals omega
theorem wh_up (b : UInt8) : wh (up b) = wh b := by
  unfold wh
  rw [decide_eq_decide, up_nat]
  split <;> omega
theorem dg_up (hex : Bool) (b : UInt8) : dg hex (up b) = dg hex b := by
  unfold dg
  rw [decide_eq_decide, up_nat]
  cases hex <;> split <;> simp <;> omega
theorem py_up (b : UInt8) : py (up b) = py b := by
  unfold py
  rw [decide_eq_decide, up_nat]
  split <;> omega
theorem up_is {b : UInt8} (c : UInt8) (h : c.toNat < 65 ∨ (90 < c.toNat ∧ c.toNat < 97) ∨ 122 < c.toNat) : up b = c ↔ b = c := by
  rw [← UInt8.toNat_inj, ← UInt8.toNat_inj, up_nat]
  split <;> omega
theorem takeWhile_map (q : UInt8 → Bool) (hq : ∀ b, q (up b) = q b) : ∀ l : List UInt8, ((l.map up).takeWhile q).length = (l.takeWhile q).length
  | [] => rfl
  | b :: l => by
    rw [List.map_cons]
    cases h : q b with
    | true => rw [List.takeWhile_cons_of_pos (by rw [hq]; exact h), List.takeWhile_cons_of_pos h, List.length_cons, List.length_cons, takeWhile_map q hq l]
    | false => rw [List.takeWhile_cons_of_neg (by rw [hq]; simp [h]), List.takeWhile_cons_of_neg (by simp [h])]
theorem rn_up {q : UInt8 → Bool} (hq : ∀ b, q (up b) = q b) (t : List UInt8) (i : Nat) : rn q (t.map up) i = rn q t i := by
  unfold rn
  rw [← List.map_drop, takeWhile_map q hq]
theorem sl_up (t : List UInt8) (i j : Nat) : sl (t.map up) i j = (sl t i j).map up := by
  unfold sl
  rw [← List.map_drop, List.map_take]
theorem map_lw_up (l : List UInt8) : (l.map up).map lw = l.map lw := by
  rw [List.map_map]
  exact List.map_congr_left fun b _ => lw_up b
theorem wd_up (t w : List UInt8) (i : Nat) : wd (t.map up) i w = wd t i w := by
  unfold wd
  rw [← List.map_drop, ← List.map_take, map_lw_up]
theorem get_up_is (t : List UInt8) (i : Nat) (c : UInt8) (h : c.toNat < 65 ∨ (90 < c.toNat ∧ c.toNat < 97) ∨ 122 < c.toNat) : (t.map up)[i]? = some c ↔ t[i]? = some c := by
  rw [List.getElem?_map]
  cases t[i]? with
  | none => simp
  | some b => simp only [Option.map_some, Option.some.injEq]; exact up_is c h
theorem get_up_lw (t : List UInt8) (i : Nat) : ((t.map up)[i]?).map lw = (t[i]?).map lw := by
  rw [List.getElem?_map]
  cases t[i]? with
  | none => rfl
  | some b => simp only [Option.map_some, lw_up]
theorem sg_up (t : List UInt8) (i : Nat) : sg (t.map up) i = sg t i := by
  unfold sg
  have h1 := get_up_is t i 45 (by decide)
  have h2 := get_up_is t i 43 (by decide)
  by_cases h : t[i]? = some 45 ∨ t[i]? = some 43
  · rw [if_pos h, if_pos (h.imp h1.2 h2.2)]
  · rw [if_neg h, if_neg (fun g => h (g.imp h1.1 h2.1))]
theorem mi_up (t : List UInt8) (i : Nat) : mi (t.map up) i = mi t i := by
  unfold mi
  have h1 := get_up_is t i 45 (by decide)
  rw [Bool.eq_iff_iff, beq_iff_eq, beq_iff_eq]
  exact h1
theorem val_up (l : List UInt8) (h : ∀ b ∈ l, dg false b = true) : val (l.map up) = val l := by
  have : l.map up = l := by
    have e : l.map up = l.map id := List.map_congr_left fun b hb => by
      have := h b hb
      unfold dg at this
      simp at this
      show up b = b
      unfold up
      rw [if_neg (by omega)]
    rw [e, List.map_id]
  rw [this]
theorem ex_up (t : List UInt8) (m : UInt8) (b : Nat) : ex (t.map up) m b = ex t m b := by
  by_cases hm : (t[b]?).map lw = some m
  · have hm' : ((t.map up)[b]?).map lw = some m := by rw [get_up_lw]; exact hm
    rw [ex_yes hm, ex_yes hm', sg_up, rn_up (dg_up false), mi_up, sl_up, val_up _ (fun x hx => mem_run x hx)]
  · have hm' : ((t.map up)[b]?).map lw ≠ some m := by rw [get_up_lw]; exact hm
    rw [ex_not hm, ex_not hm']
theorem pl_up (t : List UInt8) (a : Nat) : pl (t.map up) a = ((pl t a).1.map up, (pl t a).2) := by
  unfold pl
  have h1 := get_up_is t a 40 (by decide)
  by_cases h40 : t[a]? = some 40
  · rw [if_pos h40, if_pos (h1.2 h40)]
    simp only
    rw [rn_up py_up]
    have h2 := get_up_is t (rn py t (a + 1)) 41 (by decide)
    by_cases h41 : t[rn py t (a + 1)]? = some 41
    · rw [if_pos h41, if_pos (h2.2 h41), sl_up]
    · rw [if_neg h41, if_neg (fun g => h41 (h2.1 g))]
      rfl
  · rw [if_neg h40, if_neg (fun g => h40 (h1.1 g))]
    rfl
theorem pre_up : ∀ (p t : List UInt8), (∀ c ∈ p, c.toNat < 65 ∨ (90 < c.toNat ∧ c.toNat < 97) ∨ 122 < c.toNat) → p.isPrefixOf (t.map up) = p.isPrefixOf t
  | [], _, _ => by simp
  | c :: p, [], _ => by simp
  | c :: p, b :: t, h => by
    rw [List.map_cons]
    simp only [List.isPrefixOf]
    rw [pre_up p t (fun x hx => h x (List.mem_cons_of_mem _ hx))]
    congr 1
    rw [Bool.eq_iff_iff, beq_iff_eq, beq_iff_eq]
    have := up_is (b := b) c (h c List.mem_cons_self)
    exact ⟨fun g => (this.1 g.symm).symm, fun g => (this.2 g.symm).symm⟩
theorem nm_up {hex : Bool} {m : UInt8} {un : Int} {t p : List UInt8} {a : Nat} (hp : ∀ c ∈ p, c.toNat < 65 ∨ (90 < c.toNat ∧ c.toNat < 97) ∨ 122 < c.toNat) : nm hex m un (t.map up) p a = nm hex m un t p a := by
  have k1 : rn (dg hex) t a = rn (dg hex) (t.map up) a := (rn_up (dg_up hex) _ _).symm
  have k4 : (sl t a (rn (dg hex) t a)).map lw = (sl (t.map up) a (rn (dg hex) t a)).map lw := by rw [sl_up, map_lw_up]
  have k2 : p.isPrefixOf ((t.map up).drop (rn (dg hex) t a)) = p.isPrefixOf (t.drop (rn (dg hex) t a)) := by rw [← List.map_drop, pre_up p _ hp]
  cases hh : p.isPrefixOf (t.drop (rn (dg hex) t a)) with
  | true =>
    have k3 : rn (dg hex) t (rn (dg hex) t a + p.length) = rn (dg hex) (t.map up) (rn (dg hex) t a + p.length) := (rn_up (dg_up hex) _ _).symm
    have k5 : (sl t (rn (dg hex) t a + p.length) (rn (dg hex) t (rn (dg hex) t a + p.length))).map lw = (sl (t.map up) (rn (dg hex) t a + p.length) (rn (dg hex) t (rn (dg hex) t a + p.length))).map lw := by rw [sl_up, map_lw_up]
    rw [nm_has (m := m) (un := un) k1 (k2.trans hh) k3 k4 k5, nm_has (m := m) (un := un) rfl hh rfl rfl rfl, ex_up]
  | false =>
    rw [nm_none (m := m) (un := un) k1 (k2.trans hh) k4, nm_none (m := m) (un := un) rfl hh rfl, ex_up]
end Go.Proofs.YtilnhkflgfajcaaGreatDoor

namespace Go.Proofs.YtilnhkflgfajcaaGreatDoor
set_option maxRecDepth 1000000

/-- What a kind of number takes: its kind, digits, exponent, payload, and where it ends. -/
abbrev Num := Int × List UInt8 × Int × List UInt8 × Nat
theorem pl_le {t : List UInt8} {a : Nat} (h : a ≤ t.length) : (pl t a).2 ≤ t.length := by
  unfold pl
  split
  · simp only
    split
    · rename_i h1
      have := (List.getElem?_eq_some_iff.1 h1).1
      show rn py t (a + 1) + 1 ≤ t.length
      omega
    · exact h
  · exact h
theorem nm_le {hex : Bool} {m : UInt8} {un : Int} {t p : List UInt8} {a : Nat} {r : List UInt8 × Int × Nat} (h : nm hex m un t p a = some r) (hat : a ≤ t.length) : r.2.2 ≤ t.length := by
  cases hh : p.isPrefixOf (t.drop (rn (dg hex) t a)) with
  | true =>
    rw [nm_has (m := m) (un := un) rfl hh rfl rfl rfl] at h
    split at h
    · cases h
    · cases h
      have hb0 : rn (dg hex) t a + p.length ≤ t.length := by
        have := (List.isPrefixOf_iff_prefix.1 hh).length_le
        rw [List.length_drop] at this
        have := rn_le (dg hex) t a hat
        omega
      exact (ex_le (rn_le _ _ _ hb0)).1
  | false =>
    rw [nm_none (m := m) (un := un) rfl hh rfl] at h
    split at h
    · cases h
    · cases h
      exact (ex_le (rn_le _ _ _ hat)).1
theorem kin_ends {j : Nat} {t p : List UInt8} {a : Nat} {r : Num} (h : kin j t p a = some r) (hat : a ≤ t.length) (hp : 0 < p.length) : a < r.2.2.2.2 ∧ r.2.2.2.2 ≤ t.length := by
  unfold kin at h
  split at h
  · split at h
    · rename_i h1
      cases h
      have := wd_le h1 hat
      exact ⟨by show a < a + 8; omega, this⟩
    · split at h
      · rename_i h1
        cases h
        have := wd_le h1 hat
        exact ⟨by show a < a + 3; omega, this⟩
      · cases h
  · split at h
    · rename_i h1
      cases h
      have h2 : a + 3 ≤ t.length := wd_le h1 hat
      have h3 := pl_end t (a + 3)
      exact ⟨by show a < (pl t (a + 3)).2; omega, pl_le h2⟩
    · cases h
  · split at h
    · rename_i h1
      have h2 : a + 2 ≤ t.length := wd_le h1 hat
      cases hn : nm true 112 4 t p (a + 2) with
      | none => rw [hn] at h; cases h
      | some x =>
        rw [hn] at h
        cases h
        have h3 := nm_end hn h2 hp
        exact ⟨by show a < x.2.2; omega, nm_le hn h2⟩
    · cases h
  · cases hn : nm false 101 1 t p a with
    | none => rw [hn] at h; cases h
    | some x =>
      rw [hn] at h
      cases h
      exact ⟨nm_end hn hat hp, nm_le hn hat⟩
theorem kin_take {j : Nat} {t p : List UInt8} {a i : Nat} {r : Num} (h : kin j t p a = some r) (hat : a ≤ t.length) (ha : a ≤ i) (hp : 0 < p.length) (he : r.2.2.2.2 ≤ i) : kin j (t.take i) p a = some r := by
  unfold kin at h ⊢
  split at h
  · split at h
    · rename_i h1
      cases h
      have he' : a + 8 ≤ i := he
      rw [wd_take (w := wInfinity) he', if_pos h1]
    · rename_i h0
      split at h
      · rename_i h1
        cases h
        have he' : a + 3 ≤ i := he
        rw [wd_take_of ha (by simpa using h0), wd_take (w := wInf) he', if_neg (by simp), if_pos h1]
      · cases h
  · split at h
    · rename_i h1
      cases h
      have h3 := pl_end t (a + 3)
      have he' : (pl t (a + 3)).2 ≤ i := he
      have h4 : a + 3 ≤ i := by omega
      rw [wd_take (w := wNan) h4, if_pos h1, pl_take h4 he']
    · cases h
  · split at h
    · rename_i h1
      have h2 : a + 2 ≤ t.length := wd_le h1 hat
      cases hn : nm true 112 4 t p (a + 2) with
      | none => rw [hn] at h; cases h
      | some x =>
        rw [hn] at h
        cases h
        have he' : x.2.2 ≤ i := he
        have h3 := nm_end hn h2 hp
        have h4 : a + 2 ≤ i := by omega
        rw [wd_take (w := wHex) h4, if_pos h1, nm_take_some hn h4 he']
        rfl
    · cases h
  · cases hn : nm false 101 1 t p a with
    | none => rw [hn] at h; cases h
    | some x =>
      rw [hn] at h
      cases h
      have he' : x.2.2 ≤ i := he
      rw [nm_take_some hn ha he']
      rfl
theorem kin_take_none {j : Nat} {t p : List UInt8} {a i : Nat} (h : kin j t p a = none) (hat : a ≤ t.length) (ha : a ≤ i) : kin j (t.take i) p a = none := by
  unfold kin at h ⊢
  split at h
  · split at h
    · cases h
    · rename_i h0
      split at h
      · cases h
      · rename_i h1
        rw [wd_take_of ha (by simpa using h0), wd_take_of ha (by simpa using h1)]
        rfl
  · split at h
    · cases h
    · rename_i h0
      rw [wd_take_of ha (by simpa using h0)]
      rfl
  · split at h
    · rename_i h1
      have h2 : a + 2 ≤ t.length := wd_le h1 hat
      cases hn : nm true 112 4 t p (a + 2) with
      | some x => rw [hn] at h; cases h
      | none =>
        cases hu : wd (t.take i) a wHex with
        | false => rfl
        | true =>
          have h4 : a + 2 ≤ i := by
            rcases Nat.lt_or_ge i (a + 2) with h5 | h5
            · rw [wd_take_no (w := wHex) h5 ha] at hu
              cases hu
            · exact h5
          rw [if_pos rfl, nm_take_none hn h2 h4]
          rfl
    · rename_i h0
      rw [wd_take_of ha (by simpa using h0)]
      rfl
  · cases hn : nm false 101 1 t p a with
    | some x => rw [hn] at h; cases h
    | none =>
      rw [nm_take_none hn hat ha]
      rfl
theorem kall_cases {t p : List UInt8} {a : Nat} {r : Num} (h : kall t p a = some r) : ∃ j, kin j t p a = some r := by
  unfold kall at h
  split at h
  · rename_i x h0; cases h; exact ⟨0, h0⟩
  · split at h
    · rename_i x h1; cases h; exact ⟨1, h1⟩
    · split at h
      · rename_i x h2; cases h; exact ⟨2, h2⟩
      · exact ⟨3, h⟩
theorem kall_take {t p : List UInt8} {a i : Nat} {r : Num} (h : kall t p a = some r) (hat : a ≤ t.length) (ha : a ≤ i) (hp : 0 < p.length) (he : r.2.2.2.2 ≤ i) : kall (t.take i) p a = some r := by
  unfold kall at h ⊢
  split at h
  · rename_i x h0
    cases h
    rw [kin_take h0 hat ha hp he]
  · rename_i h0
    rw [kin_take_none h0 hat ha]
    split at h
    · rename_i x h1
      cases h
      rw [kin_take h1 hat ha hp he]
    · rename_i h1
      rw [kin_take_none h1 hat ha]
      split at h
      · rename_i x h2
        cases h
        rw [kin_take h2 hat ha hp he]
      · rename_i h2
        rw [kin_take_none h2 hat ha]
        exact kin_take h hat ha hp he
theorem spl_some {t p : List UInt8} {neg : Bool} {r : Num} (h : spl t p = some (neg, r)) : kall t p (sg t (rn wh t 0)) = some r ∧ mi t (rn wh t 0) = neg := by
  unfold spl at h
  cases hk : kall t p (sg t (rn wh t 0)) with
  | none => rw [hk] at h; cases h
  | some x => rw [hk] at h; cases h; exact ⟨rfl, rfl⟩
theorem spl_bounds {t p : List UInt8} {neg : Bool} {r : Num} (h : spl t p = some (neg, r)) (hp : 0 < p.length) : sg t (rn wh t 0) < r.2.2.2.2 ∧ r.2.2.2.2 ≤ t.length := by
  obtain ⟨h1, _⟩ := spl_some h
  obtain ⟨j, hj⟩ := kall_cases h1
  exact kin_ends hj (sg_le (rn_le _ _ _ (Nat.zero_le _))) hp
/-- A beginning that holds the number reads as the text. -/
theorem spl_take {t p : List UInt8} {neg : Bool} {r : Num} {i : Nat} (h : spl t p = some (neg, r)) (hp : 0 < p.length) (he : r.2.2.2.2 ≤ i) : spl (t.take i) p = some (neg, r) := by
  obtain ⟨h1, h2⟩ := spl_some h
  have h3 := spl_bounds h hp
  have h4 := sg_ge t (rn wh t 0)
  have e1 : rn wh (t.take i) 0 = rn wh t 0 := by rw [rn_take (Nat.zero_le _)]; omega
  have e2 : sg (t.take i) (rn wh t 0) = sg t (rn wh t 0) := sg_take (by omega)
  have e3 : mi (t.take i) (rn wh t 0) = mi t (rn wh t 0) := mi_take (by omega)
  unfold spl
  rw [e1, e2, e3, kall_take h1 (by omega) (by omega) hp he, h2]
  rfl
/-! White space ahead. -/
theorem kin_shift (j : Nat) (z t p : List UInt8) (a : Nat) : kin j (z ++ t) p (a + z.length) = (kin j t p a).map fun r => (r.1, r.2.1, r.2.2.1, r.2.2.2.1, r.2.2.2.2 + z.length) := by
  unfold kin
  split
  · rw [wd_shift, wd_shift]
    cases wd t a wInfinity with
    | true =>
      show some _ = some _
      simp only [Option.some.injEq, Prod.mk.injEq, true_and]
      omega
    | false =>
      cases wd t a wInf with
      | true =>
        show some _ = some _
        simp only [Option.some.injEq, Prod.mk.injEq, true_and]
        omega
      | false => rfl
  · rw [wd_shift, show a + z.length + 3 = (a + 3) + z.length by omega, pl_shift]
    cases wd t a wNan <;> rfl
  · rw [wd_shift, show a + z.length + 2 = (a + 2) + z.length by omega, nm_shift]
    cases wd t a wHex with
    | false => rfl
    | true => cases nm true 112 4 t p (a + 2) <;> rfl
  · rw [nm_shift]
    cases nm false 101 1 t p a <;> rfl
theorem kall_shift (z t p : List UInt8) (a : Nat) : kall (z ++ t) p (a + z.length) = (kall t p a).map fun r => (r.1, r.2.1, r.2.2.1, r.2.2.2.1, r.2.2.2.2 + z.length) := by
  unfold kall
  simp only [kin_shift]
  cases kin 0 t p a with
  | some x => rfl
  | none =>
    cases kin 1 t p a with
    | some x => rfl
    | none =>
      cases kin 2 t p a with
      | some x => rfl
      | none => rfl
theorem spl_white (t p : List UInt8) : spl ([32, 9] ++ t) p = (spl t p).map fun x => (x.1, x.2.1, x.2.2.1, x.2.2.2.1, x.2.2.2.2.1, x.2.2.2.2.2 + 2) := by
  have e0 : rn wh ([32, 9] ++ t) 0 = rn wh t 0 + 2 := by
    rw [rn_step (b := 32) rfl rfl, rn_step (b := 9) rfl rfl]
    exact rn_shift wh [32, 9] t 0
  unfold spl
  rw [e0]
  have e1 := sg_shift [32, 9] t (rn wh t 0)
  have e2 := mi_shift [32, 9] t (rn wh t 0)
  have e3 := kall_shift [32, 9] t p (sg t (rn wh t 0))
  simp only [List.length_cons, List.length_nil, Nat.zero_add] at e1 e2 e3
  rw [e1, e2, e3]
  cases kall t p (sg t (rn wh t 0)) <;> rfl
/-! Large letters. -/
theorem kin_up {j : Nat} {t p : List UInt8} {a : Nat} (hp : ∀ c ∈ p, c.toNat < 65 ∨ (90 < c.toNat ∧ c.toNat < 97) ∨ 122 < c.toNat) : kin j (t.map up) p a = (kin j t p a).map fun r => (r.1, r.2.1, r.2.2.1, r.2.2.2.1.map up, r.2.2.2.2) := by
  unfold kin
  split
  · rw [wd_up, wd_up]
    cases wd t a wInfinity with
    | true => rfl
    | false => cases wd t a wInf <;> rfl
  · rw [wd_up, pl_up]
    cases wd t a wNan <;> rfl
  · rw [wd_up, nm_up hp]
    cases wd t a wHex with
    | false => rfl
    | true => cases nm true 112 4 t p (a + 2) <;> rfl
  · rw [nm_up hp]
    cases nm false 101 1 t p a <;> rfl
theorem kall_up {t p : List UInt8} {a : Nat} (hp : ∀ c ∈ p, c.toNat < 65 ∨ (90 < c.toNat ∧ c.toNat < 97) ∨ 122 < c.toNat) : kall (t.map up) p a = (kall t p a).map fun r => (r.1, r.2.1, r.2.2.1, r.2.2.2.1.map up, r.2.2.2.2) := by
  unfold kall
  simp only [kin_up hp]
  cases kin 0 t p a with
  | some x => rfl
  | none =>
    cases kin 1 t p a with
    | some x => rfl
    | none =>
      cases kin 2 t p a with
      | some x => rfl
      | none => rfl
theorem spl_up {t p : List UInt8} (hp : ∀ c ∈ p, c.toNat < 65 ∨ (90 < c.toNat ∧ c.toNat < 97) ∨ 122 < c.toNat) : spl (t.map up) p = (spl t p).map fun x => (x.1, x.2.1, x.2.2.1, x.2.2.2.1, x.2.2.2.2.1.map up, x.2.2.2.2.2) := by
  unfold spl
  rw [rn_up wh_up, sg_up, mi_up, kall_up hp]
  cases kall t p (sg t (rn wh t 0)) <;> rfl
theorem isP_letters {p : List UInt8} (h : isP p = true) : ∀ c ∈ p, c.toNat < 65 ∨ (90 < c.toNat ∧ c.toNat < 97) ∨ 122 < c.toNat := by
  intro c hc
  unfold isP at h
  simp only [Bool.and_eq_true, Bool.not_eq_true', List.any_eq_false] at h
  have h1 := h.1 c hc
  rw [bad_raw] at h1
  simp only [decide_eq_true_eq] at h1
  have h2 : ¬ isL c = true := fun g => h1 (.inr (.inr (.inl g)))
  unfold isL at h2
  simp only [decide_eq_true_eq] at h2
  omega
end Go.Proofs.YtilnhkflgfajcaaGreatDoor
