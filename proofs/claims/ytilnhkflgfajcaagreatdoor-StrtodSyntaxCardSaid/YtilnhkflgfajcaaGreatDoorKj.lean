/- The reference's digits without zeros, and its numerals. Conditions: texts of at most 20000 bytes. -/
import Derived.Test.YtilnhkflgfajcaaGreatDoorKi
set_option linter.all false
namespace Go.Proofs.YtilnhkflgfajcaaGreatDoor
open Go.Eng Go.RowKit
set_option maxRecDepth 1000000

theorem lead_cons {x : UInt8} {l : List UInt8} : lead (x :: l) = if x = 48 then lead l else x :: l := by
  unfold lead
  rw [List.dropWhile_cons]
  by_cases h : x = 48 <;> simp [h]
theorem trail_snoc {x : UInt8} {l : List UInt8} : trail (l ++ [x]) = if x = 48 then trail l else l ++ [x] := by
  unfold trail
  rw [List.reverse_append, List.reverse_singleton, List.singleton_append, List.dropWhile_cons]
  by_cases h : x = 48 <;> simp [h]
theorem idx0 (x : UInt8) (l : List UInt8) (w : World) : (Instr.index 9 (.string ⟨⟨x :: l⟩⟩) (.int .i64 0)).run Tryz.prog w = .ok (.int .u8 x.toNat) w := run_idx (a := 0) rfl Tryz.underlying9 w
theorem from1 (x : UInt8) (l : List UInt8) (w : World) : (Instr.slice 9 (.string ⟨⟨x :: l⟩⟩) (some (.int .i64 1)) none none).run Tryz.prog w = .ok (.string ⟨⟨l⟩⟩) w := by
  have h := slice_from (s := ⟨⟨x :: l⟩⟩) (a := 1) (by show 1 ≤ l.length + 1; omega) w
  have e : (⟨⟨x :: l⟩⟩ : ByteArray).extract 1 (⟨⟨x :: l⟩⟩ : ByteArray).size = ⟨⟨l⟩⟩ := by
    have := hp_drop (x :: l) [] ⟨⟨x :: l⟩⟩ 1 rfl (by show 1 ≤ l.length + 1; omega)
    exact ByteArray.ext (Array.ext' (by exact this))
  rw [e] at h
  exact h
theorem idx_last (x : UInt8) (l : List UInt8) (w : World) : (Instr.index 9 (.string ⟨⟨l ++ [x]⟩⟩) (.int .i64 (l.length : Int))).run Tryz.prog w = .ok (.int .u8 x.toNat) w :=
  run_idx (s := ⟨⟨l ++ [x]⟩⟩) (a := l.length) (by simp) Tryz.underlying9 w
theorem to_last (x : UInt8) (l : List UInt8) (w : World) : (Instr.slice 9 (.string ⟨⟨l ++ [x]⟩⟩) none (some (.int .i64 (l.length : Int))) none).run Tryz.prog w = .ok (.string ⟨⟨l⟩⟩) w := by
  have h := slice_run (s := ⟨⟨l ++ [x]⟩⟩) (a := 0) (r := l.length) (Nat.zero_le _) (by show l.length ≤ (l ++ [x]).length; simp) w
  have e : sl (⟨⟨l ++ [x]⟩⟩ : ByteArray).data.toList 0 l.length = l := by
    show sl (l ++ [x]) 0 l.length = l
    simp [sl]
  rw [e] at h
  exact h
theorem ret50 {R : Ending → World → Prop} {tmps : Array Value} {W : World} {N : Nat} {v0 v1 v2 v3 v4 v5 : Value} (h2 : tmps[8]? = some (.pointer (some ⟨N, 0, none⟩)))
    (hb : W.heap[N]? = some (nbox v0 v1 v2 v3 v4 v5)) (ho : v0.oneCell' = true ∧ v1.oneCell' = true ∧ v2.oneCell' = true ∧ v3.oneCell' = true ∧ v4.oneCell' = true ∧ v5.oneCell' = true) (hR : R (.returned (.agg #[v0, v1, v2, v3, v4, v5])) W) : bodyPost Tryz.prog Tryz.f50 R .ret { tmps := tmps, defers := [] } W := by
  obtain ⟨⟨c0, c1, c2, c3, c4, c5⟩, _⟩ := box_cells hb
  refine ⟨rfl, _, ?_, hR⟩
  simp [results, Tryz.results50, go_sem, h2, c0, c1, c2, c3, c4, c5]
def strLen (v : Value) : Nat := match v with
  | .string s => s.size
  | _ => 0
theorem far_eq (x : Int) : min (max x (-1073741824)) 1073741824 = max (-1073741824) (min x 1073741824) := by omega

set_option maxHeartbeats 4000000 in
theorem rstrip_1 (kd x c e0 : Int) (all : List UInt8) (hx0 : -1099511627776 ≤ x) (hx1 : x ≤ 1099511627776) (hc0 : 0 ≤ c) (hc1 : c ≤ 20000) (hall : all.length ≤ 20000) (w : World) :
    Calls Tryz.prog 50 #[.int .i64 kd, .agg #[.string ⟨⟨all⟩⟩, .int .i64 c, .int .i64 e0], .int .i64 x, .int .i64 1] w fun e w' =>
      e = .returned (.agg #[.int .i64 kd, .bool false, .string ⟨⟨trail (lead all)⟩⟩, .int .i64 (if trail (lead all) = [] then 0 else max (-1073741824) (min (x - 1 * c + 1 * (((lead all).length : Int) - (trail (lead all)).length)) 1073741824)), .string ⟨#[]⟩, .int .i64 0]) ∧ Below w.heap.size w w' := by
  obtain ⟨A, hA⟩ : ∃ A, A = lead all := ⟨_, rfl⟩
  have HA : Aside (A = lead all) := hA
  have hAl : A.length ≤ 20000 := by rw [hA]; have := lead_len all; omega
  rw [← hA]
  obtain ⟨K, hK⟩ : ∃ K, K = trail A := ⟨_, rfl⟩
  have HK : Aside (K = trail A) := hK
  rw [← hK]
  obtain ⟨Z, hZ⟩ : ∃ Z : Int, Z = if K = [] then 0 else max (-1073741824) (min (x - 1 * c + 1 * ((A.length : Int) - K.length)) 1073741824) := ⟨_, rfl⟩
  have HZ : Aside (Z = if K = [] then 0 else max (-1073741824) (min (x - 1 * c + 1 * ((A.length : Int) - K.length)) 1073741824)) := hZ
  rw [← hZ]
  clear hA hK hZ
  have HFA := Lib.hid far_any
  have HRB : Aside ((((w.alloc (.cells #[.string ⟨⟨all⟩⟩, .int .i64 c, .int .i64 e0] 106 (0, 0))).alloc nb0)).heap[w.heap.size]? = some (rbox all c e0)) := at_alloc (new_at _ _ rfl) _
  obtain ⟨⟨q0, q1, q2⟩, z0, z1, z2⟩ := rbox_cells HRB.out
  go_enter Tryz.func50, Tryz.ntmps50
  go_wp2
  go_loop [9] (fun d => ∃ l : List UInt8, d = .string ⟨⟨l⟩⟩ ∧ l.length ≤ 20000 ∧ Aside (A = lead l)) (fun d => strLen d)
  case atStart => exact ⟨all, rfl, hall, HA.out⟩
  case round =>
    obtain ⟨l, rfl, hl, hla⟩ := hrel
    cases l with
    | cons b l =>
      have hi := idx0 b l
      have hf := from1 b l
      have hlp : (0 : Int) < (l.length : Int) + 1 := by omega
      by_cases h48 : b = 48
      · subst h48
        have hla2 : A = lead l := by rw [hla.out, lead_cons, if_pos rfl]
        have HLA : Aside (A = lead l) := hla2
        clear hla2
        go_wp2
        go_round
        case rel => exact ⟨l, rfl, by simp at hl; omega, HLA.out⟩
        case measure => show l.length < l.length + 1; omega
      · have hAe : A = b :: l := by rw [hla.out, lead_cons, if_neg h48]
        subst hAe
        have b48 : ((b.toNat : Int) == 48) = false := by
          rw [beq_eq_false_iff_ne]
          intro h
          exact h48 (UInt8.toNat_inj.1 (by exact_mod_cast h))
        clear h48
        go_wp2
        clear hi hf hlp b48
        go_loop [9, 10] (fun d ee => ∃ (lx : List UInt8) (e : Int), d = .string ⟨⟨lx⟩⟩ ∧ ee = .int .i64 e ∧ lx.length ≤ (l.length + 1) ∧ Aside (K = trail lx) ∧ e = x - 1 * c + 1 * (((l.length + 1) : Int) - lx.length)) (fun d _ => strLen d)
        case atStart => exact ⟨(b :: l), _, rfl, rfl, by simp, HK.out, by simp⟩
        case round =>
          obtain ⟨l2, e2, rfl, rfl, hl2, hk2, he2⟩ := hrel
          have HE2 : Aside (e2 = x - 1 * c + 1 * (((l.length + 1) : Int) - l2.length)) := he2
          have hlb : ((l.length + 1) : Nat) ≤ 20000 := hl
          have hb0 : -2000000000000 ≤ e2 := by omega
          have hb1 : e2 ≤ 2000000000000 := by omega
          clear he2
          rcases List.eq_nil_or_concat l2 with rfl | ⟨l3, y, hcc⟩
          · have hKe : K = [] := by rw [hk2.out]; rfl
            subst hKe
            have HZ0 : Aside (Z = 0) := by show Z = 0; rw [HZ.out]; rfl
            go_wp2_with (go_at_call 113; refine (HFA.out _ _).mono ?_; rintro e w2 ⟨rfl, rfl⟩)
            refine ret50 (N := w.heap.size + 1) (v0 := .int .i64 kd) (v1 := .bool false) (v2 := .string ⟨⟨[]⟩⟩) (v3 := .int .i64 0) (v4 := .string ⟨#[]⟩) (v5 := .int .i64 0) (by kernel_rfl) ?_ (by simp [Value.oneCell']) ?_
            · exact new_at _ _ (by simp [World.size_alloc])
            · exact ⟨by rw [HZ0.out], ((Below.refl _ _).alloc (Nat.le_refl _) _).alloc (by simp [World.size_alloc]) _⟩
          · rw [List.concat_eq_append] at hcc
            subst hcc
            have hi := idx_last y l3
            have hf := to_last y l3
            simp only [List.length_append, List.length_singleton] at hl2
            have hl3 : l3.length ≤ 20000 := by have : l.length + 1 ≤ 20000 := hl; omega
            by_cases h48 : y = 48
            · subst h48
              have HK2 : Aside (K = trail l3) := by show K = _; rw [hk2.out, trail_snoc, if_pos rfl]
              go_wp2
              go_round
              case rel => exact ⟨l3, _, rfl, rfl, by omega, HK2.out, by rw [HE2.out]; simp; omega⟩
              case measure => show l3.length < (l3 ++ [48]).length; simp
            · have hKe : K = l3 ++ [y] := by rw [hk2.out, trail_snoc, if_neg h48]
              subst hKe
              have b48 : ((y.toNat : Int) == 48) = false := by
                rw [beq_eq_false_iff_ne]
                intro h
                exact h48 (UInt8.toNat_inj.1 (by exact_mod_cast h))
              have hemp : (l3 ++ [y]).isEmpty = false := by simp
              have hfe := far_eq e2
              have HZE : Aside (Z = max (-1073741824) (min e2 1073741824)) := by show Z = _; rw [HZ.out, if_neg (by simp), HE2.out]; rfl
              clear h48
              have HFE : Aside (min (max e2 (-1073741824)) 1073741824 = max (-1073741824) (min e2 1073741824)) := hfe
              clear hfe
              go_wp2_with (go_at_call 113; refine (HFA.out _ _).mono ?_; rintro e w2 ⟨rfl, rfl⟩)
              refine ret50 (N := w.heap.size + 1) (v0 := .int .i64 kd) (v1 := .bool false) (v2 := .string ⟨⟨l3 ++ [y]⟩⟩) (v3 := .int .i64 (min (max e2 (-1073741824)) 1073741824)) (v4 := .string ⟨#[]⟩) (v5 := .int .i64 0) (by kernel_rfl) ?_ (by simp [Value.oneCell']) ?_
              · exact new_at _ _ (by simp [World.size_alloc])
              · refine ⟨?_, ((Below.refl _ _).alloc (Nat.le_refl _) _).alloc (by simp [World.size_alloc]) _⟩
                rw [HFE.out, ← HZE.out]
    | nil =>
      have hAe : A = [] := by rw [hla.out]; rfl
      subst hAe
      go_wp2
      go_loop [9, 10] (fun d ee => ∃ (lx : List UInt8) (e : Int), d = .string ⟨⟨lx⟩⟩ ∧ ee = .int .i64 e ∧ lx.length ≤ 0 ∧ Aside (K = trail lx) ∧ e = x - 1 * c + 1 * ((0 : Int) - lx.length)) (fun d _ => strLen d)
      case atStart => exact ⟨[], _, rfl, rfl, by simp, HK.out, by simp⟩
      case round =>
        obtain ⟨l2, e2, rfl, rfl, hl2, hk2, he2⟩ := hrel
        have HE2 : Aside (e2 = x - 1 * c + 1 * ((0 : Int) - l2.length)) := he2
        have hlb : (0 : Nat) ≤ 20000 := hl
        have hb0 : -2000000000000 ≤ e2 := by omega
        have hb1 : e2 ≤ 2000000000000 := by omega
        clear he2
        rcases List.eq_nil_or_concat l2 with rfl | ⟨l3, y, hcc⟩
        · have hKe : K = [] := by rw [hk2.out]; rfl
          subst hKe
          have HZ0 : Aside (Z = 0) := by show Z = 0; rw [HZ.out]; rfl
          go_wp2_with (go_at_call 113; refine (HFA.out _ _).mono ?_; rintro e w2 ⟨rfl, rfl⟩)
          refine ret50 (N := w.heap.size + 1) (v0 := .int .i64 kd) (v1 := .bool false) (v2 := .string ⟨⟨[]⟩⟩) (v3 := .int .i64 0) (v4 := .string ⟨#[]⟩) (v5 := .int .i64 0) (by kernel_rfl) ?_ (by simp [Value.oneCell']) ?_
          · exact new_at _ _ (by simp [World.size_alloc])
          · exact ⟨by rw [HZ0.out], ((Below.refl _ _).alloc (Nat.le_refl _) _).alloc (by simp [World.size_alloc]) _⟩
        · rw [List.concat_eq_append] at hcc
          subst hcc
          have hi := idx_last y l3
          have hf := to_last y l3
          simp only [List.length_append, List.length_singleton] at hl2
          omega

set_option maxHeartbeats 4000000 in
theorem rstrip_4 (kd x c e0 : Int) (all : List UInt8) (hx0 : -1099511627776 ≤ x) (hx1 : x ≤ 1099511627776) (hc0 : 0 ≤ c) (hc1 : c ≤ 20000) (hall : all.length ≤ 20000) (w : World) :
    Calls Tryz.prog 50 #[.int .i64 kd, .agg #[.string ⟨⟨all⟩⟩, .int .i64 c, .int .i64 e0], .int .i64 x, .int .i64 4] w fun e w' =>
      e = .returned (.agg #[.int .i64 kd, .bool false, .string ⟨⟨trail (lead all)⟩⟩, .int .i64 (if trail (lead all) = [] then 0 else max (-1073741824) (min (x - 4 * c + 4 * (((lead all).length : Int) - (trail (lead all)).length)) 1073741824)), .string ⟨#[]⟩, .int .i64 0]) ∧ Below w.heap.size w w' := by
  obtain ⟨A, hA⟩ : ∃ A, A = lead all := ⟨_, rfl⟩
  have HA : Aside (A = lead all) := hA
  have hAl : A.length ≤ 20000 := by rw [hA]; have := lead_len all; omega
  rw [← hA]
  obtain ⟨K, hK⟩ : ∃ K, K = trail A := ⟨_, rfl⟩
  have HK : Aside (K = trail A) := hK
  rw [← hK]
  obtain ⟨Z, hZ⟩ : ∃ Z : Int, Z = if K = [] then 0 else max (-1073741824) (min (x - 4 * c + 4 * ((A.length : Int) - K.length)) 1073741824) := ⟨_, rfl⟩
  have HZ : Aside (Z = if K = [] then 0 else max (-1073741824) (min (x - 4 * c + 4 * ((A.length : Int) - K.length)) 1073741824)) := hZ
  rw [← hZ]
  clear hA hK hZ
  have HFA := Lib.hid far_any
  have HRB : Aside ((((w.alloc (.cells #[.string ⟨⟨all⟩⟩, .int .i64 c, .int .i64 e0] 106 (0, 0))).alloc nb0)).heap[w.heap.size]? = some (rbox all c e0)) := at_alloc (new_at _ _ rfl) _
  obtain ⟨⟨q0, q1, q2⟩, z0, z1, z2⟩ := rbox_cells HRB.out
  go_enter Tryz.func50, Tryz.ntmps50
  go_wp2
  go_loop [9] (fun d => ∃ l : List UInt8, d = .string ⟨⟨l⟩⟩ ∧ l.length ≤ 20000 ∧ Aside (A = lead l)) (fun d => strLen d)
  case atStart => exact ⟨all, rfl, hall, HA.out⟩
  case round =>
    obtain ⟨l, rfl, hl, hla⟩ := hrel
    cases l with
    | cons b l =>
      have hi := idx0 b l
      have hf := from1 b l
      have hlp : (0 : Int) < (l.length : Int) + 1 := by omega
      by_cases h48 : b = 48
      · subst h48
        have hla2 : A = lead l := by rw [hla.out, lead_cons, if_pos rfl]
        have HLA : Aside (A = lead l) := hla2
        clear hla2
        go_wp2
        go_round
        case rel => exact ⟨l, rfl, by simp at hl; omega, HLA.out⟩
        case measure => show l.length < l.length + 1; omega
      · have hAe : A = b :: l := by rw [hla.out, lead_cons, if_neg h48]
        subst hAe
        have b48 : ((b.toNat : Int) == 48) = false := by
          rw [beq_eq_false_iff_ne]
          intro h
          exact h48 (UInt8.toNat_inj.1 (by exact_mod_cast h))
        clear h48
        go_wp2
        clear hi hf hlp b48
        go_loop [9, 10] (fun d ee => ∃ (lx : List UInt8) (e : Int), d = .string ⟨⟨lx⟩⟩ ∧ ee = .int .i64 e ∧ lx.length ≤ (l.length + 1) ∧ Aside (K = trail lx) ∧ e = x - 4 * c + 4 * (((l.length + 1) : Int) - lx.length)) (fun d _ => strLen d)
        case atStart => exact ⟨(b :: l), _, rfl, rfl, by simp, HK.out, by simp⟩
        case round =>
          obtain ⟨l2, e2, rfl, rfl, hl2, hk2, he2⟩ := hrel
          have HE2 : Aside (e2 = x - 4 * c + 4 * (((l.length + 1) : Int) - l2.length)) := he2
          have hlb : ((l.length + 1) : Nat) ≤ 20000 := hl
          have hb0 : -2000000000000 ≤ e2 := by omega
          have hb1 : e2 ≤ 2000000000000 := by omega
          clear he2
          rcases List.eq_nil_or_concat l2 with rfl | ⟨l3, y, hcc⟩
          · have hKe : K = [] := by rw [hk2.out]; rfl
            subst hKe
            have HZ0 : Aside (Z = 0) := by show Z = 0; rw [HZ.out]; rfl
            go_wp2_with (go_at_call 113; refine (HFA.out _ _).mono ?_; rintro e w2 ⟨rfl, rfl⟩)
            refine ret50 (N := w.heap.size + 1) (v0 := .int .i64 kd) (v1 := .bool false) (v2 := .string ⟨⟨[]⟩⟩) (v3 := .int .i64 0) (v4 := .string ⟨#[]⟩) (v5 := .int .i64 0) (by kernel_rfl) ?_ (by simp [Value.oneCell']) ?_
            · exact new_at _ _ (by simp [World.size_alloc])
            · exact ⟨by rw [HZ0.out], ((Below.refl _ _).alloc (Nat.le_refl _) _).alloc (by simp [World.size_alloc]) _⟩
          · rw [List.concat_eq_append] at hcc
            subst hcc
            have hi := idx_last y l3
            have hf := to_last y l3
            simp only [List.length_append, List.length_singleton] at hl2
            have hl3 : l3.length ≤ 20000 := by have : l.length + 1 ≤ 20000 := hl; omega
            by_cases h48 : y = 48
            · subst h48
              have HK2 : Aside (K = trail l3) := by show K = _; rw [hk2.out, trail_snoc, if_pos rfl]
              go_wp2
              go_round
              case rel => exact ⟨l3, _, rfl, rfl, by omega, HK2.out, by rw [HE2.out]; simp; omega⟩
              case measure => show l3.length < (l3 ++ [48]).length; simp
            · have hKe : K = l3 ++ [y] := by rw [hk2.out, trail_snoc, if_neg h48]
              subst hKe
              have b48 : ((y.toNat : Int) == 48) = false := by
                rw [beq_eq_false_iff_ne]
                intro h
                exact h48 (UInt8.toNat_inj.1 (by exact_mod_cast h))
              have hemp : (l3 ++ [y]).isEmpty = false := by simp
              have hfe := far_eq e2
              have HZE : Aside (Z = max (-1073741824) (min e2 1073741824)) := by show Z = _; rw [HZ.out, if_neg (by simp), HE2.out]; rfl
              clear h48
              have HFE : Aside (min (max e2 (-1073741824)) 1073741824 = max (-1073741824) (min e2 1073741824)) := hfe
              clear hfe
              go_wp2_with (go_at_call 113; refine (HFA.out _ _).mono ?_; rintro e w2 ⟨rfl, rfl⟩)
              refine ret50 (N := w.heap.size + 1) (v0 := .int .i64 kd) (v1 := .bool false) (v2 := .string ⟨⟨l3 ++ [y]⟩⟩) (v3 := .int .i64 (min (max e2 (-1073741824)) 1073741824)) (v4 := .string ⟨#[]⟩) (v5 := .int .i64 0) (by kernel_rfl) ?_ (by simp [Value.oneCell']) ?_
              · exact new_at _ _ (by simp [World.size_alloc])
              · refine ⟨?_, ((Below.refl _ _).alloc (Nat.le_refl _) _).alloc (by simp [World.size_alloc]) _⟩
                rw [HFE.out, ← HZE.out]
    | nil =>
      have hAe : A = [] := by rw [hla.out]; rfl
      subst hAe
      go_wp2
      go_loop [9, 10] (fun d ee => ∃ (lx : List UInt8) (e : Int), d = .string ⟨⟨lx⟩⟩ ∧ ee = .int .i64 e ∧ lx.length ≤ 0 ∧ Aside (K = trail lx) ∧ e = x - 4 * c + 4 * ((0 : Int) - lx.length)) (fun d _ => strLen d)
      case atStart => exact ⟨[], _, rfl, rfl, by simp, HK.out, by simp⟩
      case round =>
        obtain ⟨l2, e2, rfl, rfl, hl2, hk2, he2⟩ := hrel
        have HE2 : Aside (e2 = x - 4 * c + 4 * ((0 : Int) - l2.length)) := he2
        have hlb : (0 : Nat) ≤ 20000 := hl
        have hb0 : -2000000000000 ≤ e2 := by omega
        have hb1 : e2 ≤ 2000000000000 := by omega
        clear he2
        rcases List.eq_nil_or_concat l2 with rfl | ⟨l3, y, hcc⟩
        · have hKe : K = [] := by rw [hk2.out]; rfl
          subst hKe
          have HZ0 : Aside (Z = 0) := by show Z = 0; rw [HZ.out]; rfl
          go_wp2_with (go_at_call 113; refine (HFA.out _ _).mono ?_; rintro e w2 ⟨rfl, rfl⟩)
          refine ret50 (N := w.heap.size + 1) (v0 := .int .i64 kd) (v1 := .bool false) (v2 := .string ⟨⟨[]⟩⟩) (v3 := .int .i64 0) (v4 := .string ⟨#[]⟩) (v5 := .int .i64 0) (by kernel_rfl) ?_ (by simp [Value.oneCell']) ?_
          · exact new_at _ _ (by simp [World.size_alloc])
          · exact ⟨by rw [HZ0.out], ((Below.refl _ _).alloc (Nat.le_refl _) _).alloc (by simp [World.size_alloc]) _⟩
        · rw [List.concat_eq_append] at hcc
          subst hcc
          have hi := idx_last y l3
          have hf := to_last y l3
          simp only [List.length_append, List.length_singleton] at hl2
          omega
end Go.Proofs.YtilnhkflgfajcaaGreatDoor

namespace Go.Proofs.YtilnhkflgfajcaaGreatDoor
open Go.Eng Go.RowKit
set_option maxRecDepth 1000000

/-- The exponent of digits without zeros at their ends. -/
def stE (all : List UInt8) (c x un : Int) : Int := if trail (lead all) = [] then 0 else max (-1073741824) (min (x - un * c + un * (((lead all).length : Int) - (trail (lead all)).length)) 1073741824)
/-- What a number makes of its digits. -/
def nmF (un : Int) (t : List UInt8) (m : UInt8) (f : List UInt8 × Int × Nat) : Option (List UInt8 × Int × Nat) :=
  if f.1 = [] then none else some (trail (lead f.1), stE f.1 f.2.1 (ex t m f.2.2).1 un, (ex t m f.2.2).2)
theorem nm_fin {hex : Bool} {m : UInt8} {un : Int} {t p : List UInt8} {a : Nat} (ha : a ≤ t.length) : nm hex m un t p a = nmF un t m (fin hex t p a false [] 0) := by
  cases hh : p.isPrefixOf (t.drop (rn (dg hex) t a)) with
  | true =>
    rw [nm_has rfl hh rfl rfl rfl]
    have hf : fin hex t p a false [] 0 = ((sl t a (rn (dg hex) t a)).map lw ++ (sl t (rn (dg hex) t a + p.length) (rn (dg hex) t (rn (dg hex) t a + p.length))).map lw, 0 + (((rn (dg hex) t (rn (dg hex) t a + p.length)) : Int) - ((rn (dg hex) t a + p.length : Nat) : Int)), rn (dg hex) t (rn (dg hex) t a + p.length)) := by
      simp only [fin, hh]
      rfl
    rw [hf]
    have hb0 : rn (dg hex) t a + p.length ≤ t.length := by
      have := (List.isPrefixOf_iff_prefix.1 hh).length_le
      rw [List.length_drop] at this
      have := rn_le (dg hex) t a ha
      omega
    have hD : ((sl t (rn (dg hex) t a + p.length) (rn (dg hex) t (rn (dg hex) t a + p.length))).map lw).length = rn (dg hex) t (rn (dg hex) t a + p.length) - (rn (dg hex) t a + p.length) := by
      rw [List.length_map, sl_len _ _ _ (rn_le _ _ _ hb0)]
    have hge := rn_ge (dg hex) t (rn (dg hex) t a + p.length)
    unfold nmF
    simp only
    split
    · rfl
    · rw [hD]
      unfold strip stE
      simp only
      rw [show ((rn (dg hex) t (rn (dg hex) t a + p.length) - (rn (dg hex) t a + p.length) : Nat) : Int) = 0 + (((rn (dg hex) t (rn (dg hex) t a + p.length)) : Int) - ((rn (dg hex) t a + p.length : Nat) : Int)) by omega]
  | false =>
    rw [nm_none rfl hh rfl]
    have hf : fin hex t p a false [] 0 = ((sl t a (rn (dg hex) t a)).map lw, 0, rn (dg hex) t a) := by
      simp only [fin, hh]
      rfl
    rw [hf]
    unfold nmF
    simp only
    split
    · rfl
    · unfold strip stE
      rfl
theorem fin_bounds {hex : Bool} {t p : List UInt8} {a : Nat} (ha : a ≤ t.length) : (fin hex t p a false [] 0).1.length ≤ t.length ∧ 0 ≤ (fin hex t p a false [] 0).2.1 ∧ (fin hex t p a false [] 0).2.1 ≤ t.length ∧ (fin hex t p a false [] 0).2.2 ≤ t.length := by
  have h1 := rn_le (dg hex) t a ha
  have h0 := rn_ge (dg hex) t a
  have l1 := sl_len t a (rn (dg hex) t a) h1
  cases hh : p.isPrefixOf (t.drop (rn (dg hex) t a)) with
  | true =>
    have hf : fin hex t p a false [] 0 = ((sl t a (rn (dg hex) t a)).map lw ++ (sl t (rn (dg hex) t a + p.length) (rn (dg hex) t (rn (dg hex) t a + p.length))).map lw, 0 + (((rn (dg hex) t (rn (dg hex) t a + p.length)) : Int) - ((rn (dg hex) t a + p.length : Nat) : Int)), rn (dg hex) t (rn (dg hex) t a + p.length)) := by
      simp only [fin, hh]
      rfl
    have hb0 : rn (dg hex) t a + p.length ≤ t.length := by
      have := (List.isPrefixOf_iff_prefix.1 hh).length_le
      rw [List.length_drop] at this
      omega
    have h2 := rn_le (dg hex) t (rn (dg hex) t a + p.length) hb0
    have h3 := rn_ge (dg hex) t (rn (dg hex) t a + p.length)
    have l2 := sl_len t (rn (dg hex) t a + p.length) (rn (dg hex) t (rn (dg hex) t a + p.length)) h2
    rw [hf]
    simp only [List.length_append, List.length_map]
    omega
  | false =>
    have hf : fin hex t p a false [] 0 = ((sl t a (rn (dg hex) t a)).map lw, 0, rn (dg hex) t a) := by
      simp only [fin, hh]
      rfl
    rw [hf]
    simp only [List.length_map]
    omega
/-- What is found, as it lies in memory. -/
abbrev fbox (v0 v1 v2 v3 v4 v5 v6 : Value) : Obj := .cells #[v0, v1, v2, v3, v4, v5, v6] 30 (0, 0)
abbrev fb0 : Obj := fbox (.int .i64 0) (.bool false) (.string ⟨#[]⟩) (.int .i64 0) (.string ⟨#[]⟩) (.int .i64 0) (.bool false)
theorem fbox_cells {W : World} {N : Nat} {v0 v1 v2 v3 v4 v5 v6 : Value} (e : W.heap[N]? = some (fbox v0 v1 v2 v3 v4 v5 v6)) :
    (W.cell? ⟨N, 0, none⟩ = some v0 ∧ W.cell? ⟨N, 1, none⟩ = some v1 ∧ W.cell? ⟨N, 2, none⟩ = some v2 ∧ W.cell? ⟨N, 3, none⟩ = some v3 ∧ W.cell? ⟨N, 4, none⟩ = some v4 ∧ W.cell? ⟨N, 5, none⟩ = some v5 ∧ W.cell? ⟨N, 6, none⟩ = some v6) ∧
    (W.frozen? ⟨N, 0, none⟩ = false ∧ W.frozen? ⟨N, 1, none⟩ = false ∧ W.frozen? ⟨N, 2, none⟩ = false ∧ W.frozen? ⟨N, 3, none⟩ = false ∧ W.frozen? ⟨N, 4, none⟩ = false ∧ W.frozen? ⟨N, 5, none⟩ = false ∧ W.frozen? ⟨N, 6, none⟩ = false) := by
  refine ⟨⟨?_, ?_, ?_, ?_, ?_, ?_, ?_⟩, ?_, ?_, ?_, ?_, ?_, ?_, ?_⟩
  all_goals first
    | (simp only [World.cell?, e]; rfl)
    | (simp only [World.frozen?, e]; rfl)
def put7 (W : World) (N : Nat) (v0 v1 v2 v3 v4 v5 v6 : Value) : World := (((((((W.setCell ⟨N, 0, none⟩ v0).setCell ⟨N, 1, none⟩ v1).setCell ⟨N, 2, none⟩ v2).setCell ⟨N, 3, none⟩ v3).setCell ⟨N, 4, none⟩ v4).setCell ⟨N, 5, none⟩ v5).setCell ⟨N, 6, none⟩ v6)
theorem put7_box {W : World} {N : Nat} {u0 u1 u2 u3 u4 u5 u6 : Value} (h : W.heap[N]? = some (fbox u0 u1 u2 u3 u4 u5 u6)) (v0 v1 v2 v3 v4 v5 v6 : Value) : (put7 W N v0 v1 v2 v3 v4 v5 v6).heap[N]? = some (fbox v0 v1 v2 v3 v4 v5 v6) := by
  unfold put7
  have h0 := cells_set (o := 0) h v0
  have h1 := cells_set (o := 1) h0 v1
  have h2 := cells_set (o := 2) h1 v2
  have h3 := cells_set (o := 3) h2 v3
  have h4 := cells_set (o := 4) h3 v4
  have h5 := cells_set (o := 5) h4 v5
  have h6 := cells_set (o := 6) h5 v6
  simp only [List.setIfInBounds_toArray, List.set_cons_zero, List.set_cons_succ] at h6
  exact h6
theorem put7_below {w w' : World} {n : Nat} (h : Below n w w') (v0 v1 v2 v3 v4 v5 v6 : Value) : Below n w (put7 w' n v0 v1 v2 v3 v4 v5 v6) := by
  unfold put7
  refine Below.setCell (p := ⟨n, 6, none⟩) ?_ (Nat.le_refl n) v6
  refine Below.setCell (p := ⟨n, 5, none⟩) ?_ (Nat.le_refl n) v5
  refine Below.setCell (p := ⟨n, 4, none⟩) ?_ (Nat.le_refl n) v4
  refine Below.setCell (p := ⟨n, 3, none⟩) ?_ (Nat.le_refl n) v3
  refine Below.setCell (p := ⟨n, 2, none⟩) ?_ (Nat.le_refl n) v2
  refine Below.setCell (p := ⟨n, 1, none⟩) ?_ (Nat.le_refl n) v1
  exact Below.setCell (p := ⟨n, 0, none⟩) h (Nat.le_refl n) v0
theorem ret18 {R : Ending → World → Prop} {tmps : Array Value} {W : World} {N : Nat} {v0 v1 v2 v3 v4 v5 v6 : Value} (h2 : tmps[6]? = some (.pointer (some ⟨N, 0, none⟩)))
    (hb : W.heap[N]? = some (fbox v0 v1 v2 v3 v4 v5 v6)) (ho : v0.oneCell' = true ∧ v1.oneCell' = true ∧ v2.oneCell' = true ∧ v3.oneCell' = true ∧ v4.oneCell' = true ∧ v5.oneCell' = true ∧ v6.oneCell' = true) (hR : R (.returned (.agg #[v0, v1, v2, v3, v4, v5, v6])) W) : bodyPost Tryz.prog Tryz.f18 R .ret { tmps := tmps, defers := [] } W := by
  obtain ⟨⟨c0, c1, c2, c3, c4, c5, c6⟩, _⟩ := fbox_cells hb
  refine ⟨rfl, _, ?_, hR⟩
  simp [results, Tryz.results18, go_sem, h2, c0, c1, c2, c3, c4, c5, c6]
theorem below_at {w w' : World} (h : Below w.heap.size w w') {k : Nat} {x : Obj} (hk : w.heap[k]? = some x) : w'.heap[k]? = some x := (h.block k (Array.getElem?_eq_some_iff.1 hk).1).trans hk
end Go.Proofs.YtilnhkflgfajcaaGreatDoor

namespace Go.Proofs.YtilnhkflgfajcaaGreatDoor
open Go.Eng Go.RowKit
set_option maxRecDepth 1000000

/-- A numeral: hexadecimal, or decimal. -/
def numl (t p : List UInt8) (a : Nat) : Option (Int × List UInt8 × Int × List UInt8 × Nat) := match kin 2 t p a with
  | some r => some r
  | none => kin 3 t p a
def numlV : Option (Int × List UInt8 × Int × List UInt8 × Nat) → Value
  | some r => .agg #[.int .i64 r.1, .bool false, .string ⟨⟨r.2.1⟩⟩, .int .i64 r.2.2.1, .string ⟨⟨r.2.2.2.1⟩⟩, .int .i64 r.2.2.2.2, .bool true]
  | none => .agg #[.int .i64 0, .bool false, .string ⟨#[]⟩, .int .i64 0, .string ⟨#[]⟩, .int .i64 0, .bool false]
def NPost (R : Option (Int × List UInt8 × Int × List UInt8 × Nat)) (w : World) (e : Ending) (w' : World) : Prop := e = .returned (numlV R) ∧ Below w.heap.size w w'
theorem kept_fb {w W w2 : World} (hW : W.heap[w.heap.size]? = some fb0) (h : Below W.heap.size W w2) : w2.heap[w.heap.size]? = some fb0 := below_at h hW
theorem below_go {w W w2 : World} (h0 : Below w.heap.size w W) (h : Below W.heap.size W w2) : Below w.heap.size w w2 := h0.trans (h.mono h0.size)
theorem below_drew {w W : World} {n : Nat} (h : Below n w W) (m : Nat) : Below n w (W.drewN m) := h.trans ⟨rfl, rfl, rfl, Nat.le_refl _, fun _ _ => rfl⟩
theorem put7_size (W : World) (N : Nat) (v0 v1 v2 v3 v4 v5 v6 : Value) : (put7 W N v0 v1 v2 v3 v4 v5 v6).heap.size = W.heap.size := by
  simp only [put7, World.setCell, Array.size_modify]
/-- The calls of a numeral to a base: its digits, its exponent, what is left without zeros. -/
structure NumC (hex : Bool) (m : UInt8) (kd un : Int) (s p : ByteArray) (x : Nat) (f1 : List UInt8) (f2 : Int) (f3 : Nat) (X1 : Int) (X2 : Nat) (K : List UInt8) (Z : Int) : Prop where
  dig : ∀ W, Calls Tryz.prog 48 #[.string s, .int .i64 x, .int .i64 (bs hex), .string p] W fun e w' => e = .returned (.agg #[.string ⟨⟨f1⟩⟩, .int .i64 f2, .int .i64 f3]) ∧ Below W.heap.size W w'
  ex : ∀ W, Calls Tryz.prog 49 #[.string s, .int .i64 f3, .string ⟨#[m]⟩] W fun e w' => e = .returned (.tuple #[.int .i64 X1, .int .i64 X2]) ∧ ∃ n, w' = W.drewN n
  st : ∀ W, Calls Tryz.prog 50 #[.int .i64 kd, .agg #[.string ⟨⟨f1⟩⟩, .int .i64 f2, .int .i64 f3], .int .i64 X1, .int .i64 un] W fun e w' => e = .returned (.agg #[.int .i64 kd, .bool false, .string ⟨⟨K⟩⟩, .int .i64 Z, .string ⟨#[]⟩, .int .i64 0]) ∧ Below W.heap.size W w'
  val : nm hex m un s.data.toList p.data.toList x = if f1 = [] then none else some (K, Z, X2)
theorem numC {hex : Bool} {m : UInt8} {kd un : Int} (hu : un = 1 ∨ un = 4) {s p : ByteArray} {x : Nat} (hs : s.size ≤ 20000) (hx : x ≤ s.size) (hp0 : 0 < p.size) (hp : p.size ≤ 100) :
    ∃ f1 f2 f3 X1 X2 K Z, NumC hex m kd un s p x f1 f2 f3 X1 X2 K Z := by
  have hxl : x ≤ s.data.toList.length := by simpa using hx
  obtain ⟨b1, b2, b3, b4⟩ := fin_bounds (hex := hex) (p := p.data.toList) hxl
  have hsl : s.data.toList.length = s.size := by simp
  rw [hsl] at b1 b3 b4
  have hE := ex_le (m := m) (t := s.data.toList) (a := (fin hex s.data.toList p.data.toList x false [] 0).2.2) (by rw [hsl]; exact b4)
  refine ⟨(fin hex s.data.toList p.data.toList x false [] 0).1, (fin hex s.data.toList p.data.toList x false [] 0).2.1, (fin hex s.data.toList p.data.toList x false [] 0).2.2,
    (ex s.data.toList m (fin hex s.data.toList p.data.toList x false [] 0).2.2).1, (ex s.data.toList m (fin hex s.data.toList p.data.toList x false [] 0).2.2).2,
    trail (lead (fin hex s.data.toList p.data.toList x false [] 0).1), stE (fin hex s.data.toList p.data.toList x false [] 0).1 (fin hex s.data.toList p.data.toList x false [] 0).2.1 (ex s.data.toList m (fin hex s.data.toList p.data.toList x false [] 0).2.2).1 un, ?_, ?_, ?_, ?_⟩
  · exact fun W => rdigits_any hex hs hx hp0 hp W
  · exact fun W => rexponent_any hs b4 W
  · intro W
    rcases hu with rfl | rfl
    · exact rstrip_1 kd _ _ _ _ hE.2.1 hE.2.2 b2 (by omega) (by omega) W
    · exact rstrip_4 kd _ _ _ _ hE.2.1 hE.2.2 b2 (by omega) (by omega) W
  · rw [nm_fin hxl]
    rfl

set_option maxHeartbeats 4000000 in
theorem rnumeral_any {s p : ByteArray} {a : Nat} (hs : s.size ≤ 20000) (ha : a ≤ s.size) (hp0 : 0 < p.size) (hp : p.size ≤ 100) (w : World) :
    Calls Tryz.prog 18 #[.string p, .string s, .int .i64 a] w (NPost (numl s.data.toList p.data.toList a) w) := by
  have HBG := Lib.hid fun W => begins_any (v := ⟨#[48, 120]⟩) hs ha (by show 2 ≤ 100; decide) W
  obtain ⟨f1, f2, f3, X1, X2, K, Z, hC⟩ := numC (hex := false) (m := 101) (kd := 1) (un := 1) (.inl rfl) hs ha hp0 hp
  have HDIG := Lib.hid hC.dig
  simp only [bs, Bool.false_eq_true, if_false] at HDIG
  have HEX := Lib.hid hC.ex
  have HST := Lib.hid hC.st
  have hk3 : kin 3 s.data.toList p.data.toList a = if f1 = [] then none else some (1, K, Z, [], X2) := by
    show (nm false 101 1 s.data.toList p.data.toList a).map _ = _
    rw [hC.val]
    split <;> rfl
  obtain ⟨R, hR⟩ : ∃ R, R = numl s.data.toList p.data.toList a := ⟨_, rfl⟩
  rw [← hR]
  cases h1 : wd s.data.toList a wHex
  · rw [show wd s.data.toList a (⟨#[48, 120]⟩ : ByteArray).data.toList = false from h1] at HBG
    have hR2 : R = if f1 = [] then none else some (1, K, Z, [], X2) := by
      rw [hR]
      unfold numl
      rw [show kin 2 s.data.toList p.data.toList a = none from by simp only [kin, h1]; rfl]
      exact hk3
    clear hR hk3 h1 hC
    cases f1 with
    | nil =>
      have eR : R = none := by rw [hR2]; rfl
      subst eR
      clear hR2
      go_enter Tryz.func18, Tryz.ntmps18
      go_wp2_with (first
        | (go_at_call 16; (with_reducible refine (HBG.out _).mono ?_); rintro e w1 ⟨rfl, m0, rfl⟩)
        | (go_at_call 48; (with_reducible refine (HDIG.out _).mono ?_); rintro e w2 ⟨rfl, hbw2⟩; clear HDIG; have hnw2 := kept_fb (show ((w.alloc fb0).drewN m0).heap[w.heap.size]? = some fb0 from new_at _ _ rfl) hbw2; have bew2 := below_go (show Below w.heap.size w ((w.alloc fb0).drewN m0) from below_drew ((Below.refl _ _).alloc (Nat.le_refl _) _) m0) hbw2; have hltw2 := (Array.getElem?_eq_some_iff.1 hnw2).1; obtain ⟨⟨a0, a1, a2, a3, a4, a5, a6⟩, d0, d1, d2, d3, d4, d5, d6⟩ := fbox_cells hnw2))
      refine ret18 (N := w.heap.size) (v0 := .int .i64 0) (v1 := .bool false) (v2 := .string ⟨#[]⟩) (v3 := .int .i64 0) (v4 := .string ⟨#[]⟩) (v5 := .int .i64 0) (v6 := .bool false) (by kernel_rfl) ?_ (by simp [Value.oneCell']) ?_
      · exact at_alloc (put7_box hnw2 _ _ _ _ _ _ _) _
      · exact ⟨rfl, (put7_below bew2 _ _ _ _ _ _ _).alloc (by rw [put7_size]; exact Nat.le_of_lt hltw2) _⟩
    | cons cc1 f1 =>
      have eR : R = some (1, K, Z, [], X2) := by rw [hR2, if_neg (by simp)]
      subst eR
      clear hR2
      go_enter Tryz.func18, Tryz.ntmps18
      go_wp2_with (first
        | (go_at_call 16; (with_reducible refine (HBG.out _).mono ?_); rintro e w1 ⟨rfl, m0, rfl⟩)
        | (go_at_call 48; (with_reducible refine (HDIG.out _).mono ?_); rintro e w2 ⟨rfl, hbw2⟩; clear HDIG; have hnw2 := kept_fb (show ((w.alloc fb0).drewN m0).heap[w.heap.size]? = some fb0 from new_at _ _ rfl) hbw2; have bew2 := below_go (show Below w.heap.size w ((w.alloc fb0).drewN m0) from below_drew ((Below.refl _ _).alloc (Nat.le_refl _) _) m0) hbw2; have hltw2 := (Array.getElem?_eq_some_iff.1 hnw2).1; obtain ⟨⟨a0, a1, a2, a3, a4, a5, a6⟩, d0, d1, d2, d3, d4, d5, d6⟩ := fbox_cells hnw2)
        | (go_at_call 49; (with_reducible refine (HEX.out _).mono ?_); rintro e w5 ⟨rfl, m1, rfl⟩)
        | (go_at_call 50; (with_reducible refine (HST.out _).mono ?_); rintro e w6 ⟨rfl, hb6⟩; have hn6 := kept_fb (W := (w2.alloc _).drewN m1) (at_alloc hnw2 _) hb6; have be6 := below_go (below_drew (bew2.alloc (Nat.le_of_lt hltw2) _) m1) hb6; have hlt6 := (Array.getElem?_eq_some_iff.1 hn6).1; obtain ⟨⟨b0, b1, b2, b3, b4, b5, b6⟩, c0, c1, c2, c3, c4, c5, c6⟩ := fbox_cells hn6))
      refine ret18 (N := w.heap.size) (v0 := .int .i64 1) (v1 := .bool false) (v2 := .string ⟨⟨K⟩⟩) (v3 := .int .i64 Z) (v4 := .string ⟨#[]⟩) (v5 := .int .i64 X2) (v6 := .bool true) (by kernel_rfl) ?_ (by simp [Value.oneCell']) ?_
      · exact at_alloc (put7_box hn6 _ _ _ _ _ _ _) _
      · exact ⟨rfl, (put7_below be6 _ _ _ _ _ _ _).alloc (by rw [put7_size]; exact Nat.le_of_lt hlt6) _⟩
  · rw [show wd s.data.toList a (⟨#[48, 120]⟩ : ByteArray).data.toList = true from h1] at HBG
    have hl := wd_le h1 (by simpa using ha)
    rw [sz] at hl
    have hl3 : a + 2 ≤ s.size := hl
    obtain ⟨g1, g2, g3, Y1, Y2, L, V, hD⟩ := numC (hex := true) (m := 112) (kd := 2) (un := 4) (.inr rfl) hs hl3 hp0 hp
    have GDIG := Lib.hid fun W => show Calls Tryz.prog 48 #[.string s, .int .i64 ((a : Int) + 2), .int .i64 16, .string p] W (fun e w' => e = .returned (.agg #[.string ⟨⟨g1⟩⟩, .int .i64 g2, .int .i64 g3]) ∧ Below W.heap.size W w') from hD.dig W
    have GEX := Lib.hid hD.ex
    have GST := Lib.hid hD.st
    have hk2 : kin 2 s.data.toList p.data.toList a = if g1 = [] then none else some (2, L, V, [], Y2) := by
      simp only [kin, h1, if_true]
      rw [hD.val]
      split <;> rfl
    have hR2 : R = match (if g1 = [] then none else some ((2 : Int), L, V, ([] : List UInt8), Y2)) with
      | some r => some r
      | none => (if f1 = [] then none else some (1, K, Z, [], X2)) := by
      rw [hR]
      unfold numl
      rw [hk2, hk3]
    clear hR hk3 hk2 h1 hC hD hl
    cases g1 with
    | cons cc2 g1 =>
      have eR : R = some (2, L, V, [], Y2) := by rw [hR2, if_neg (by simp)]
      subst eR
      clear hR2
      go_enter Tryz.func18, Tryz.ntmps18
      go_wp2_with (first
        | (go_at_call 16; (with_reducible refine (HBG.out _).mono ?_); rintro e w1 ⟨rfl, m0, rfl⟩)
        | (go_at_call 48; (with_reducible refine (GDIG.out _).mono ?_); rintro e w2 ⟨rfl, hbw2⟩; clear GDIG; have hnw2 := kept_fb (show ((w.alloc fb0).drewN m0).heap[w.heap.size]? = some fb0 from new_at _ _ rfl) hbw2; have bew2 := below_go (show Below w.heap.size w ((w.alloc fb0).drewN m0) from below_drew ((Below.refl _ _).alloc (Nat.le_refl _) _) m0) hbw2; have hltw2 := (Array.getElem?_eq_some_iff.1 hnw2).1; obtain ⟨⟨a0, a1, a2, a3, a4, a5, a6⟩, d0, d1, d2, d3, d4, d5, d6⟩ := fbox_cells hnw2)
        | (go_at_call 49; (with_reducible refine (GEX.out _).mono ?_); rintro e w5 ⟨rfl, m1, rfl⟩)
        | (go_at_call 50; (with_reducible refine (GST.out _).mono ?_); rintro e w6 ⟨rfl, hb6⟩; have hn6 := kept_fb (W := (w2.alloc _).drewN m1) (at_alloc hnw2 _) hb6; have be6 := below_go (below_drew (bew2.alloc (Nat.le_of_lt hltw2) _) m1) hb6; have hlt6 := (Array.getElem?_eq_some_iff.1 hn6).1; obtain ⟨⟨b0, b1, b2, b3, b4, b5, b6⟩, c0, c1, c2, c3, c4, c5, c6⟩ := fbox_cells hn6))
      refine ret18 (N := w.heap.size) (v0 := .int .i64 2) (v1 := .bool false) (v2 := .string ⟨⟨L⟩⟩) (v3 := .int .i64 V) (v4 := .string ⟨#[]⟩) (v5 := .int .i64 Y2) (v6 := .bool true) (by kernel_rfl) ?_ (by simp [Value.oneCell']) ?_
      · exact at_alloc (put7_box hn6 _ _ _ _ _ _ _) _
      · exact ⟨rfl, (put7_below be6 _ _ _ _ _ _ _).alloc (by rw [put7_size]; exact Nat.le_of_lt hlt6) _⟩
    | nil =>
      cases f1 with
      | nil =>
        have eR : R = none := by rw [hR2]; rfl
        subst eR
        clear hR2
        go_enter Tryz.func18, Tryz.ntmps18
        go_wp2_with (first
          | (go_at_call 16; (with_reducible refine (HBG.out _).mono ?_); rintro e w1 ⟨rfl, m0, rfl⟩)
          | (go_at_call 48; (with_reducible refine (GDIG.out _).mono ?_); rintro e w2 ⟨rfl, hbw2⟩; clear GDIG; have hnw2 := kept_fb (show ((w.alloc fb0).drewN m0).heap[w.heap.size]? = some fb0 from new_at _ _ rfl) hbw2; have bew2 := below_go (show Below w.heap.size w ((w.alloc fb0).drewN m0) from below_drew ((Below.refl _ _).alloc (Nat.le_refl _) _) m0) hbw2; have hltw2 := (Array.getElem?_eq_some_iff.1 hnw2).1; obtain ⟨⟨a0, a1, a2, a3, a4, a5, a6⟩, d0, d1, d2, d3, d4, d5, d6⟩ := fbox_cells hnw2)
          | (go_at_call 48; (with_reducible refine (HDIG.out _).mono ?_); rintro e w3 ⟨rfl, hbw3⟩; clear HDIG; have hnw3 := kept_fb (at_alloc hnw2 _) hbw3; have bew3 := below_go (bew2.alloc (Nat.le_of_lt hltw2) _) hbw3; have hltw3 := (Array.getElem?_eq_some_iff.1 hnw3).1; obtain ⟨⟨a0, a1, a2, a3, a4, a5, a6⟩, d0, d1, d2, d3, d4, d5, d6⟩ := fbox_cells hnw3))
        refine ret18 (N := w.heap.size) (v0 := .int .i64 0) (v1 := .bool false) (v2 := .string ⟨#[]⟩) (v3 := .int .i64 0) (v4 := .string ⟨#[]⟩) (v5 := .int .i64 0) (v6 := .bool false) (by kernel_rfl) ?_ (by simp [Value.oneCell']) ?_
        · exact at_alloc (put7_box hnw3 _ _ _ _ _ _ _) _
        · exact ⟨rfl, (put7_below bew3 _ _ _ _ _ _ _).alloc (by rw [put7_size]; exact Nat.le_of_lt hltw3) _⟩
      | cons cc1 f1 =>
        have eR : R = some (1, K, Z, [], X2) := by rw [hR2, if_pos rfl, if_neg (by simp)]
        subst eR
        clear hR2
        go_enter Tryz.func18, Tryz.ntmps18
        go_wp2_with (first
          | (go_at_call 16; (with_reducible refine (HBG.out _).mono ?_); rintro e w1 ⟨rfl, m0, rfl⟩)
          | (go_at_call 48; (with_reducible refine (GDIG.out _).mono ?_); rintro e w2 ⟨rfl, hbw2⟩; clear GDIG; have hnw2 := kept_fb (show ((w.alloc fb0).drewN m0).heap[w.heap.size]? = some fb0 from new_at _ _ rfl) hbw2; have bew2 := below_go (show Below w.heap.size w ((w.alloc fb0).drewN m0) from below_drew ((Below.refl _ _).alloc (Nat.le_refl _) _) m0) hbw2; have hltw2 := (Array.getElem?_eq_some_iff.1 hnw2).1; obtain ⟨⟨a0, a1, a2, a3, a4, a5, a6⟩, d0, d1, d2, d3, d4, d5, d6⟩ := fbox_cells hnw2)
          | (go_at_call 48; (with_reducible refine (HDIG.out _).mono ?_); rintro e w3 ⟨rfl, hbw3⟩; clear HDIG; have hnw3 := kept_fb (at_alloc hnw2 _) hbw3; have bew3 := below_go (bew2.alloc (Nat.le_of_lt hltw2) _) hbw3; have hltw3 := (Array.getElem?_eq_some_iff.1 hnw3).1; obtain ⟨⟨a0, a1, a2, a3, a4, a5, a6⟩, d0, d1, d2, d3, d4, d5, d6⟩ := fbox_cells hnw3)
          | (go_at_call 49; (with_reducible refine (HEX.out _).mono ?_); rintro e w5 ⟨rfl, m1, rfl⟩)
          | (go_at_call 50; (with_reducible refine (HST.out _).mono ?_); rintro e w6 ⟨rfl, hb6⟩; have hn6 := kept_fb (W := (w3.alloc _).drewN m1) (at_alloc hnw3 _) hb6; have be6 := below_go (below_drew (bew3.alloc (Nat.le_of_lt hltw3) _) m1) hb6; have hlt6 := (Array.getElem?_eq_some_iff.1 hn6).1; obtain ⟨⟨b0, b1, b2, b3, b4, b5, b6⟩, c0, c1, c2, c3, c4, c5, c6⟩ := fbox_cells hn6))
        refine ret18 (N := w.heap.size) (v0 := .int .i64 1) (v1 := .bool false) (v2 := .string ⟨⟨K⟩⟩) (v3 := .int .i64 Z) (v4 := .string ⟨#[]⟩) (v5 := .int .i64 X2) (v6 := .bool true) (by kernel_rfl) ?_ (by simp [Value.oneCell']) ?_
        · exact at_alloc (put7_box hn6 _ _ _ _ _ _ _) _
        · exact ⟨rfl, (put7_below be6 _ _ _ _ _ _ _).alloc (by rw [put7_size]; exact Nat.le_of_lt hlt6) _⟩
end Go.Proofs.YtilnhkflgfajcaaGreatDoor
