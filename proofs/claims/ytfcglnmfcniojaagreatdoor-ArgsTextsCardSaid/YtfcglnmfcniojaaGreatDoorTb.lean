/- What the reference's words and all return. Conditions: none. -/
import Derived.Test.YtfcglnmfcniojaaGreatDoorAg
set_option linter.all false
namespace Go.Proofs.YtfcglnmfcniojaaGreatDoor
open Go.Eng Go.RowKit
set_option maxRecDepth 1000000

theorem wd_snoc : ∀ (p : List UInt8) (ws : List (List UInt8)) (u : List UInt8), wd p = ws ++ [u] → wd (p ++ [32]) = (ws ++ [u]) ++ [[]] ∧ ∀ c, c ≠ 32 → wd (p ++ [c]) = ws ++ [u ++ [c]]
  | [], ws, u, h => by
    have h1 : ws = [] ∧ u = [] := by
      cases ws with
      | nil => simp [wd] at h; exact ⟨rfl, h⟩
      | cons a ws => simp [wd] at h
    obtain ⟨rfl, rfl⟩ := h1
    exact ⟨rfl, fun c hc => by simp [wd, hc]⟩
  | a :: p, ws, u, h => by
    by_cases ha : a = 32
    · subst ha
      have e : ∀ q, wd (32 :: q) = [] :: wd q := fun q => by rw [wd, if_pos rfl]
      rw [e] at h
      cases ws with
      | nil =>
        simp at h
        exact absurd h.2 (wd_ne p)
      | cons v ws =>
        simp at h
        obtain ⟨rfl, h⟩ := h
        obtain ⟨h1, h2⟩ := wd_snoc p ws u h
        refine ⟨?_, fun c hc => ?_⟩
        · rw [List.cons_append, e, h1]; rfl
        · rw [List.cons_append, e, h2 c hc]; rfl
    · have e : ∀ q v vs, wd q = v :: vs → wd (a :: q) = (a :: v) :: vs := fun q v vs hq => by rw [wd, if_neg ha, hq]
      cases hp : wd p with
      | nil => exact absurd hp (wd_ne p)
      | cons v vs =>
        rw [e p v vs hp] at h
        cases ws with
        | nil =>
          simp at h
          obtain ⟨rfl, rfl⟩ := h
          obtain ⟨h1, h2⟩ := wd_snoc p [] v (by rw [hp]; rfl)
          refine ⟨?_, fun c hc => ?_⟩
          · rw [List.cons_append, e _ v [[]] (by rw [h1]; rfl)]; rfl
          · rw [List.cons_append, e _ (v ++ [c]) [] (by rw [h2 c hc]; rfl)]; rfl
        | cons x ws =>
          simp at h
          obtain ⟨rfl, h⟩ := h
          obtain ⟨h1, h2⟩ := wd_snoc p (v :: ws) u (by rw [hp, h]; rfl)
          refine ⟨?_, fun c hc => ?_⟩
          · rw [List.cons_append, e _ v (ws ++ [u] ++ [[]]) (by rw [h1]; rfl)]; rfl
          · rw [List.cons_append, e _ v (ws ++ [u ++ [c]]) (by rw [h2 c hc]; rfl)]; rfl

theorem extract_snoc {s : ByteArray} {f k : Nat} (hf : f ≤ k) (h : k < s.size) : (s.extract f (k + 1)).data.toList = (s.extract f k).data.toList ++ [s[k]] := by
  have hl : k < s.data.toList.length := by rw [Array.length_toList]; exact h
  rw [Lib.extract_data, Lib.extract_data, show k + 1 - f = (k - f) + 1 by omega, List.take_add_one, List.getElem?_drop, show f + (k - f) = k by omega, List.getElem?_eq_getElem hl]
  rfl
theorem extract_none (s : ByteArray) (k : Nat) : (s.extract k k).data.toList = [] := by
  rw [Lib.extract_data, Nat.sub_self, List.take_zero]
theorem take_snoc {s : ByteArray} {k : Nat} (h : k < s.size) : s.data.toList.take (k + 1) = s.data.toList.take k ++ [s[k]] := by
  have hl : k < s.data.toList.length := by rw [Array.length_toList]; exact h
  rw [List.take_add_one, List.getElem?_eq_getElem hl]
  rfl

/-- What words returns: the words, one behind the other, in memory of its own. -/
theorem words_call (s : ByteArray) (hs : s.size ≤ 600) (w : World) :
    Calls Tryz.prog 45 #[.string s] w fun e w' => ∃ v, ∃ ps : List ByteArray, e = .returned v ∧ ps.map (·.data.toList) = wd s.data.toList ∧ w'.ownsRow w.heap.size 9 1 v ps.length (ps.map Value.string) ∧ Below w.heap.size w w' := by
  obtain ⟨i0, hi, hz0, hz1, hz2⟩ := info_parts info9
  have HS : Aside (s.size ≤ 600) := hs
  go_enter Tryz.func45, Tryz.ntmps45
  go_wp2
  go_loopw [3, 4, 5] (fun v f i wr => ∃ k : Nat, k ≤ s.size ∧ i = .int .i64 k ∧ ∃ fr : Nat, fr ≤ k ∧ f = .int .i64 fr ∧ ∃ ps : List ByteArray, ps.length ≤ k ∧ Aside (wd (s.data.toList.take k) = ps.map (·.data.toList) ++ [(s.extract fr k).data.toList]) ∧
      Aside (wr.ownsRow w.heap.size 9 1 v ps.length (ps.map Value.string)) ∧ Aside (Below w.heap.size w wr)) (fun _ _ i _ => s.size - (intOf i).toNat)
  case atStart => exact ⟨0, Nat.zero_le _, rfl, 0, Nat.le_refl _, rfl, [], Nat.le_refl _, by rw [List.take_zero, extract_none]; rfl, World.ownsRow_nil _ _ _ _, Below.refl _ _⟩
  case round =>
    obtain ⟨k, hk, rfl, fr, hfr, rfl, ps, hps, hwd, hown, hB⟩ := hrel
    by_cases hlt : k < s.size
    · have hk0 : (0 : Int) ≤ (k : Int) := by omega
      have hk1 : (k : Int) < (s.size : Int) := by omega
      have hf0 : (0 : Int) ≤ (fr : Int) := by omega
      have hf1 : (fr : Int) ≤ (k : Int) := by omega
      have hk2 : (k : Int) ≤ (s.size : Int) := by omega
      by_cases hc : s[k] = 32
      · have HC : Aside (s[k] = 32) := hc
        have hc2 : ((s[k].toNat : Int) == 32) = true := by rw [hc]; rfl
        clear hc
        go_wp2_with (at_builtin; refine wpList_append_own _ rfl _ _ 85 rfl w.heap.size 9 i0 (.string ⟨#[]⟩) 1 16 Tryz.underlying85 hi hz0 hz1 hz2 rfl (by decide) _ _ _ rfl (own_keep hown.out ((Below.refl _ _).alloc (Nat.le_refl _) _)) ⟨wr.heap.size, 0, none⟩ 1 1 [.string (s.extract fr k)] rfl rfl (cell_one_new _ _ _) (by simp [Value.oneCell']) (by unfold maxLen; omega) (by omega) (by have h1 := hB.out.size; simp; omega) ?_)
        intro v' w5 hown' hgrow _
        obtain ⟨h1, _⟩ := wd_snoc _ _ _ hwd.out
        have R0 : Aside (wd (s.data.toList.take (k + 1)) = (ps ++ [s.extract fr k]).map (·.data.toList) ++ [(s.extract (k + 1) (k + 1)).data.toList]) := by
          rw [take_snoc hlt, HC.out, extract_none, List.map_append]
          exact h1
        have R1 : Aside (w5.ownsRow w.heap.size 9 1 v' (ps ++ [s.extract fr k]).length ((ps ++ [s.extract fr k]).map Value.string)) := by
          rw [List.length_append, List.map_append]
          exact hown'
        have R2 : Aside (Below w.heap.size w w5) := below_grow (hB.out.trans ((Below.refl _ _).alloc hB.out.size _)) (own_keep hown.out ((Below.refl _ _).alloc (Nat.le_refl _) _)) (Nat.le_refl _) hgrow
        clear hown' hgrow hown hB hwd h1
        go_wp2
        go_roundw
        case rel => exact ⟨k + 1, by omega, by go_num, k + 1, Nat.le_refl _, by go_num, ps ++ [s.extract fr k], by rw [List.length_append]; simp; omega, R0, R1, R2⟩
        case measure => simp [intOf]; omega
      · have HC : Aside (¬ s[k] = 32) := hc
        have hc2 : ((s[k].toNat : Int) == 32) = false := by
          rw [beq_eq_false_iff_ne]
          intro e
          apply hc
          apply UInt8.toNat_inj.1
          show s[k].toNat = 32
          omega
        clear hc
        obtain ⟨_, h2⟩ := wd_snoc _ _ _ hwd.out
        have R0 : Aside (wd (s.data.toList.take (k + 1)) = ps.map (·.data.toList) ++ [(s.extract fr (k + 1)).data.toList]) := by
          rw [take_snoc hlt, extract_snoc hfr hlt]
          exact h2 _ HC.out
        clear h2 hwd
        go_wp2
        go_roundw
        case rel => exact ⟨k + 1, by omega, by go_num, fr, by omega, rfl, ps, by omega, R0, hown, hB⟩
        case measure => simp [intOf]; omega
    · have e : k = s.size := by omega
      subst e
      have hf0 : (0 : Int) ≤ (fr : Int) := by omega
      have hf1 : (fr : Int) ≤ (s.size : Int) := by omega
      go_wp2_with (at_builtin; refine wpList_append_own _ rfl _ _ 85 rfl w.heap.size 9 i0 (.string ⟨#[]⟩) 1 16 Tryz.underlying85 hi hz0 hz1 hz2 rfl (by decide) _ _ _ rfl (own_keep hown.out ((Below.refl _ _).alloc (Nat.le_refl _) _)) ⟨wr.heap.size, 0, none⟩ 1 1 [.string (s.extract fr s.size)] rfl rfl (cell_one_new _ _ _) (by simp [Value.oneCell']) (by unfold maxLen; omega) (by omega) (by have h1 := hB.out.size; simp; omega) ?_)
      intro v' w5 hown' hgrow _
      have hlen : s.data.toList.length = s.size := by rw [Array.length_toList]; rfl
      have R0 : Aside ((ps ++ [s.extract fr s.size]).map (·.data.toList) = wd s.data.toList) := by
        have h1 := hwd.out
        rw [← hlen, List.take_length, hlen] at h1
        rw [h1, List.map_append]
        rfl
      have R1 : Aside (w5.ownsRow w.heap.size 9 1 v' (ps ++ [s.extract fr s.size]).length ((ps ++ [s.extract fr s.size]).map Value.string)) := by
        rw [List.length_append, List.map_append]
        exact hown'
      have R2 : Aside (Below w.heap.size w w5) := below_grow (hB.out.trans ((Below.refl _ _).alloc hB.out.size _)) (own_keep hown.out ((Below.refl _ _).alloc (Nat.le_refl _) _)) (Nat.le_refl _) hgrow
      clear hown' hgrow hown hB hwd hlen
      go_wp2
      go_ret
      exact ⟨_, _, rfl, R0.out, R1.out, R2.out⟩
end Go.Proofs.YtfcglnmfcniojaaGreatDoor

namespace Go.Proofs.YtfcglnmfcniojaaGreatDoor
open Go.Eng Go.RowKit
set_option maxRecDepth 1000000

/-- A run that comes to a slice, with the first cells of its block. -/
noncomputable def sliceOut (n k : Nat) : ER → Option (AVal × List AVal × Bool)
  | .ret (.slice b o l c z x) H' => match H'.get b with
    | some (.cells cs _ _) => some (.slice b o l c z x, cs.take k, Nat.ble n H'.low && Nat.blt b H'.next && Nat.ble n b)
    | _ => none
  | _ => none

theorem sliceOut_ret {n k : Nat} {r : ER} {v : AVal} {cs : List AVal} (h : sliceOut n k r = some (v, cs, true)) :
    ∃ b o l c z x H' ct t wr, r = .ret (.slice b o l c z x) H' ∧ v = .slice b o l c z x ∧ H'.get b = some (.cells ct t wr) ∧ ct.take k = cs ∧ n ≤ H'.low ∧ b < H'.next := by
  unfold sliceOut at h
  split at h
  · rename_i b o l c z x H'
    split at h
    · rename_i cs' t wr hc
      simp only [Option.some.injEq, Prod.mk.injEq, Bool.and_eq_true] at h
      obtain ⟨rfl, rfl, ⟨h1, h2⟩, h3⟩ := h
      exact ⟨_, _, _, _, _, _, _, _, _, _, rfl, rfl, hc, rfl, Nat.le_of_ble_eq_true h1, Nat.le_of_ble_eq_true h2⟩
    · cases h
  · cases h

noncomputable def TL : List Ty := tyTab.map Prod.fst
noncomputable def allL : List AVal := TL.flatMap fun t => [.int .i64 t.1, .int .i64 t.2.1, .int .i64 t.2.2]
theorem all_run (e0 : TypeId) : sliceOut 10 60 (topF Tryz.prog (cfun Tryz.prog 46) [] (G0 e0) (tabF Tryz.prog 2000)) = some (.slice 608 0 20 20 3 false, allL, true) := by kernel_rfl
theorem allL_at : ∀ (ts : List Ty) (j : Nat) (t : Ty), ts[j]? = some t → (ts.flatMap fun t => [AVal.int .i64 t.1, .int .i64 t.2.1, .int .i64 t.2.2])[j * 3]? = some (.int .i64 t.1) ∧ (ts.flatMap fun t => [AVal.int .i64 t.1, .int .i64 t.2.1, .int .i64 t.2.2])[j * 3 + 1]? = some (.int .i64 t.2.1) ∧ (ts.flatMap fun t => [AVal.int .i64 t.1, .int .i64 t.2.1, .int .i64 t.2.2])[j * 3 + 2]? = some (.int .i64 t.2.2)
  | [], j, t, h => by simp at h
  | u :: ts, 0, t, h => by simp at h; subst h; exact ⟨rfl, rfl, rfl⟩
  | u :: ts, j + 1, t, h => by
    have ih := allL_at ts j t (by simpa using h)
    have e : ((u :: ts).flatMap fun t => [AVal.int .i64 t.1, .int .i64 t.2.1, .int .i64 t.2.2]) = AVal.int .i64 u.1 :: .int .i64 u.2.1 :: .int .i64 u.2.2 :: (ts.flatMap fun t => [AVal.int .i64 t.1, .int .i64 t.2.1, .int .i64 t.2.2]) := rfl
    rw [e, show (j + 1) * 3 = j * 3 + 1 + 1 + 1 by omega]
    exact ih

theorem all_any (w : World) (hg : Gl w) : Calls Tryz.prog 46 #[] w fun e w' => ∃ b c, e = .returned (.slice (some ⟨b, 0, none⟩) 20 c) ∧ TyAt w' (some ⟨b, 0, none⟩) TL ∧ Below w.heap.size w w' := by
  obtain ⟨e0, hw⟩ := hg.rel
  obtain ⟨b, o, l, c, z, x, H', ct, t, wr, h1, h2, h3, h3', h4, h5⟩ := sliceOut_ret (all_run e0)
  cases h2
  rw [topF_eq, tabF_eq] at h1
  refine (top_below fits (f := 46) (args' := #[]) hw .nil h1 h4).mono fun e w' ⟨x, ρ', hx, he, hw', hb⟩ => ?_
  cases hx with
  | slice hp hl hc hex hr =>
    rename_i cap' p
    obtain ⟨p', o, hp', ho, hB⟩ := hw'.blocks 608 _ h5 h3
    rw [hp] at hp'
    cases hp'
    cases hB with
    | cells hd hc' hwr =>
      rename_i arr lo hi
      have hat : ∀ (i : Nat) (n : Int), allL[i]? = some (.int .i64 n) → w'.cell? ⟨p.r, 0 + i, none⟩ = some (.int .i64 n) := fun i n hi => by
        have hct : ct[i]? = some (.int .i64 n) := by
          rw [← h3', List.getElem?_take] at hi
          split at hi
          · exact hi
          · cases hi
        obtain ⟨x, e3, e4⟩ := hc' i _ hct
        cases e4
        rw [hd, Nat.zero_add] at e3
        rw [Nat.zero_add]
        simp only [World.cell?, ho]
        simpa using e3
      rw [hd] at he
      refine ⟨p.r, cap', he, fun _ => ⟨p.r, 0, rfl, (Array.getElem?_eq_some_iff.1 ho).1, fun j t ht => ?_⟩, hb⟩
      obtain ⟨a0, a1, a2⟩ := allL_at TL j t ht
      exact ⟨hat _ _ a0, hat _ _ a1, hat _ _ a2⟩
end Go.Proofs.YtfcglnmfcniojaaGreatDoor
