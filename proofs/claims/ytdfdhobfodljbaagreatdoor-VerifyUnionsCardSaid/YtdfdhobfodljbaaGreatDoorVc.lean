/- The law VerifyUnions returns true for every three facts and every value. Conditions: none. -/
import Derived.Test.YtdfdhobfodljbaaGreatDoorRows
import Derived.KernelRfl
import Derived.WalkKit
import Derived.Test.YtdfdhobfodljbaaGreatDoorVb
import Derived.Test.YtdfdhobfodljbaaGreatDoorVa
import Derived.Outline
import Derived.Deep.RegionHeld3
set_option linter.all false
namespace Go.Proofs.YtdfdhobfodljbaaGreatDoor
open Go.Eng Go.RowKit
set_option maxRecDepth 1000000

/-- The package-level variables that the examples read, as they were laid. -/
def Gl (w : World) : Prop :=
  (∃ (arr : Array Value) (e : TypeId) (lohi : Nat × Nat), w.heap[0]? = some (.cells arr e lohi) ∧ Rl opsL arr.toList) ∧
  (∃ (arr : Array Value) (e : TypeId) (lohi : Nat × Nat), w.heap[3]? = some (.cells arr e lohi) ∧ Rl lensL arr.toList)

theorem gl_of_laid {W : World} (h : laidMetH Tryz.prog Rows.verifyUnionsRow.laid W) : Gl W := by
  obtain ⟨ps, hl, _⟩ : laidMet Tryz.prog Rows.verifyUnionsRow.laid W := h
  exact ⟨laid_at (name := "soroban/bytes.operations") hl (.tail _ (.tail _ (.head _))) (by kernel_rfl) (by kernel_rfl) opsL_some, laid_at (name := "soroban/args.lengths") hl (.tail _ (.head _)) (by kernel_rfl) (by kernel_rfl) lensL_some⟩

theorem Gl.below {w w' : World} (h : Gl w) (hb : Below w.heap.size w w') : Gl w' := by
  obtain ⟨⟨a, e, l, h1, h2⟩, ⟨a', e', l', h3, h4⟩⟩ := h
  exact ⟨⟨a, e, l, by rw [hb.block 0 (Array.getElem?_eq_some_iff.1 h1).1]; exact h1, h2⟩, ⟨a', e', l', by rw [hb.block 3 (Array.getElem?_eq_some_iff.1 h3).1]; exact h3, h4⟩⟩
theorem Gl.alloc {w : World} (h : Gl w) (o : Obj) : Gl (w.alloc o) := h.below ((Below.refl _ _).alloc (Nat.le_refl _) _)

theorem sane_any (w : World) (h : Gl w) : Calls Tryz.prog 4 #[] w fun e w' => e = .returned (.bool true) ∧ Below w.heap.size w w' := by
  obtain ⟨⟨a0, e0, l0, h1, h2⟩, ⟨a3, e3, l3, h3, h4⟩⟩ := h
  have hw : WRel Tryz.prog (globEmb Tryz.prog) (G0 e0 e3) w := by
    refine wrel_globals (by kernel_rfl) fun g blk hg e => ?_
    have hg : g < 4 := hg
    have get : ∀ b, (G0 e0 e3).get b = if b = 3 then some (.cells lensL e3 .sh) else if b = 0 then some (.cells opsL e0 .sh) else none := by
      intro b
      show Tr.get (path b) (Tr.put (path 3) _ (Tr.put (path 0) _ .leaf)) = _
      by_cases h3 : b = 3
      · subst h3; rw [Go.Eng.Tr.get_put_self]; simp
      · rw [Go.Eng.Tr.get_put_ne _ _ _ _ (path_ne h3), if_neg h3]
        by_cases h0 : b = 0
        · subst h0; rw [Go.Eng.Tr.get_put_self]; simp
        · rw [Go.Eng.Tr.get_put_ne _ _ _ _ (path_ne h0), if_neg h0, Go.Eng.Tr.get_leaf]
    rw [get] at e
    split at e
    · rename_i hg3
      subst hg3
      cases e
      exact ⟨_, _, rfl, a3, l3, h3, fun i v hv => by simpa using h4 i v hv⟩
    · split at e
      · rename_i hg0
        subst hg0
        cases e
        exact ⟨_, _, rfl, a0, l0, h1, fun i v hv => by simpa using h2 i v hv⟩
      · cases e
  obtain ⟨H', ht, hl⟩ := run_ret e0 e3
  refine (top_below fits (f := 4) (args' := #[]) hw .nil ht hl).mono fun e w' ⟨x, ρ', hx, he, _, hb⟩ => ?_
  cases hx
  exact ⟨he, hb⟩
end Go.Proofs.YtdfdhobfodljbaaGreatDoor

namespace Go.Proofs.YtdfdhobfodljbaaGreatDoor
open Go.RowKit

theorem bcell {W w1 : World} (hb : Below W.heap.size W w1) : (∀ b o, b < W.heap.size → w1.cell? ⟨b, o, none⟩ = W.cell? ⟨b, o, none⟩) ∧ (∀ b o, b < W.heap.size → w1.frozen? ⟨b, o, none⟩ = W.frozen? ⟨b, o, none⟩) :=
  ⟨fun b o h => hb.cell (p := ⟨b, o, none⟩) h, fun b o h => hb.frozen (p := ⟨b, o, none⟩) h⟩

/-- A fact that is as they are. -/
structure OkF (k l h : Int) : Prop where
  k0 : 0 ≤ k
  k7 : k ≤ 7
  small : k < 4 → l = 0 ∧ h = 0
  big : 4 ≤ k → l ≤ h

theorem fact_yes {k l h : Int} (ok : OkF k l h) (w : World) : Calls Tryz.prog 5 #[fv k l h] w fun e w' => e = .returned (.bool true) ∧ Below w.heap.size w w' := by
  by_cases h4 : k < 4
  · have := fact_small k l h w ok.k0 (by omega)
    rw [decide_eq_true (ok.small h4).1, decide_eq_true (ok.small h4).2] at this
    exact this
  · have := fact_big k l h w (by omega) ok.k7
    rw [decide_eq_true (ok.big (by omega))] at this
    exact this

theorem fact_no {k l h : Int} (no : ¬ OkF k l h) (w : World) : Calls Tryz.prog 5 #[fv k l h] w fun e w' => e = .returned (.bool false) ∧ Below w.heap.size w w' := by
  by_cases k0 : k < 0
  · exact fact_lo k l h w k0
  · by_cases k7 : 7 < k
    · exact fact_hi k l h w k7
    · by_cases h4 : k < 4
      · have := fact_small k l h w (by omega) (by omega)
        rwa [show (decide (l = 0) && decide (h = 0)) = false by
          cases hd : (decide (l = 0) && decide (h = 0)) with
          | false => rfl
          | true =>
            simp only [Bool.and_eq_true, decide_eq_true_eq] at hd
            exact absurd ⟨by omega, by omega, fun _ => hd, fun h => by omega⟩ no] at this
      · have := fact_big k l h w (by omega) (by omega)
        rwa [decide_eq_false fun hd => no ⟨by omega, by omega, fun h => by omega, fun _ => hd⟩] at this

theorem step {w a b : World} (h : Below w.heap.size w a) (k : Below a.heap.size a b) : Below w.heap.size w b := h.trans (k.mono h.size)

set_option maxHeartbeats 1000000 in
theorem law_no1 (ka la ha kb lb hb kc lc hc c n : Int) (s : ByteArray) (w : World) (hg : Gl w) (no : ¬ OkF ka la ha) :
    Calls Tryz.prog 3 #[fv ka la ha, fv kb lb hb, fv kc lc hc, rv c s n] w fun e w' => e = .returned (.bool true) ∧ Below w.heap.size w w' := by
  go_enter Tryz.func3, Tryz.ntmps3
  go_wp2_with fail
  refine (sane_any _ (by exact (((hg.alloc _).alloc _).alloc _).alloc _)).mono ?_
  rintro e w1 ⟨rfl, hb1⟩
  obtain ⟨hc1, hf1⟩ := bcell hb1
  go_wp2_with fail
  refine (fact_no no _).mono ?_
  rintro e w2 ⟨rfl, hb2⟩
  obtain ⟨hc2, hf2⟩ := bcell hb2
  go_wp2
  go_ret
  exact ⟨rfl, step (step (below4 _ _ _ _ _) hb1) hb2⟩

/-- The boxes of the parameters. -/
structure Bx (N : Nat) (ka la ha kb lb hb kc lc hc c n : Int) (s : ByteArray) (w : World) : Prop where
  a0 : w.cell? ⟨N, 0, none⟩ = some (.int .i64 ka)
  a1 : w.cell? ⟨N, 1, none⟩ = some (.int .i64 la)
  a2 : w.cell? ⟨N, 2, none⟩ = some (.int .i64 ha)
  b0 : w.cell? ⟨N + 1, 0, none⟩ = some (.int .i64 kb)
  b1 : w.cell? ⟨N + 1, 1, none⟩ = some (.int .i64 lb)
  b2 : w.cell? ⟨N + 1, 2, none⟩ = some (.int .i64 hb)
  c0 : w.cell? ⟨N + 1 + 1, 0, none⟩ = some (.int .i64 kc)
  c1 : w.cell? ⟨N + 1 + 1, 1, none⟩ = some (.int .i64 lc)
  c2 : w.cell? ⟨N + 1 + 1, 2, none⟩ = some (.int .i64 hc)
  v0 : w.cell? ⟨N + 1 + 1 + 1, 0, none⟩ = some (.int .i64 c)
  v1 : w.cell? ⟨N + 1 + 1 + 1, 1, none⟩ = some (.string s)
  v2 : w.cell? ⟨N + 1 + 1 + 1, 2, none⟩ = some (.int .i64 n)
  sz : N + 1 + 1 + 1 < w.heap.size

theorem Bx.below {N : Nat} {ka la ha kb lb hb kc lc hc c n : Int} {s : ByteArray} {w w' : World} (h : Bx N ka la ha kb lb hb kc lc hc c n s w) (b : Below w.heap.size w w') : Bx N ka la ha kb lb hb kc lc hc c n s w' := by
  have hs := h.sz
  have hw := b.size
  obtain ⟨hc', _⟩ := bcell b
  exact ⟨(hc' _ _ (by omega)).trans h.a0, (hc' _ _ (by omega)).trans h.a1, (hc' _ _ (by omega)).trans h.a2, (hc' _ _ (by omega)).trans h.b0, (hc' _ _ (by omega)).trans h.b1, (hc' _ _ (by omega)).trans h.b2, (hc' _ _ (by omega)).trans h.c0, (hc' _ _ (by omega)).trans h.c1, (hc' _ _ (by omega)).trans h.c2, (hc' _ _ (by omega)).trans h.v0, (hc' _ _ (by omega)).trans h.v1, (hc' _ _ (by omega)).trans h.v2, by omega⟩

theorem Bx.start (ka la ha kb lb hb kc lc hc c n : Int) (s : ByteArray) (w : World) : Bx w.heap.size ka la ha kb lb hb kc lc hc c n s ((((w.alloc (.cells #[.int .i64 ka, .int .i64 la, .int .i64 ha] 23)).alloc (.cells #[.int .i64 kb, .int .i64 lb, .int .i64 hb] 23)).alloc (.cells #[.int .i64 kc, .int .i64 lc, .int .i64 hc] 23)).alloc (.cells #[.int .i64 c, .string s, .int .i64 n] 25)) := by
  constructor <;> simp [go_sem]

set_option maxHeartbeats 1000000 in
theorem law_no2 (ka la ha kb lb hb kc lc hc c n : Int) (s : ByteArray) (w : World) (hg : Gl w) (oka : OkF ka la ha) (no : ¬ OkF kb lb hb) :
    Calls Tryz.prog 3 #[fv ka la ha, fv kb lb hb, fv kc lc hc, rv c s n] w fun e w' => e = .returned (.bool true) ∧ Below w.heap.size w w' := by
  have X0 := Bx.start ka la ha kb lb hb kc lc hc c n s w
  go_enter Tryz.func3, Tryz.ntmps3
  go_wp2_with fail
  refine (sane_any _ (by exact (((hg.alloc _).alloc _).alloc _).alloc _)).mono ?_
  rintro e w1 ⟨rfl, hb1⟩
  have X1 := X0.below hb1
  have ⟨qa0, qa1, qa2, qb0, qb1, qb2, qc0, qc1, qc2, qv0, qv1, qv2, qs⟩ := X1
  go_wp2_with fail
  refine (fact_yes oka _).mono ?_
  rintro e w2 ⟨rfl, hb2⟩
  have X2 := X1.below hb2
  clear qa0 qa1 qa2 qb0 qb1 qb2 qc0 qc1 qc2 qv0 qv1 qv2 qs
  have ⟨qa0, qa1, qa2, qb0, qb1, qb2, qc0, qc1, qc2, qv0, qv1, qv2, qs⟩ := X2
  go_wp2_with fail
  refine (fact_no no _).mono ?_
  rintro e w3 ⟨rfl, hb3⟩
  go_wp2
  go_ret
  exact ⟨rfl, step (step (step (below4 _ _ _ _ _) hb1) hb2) hb3⟩

set_option maxHeartbeats 1000000 in
theorem law_no3 (ka la ha kb lb hb kc lc hc c n : Int) (s : ByteArray) (w : World) (hg : Gl w) (oka : OkF ka la ha) (okb : OkF kb lb hb) (no : ¬ OkF kc lc hc) :
    Calls Tryz.prog 3 #[fv ka la ha, fv kb lb hb, fv kc lc hc, rv c s n] w fun e w' => e = .returned (.bool true) ∧ Below w.heap.size w w' := by
  have X0 := Bx.start ka la ha kb lb hb kc lc hc c n s w
  go_enter Tryz.func3, Tryz.ntmps3
  go_wp2_with fail
  refine (sane_any _ (by exact (((hg.alloc _).alloc _).alloc _).alloc _)).mono ?_
  rintro e w1 ⟨rfl, hb1⟩
  have X1 := X0.below hb1
  have ⟨qa0, qa1, qa2, qb0, qb1, qb2, qc0, qc1, qc2, qv0, qv1, qv2, qs⟩ := X1
  go_wp2_with fail
  refine (fact_yes oka _).mono ?_
  rintro e w2 ⟨rfl, hb2⟩
  have X2 := X1.below hb2
  clear qa0 qa1 qa2 qb0 qb1 qb2 qc0 qc1 qc2 qv0 qv1 qv2 qs
  have ⟨qa0, qa1, qa2, qb0, qb1, qb2, qc0, qc1, qc2, qv0, qv1, qv2, qs⟩ := X2
  go_wp2_with fail
  refine (fact_yes okb _).mono ?_
  rintro e w3 ⟨rfl, hb3⟩
  have X3 := X2.below hb3
  clear qa0 qa1 qa2 qb0 qb1 qb2 qc0 qc1 qc2 qv0 qv1 qv2 qs
  have ⟨qa0, qa1, qa2, qb0, qb1, qb2, qc0, qc1, qc2, qv0, qv1, qv2, qs⟩ := X3
  go_wp2_with fail
  refine (fact_no no _).mono ?_
  rintro e w4 ⟨rfl, hb4⟩
  go_wp2
  go_ret
  exact ⟨rfl, step (step (step (step (below4 _ _ _ _ _) hb1) hb2) hb3) hb4⟩
end Go.Proofs.YtdfdhobfodljbaaGreatDoor

namespace Go.Proofs.YtdfdhobfodljbaaGreatDoor
open Go.RowKit
set_option maxRecDepth 100000 in
set_option maxHeartbeats 3200000 in
theorem law_yes (vu va vb : Bool) (hv : vu = true ∨ (va = false ∧ vb = false)) (ka la ha kb lb hb kc lc hc c n : Int) (s : ByteArray) (w : World) (hg : Gl w) (oka : OkF ka la ha) (okb : OkF kb lb hb) (okc : OkF kc lc hc) (ku lu hu kx lx hx ky ly hy : Int)
    (hun : ∀ w : World, Calls Tryz.prog 6 #[fv ka la ha, fv kb lb hb] w fun e w' => e = .returned (fv ku lu hu) ∧ Below w.heap.size w w')
    (hrun : ∀ w : World, Calls Tryz.prog 7 #[fv ka la ha, fv kb lb hb] w fun e w' => e = .returned (fv ku lu hu) ∧ Below w.heap.size w w')
    (hha : ∀ w : World, Calls Tryz.prog 8 #[fv ka la ha, rv c s n] w fun e w' => e = .returned (.bool va) ∧ Below w.heap.size w w')
    (hba : ∀ w : World, Calls Tryz.prog 6 #[fv kb lb hb, fv ka la ha] w fun e w' => e = .returned (fv ku lu hu) ∧ Below w.heap.size w w')
    (huc : ∀ w : World, Calls Tryz.prog 6 #[fv ku lu hu, fv kc lc hc] w fun e w' => e = .returned (fv kx lx hx) ∧ Below w.heap.size w w')
    (hbc : ∀ w : World, Calls Tryz.prog 6 #[fv kb lb hb, fv kc lc hc] w fun e w' => e = .returned (fv ky ly hy) ∧ Below w.heap.size w w')
    (hay : ∀ w : World, Calls Tryz.prog 6 #[fv ka la ha, fv ky ly hy] w fun e w' => e = .returned (fv kx lx hx) ∧ Below w.heap.size w w')
    (haa : ∀ w : World, Calls Tryz.prog 6 #[fv ka la ha, fv ka la ha] w fun e w' => e = .returned (fv ka la ha) ∧ Below w.heap.size w w')
    (hhu : ∀ w : World, Calls Tryz.prog 8 #[fv ku lu hu, rv c s n] w fun e w' => e = .returned (.bool vu) ∧ Below w.heap.size w w')
    (hhb : ∀ w : World, Calls Tryz.prog 8 #[fv kb lb hb, rv c s n] w fun e w' => e = .returned (.bool vb) ∧ Below w.heap.size w w')
    (hrha : ∀ w : World, Calls Tryz.prog 9 #[fv ka la ha, rv c s n] w fun e w' => e = .returned (.bool va) ∧ Below w.heap.size w w') :
    Calls Tryz.prog 3 #[fv ka la ha, fv kb lb hb, fv kc lc hc, rv c s n] w fun e w' => e = .returned (.bool true) ∧ Below w.heap.size w w' := by
  have X0 := Bx.start ka la ha kb lb hb kc lc hc c n s w
  have HUN := Lib.hid hun
  have HRUN := Lib.hid hrun
  have HHA := Lib.hid hha
  have HRHA := Lib.hid hrha
  have HBA := Lib.hid hba
  have HUC := Lib.hid huc
  have HBC := Lib.hid hbc
  have HAY := Lib.hid hay
  have HAA := Lib.hid haa
  have HHU := Lib.hid hhu
  have HHB := Lib.hid hhb
  clear hun hrun hha hrha hba huc hbc hay haa hhu hhb
  have HV := Lib.hid hv
  clear hv
  go_enter Tryz.func3, Tryz.ntmps3
  go_wp2_with fail
  refine (sane_any _ (by exact (((hg.alloc _).alloc _).alloc _).alloc _)).mono ?_
  rintro e w1 ⟨rfl, hb1⟩
  have X1 := X0.below hb1
  have ⟨qa0, qa1, qa2, qb0, qb1, qb2, qc0, qc1, qc2, qv0, qv1, qv2, qs⟩ := X1
  go_wp2_with fail
  refine (fact_yes oka _).mono ?_
  rintro e w2 ⟨rfl, hb2⟩
  have X2 := X1.below hb2
  clear qa0 qa1 qa2 qb0 qb1 qb2 qc0 qc1 qc2 qv0 qv1 qv2 qs
  have ⟨qa0, qa1, qa2, qb0, qb1, qb2, qc0, qc1, qc2, qv0, qv1, qv2, qs⟩ := X2
  go_wp2_with fail
  refine (fact_yes okb _).mono ?_
  rintro e w3 ⟨rfl, hb3⟩
  have X3 := X2.below hb3
  clear qa0 qa1 qa2 qb0 qb1 qb2 qc0 qc1 qc2 qv0 qv1 qv2 qs
  have ⟨qa0, qa1, qa2, qb0, qb1, qb2, qc0, qc1, qc2, qv0, qv1, qv2, qs⟩ := X3
  go_wp2_with fail
  refine (fact_yes okc _).mono ?_
  rintro e w4 ⟨rfl, hb4⟩
  have X4 := X3.below hb4
  clear qa0 qa1 qa2 qb0 qb1 qb2 qc0 qc1 qc2 qv0 qv1 qv2 qs
  have ⟨qa0, qa1, qa2, qb0, qb1, qb2, qc0, qc1, qc2, qv0, qv1, qv2, qs⟩ := X4
  go_wp2_with fail
  refine (HUN.out _).mono ?_
  rintro e w5 ⟨rfl, hb5⟩
  have X5 := X4.below hb5
  clear qa0 qa1 qa2 qb0 qb1 qb2 qc0 qc1 qc2 qv0 qv1 qv2 qs
  have ⟨qa0, qa1, qa2, qb0, qb1, qb2, qc0, qc1, qc2, qv0, qv1, qv2, qs⟩ := X5
  have HB : Hid (Below w.heap.size w w5) := Lib.hid (step (step (step (step (step (below4 _ _ _ _ _) hb1) hb2) hb3) hb4) hb5)
  have HB5 : Below w.heap.size w (w5.alloc (.cells #[.int .i64 ku, .int .i64 lu, .int .i64 hu] 23)) := HB.out.alloc HB.out.size _
  have HB5d := HB5.drew
  clear hb1 hb2 hb3 hb4 hb5 X0 X1 X2 X3 X4 X5
  go_wp2_with fail
  go_region_held3 (fun w' => w'.cell? ⟨w.heap.size, 0, none⟩ = some (.int .i64 ka) ∧ w'.cell? ⟨w.heap.size, 1, none⟩ = some (.int .i64 la) ∧ w'.cell? ⟨w.heap.size, 2, none⟩ = some (.int .i64 ha) ∧ w'.cell? ⟨w.heap.size + 1, 0, none⟩ = some (.int .i64 kb) ∧ w'.cell? ⟨w.heap.size + 1, 1, none⟩ = some (.int .i64 lb) ∧ w'.cell? ⟨w.heap.size + 1, 2, none⟩ = some (.int .i64 hb) ∧ w'.cell? ⟨w.heap.size + 1 + 1, 0, none⟩ = some (.int .i64 kc) ∧ w'.cell? ⟨w.heap.size + 1 + 1, 1, none⟩ = some (.int .i64 lc) ∧ w'.cell? ⟨w.heap.size + 1 + 1, 2, none⟩ = some (.int .i64 hc) ∧ w'.cell? ⟨w.heap.size + 1 + 1 + 1, 0, none⟩ = some (.int .i64 c) ∧ w'.cell? ⟨w.heap.size + 1 + 1 + 1, 1, none⟩ = some (.string s) ∧ w'.cell? ⟨w.heap.size + 1 + 1 + 1, 2, none⟩ = some (.int .i64 n) ∧ w'.cell? ⟨w5.heap.size, 0, none⟩ = some (.int .i64 ku) ∧ w'.cell? ⟨w5.heap.size, 1, none⟩ = some (.int .i64 lu) ∧ w'.cell? ⟨w5.heap.size, 2, none⟩ = some (.int .i64 hu) ∧ w5.heap.size < w'.heap.size ∧ Below w.heap.size w w') (((try dsimp only); (try go_split_ands); (repeat' apply And.intro); all_goals (first | assumption | omega | (exact step (by assumption) hbb) | (exact Below.drew (by assumption)) | (rw [hcc _ _ (by first | omega | (simp; omega))]; first | assumption | (rw [World.cell?_alloc_lt _ _ _ (by omega)]; assumption) | go_keep) | go_keep)))
    (first
      | (go_at_call 7; refine (HRUN.out _).mono ?_; rintro e w6 ⟨rfl, hbb⟩; obtain ⟨hcc, _⟩ := bcell hbb; have hss := hbb.size)
      | (go_at_call 8; refine (HHA.out _).mono ?_; rintro e w6 ⟨rfl, hbb⟩; obtain ⟨hcc, _⟩ := bcell hbb; have hss := hbb.size)
      | (go_at_call 9; refine (HRHA.out _).mono ?_; rintro e w6 ⟨rfl, hbb⟩; obtain ⟨hcc, _⟩ := bcell hbb; have hss := hbb.size))
  go_wp2_with fail
  go_region_held3 (fun w' => w'.cell? ⟨w.heap.size, 0, none⟩ = some (.int .i64 ka) ∧ w'.cell? ⟨w.heap.size, 1, none⟩ = some (.int .i64 la) ∧ w'.cell? ⟨w.heap.size, 2, none⟩ = some (.int .i64 ha) ∧ w'.cell? ⟨w.heap.size + 1, 0, none⟩ = some (.int .i64 kb) ∧ w'.cell? ⟨w.heap.size + 1, 1, none⟩ = some (.int .i64 lb) ∧ w'.cell? ⟨w.heap.size + 1, 2, none⟩ = some (.int .i64 hb) ∧ w'.cell? ⟨w.heap.size + 1 + 1, 0, none⟩ = some (.int .i64 kc) ∧ w'.cell? ⟨w.heap.size + 1 + 1, 1, none⟩ = some (.int .i64 lc) ∧ w'.cell? ⟨w.heap.size + 1 + 1, 2, none⟩ = some (.int .i64 hc) ∧ w'.cell? ⟨w.heap.size + 1 + 1 + 1, 0, none⟩ = some (.int .i64 c) ∧ w'.cell? ⟨w.heap.size + 1 + 1 + 1, 1, none⟩ = some (.string s) ∧ w'.cell? ⟨w.heap.size + 1 + 1 + 1, 2, none⟩ = some (.int .i64 n) ∧ w'.cell? ⟨w5.heap.size, 0, none⟩ = some (.int .i64 ku) ∧ w'.cell? ⟨w5.heap.size, 1, none⟩ = some (.int .i64 lu) ∧ w'.cell? ⟨w5.heap.size, 2, none⟩ = some (.int .i64 hu) ∧ w5.heap.size < w'.heap.size ∧ Below w.heap.size w w') (((try dsimp only); (try go_split_ands); (repeat' apply And.intro); all_goals (first | assumption | omega | (exact step (by assumption) hbb) | (exact Below.drew (by assumption)) | (rw [hcc _ _ (by first | omega | (simp; omega))]; first | assumption | (rw [World.cell?_alloc_lt _ _ _ (by omega)]; assumption) | go_keep) | go_keep)))
    (first
      | (go_at_call 6; (with_reducible refine (HBA.out _).mono ?_); rintro e w7 ⟨rfl, hbb⟩; obtain ⟨hcc, _⟩ := bcell hbb; have hss := hbb.size)
      | (go_at_call 6; (with_reducible refine (HUC.out _).mono ?_); rintro e w7 ⟨rfl, hbb⟩; obtain ⟨hcc, _⟩ := bcell hbb; have hss := hbb.size)
      | (go_at_call 6; (with_reducible refine (HBC.out _).mono ?_); rintro e w7 ⟨rfl, hbb⟩; obtain ⟨hcc, _⟩ := bcell hbb; have hss := hbb.size)
      | (go_at_call 6; (with_reducible refine (HAY.out _).mono ?_); rintro e w7 ⟨rfl, hbb⟩; obtain ⟨hcc, _⟩ := bcell hbb; have hss := hbb.size)
      | (go_at_call 6; (with_reducible refine (HAA.out _).mono ?_); rintro e w7 ⟨rfl, hbb⟩; obtain ⟨hcc, _⟩ := bcell hbb; have hss := hbb.size))
  try go_split_ands
  cases vu
  rotate_left
  · go_wp2_with fail
    refine (HHU.out _).mono ?_
    rintro e w8 ⟨rfl, hbb⟩
    have hfin : Below w.heap.size w w8 := step (by assumption) hbb
    go_wp2
    go_ret
    exact ⟨rfl, hfin⟩
  · obtain ⟨rfl, rfl⟩ := HV.out.resolve_left (by simp)
    go_wp2_with fail
    refine (HHU.out _).mono ?_
    rintro e w8 ⟨rfl, hb8⟩
    obtain ⟨hc8, _⟩ := bcell hb8
    have hs8 := hb8.size
    have ghc8_0 := hc8 w.heap.size 0 (by omega)
    have ghc8_1 := hc8 w.heap.size 1 (by omega)
    have ghc8_2 := hc8 w.heap.size 2 (by omega)
    have ghc8_3 := hc8 (w.heap.size + 1) 0 (by omega)
    have ghc8_4 := hc8 (w.heap.size + 1) 1 (by omega)
    have ghc8_5 := hc8 (w.heap.size + 1) 2 (by omega)
    have ghc8_6 := hc8 (w.heap.size + 1 + 1 + 1) 0 (by omega)
    have ghc8_7 := hc8 (w.heap.size + 1 + 1 + 1) 1 (by omega)
    have ghc8_8 := hc8 (w.heap.size + 1 + 1 + 1) 2 (by omega)
    clear hc8
    have hf8 : Below w.heap.size w w8 := step (by assumption) hb8
    go_wp2_with fail
    refine (HHA.out _).mono ?_
    rintro e w9 ⟨rfl, hb9⟩
    obtain ⟨hc9, _⟩ := bcell hb9
    have hs9 := hb9.size
    have ghc9_0 := hc9 w.heap.size 0 (by omega)
    have ghc9_1 := hc9 w.heap.size 1 (by omega)
    have ghc9_2 := hc9 w.heap.size 2 (by omega)
    have ghc9_3 := hc9 (w.heap.size + 1) 0 (by omega)
    have ghc9_4 := hc9 (w.heap.size + 1) 1 (by omega)
    have ghc9_5 := hc9 (w.heap.size + 1) 2 (by omega)
    have ghc9_6 := hc9 (w.heap.size + 1 + 1 + 1) 0 (by omega)
    have ghc9_7 := hc9 (w.heap.size + 1 + 1 + 1) 1 (by omega)
    have ghc9_8 := hc9 (w.heap.size + 1 + 1 + 1) 2 (by omega)
    clear hc9
    have hf9 : Below w.heap.size w w9 := step hf8 hb9
    go_wp2_with fail
    refine (HHB.out _).mono ?_
    rintro e w10 ⟨rfl, hb10⟩
    have hf10 : Below w.heap.size w w10 := step hf9 hb10
    go_wp2
    go_ret
    exact ⟨rfl, hf10⟩
end Go.Proofs.YtdfdhobfodljbaaGreatDoor

namespace Go.Proofs.YtdfdhobfodljbaaGreatDoor
open Go.RowKit

section
variable {ka kb kc : Int} (a0 : 0 ≤ ka) (a7 : ka ≤ 7) (b0 : 0 ≤ kb) (b7 : kb ≤ 7) (c0 : 0 ≤ kc) (c7 : kc ≤ 7)

theorem kU_0 : 0 ≤ kU ka kb := by unfold kU; omega
include a0 a7 b0 b7 in
theorem kU_7 : kU ka kb ≤ 7 := by
  have h1 : ka.toNat < 2 ^ 3 := by omega
  have h2 : kb.toNat < 2 ^ 3 := by omega
  have := Nat.or_lt_two_pow h1 h2
  unfold kU
  omega
theorem kU_comm : kU ka kb = kU kb ka := by unfold kU; rw [Nat.or_comm]
theorem kU_assoc : kU (kU ka kb) kc = kU ka (kU kb kc) := by
  unfold kU
  rw [Int.toNat_natCast, Int.toNat_natCast, Nat.or_assoc]
include a0 in
theorem kU_self : kU ka ka = ka := by
  unfold kU
  rw [Nat.or_self]
  omega
include a0 a7 b0 b7 in
theorem kU_lt : kU ka kb < 4 ↔ ka < 4 ∧ kb < 4 := by
  rcases eight a0 a7 with rfl | rfl | rfl | rfl | rfl | rfl | rfl | rfl <;> rcases eight b0 b7 with rfl | rfl | rfl | rfl | rfl | rfl | rfl | rfl <;> decide +kernel
theorem bit_or (i : Nat) : bitB (kU ka kb) i = (bitB ka i || bitB kb i) := by
  unfold bitB kU
  rw [Int.toNat_natCast, Nat.testBit_or]
include a0 a7 in
theorem bit_2 : bitB ka 2 = decide (4 ≤ ka) := by
  rcases eight a0 a7 with rfl | rfl | rfl | rfl | rfl | rfl | rfl | rfl <;> decide +kernel
end

theorem lU_comm (ka la kb lb : Int) : lU ka la kb lb = lU kb lb ka la := by
  unfold lU
  split <;> split <;> first | rfl | omega
theorem hU_comm (ka ha kb hb : Int) : hU ka ha kb hb = hU kb hb ka ha := by
  unfold hU
  split <;> split <;> first | rfl | omega

section
variable {ka kb kc : Int} (a0 : 0 ≤ ka) (a7 : ka ≤ 7) (b0 : 0 ≤ kb) (b7 : kb ≤ 7) (c0 : 0 ≤ kc) (c7 : kc ≤ 7)
include a0 a7 b0 b7 c0 c7
theorem lU_assoc (la lb lc : Int) : lU (kU ka kb) (lU ka la kb lb) kc lc = lU ka la (kU kb kc) (lU kb lb kc lc) := by
  have h1 := kU_lt a0 a7 b0 b7
  have h2 := kU_lt b0 b7 c0 c7
  unfold lU
  repeat' split
  all_goals omega
theorem hU_assoc (la lb lc : Int) : hU (kU ka kb) (hU ka la kb lb) kc lc = hU ka la (kU kb kc) (hU kb lb kc lc) := by
  have h1 := kU_lt a0 a7 b0 b7
  have h2 := kU_lt b0 b7 c0 c7
  unfold hU
  repeat' split
  all_goals omega
end

theorem OkF.lU_self {k l h : Int} (ok : OkF k l h) : lU k l k l = l := by
  unfold lU
  split
  · rename_i h4; exact (ok.small h4).1.symm
  · exact Int.min_self l
theorem OkF.hU_self {k l h : Int} (ok : OkF k l h) : hU k h k h = h := by
  unfold hU
  split
  · rename_i h4; exact (ok.small h4).2.symm
  · exact Int.max_self h

/-- What one of two facts allows, their union allows. -/
theorem has_union {ka la ha kb lb hb c n : Int} (oka : OkF ka la ha) (okb : OkF kb lb hb) (h : hasB ka la ha c n = true) : hasB (kU ka kb) (lU ka la kb lb) (hU ka ha kb hb) c n = true := by
  unfold hasB at h ⊢
  split at h
  · rename_i h0
    rw [if_pos h0, bit_or, h]; rfl
  · rename_i h0
    rw [if_neg h0]
    split at h
    · rename_i h1
      rw [if_pos h1, bit_or, h]; rfl
    · rename_i h1
      rw [if_neg h1]
      split at h
      · rename_i h2
        rw [if_pos h2, bit_or]
        simp only [Bool.and_eq_true, decide_eq_true_eq] at h ⊢
        obtain ⟨g1, g2, g3⟩ := h
        refine ⟨by rw [g1]; rfl, ?_⟩
        have g4 : 4 ≤ ka := by rw [bit_2 oka.k0 oka.k7] at g1; simpa using g1
        unfold lU hU
        repeat' split
        all_goals omega
      · cases h

theorem has_either {ka la ha kb lb hb c n : Int} (oka : OkF ka la ha) (okb : OkF kb lb hb) :
    hasB (kU ka kb) (lU ka la kb lb) (hU ka ha kb hb) c n = true ∨ (hasB ka la ha c n = false ∧ hasB kb lb hb c n = false) := by
  cases h1 : hasB ka la ha c n with
  | true => exact .inl (has_union oka okb h1)
  | false =>
    cases h2 : hasB kb lb hb c n with
    | true =>
      refine .inl ?_
      rw [kU_comm, lU_comm, hU_comm]
      exact has_union okb oka h2
    | false => exact .inr ⟨rfl, rfl⟩

/-- The law, at every fact and value. -/
theorem law_any (ka la ha kb lb hb kc lc hc c n : Int) (s : ByteArray) (w : World) (hg : Gl w) :
    Calls Tryz.prog 3 #[fv ka la ha, fv kb lb hb, fv kc lc hc, rv c s n] w fun e w' => e = .returned (.bool true) ∧ Below w.heap.size w w' := by
  by_cases oka : OkF ka la ha
  · by_cases okb : OkF kb lb hb
    · by_cases okc : OkF kc lc hc
      · have u0 : 0 ≤ kU ka kb := kU_0
        have u7 := kU_7 oka.k0 oka.k7 okb.k0 okb.k7
        have y0 : 0 ≤ kU kb kc := kU_0
        have y7 := kU_7 okb.k0 okb.k7 okc.k0 okc.k7
        refine law_yes (hasB (kU ka kb) (lU ka la kb lb) (hU ka ha kb hb) c n) (hasB ka la ha c n) (hasB kb lb hb c n) (has_either oka okb) ka la ha kb lb hb kc lc hc c n s w hg oka okb okc
          (kU ka kb) (lU ka la kb lb) (hU ka ha kb hb) (kU (kU ka kb) kc) (lU (kU ka kb) (lU ka la kb lb) kc lc) (hU (kU ka kb) (hU ka ha kb hb) kc hc) (kU kb kc) (lU kb lb kc lc) (hU kb hb kc hc)
          (fun w => un_any ka la ha kb lb hb w oka.k0 oka.k7 okb.k0 okb.k7) (fun w => run_any ka la ha kb lb hb w oka.k0 oka.k7 okb.k0 okb.k7) (fun w => has_any ka la ha c n s w oka.k0 oka.k7) ?_
          (fun w => un_any _ _ _ kc lc hc w u0 u7 okc.k0 okc.k7) (fun w => un_any kb lb hb kc lc hc w okb.k0 okb.k7 okc.k0 okc.k7) ?_ ?_ (fun w => has_any _ _ _ c n s w u0 u7) (fun w => has_any kb lb hb c n s w okb.k0 okb.k7) (fun w => rhas_any ka la ha c n s w oka.k0 oka.k7)
        · intro w
          have := un_any kb lb hb ka la ha w okb.k0 okb.k7 oka.k0 oka.k7
          rwa [kU_comm, lU_comm, hU_comm] at this
        · intro w
          have := un_any ka la ha (kU kb kc) (lU kb lb kc lc) (hU kb hb kc hc) w oka.k0 oka.k7 y0 y7
          rwa [← kU_assoc, ← lU_assoc oka.k0 oka.k7 okb.k0 okb.k7 okc.k0 okc.k7, ← hU_assoc oka.k0 oka.k7 okb.k0 okb.k7 okc.k0 okc.k7] at this
        · intro w
          have := un_any ka la ha ka la ha w oka.k0 oka.k7 oka.k0 oka.k7
          rwa [kU_self oka.k0, oka.lU_self, oka.hU_self] at this
      · exact law_no3 ka la ha kb lb hb kc lc hc c n s w hg oka okb okc
    · exact law_no2 ka la ha kb lb hb kc lc hc c n s w hg oka okb
  · exact law_no1 ka la ha kb lb hb kc lc hc c n s w hg oka
end Go.Proofs.YtdfdhobfodljbaaGreatDoor
