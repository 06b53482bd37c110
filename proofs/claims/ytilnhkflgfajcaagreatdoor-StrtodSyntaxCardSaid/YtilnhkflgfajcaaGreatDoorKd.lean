/- The examples of strtod return true (closed run, with decimalOf's answers known). Conditions: none. -/
import Derived.Test.YtilnhkflgfajcaaGreatDoorKb
import Derived.Test.YtilnhkflgfajcaaGreatDoorKc
set_option linter.all false
namespace Go.Proofs.YtilnhkflgfajcaaGreatDoor
open Go.Eng Go.RowKit
set_option maxRecDepth 1000000

/-- Two lists of whole numbers, one and the same. -/
noncomputable def eqI : List AVal → List AVal → Bool
  | [], [] => true
  | .int .u8 (.ofNat a) :: l, .int .u8 (.ofNat b) :: m => Nat.beq a b && eqI l m
  | .int .u64 (.ofNat a) :: l, .int .u64 (.ofNat b) :: m => Nat.beq a b && eqI l m
  | _, _ => false
theorem eqI_eq : ∀ {l m : List AVal}, eqI l m = true → l = m
  | [], [], _ => rfl
  | .int .u8 (.ofNat a) :: l, .int .u8 (.ofNat b) :: m, h => by
    simp only [eqI, Bool.and_eq_true] at h
    rw [Nat.eq_of_beq_eq_true h.1, eqI_eq h.2]
  | .int .u64 (.ofNat a) :: l, .int .u64 (.ofNat b) :: m, h => by
    simp only [eqI, Bool.and_eq_true] at h
    rw [Nat.eq_of_beq_eq_true h.1, eqI_eq h.2]
theorem eqI_int : ∀ {l m : List AVal}, eqI l m = true → ∀ v ∈ l, ∃ k n, v = .int k n
  | [], [], _, v, hv => by cases hv
  | .int .u8 (.ofNat a) :: l, .int .u8 (.ofNat b) :: m, h, v, hv => by
    simp only [eqI, Bool.and_eq_true] at h
    rcases List.mem_cons.1 hv with rfl | hv
    · exact ⟨_, _, rfl⟩
    · exact eqI_int h.2 v hv
  | .int .u64 (.ofNat a) :: l, .int .u64 (.ofNat b) :: m, h, v, hv => by
    simp only [eqI, Bool.and_eq_true] at h
    rcases List.mem_cons.1 hv with rfl | hv
    · exact ⟨_, _, rfl⟩
    · exact eqI_int h.2 v hv

noncomputable def gOk (H : AHeap) : Bool := match H.get 0 with
  | some (.cells c0 _ _) => match H.get 7 with
    | some (.cells c7 _ _) => eqI c0 brL && eqI c7 pwL
    | _ => false
  | _ => false
noncomputable def kFind (a b : Nat) (y : Int) : List Ent → Option Ent
  | [] => none
  | E :: l => bif Nat.beq a E.a && (Nat.beq b E.b && (decide (y = E.y))) then some E else kFind a b y l
theorem kFind_some {a b : Nat} {y : Int} : ∀ {l : List Ent} {E : Ent}, kFind a b y l = some E → E ∈ l ∧ a = E.a ∧ b = E.b ∧ y = E.y
  | E' :: l, E, h => by
    simp only [kFind] at h
    cases hc : (Nat.beq a E'.a && (Nat.beq b E'.b && (decide (y = E'.y)))) with
    | true =>
      rw [hc] at h
      simp only [cond_true, Option.some.injEq] at h
      subst h
      simp only [Bool.and_eq_true, decide_eq_true_eq] at hc
      exact ⟨List.mem_cons_self, Nat.eq_of_beq_eq_true hc.1, Nat.eq_of_beq_eq_true hc.2.1, hc.2.2⟩
    | false =>
      rw [hc] at h
      obtain ⟨h1, h2⟩ := kFind_some (l := l) h
      exact ⟨List.mem_cons_of_mem _ h1, h2⟩
noncomputable def kArgs (args : List AVal) (H : AHeap) : Option (AVal × AHeap) :=
  match args with
  | [.slice b 0 2 2 1 false, .int .i64 y] => match H.get b with
    | some (.cells [.int .u32 (.ofNat u), .int .u32 (.ofNat v)] _ _) => bif gOk H then (match kFind u v y ents with
      | some E => some (.agg [.str E.s, .int .i64 E.x], H)
      | none => none) else none
    | _ => none
  | _ => none
noncomputable def kd : Known := fun f args H => bif Nat.beq f 178 then kArgs args H else none

theorem runs : ∀ E ∈ ents, RunOK E := by
  intro E hE
  simp only [ents, List.mem_cons, List.not_mem_nil, or_false] at hE
  rcases hE with rfl | rfl | rfl | rfl
  · exact run_ent0
  · exact run_ent1
  · exact run_ent2
  · exact run_ent3

theorem G0_get (e0 e7 : TypeId) (b : Nat) : (G0 e0 e7).get b = if b = 7 then some (.cells pwL e7 .sh) else if b = 0 then some (.cells brL e0 .sh) else none := by
  show Tr.get (path b) (Tr.put (path 7) _ (Tr.put (path 0) _ .leaf)) = _
  by_cases h7 : b = 7
  · subst h7; rw [Go.Eng.Tr.get_put_self]; simp
  · rw [Go.Eng.Tr.get_put_ne _ _ _ _ (path_ne h7), if_neg h7]
    by_cases h0 : b = 0
    · subst h0; rw [Go.Eng.Tr.get_put_self]; simp
    · rw [Go.Eng.Tr.get_put_ne _ _ _ _ (path_ne h0), if_neg h0, Go.Eng.Tr.get_leaf]
theorem GS_get (e0 e7 t : TypeId) (u v b : Nat) : (GS e0 e7 t u v).get b = if b = 9 then some (.cells [.int .u32 (.ofNat u), .int .u32 (.ofNat v)] t .sh) else (G0 e0 e7).get b := by
  show ((G0 e0 e7).new _).get b = _
  rw [AHeap.get_new]
  rfl
theorem nglob : Tryz.prog.globals.size = 9 := by kernel_rfl

theorem body178 : ∃ fn c, Tryz.prog.funcs[178]? = some fn ∧ fn.body = some c := ⟨Tryz.f178, _, Tryz.func178, rfl⟩
theorem soundF (n : Nat) : Sound Tryz.prog (tabF Tryz.prog n) := by rw [tabF_eq]; exact sound fits n

theorem known : KnownOK Tryz.prog kd := by
  intro f args H v H' h
  have hf : f = 178 := by
    simp only [kd] at h
    cases hb : Nat.beq f 178 with
    | true => exact Nat.eq_of_beq_eq_true hb
    | false => rw [hb] at h; cases h
  subst hf
  have h : kArgs args H = some (v, H') := h
  unfold kArgs at h
  split at h
  · rename_i b y
    split at h
    · rename_i u vv t wr hg
      cases hgo : gOk H with
      | false => rw [hgo] at h; cases h
      | true =>
        rw [hgo] at h
        simp only [cond_true] at h
        split at h
        · rename_i E hE
          cases h
          obtain ⟨hm, rfl, rfl, rfl⟩ := kFind_some hE
          refine ⟨body178, fun w ρ args' hw ha => ?_⟩
          unfold gOk at hgo
          split at hgo
          · rename_i c0 e0 wr0 h0
            split at hgo
            · rename_i c7 e7 wr7 h7
              simp only [Bool.and_eq_true] at hgo
              obtain ⟨ho0, ho7⟩ := hgo
              have i0 := eqI_int ho0
              have i7 := eqI_int ho7
              have ho0 := eqI_eq ho0
              have ho7 := eqI_eq ho7
              subst ho0 ho7
              obtain ⟨p0, hp0, hr0, hd0⟩ := hw.glob 0 (by rw [nglob]; omega)
              obtain ⟨p7, hp7, hr7, hd7⟩ := hw.glob 7 (by rw [nglob]; omega)
              obtain ⟨o0, w0, r0⟩ := hw.blk h0 hp0
              obtain ⟨o7, w7, r7⟩ := hw.blk h7 hp7
              obtain ⟨al⟩ := args'
              cases ha with
              | cons hs1 hs2 =>
              cases hs2 with
              | cons hs3 hs4 =>
              cases hs4
              cases hs3
              cases hs1 with
              | slice hp hl hc he hr =>
              rename_i cap' p
              obtain ⟨o9, w9, r9⟩ := hw.blk hg hp
              cases r0 with
              | cells d0 a0 z0 =>
              cases r7 with
              | cells d7 a7 z7 =>
              cases r9 with
              | cells d9 a9 z9 =>
              obtain ⟨ρ2, hρ⟩ : ∃ ρ2 : Emb, ρ2 = fun x => if x = 9 then some p else if x < 9 then ρ x else none := ⟨_, rfl⟩
              have hw2 : WRel Tryz.prog ρ2 (GS e0 e7 t E.a E.b) w := by
                constructor
                · intro b blk _ e
                  rw [GS_get, G0_get] at e
                  split at e
                  · rename_i hb
                    subst hb
                    cases e
                    refine ⟨p, _, by rw [hρ]; simp, w9, .cells d9 (fun i v hv => ?_) (fun h => by cases h)⟩
                    obtain ⟨x, hx, hv2⟩ := a9 i v hv
                    refine ⟨x, hx, ?_⟩
                    rcases i with _ | _ | i
                    · simp only [List.getElem?_cons_zero, Option.some.injEq] at hv
                      subst hv
                      cases hv2
                      exact .int _ _
                    · simp only [List.getElem?_cons_succ, List.getElem?_cons_zero, Option.some.injEq] at hv
                      subst hv
                      cases hv2
                      exact .int _ _
                    · simp at hv
                  · split at e
                    · rename_i hb
                      subst hb
                      cases e
                      refine ⟨p7, _, by rw [hρ]; simpa using hp7, w7, .cells d7 (fun i v hv => ?_) (fun h => by cases h)⟩
                      obtain ⟨x, hx, hv2⟩ := a7 i v hv
                      obtain ⟨k, n, rfl⟩ := i7 v (List.mem_of_getElem? hv)
                      cases hv2
                      exact ⟨_, hx, .int _ _⟩
                    · split at e
                      · rename_i hb
                        subst hb
                        cases e
                        refine ⟨p0, _, by rw [hρ]; simpa using hp0, w0, .cells d0 (fun i v hv => ?_) (fun h => by cases h)⟩
                        obtain ⟨x, hx, hv2⟩ := a0 i v hv
                        obtain ⟨k, n, rfl⟩ := i0 v (List.mem_of_getElem? hv)
                        cases hv2
                        exact ⟨_, hx, .int _ _⟩
                      · cases e
                · intro b c x y p q _ _ hx _ _ hown _ _
                  rw [GS_get, G0_get] at hx
                  split at hx
                  · cases hx; cases hown
                  · split at hx
                    · cases hx; cases hown
                    · split at hx
                      · cases hx; cases hown
                      · cases hx
                · intro b hb
                  have hb : 10 ≤ b := hb
                  rw [hρ]
                  simp only
                  rw [if_neg (by omega), if_neg (by omega)]
                · intro g hg
                  have hg' : g < 9 := by rw [nglob] at hg; exact hg
                  obtain ⟨q, h1, h2, h3⟩ := hw.glob g hg
                  exact ⟨q, by rw [hρ]; simp only; rw [if_neg (by omega), if_pos hg']; exact h1, h2, h3⟩
              have ha2 : VRels ρ2 [.slice 9 0 2 2 1 false, .int .i64 E.y] [.slice (some ⟨p.r, p.d + 0, none⟩) 2 cap', .int .i64 E.y] := .cons (.slice (by rw [hρ]; simp) hl hc he hr) (.cons (.int _ _) .nil)
              obtain ⟨H3, h1, h2⟩ := outOf_ret (runs E hm e0 e7 t)
              refine (full_below fits (soundF 300) (args' := ⟨_⟩) hw2 ha2 h1 h2).mono ?_
              rintro e w' ⟨x, ρ', hx, rfl, _, hb⟩
              refine ⟨x, ρ, rfl, ?_, stp_below hw hb⟩
              cases hx with
              | agg hs =>
              cases hs with
              | cons k1 k2 =>
              cases k2 with
              | cons k3 k4 =>
              cases k1
              cases k3
              cases k4
              exact .agg (.cons (.str _) (.cons (.int _ _) .nil))
            · cases hgo
          · cases hgo
        · cases h
    · cases h
  · cases h
end Go.Proofs.YtilnhkflgfajcaaGreatDoor

namespace Go.Proofs.YtilnhkflgfajcaaGreatDoor
open Go.Eng Go.RowKit
set_option maxRecDepth 1000000
def okB (n : Nat) (r : ER) : Bool := match r with
  | .ret (.bool true) H' => Nat.ble n H'.low
  | _ => false
theorem okB_ret {n : Nat} {r : ER} (h : okB n r = true) : ∃ H', r = .ret (.bool true) H' ∧ n ≤ H'.low := by
  unfold okB at h
  split at h
  · exact ⟨_, rfl, Nat.le_of_ble_eq_true h⟩
  · cases h
theorem run_ok (e0 e7 : TypeId) : okB 9 (topL Tryz.prog (cfun Tryz.prog 5) [] (G0 e0 e7) (tabK Tryz.prog kd 300)) = true := by kernel_rfl
end Go.Proofs.YtilnhkflgfajcaaGreatDoor

namespace Go.Proofs.YtilnhkflgfajcaaGreatDoor
open Go.Eng Go.RowKit
set_option maxRecDepth 1000000

/-- The package-level variables that the examples read, as they were laid. -/
structure Gl (w : World) : Prop where
  g0 : ∃ (arr : Array Value) (e : TypeId) (lohi : Nat × Nat), w.heap[0]? = some (.cells arr e lohi) ∧ Rl brL arr.toList
  g7 : ∃ (arr : Array Value) (e : TypeId) (lohi : Nat × Nat), w.heap[7]? = some (.cells arr e lohi) ∧ Rl pwL arr.toList
theorem gl_of_laid {W : World} (h : laidMetH Tryz.prog Rows.strtodSplitsRow.laid W) : Gl W := by
  obtain ⟨ps, hl, _⟩ : laidMet Tryz.prog Rows.strtodSplitsRow.laid W := h
  refine ⟨?_, ?_⟩
  · exact laid_at (name := "math/bits.deBruijn32tab") hl (.head _) (by kernel_rfl) (by kernel_rfl) brL_some
  · exact laid_at (name := "internal/strconv.uint64pow10") hl (.tail _ (.tail _ (.head _))) (by kernel_rfl) (by kernel_rfl) pwL_some
theorem Gl.below {w w' : World} (h : Gl w) {B : Nat} (hb : Below B w w') (hB : 8 ≤ B) : Gl w' := by
  obtain ⟨⟨a, e, l, h1, h2⟩, ⟨a', e', l', h3, h4⟩⟩ := h
  exact ⟨⟨a, e, l, by rw [hb.block 0 (by omega)]; exact h1, h2⟩, ⟨a', e', l', by rw [hb.block 7 (by omega)]; exact h3, h4⟩⟩
theorem Gl.size {w : World} (h : Gl w) : 8 ≤ w.heap.size := by
  obtain ⟨a, e, l, h1, _⟩ := h.g7
  exact (Array.getElem?_eq_some_iff.1 h1).1
theorem Gl.since {w w' : World} (h : Gl w) (hb : Below w.heap.size w w') : Gl w' := h.below hb h.size
theorem Gl.rel {w : World} (h : Gl w) : ∃ e0 e7, WRel Tryz.prog (globEmb Tryz.prog) (G0 e0 e7) w := by
  obtain ⟨⟨a0, e0, l0, h1, h2⟩, ⟨a7, e7, l7, h3, h4⟩⟩ := h
  refine ⟨e0, e7, wrel_globals (by kernel_rfl) fun g blk hg e => ?_⟩
  rw [G0_get] at e
  split at e
  · rename_i hg0
    subst hg0
    cases e
    exact ⟨_, _, rfl, a7, l7, h3, fun i v hv => by simpa using h4 i v hv⟩
  · split at e
    · rename_i hg0
      subst hg0
      cases e
      exact ⟨_, _, rfl, a0, l0, h1, fun i v hv => by simpa using h2 i v hv⟩
    · cases e
theorem sane_any (w : World) (h : Gl w) : Calls Tryz.prog 5 #[] w fun e w' => e = .returned (.bool true) ∧ Below w.heap.size w w' := by
  obtain ⟨e0, e7, hw⟩ := h.rel
  obtain ⟨H', ht, hl⟩ := okB_ret (run_ok e0 e7)
  refine (full_below fits (soundK Tryz.prog kd fits known 300) (args' := #[]) hw .nil ht hl).mono fun e w' ⟨x, ρ', hx, he, _, hb⟩ => ?_
  cases hx
  exact ⟨he, hb⟩
end Go.Proofs.YtilnhkflgfajcaaGreatDoor
