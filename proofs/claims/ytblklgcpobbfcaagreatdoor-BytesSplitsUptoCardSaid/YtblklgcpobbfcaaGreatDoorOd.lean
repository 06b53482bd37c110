/- A range over an iterator that may panic; regions that draw their order, with conditions that hang on what has come up; frames that leave with marks. Conditions: none. -/
import Derived.RangeFuncOwn
import Derived.RangeFuncLeaves
import Derived.OrdersIn
import Derived.OrdersHeld
import Derived.Deep.RegionHeld
import Derived.TacticsIn
set_option linter.all false
namespace Go.Proofs.YtblklgcpobbfcaaGreatDoor
open Go Go.RowKit
set_option maxRecDepth 1000000

/-- What a round promises: the blocks of a kind lie as they lay. -/
structure KeepOn (keep : Nat → Prop) (A B : World) : Prop where
  os : B.os = A.os
  tape : B.tape = A.tape
  output : B.output = A.output
  size : A.heap.size ≤ B.heap.size
  block : ∀ k, keep k → k < A.heap.size → B.heap[k]? = A.heap[k]?
theorem KeepOn.refl (keep : Nat → Prop) (A : World) : KeepOn keep A A := ⟨rfl, rfl, rfl, Nat.le_refl _, fun _ _ _ => rfl⟩
theorem KeepOn.trans {keep : Nat → Prop} {A B C : World} (h : KeepOn keep A B) (k : KeepOn keep B C) : KeepOn keep A C :=
  ⟨k.os.trans h.os, k.tape.trans h.tape, k.output.trans h.output, Nat.le_trans h.size k.size, fun i hi hl => (k.block i hi (Nat.lt_of_lt_of_le hl h.size)).trans (h.block i hi hl)⟩
theorem KeepOn.mono {keep keep' : Nat → Prop} {A B : World} (h : KeepOn keep A B) (hk : ∀ k, keep' k → keep k) : KeepOn keep' A B :=
  ⟨h.os, h.tape, h.output, h.size, fun i hi hl => h.block i (hk i hi) hl⟩
theorem KeepOn.putObj {keep : Nat → Prop} {A : World} {l : Nat} (o : Obj) (hl : ¬ keep l) : KeepOn keep A (A.putObj l o) :=
  ⟨rfl, rfl, rfl, by simp, fun k hk _ => World.putObj_heap_other (fun e => hl (e ▸ hk))⟩
theorem KeepOn.setCell {keep : Nat → Prop} {A : World} {p : Addr} (v : Value) (hl : ¬ keep p.block) : KeepOn keep A (A.setCell p v) :=
  ⟨rfl, rfl, rfl, by show _ ≤ (A.heap.modify _ _).size; rw [Array.size_modify]; exact Nat.le_refl _, fun k hk _ => Below.heap_setCell A p v k (fun e => hl (e ▸ hk))⟩
theorem KeepOn.of_below {keep : Nat → Prop} {A B : World} {n : Nat} (h : Below n A B) (hk : ∀ k, keep k → k < A.heap.size → k < n) : KeepOn keep A B :=
  ⟨h.os, h.tape, h.output, h.size, fun k h1 h2 => h.block k (hk k h1 h2)⟩
theorem KeepOn.of_grown {keep : Nat → Prop} {A B : World} {row : Option Nat} (h : A.grownBy B row) (hk : ∀ k, row = some k → ¬ keep k) : KeepOn keep A B :=
  ⟨h.os, h.tape, h.output, h.size, fun k h1 h2 => h.block k h2 (fun e => hk k e.symm h1)⟩
theorem KeepOn.below {keep : Nat → Prop} {A B : World} (h : KeepOn keep A B) {n : Nat} (hn : n ≤ A.heap.size) (hk : ∀ k, k < n → keep k) : Below n A B :=
  ⟨h.os, h.tape, h.output, h.size, fun k hl => h.block k (hk k hl) (Nat.lt_of_lt_of_le hl hn)⟩

/-- How the body of a round is left: at its end. -/
def onPost {α : Type} (keep : Nat → Prop) (I : List α → World → Prop) (xs : List α) (W : World) : Exit → Act → World → Prop
  | .normal, _, W' => KeepOn keep W W' ∧ I xs W'
  | _, _, _ => False

variable {F : Fence} {n : Nat} {P : Program}

/-- An iterator whose rounds all go on: it returns, or it panics. It makes blocks, and turns one that it has made first. -/
def SeqPan {α : Type} (F : Fence) (n : Nat) (P : Program) (g : Nat) (lb : Array Value) (encs : α → Array Value) (keep : Nat → Prop) (G : List α → α → Prop) (S : List α → Prop) (Sp : List Value → List α → Prop) (w : World) : Prop :=
  ∀ (l : Nat) (J : List α → World → Prop) (W : World), Below w.heap.size w W → l < W.heap.size → w.heap.size ≤ l →
    (∀ s A B, J s A → W.heap.size ≤ A.heap.size → A.grownBy B (some W.heap.size) → J s B) →
    (∀ pre x W1, G pre x → J pre W1 → W.heap.size < W1.heap.size → YieldAt F (n - 1) P l (encs x) W1 fun e W' => e = .returned (.bool true) ∧ J (pre ++ [x]) W' ∧ KeepOn (fun k => keep k ∨ k = W.heap.size) W1 W') →
    J [] W →
    CallsIn F n P g (#[.func (.yield l) #[] #[]] ++ lb) W fun e W' => ((∃ v, e = .returned v) ∧ ∃ xs, S xs ∧ J xs W') ∨ (∃ v, e = .panicked [{ v := v, recovered := false }] ∧ ∃ xs, Sp [v] xs ∧ J xs W')

/-- A range over such an iterator. -/
theorem wpIn_rangeFunc_pan {α : Type} {g : Operand} {ps : Array Tmp} {assign body : Code} {Q : Exit → Act → World → Prop} {a : Act} {w : World}
    (hro : F.round = none) (h1 : 1 ≤ n) {gf : Nat} {lb : Array Value} (hg : a.eval g = .func (.func gf) #[] lb) (hFg : F.fn gf) (eg : ∀ args w, (callFunc gf args).run P w = .ok (.enter gf args) w)
    {encs : α → Array Value} {keep : Nat → Prop} {G : List α → α → Prop} {S : List α → Prop} {Sp : List Value → List α → Prop} (hseq : SeqPan F (n - 1) P gf lb encs keep G S Sp w) (hps : ∀ x, (encs x).size = ps.size)
    (hkeep : ∀ k, keep k → k < w.heap.size)
    (I : List α → World → Prop) (hI : ∀ s A B r, I s A → w.heap.size + 2 ≤ A.heap.size → A.grownBy B (some r) → (r = w.heap.size + 1 ∨ r = w.heap.size + 2) → I s B)
    (h0 : I [] ((w.alloc (.deferred (some []))).alloc (.loop { state := .ready, pending := none, fn := 0, tmps := a.tmps, params := ps, assign, body, defers := w.heap.size })) ∨ ∀ o o', I [] ((w.alloc o).alloc o'))
    (Ax : α → Act → World → Prop) (hAx : ∀ x a A B, Ax x a A → w.heap.size + 3 ≤ A.heap.size → A.grownBy B (some (w.heap.size + 1)) → Ax x a B)
    (hassign : ∀ (l : Nat) (pre : List α) (x : α) (W : World), G pre x → I pre W → w.heap.size + 3 ≤ W.heap.size →
      assign.wpIn (F.inRound l) (n - 1 - 1) P (Exit.then (fun a₁ W₁ => I pre W₁ ∧ Ax x a₁ W₁ ∧ KeepOn (fun k => keep k ∨ k = w.heap.size ∨ k = w.heap.size + 1 ∨ k = w.heap.size + 2) W W₁) (fun _ _ _ => False)) { tmps := (ps.zip (encs x)).foldl (fun t (p, v) => t.setIfInBounds p v) a.tmps, defers := [] } W)
    (hbody : ∀ (l : Nat) (pre : List α) (x : α) (a₁ : Act) (W : World), G pre x → I pre W → Ax x a₁ W → w.heap.size + 3 ≤ W.heap.size → body.wpIn (F.inRound l) (n - 1 - 1) P (onPost (fun k => keep k ∨ k = w.heap.size ∨ k = w.heap.size + 1 ∨ k = w.heap.size + 2) I (pre ++ [x]) W) a₁ W)
    (hdone : ∀ (xs : List α) (W : World), S xs → I xs W → W.heap[w.heap.size]? = some (.deferred (some [])) → w.heap.size + 2 ≤ W.heap.size → Q .normal { a with defers := { target := .collected w.heap.size, args := #[] } :: a.defers } W)
    (hpan : ∀ (v : Value) (xs : List α) (W : World), Sp [v] xs → I xs W → W.heap[w.heap.size]? = some (.deferred (some [])) → w.heap.size + 2 ≤ W.heap.size → Q (.panic [{ v := v, recovered := false }]) { a with defers := { target := .collected w.heap.size, args := #[] } :: a.defers } W) :
    (Code.rangeFunc g ps assign body).wpIn F n P Q a w := by
  refine wpIn_rangeFunc ?_
  intro fn hfn
  rw [hro]
  obtain ⟨rec, hrec⟩ : ∃ rec : LoopState → Option Code → Loop, rec = fun st pe => { state := st, pending := pe, fn, tmps := a.tmps, params := ps, assign, body, defers := w.heap.size } := ⟨_, rfl⟩
  obtain ⟨W1, hW1⟩ : ∃ W1, (w.alloc (.deferred (some []))).alloc (.loop (rec .ready none)) = W1 := ⟨_, rfl⟩
  have hL1 : W1.heap[w.heap.size + 1]? = some (.loop (rec .ready none)) := by
    rw [← hW1]; have := World.alloc_heap_new (w.alloc (.deferred (some []))) (.loop (rec .ready none)); rwa [World.size_alloc] at this
  have hK1 : W1.heap[w.heap.size]? = some (.deferred (some [])) := by
    rw [← hW1]; exact (Below.heap_alloc _ _ _ (by simp)).trans (World.alloc_heap_new w _)
  have hs1 : W1.heap.size = w.heap.size + 2 := by rw [← hW1]; simp
  have hb1 : Below w.heap.size w W1 := by
    rw [← hW1]; exact ((Below.refl _ w).alloc (Nat.le_refl _) _).alloc (by simp) _
  have hI1 : I [] W1 := by
    rcases h0 with h0 | h0
    · refine hI [] _ W1 (w.heap.size + 1) h0 (by simp) ?_ (.inl rfl)
      rw [← hW1]
      exact ⟨rfl, rfl, rfl, by simp, fun k hk hne => by
        simp only [World.alloc, Array.getElem?_push, Array.size_push]
        by_cases e : k = w.heap.size + 1
        · exact absurd (congrArg some e) hne
        · rw [if_neg e, if_neg e]⟩
    · rw [← hW1]; exact h0 _ _
  refine ⟨w.heap.size + 1, [{ target := .collected w.heap.size, args := #[] }], W1, { target := .fn (.func gf) lb, args := #[.func (.yield (w.heap.size + 1)) #[] #[]] }, W1, gf,
    #[.func (.yield (w.heap.size + 1)) #[] #[]] ++ lb, W1, ?_, ?_, ?_, ?_, fun _ => h1, ?_⟩
  · rw [← hW1, hrec]; exact run_enterLoop_outer _ _ _ _ _
  · simp only [resolve, hg]
    simp [go_sem]
  · intro f' hf'; simp [Target.leads] at hf'; subst hf'; exact hFg
  · simp [invoke, go_sem, eg]
  · refine (hseq (w.heap.size + 1)
      (fun pre W => I pre W ∧ W.heap[w.heap.size + 1]? = some (.loop (rec .ready none)) ∧ W.heap[w.heap.size]? = some (.deferred (some [])) ∧ w.heap.size + 2 ≤ W.heap.size)
      W1 hb1 (by omega) (by omega)
      (fun s A B hs hsz hg' => ⟨hI s A B _ hs.1 (by omega) hg' (.inr hs1), (hg'.block _ (by omega) (fun e => by have := Option.some.inj e; omega)).trans hs.2.1, (hg'.block _ (by omega) (fun e => by have := Option.some.inj e; omega)).trans hs.2.2.1, Nat.le_trans hs.2.2.2 hg'.size⟩)
      ?_ ⟨hI1, hL1, hK1, by omega⟩).mono ?_
    · -- one round
      rintro pre x W hG ⟨hi, hl, hk, hsz⟩ hsz1
      have hlt : w.heap.size + 1 < W.heap.size := by omega
      have hy := run_yield (P := P) (args := encs x) hl (by rw [hrec]; exact hps x)
      rw [hrec] at hy
      refine ⟨fn, _, assign, body, hy, roundIn_of_wpIn hfn (wpIn_mono (hassign _ pre x W hG hi (by omega)) ?_)⟩
      rintro e a1 W0 hp0
      cases e with
      | exit id => exact hp0.elim
      | goto t => exact hp0.elim
      | ret => exact hp0.elim
      | panic ch => exact hp0.elim
      | outgrown => exact hp0.elim
      | normal =>
      obtain ⟨hi0, hax0, hk0⟩ := hp0
      have hsz0 := hk0.size
      have hl0 := (hk0.block (w.heap.size + 1) (.inr (.inr (.inl rfl))) (by omega)).trans hl
      have hd0 := (hk0.block w.heap.size (.inr (.inl rfl)) (by omega)).trans hk
      have hlt0 : w.heap.size + 1 < W0.heap.size := by omega
      refine ⟨_, run_beginRound hl0 (by rw [hrec]), ?_⟩
      obtain ⟨W2, hW2⟩ : ∃ W2, W0.putObj (w.heap.size + 1) (.loop { rec .ready none with state := .busy }) = W2 := ⟨_, rfl⟩
      have hl2 : W2.heap[w.heap.size + 1]? = some (.loop { rec .ready none with state := .busy }) := by rw [← hW2]; exact World.putObj_heap_same hlt0
      have hk2 : W2.heap[w.heap.size]? = some (.deferred (some [])) := by rw [← hW2]; exact (World.putObj_heap_other (by omega)).trans hd0
      have hi2 : I pre W2 := by rw [← hW2]; exact hI _ _ _ _ hi0 (by omega) (grownBy_putObj' W0 _ _) (.inl rfl)
      have hax2 : Ax x a1 W2 := by rw [← hW2]; exact hAx _ _ _ _ hax0 (by omega) (grownBy_putObj' W0 _ _)
      have hsz2 : W2.heap.size = W0.heap.size := by rw [← hW2]; simp
      have hw2 : KeepOn (fun k => keep k ∨ k = W1.heap.size) W W2 := by
        refine (hk0.mono (fun k h => h.elim (fun h => .inl h) (fun h => .inr (.inr (.inr (by omega)))))).trans ?_
        rw [← hW2]
        exact KeepOn.putObj _ (fun h => by exact h.elim (fun h => by have := hkeep _ h; omega) (fun h => by omega))
      rw [hW2]
      refine wpIn_mono (hbody _ pre x a1 _ hG hi2 hax2 (by omega)) ?_
      rintro e a3 W3 hp
      cases e with
      | normal =>
        obtain ⟨hk3, hi3⟩ := hp
        have hl3 := (hk3.block (w.heap.size + 1) (.inr (.inr (.inl rfl))) (by omega)).trans hl2
        have hd3 := (hk3.block w.heap.size (.inr (.inl rfl)) (by omega)).trans hk2
        have hr := run_endRound (P := P) none hl3
        have hsz3 := hk3.size
        have hlt3 : w.heap.size + 1 < W3.heap.size := by omega
        refine ⟨_, _, hr, ?_⟩
        have e4 : (Obj.loop { rec LoopState.ready none with state := if (none : Option Code).isNone = true then .ready else .done, pending := none }) = .loop (rec .ready none) := by rw [hrec]; rfl
        refine ⟨rfl, ⟨hI _ _ _ _ hi3 (by omega) (grownBy_putObj' W3 _ _) (.inl rfl), ?_, (World.putObj_heap_other (by omega)).trans hd3, by simp; omega⟩, ?_⟩
        · refine (World.putObj_heap_same hlt3).trans ?_
          rw [← e4]
        · refine (hw2.trans (hk3.mono (fun k h => by exact h.elim (fun h => .inl h) (fun h => .inr (.inr (.inr (by omega))))))).trans (KeepOn.putObj _ (fun h => by exact h.elim (fun h => by have := hkeep _ h; omega) (fun h => by omega)))
      | ret => exact hp.elim
      | exit id => exact hp.elim
      | goto t => exact hp.elim
      | panic ch => exact hp.elim
      | outgrown => exact hp.elim
    · -- behind the iterator
      rintro e W2 (⟨⟨v, rfl⟩, xs, hS, hi, hl, hk, hsz⟩ | ⟨v, rfl, xs, hS, hi, hl, hk, hsz⟩)
      · exact ⟨none, _, by have := run_endLoop (P := P) hl (by rw [hrec]; simp); rw [hrec] at this; exact this, hdone xs _ hS (hI _ _ _ _ hi hsz (grownBy_putObj' W2 _ _) (.inl rfl)) ((World.putObj_heap_other (by omega)).trans hk) (by simp; omega)⟩
      · exact hpan v xs _ hS hi hk hsz
end Go.Proofs.YtblklgcpobbfcaaGreatDoor

namespace Go.Proofs.YtblklgcpobbfcaaGreatDoor
open Go Go.RowKit
set_option maxRecDepth 1000000

variable {P : Program}

/-! A region in a round: as anywhere. -/
theorem upon_inRound {o : Oper} {a : Act} {K : Act → World → Prop} {Q : Exit → Act → World → Prop} {r : Result Next} (l n : Nat) (h : o.upon P a K Q r) : o.uponIn (Fence.wide.inRound l) n P a K Q r := by
  cases r with
  | ok x w' =>
    cases x with
    | value v => exact h
    | skip => exact h
    | defer d => exact h
    | enter f args => exact ⟨fun hd => by simp [Fence.wide] at hd, (callsIn_wide (n := n - 1)).2 h⟩
    | row row args =>
      refine ⟨fun hd => by simp [Fence.wide] at hd, fun c cs _ => ?_⟩
      obtain ⟨v, w', r, s⟩ := h c cs
      exact ⟨v, w', r, stepsIn_wide.2 s⟩
    | _ => exact h.elim
  | halt x w' => cases x <;> first | exact h | exact h.elim

theorem wp_inRound {o : Oper} {a : Act} {w : World} {K : Act → World → Prop} {Q : Exit → Act → World → Prop} (l n : Nat) (hd : ∀ c, o.op ≠ .defer c) (h : o.wp P a w K Q) : o.wpIn (Fence.wide.inRound l) n P a w K Q := by
  refine ⟨fun _ _ => trivial, ?_⟩
  rw [Fence.inRound_round, Oper.semAt_some _ _ _ hd]
  exact upon_inRound l n h

theorem wpAny_inRound {md : Region.Mode} {ops : Array Oper} {Q : Exit → Act → World → Prop} (l n : Nat) (hL : ¬ LetsOut Q) (hd : ∀ o ∈ ops, ∀ c, o.op ≠ .defer c) :
    ∀ (fuel : Nat) (listed : Array Bool) (a : Act) (w : World), wpAny P md ops Q fuel listed a w → wpAnyIn (Fence.wide.inRound l) n P md ops Q fuel listed a w
  | 0, _, _, _, h => h
  | fuel + 1, listed, a, w, h => by
    refine ⟨h.1, fun i hi => ?_⟩
    have h1 := h.2 i hi
    unfold wpOp at h1
    unfold wpOpIn
    cases ho : ops[i]? with
    | none => rw [ho] at h1; exact wpAny_inRound l n hL hd fuel _ _ _ h1
    | some o =>
      rw [ho] at h1
      simp only at h1 ⊢
      have hm : o ∈ ops := Array.mem_of_getElem? ho
      by_cases hw : Region.wanted o (yielded ops a.tmps) = true
      · rw [if_pos hw] at h1 ⊢
        rcases h1 with h1 | h1
        · exact Oper.wpIn_mono (fun a w h => wpAny_inRound l n hL hd fuel _ a w h) (wp_inRound l n (hd o hm) h1)
        · exact absurd h1.2 hL
      · rw [if_neg hw] at h1 ⊢
        exact ⟨fun _ _ => trivial, wpAny_inRound l n hL hd fuel _ _ _ h1⟩

/-- A region that draws its order, in a round: walked as anywhere. -/
theorem region_inRound {id : Nat} {ops : Array Oper} {Q : Exit → Act → World → Prop} {S : World → Prop} {a : Act} {w : World} (l n : Nat) (hm : P.follows .mixedOrders = true) (hL : ¬ LetsOut Q) (hd : ∀ o ∈ ops, ∀ c, o.op ≠ .defer c)
    (hS : S w.drew) (h : S w.drew → wpAnyH P .any ops Q S ops.size (Array.replicate ops.size false) a w.drew) : (Code.region id ops true).wpIn (Fence.wide.inRound l) n P Q a w :=
  wpIn_region_any hm (wpAny_inRound l n hL hd _ _ _ _ (wpAny_of_held _ _ _ _ (h hS)))

/-! A frame that leaves with a mark among its deferred calls. -/
def LeavesM (P : Program) (fn : Func) (tmps : Array Value) (R : Ending → World → Prop) : List Deferred → FrameMode → World → Prop
  | [], u, w => Leaves P fn tmps R [] u w
  | d :: ds, u, w => u ≠ .run ∧
      ((∃ r w', d.target = .collected r ∧ (Instr.takeDeferred r).run P w = .ok [] w' ∧ LeavesM P fn tmps R ds u w') ∨
       (∃ fv cap f args, d.target = .fn fv cap ∧ (invoke d.target d.args).run P w = .ok (.enter f args) w ∧
        CallsD P f args u w fun
          | .returned _, u', w' => LeavesM P fn tmps R ds (settle u') w'
          | .panicked chain, u', w' => LeavesM P fn tmps R ds (raised u' chain) w'
          | .outgrown, _, w' => R .outgrown w'))

theorem leavesM_steps {fn : Func} {tmps : Array Value} {R : Ending → World → Prop} : ∀ (ds : List Deferred) (u : FrameMode) (w : World) (fr : Frame)
    (cs : List Frame), fr.mode = u → fr.defers = ds → fr.tmps = tmps → P.funcs[fr.fn]? = some fn → fr.kind = .normal → LeavesM P fn tmps R ds u w →
    ∃ e w' fr', R e w' ∧ Comes P (lone fr cs w) (lone fr' cs w') e ∧ fr'.fn = fr.fn ∧ fr'.leaving P w' e := by
  intro ds
  induction ds with
  | nil => exact fun u w fr cs hu hd ht hf hk h => leaves_steps [] u w fr cs hu hd ht hf hk h
  | cons d ds ih =>
    intro u w fr cs hu hd ht hf hk h
    obtain ⟨hrun, h⟩ := h
    rcases h with ⟨r, w', htar, htake, hrest⟩ | ⟨fv, cap, f, args, htar, hinv, hcall⟩
    · have h1 := step_collected (cs := cs) (hu ▸ hrun) hd htar htake
      obtain ⟨e', w'', fr', hR', hs', hfn', hl'⟩ := ih u w' { fr with defers := [] ++ ds } cs hu rfl ht hf hk hrest
      exact ⟨e', w'', fr', hR', Comes.of_steps (.one h1) hs', hfn', hl'⟩
    · have h1 := step_defer (cs := cs) (hu ▸ hrun) hd htar hinv
      obtain ⟨e, u', w', frX, hR, hsteps, hkX, hgo⟩ := hcall { fr with defers := ds } cs hu
      cases e with
      | returned v =>
        have h2 := step_going_returned (c := { { fr with defers := ds } with mode := u' }) (cs := cs) hkX hgo
        obtain ⟨e', w'', fr', hR', hs', hfn', hl'⟩ := ih (settle u') w' { { { fr with defers := ds } with mode := u' } with mode := settle u' } cs rfl rfl ht hf hk hR
        exact ⟨e', w'', fr', hR', Comes.of_steps (.head h1 (Steps.trans hsteps (.one h2))) hs', hfn', hl'⟩
      | panicked chain =>
        have h2 := step_going_panicked (c := { { fr with defers := ds } with mode := u' }) (cs := cs) hgo
        obtain ⟨e', w'', fr', hR', hs', hfn', hl'⟩ := ih (raised u' chain) w' { { { fr with defers := ds } with mode := u' } with mode := raised u' chain } cs rfl rfl ht hf hk hR
        exact ⟨e', w'', fr', hR', Comes.of_steps (.head h1 (Steps.trans hsteps (.one h2))) hs', hfn', hl'⟩
      | outgrown => exact ⟨.outgrown, w', fr, hR, Outgrown.of_steps (.one h1) hsteps, rfl, trivial⟩

/-- What the body of a function must achieve, marks and all. -/
def bodyPostK (P : Program) (fn : Func) (R : Ending → World → Prop) : Exit → Act → World → Prop
  | .normal, a, w | .ret, a, w => LeavesM P fn a.tmps R a.defers .returning w
  | .panic chain, a, w => LeavesM P fn a.tmps R a.defers (.panicking chain) w
  | .outgrown, _, w => R .outgrown w
  | _, _, _ => False

theorem calls_of_wp_marks {f : FuncId} {fn : Func} {c : Code} {args : Array Value} {w : World} {R : Ending → World → Prop}
    (hf : P.funcs[f]? = some fn) (hb : fn.body = some c)
    (h : c.wp P (bodyPostK P fn R) { tmps := args ++ Array.replicate (fn.ntmps - args.size) undef, defers := [] } w) : Calls P f args w R := by
  intro cs
  let b : Frame := { (default : Frame) with fn := f, kind := .normal }
  have henter : Frame.enter P f args .normal =
      b.at { tmps := args ++ Array.replicate (fn.ntmps - args.size) undef, defers := [] } [.code c] := by
    simp [Frame.enter, Frame.at, hf, hb, b]
  obtain ⟨e, a', w', hq, harr⟩ := h b [] cs
  rw [← henter] at harr
  cases e with
  | normal =>
    obtain ⟨e', w'', fr', hR, hs, hfn, hl⟩ := leavesM_steps a'.defers .returning w' { b.at a' [] with mode := .returning } cs rfl rfl rfl hf rfl hq
    exact ⟨e', w'', fr', hR, Comes.of_steps (Steps.trans harr (.one step_end)) hs, hfn, hl⟩
  | ret =>
    obtain ⟨todo, hs₀⟩ := harr
    obtain ⟨e', w'', fr', hR, hs, hfn, hl⟩ := leavesM_steps a'.defers .returning w' { b.at a' todo with mode := .returning } cs rfl rfl rfl hf rfl hq
    exact ⟨e', w'', fr', hR, Comes.of_steps hs₀ hs, hfn, hl⟩
  | panic chain =>
    obtain ⟨todo, hs₀⟩ := harr
    obtain ⟨e', w'', fr', hR, hs, hfn, hl⟩ := leavesM_steps a'.defers (.panicking chain) w' { b.at a' todo with mode := .panicking chain } cs rfl rfl rfl hf rfl hq
    exact ⟨e', w'', fr', hR, Comes.of_steps hs₀ hs, hfn, hl⟩
  | exit id => exact hq.elim
  | goto l => exact hq.elim
  | outgrown => exact ⟨.outgrown, w', b, hq, harr.resolve_left (by simp [b]), rfl, trivial⟩

theorem leavesM_mark {fn : Func} {tmps : Array Value} {R : Ending → World → Prop} {r : Nat} {dargs : Array Value} {ds : List Deferred} {u : FrameMode} {w : World} (hu : u ≠ .run) (h : w.heap[r]? = some (.deferred (some []))) (hR : LeavesM P fn tmps R ds u (w.putObj r (.deferred none))) :
    LeavesM P fn tmps R ({ target := .collected r, args := dargs } :: ds) u w :=
  ⟨hu, .inl ⟨r, _, rfl, run_takeDeferred h, hR⟩⟩
theorem leavesM_call {fn : Func} {tmps : Array Value} {R : Ending → World → Prop} {fv : Fn} {cap dargs : Array Value} {ds : List Deferred} {u : FrameMode}
    {w : World} {f : FuncId} {args : Array Value} (hu : u ≠ .run) (hi : (invoke (.fn fv cap) dargs).run P w = .ok (.enter f args) w)
    (h : CallsD P f args u w fun
      | .returned _, u', w' => LeavesM P fn tmps R ds (settle u') w'
      | .panicked chain, u', w' => LeavesM P fn tmps R ds (raised u' chain) w'
      | .outgrown, _, w' => R .outgrown w') :
    LeavesM P fn tmps R ({ target := .fn fv cap, args := dargs } :: ds) u w :=
  ⟨hu, .inr ⟨fv, cap, f, args, rfl, hi, h⟩⟩
end Go.Proofs.YtblklgcpobbfcaaGreatDoor

namespace Go.Proofs.YtblklgcpobbfcaaGreatDoor
open Go Go.RowKit
set_option maxRecDepth 1000000

/-! Regions that draw their order, with a condition on the world that hangs on what has come up. -/
section
variable {P : Program} {ops : Array Oper} {Q : Exit → Act → World → Prop} {md : Region.Mode} {S : Array Bool → World → Prop}

def wpAnyG (P : Program) (md : Region.Mode) (ops : Array Oper) (Q : Exit → Act → World → Prop) (S : Array Bool → World → Prop) : Nat → Array Bool → Act → World → Prop
  | 0, listed, a, w => Region.ready md ops listed = [] ∧ Q .normal a w
  | fuel + 1, listed, a, w =>
    (Region.ready md ops listed = [] → Q .normal a w) ∧
    ∀ i ∈ Region.ready md ops listed, wpOp P ops Q i (fun a' w' => S (listed.setIfInBounds i true) w' ∧ wpAnyG P md ops Q S fuel (listed.setIfInBounds i true) a' w') a w
theorem wpAny_of_G : ∀ (fuel : Nat) (listed : Array Bool) (a : Act) (w : World), wpAnyG P md ops Q S fuel listed a w → wpAny P md ops Q fuel listed a w
  | 0, _, _, _, h => h
  | fuel + 1, _, _, _, h => ⟨h.1, fun i hi => wpOp_mono (fun a' w' h' => wpAny_of_G fuel _ a' w' h'.2) (h.2 i hi)⟩

/-- One operation waits for another one. -/
def waits (md : Region.Mode) (ops : Array Oper) (k i : Nat) : Bool := match ops[k]? with
  | some o => o.after.any fun e => Region.binds md e && e.on == i
  | none => false
/-- Nobody who waits for an operation has come up. -/
def Unw (md : Region.Mode) (ops : Array Oper) (i : Nat) (li : Array Bool) : Prop := ∀ k, waits md ops k i = true → li.getD k true = false
/-- The condition, while an operation has not come up. -/
def Till (md : Region.Mode) (ops : Array Oper) (S : Array Bool → World → Prop) (i : Nat) (w : World) : Prop := ∃ li : Array Bool, Unw md ops i li ∧ S li w
def unwB (md : Region.Mode) (ops : Array Oper) (i : Nat) (li : Array Bool) : Bool := (List.range ops.size).all fun k => !waits md ops k i || !li.getD k true
theorem unwB_spec {md : Region.Mode} {ops : Array Oper} {i : Nat} {li : Array Bool} (h : unwB md ops i li = true) : Unw md ops i li := by
  intro k hk
  by_cases hlt : k < ops.size
  · have := List.all_eq_true.1 h k (List.mem_range.2 hlt)
    rw [hk] at this
    simpa using this
  · unfold waits at hk
    rw [Array.getElem?_eq_none (by omega)] at hk
    cases hk

theorem wpAnyG_first {i : Nat} {oi : Oper} {v : Value} (hi : ops[i]? = some oi) (hsel : ∀ (j : Nat) (o : Oper) cs b, ops[j]? = some o → o.op ≠ .select cs b)
    (hins : ∀ listed w, S (listed.setIfInBounds i true) w ↔ S listed w)
    (hQ : ∀ c a w, Q (.panic c) (a.put oi.dst v) w → Q (.panic c) a w) :
    ∀ (fuel : Nat) (listed : Array Bool) (a : Act) (w : World),
      (∀ j oj, ops[j]? = some oj → j ≠ i → listed.getD j true = false → (∀ e ∈ oj.after, Region.binds md e = true → e.on ≠ i) → oi.apart ops oj = true) →
      i ∈ Region.ready md ops listed → Unw md ops i listed → YieldsIf P ops (Till md ops S i) oi v a → S listed w →
      wpAnyG P md ops Q S fuel (listed.setIfInBounds i true) (a.put oi.dst v) w → wpAnyG P md ops Q S (fuel + 1) listed a w := by
  intro fuel
  induction fuel with
  | zero =>
    intro listed a w _ hr hun hy hS H
    refine ⟨fun h => (by rw [h] at hr; cases hr), fun j hj => ?_⟩
    by_cases hji : j = i
    · subst hji; exact hy.wpOp hi ⟨listed, hun, hS⟩ ⟨(hins _ _).2 hS, H⟩
    · have := ready_mono hj hji
      rw [H.1] at this
      cases this
  | succ fuel ih =>
    intro listed a w hfree hr hun hy hS H
    refine ⟨fun h => (by rw [h] at hr; cases hr), fun j hj => ?_⟩
    by_cases hji : j = i
    · subst hji; exact hy.wpOp hi ⟨listed, hun, hS⟩ ⟨(hins _ _).2 hS, H⟩
    · have h1 := H.2 j (ready_mono hj hji)
      obtain ⟨hjun, oj, hoj, hall⟩ := mem_ready.1 hj
      have hnot : ∀ e ∈ oj.after, Region.binds md e = true → e.on ≠ i := fun e he hb heq => by
        have h1 := hall e he hb
        have h0 := (mem_ready.1 hr).1
        rw [heq] at h1
        rcases Nat.lt_or_ge i listed.size with h' | h'
        · simp [h'] at h0 h1; rw [h0] at h1; cases h1
        · simp [Array.getElem?_eq_none h'] at h1
      have h2 := wpOp_putIf hoj (hfree j oj hoj hji hjun hnot) (fun cs b => hsel i oi cs b hi) (fun cs b => hsel j oj cs b hoj) hQ hy h1
      have hun' : Unw md ops i (listed.setIfInBounds j true) := fun k hk => by
        by_cases hjk : j = k
        · subst hjk
          unfold waits at hk
          rw [hoj] at hk
          obtain ⟨e, he, h5⟩ := Array.any_eq_true'.1 hk
          simp only [Bool.and_eq_true, beq_iff_eq] at h5
          exact absurd h5.2 (hnot e he h5.1)
        · rw [getD_set_ne true hjk]; exact hun k hk
      have hfree' : ∀ k ok, ops[k]? = some ok → k ≠ i → (listed.setIfInBounds j true).getD k true = false →
          (∀ e ∈ ok.after, Region.binds md e = true → e.on ≠ i) → oi.apart ops ok = true := fun k ok hk hki hunk hno => by
        refine hfree k ok hk hki ?_ hno
        by_cases hjk : j = k
        · subst hjk; exact hjun
        · rw [getD_set_ne true hjk] at hunk; exact hunk
      refine wpOp_mono (fun a' w' h3 => ?_) h2
      have h4 : S (listed.setIfInBounds j true) w' := by
        have := h3.2.1
        rw [Array.setIfInBounds_comm _ _ (Ne.symm hji)] at this
        exact (hins _ _).1 this
      refine ⟨h4, ih (listed.setIfInBounds j true) a' w' hfree' (ready_mono hr (Ne.symm hji)) hun' h3.1 h4 ?_⟩
      rw [Array.setIfInBounds_comm _ _ hji]
      exact h3.2.2

theorem wpAnyG_take {i : Nat} {oi : Oper} {v : Value} {fuel : Nat} {listed : Array Bool} {a : Act} {w : World} (hi : ops[i]? = some oi)
    (hs : Region.noSelect ops = true) (hf : Region.free md ops listed i = true) (hr : (Region.ready md ops listed).contains i = true) (hun : unwB md ops i listed = true)
    (hins : ∀ listed w, S (listed.setIfInBounds i true) w ↔ S listed w)
    (hQ : ∀ c a w, Q (.panic c) (a.put oi.dst v) w → Q (.panic c) a w) (hy : YieldsIf P ops (Till md ops S i) oi v a) (hS : S listed w)
    (h : S (listed.setIfInBounds i true) w → wpAnyG P md ops Q S fuel (listed.setIfInBounds i true) (a.put oi.dst v) w) : wpAnyG P md ops Q S (fuel + 1) listed a w :=
  wpAnyG_first hi (Region.noSelect_spec hs) hins hQ fuel listed a w (Region.free_spec hi hf) (by simpa using hr) (unwB_spec hun) hy hS (h ((hins _ _).2 hS))

theorem wpAnyG_done {listed : Array Bool} {a : Act} {w : World} (hr : Region.ready md ops listed = []) (h : Q .normal a w) :
    ∀ fuel, wpAnyG P md ops Q S fuel listed a w
  | 0 => ⟨hr, h⟩
  | _ + 1 => ⟨fun _ => h, by rw [hr]; simp⟩

def AllReadyG (P : Program) (md : Region.Mode) (ops : Array Oper) (Q : Exit → Act → World → Prop) (S : Array Bool → World → Prop) (fuel : Nat) (listed : Array Bool) (a : Act) (w : World) (rs : List Nat) : Prop :=
  ∀ i ∈ rs, wpOp P ops Q i (fun a' w' => S (listed.setIfInBounds i true) w' ∧ wpAnyG P md ops Q S fuel (listed.setIfInBounds i true) a' w') a w
theorem AllReadyG.nil {fuel : Nat} {listed : Array Bool} {a : Act} {w : World} : AllReadyG P md ops Q S fuel listed a w [] := fun _ h => by cases h
theorem AllReadyG.cons {fuel : Nat} {listed : Array Bool} {a : Act} {w : World} {i : Nat} {o : Oper} {rs : List Nat} (ho : ops[i]? = some o)
    (h : ∀ K' : Act → World → Prop, Shut (∀ a w, S (listed.setIfInBounds i true) w → (S (listed.setIfInBounds i true) w → wpAnyG P md ops Q S fuel (listed.setIfInBounds i true) a w) → K' a w) → if Region.wanted o (yielded ops a.tmps) = true then Oper.wp P o a w K' Q else K' (a.put o.dst undef) w)
    (hs : AllReadyG P md ops Q S fuel listed a w rs) : AllReadyG P md ops Q S fuel listed a w (i :: rs) := fun j hj => by
  rcases List.mem_cons.1 hj with rfl | hj
  · exact wpOp_step ho (fun K' hK => h K' (fun a w hS hW => hK a w ⟨hS, hW hS⟩))
  · exact hs j hj
theorem wpAnyG_ready {rs : List Nat} {fuel : Nat} {listed : Array Bool} {a : Act} {w : World} (hr : Region.ready md ops listed = rs) (hne : rs ≠ [])
    (h : AllReadyG P md ops Q S fuel listed a w rs) : wpAnyG P md ops Q S (fuel + 1) listed a w := ⟨fun h0 => absurd (hr ▸ h0) hne, hr ▸ h⟩

theorem wp_region_G {id : Nat} {a : Act} {w : World} (hm : P.follows .mixedOrders = true) (hS : S (Array.replicate ops.size false) w.drew)
    (h : S (Array.replicate ops.size false) w.drew → wpAnyG P .any ops Q S ops.size (Array.replicate ops.size false) a w.drew) : (Code.region id ops true).wp P Q a w :=
  wp_region_any hm (wpAny_of_G _ _ _ _ (h hS))
theorem region_inRound_G {id : Nat} {a : Act} {w : World} (l n : Nat) (hm : P.follows .mixedOrders = true) (hL : ¬ LetsOut Q) (hd : ∀ o ∈ ops, ∀ c, o.op ≠ .defer c)
    (hS : S (Array.replicate ops.size false) w.drew) (h : S (Array.replicate ops.size false) w.drew → wpAnyG P .any ops Q S ops.size (Array.replicate ops.size false) a w.drew) : (Code.region id ops true).wpIn (Fence.wide.inRound l) n P Q a w :=
  wpIn_region_any hm (wpAny_inRound l n hL hd _ _ _ _ (wpAny_of_G _ _ _ _ (h hS)))

/-- No statement of a region defers. -/
def noDefer (ops : Array Oper) : Bool := ops.all fun o => match o.op with
  | .defer _ => false
  | _ => true
theorem noDefer_spec {ops : Array Oper} (h : noDefer ops = true) : ∀ o ∈ ops, ∀ c, o.op ≠ .defer c := by
  intro o ho c e
  have h1 := Array.all_eq_true'.1 h o ho
  rw [e] at h1
  cases h1

/-- Two conditions that hold until two operations have come up; one that always holds. -/
def Upto2 (k1 : Nat) (T1 : World → Prop) (k2 : Nat) (T2 : World → Prop) (U : World → Prop) (listed : Array Bool) (w : World) : Prop := (listed.getD k1 true = false → T1 w) ∧ (listed.getD k2 true = false → T2 w) ∧ U w
theorem Upto2.ins {k1 k2 i : Nat} (h1 : i ≠ k1) (h2 : i ≠ k2) (T1 T2 U : World → Prop) (listed : Array Bool) (w : World) : Upto2 k1 T1 k2 T2 U (listed.setIfInBounds i true) w ↔ Upto2 k1 T1 k2 T2 U listed w := by
  unfold Upto2
  rw [getD_set_ne true h1, getD_set_ne true h2]
theorem Till.fst {k1 k2 i : Nat} {T1 T2 U : World → Prop} {w : World} (h : Till md ops (Upto2 k1 T1 k2 T2 U) i w) (hw : waits md ops k1 i = true) : T1 w := by
  obtain ⟨li, hu, h1, _⟩ := h
  exact h1 (hu k1 hw)
theorem Till.snd {k1 k2 i : Nat} {T1 T2 U : World → Prop} {w : World} (h : Till md ops (Upto2 k1 T1 k2 T2 U) i w) (hw : waits md ops k2 i = true) : T2 w := by
  obtain ⟨li, hu, _, h1, _⟩ := h
  exact h1 (hu k2 hw)
theorem Till.always {k1 k2 i : Nat} {T1 T2 U : World → Prop} {w : World} (h : Till md ops (Upto2 k1 T1 k2 T2 U) i w) : U w := by
  obtain ⟨li, _, _, _, h1⟩ := h
  exact h1
end
end Go.Proofs.YtblklgcpobbfcaaGreatDoor
