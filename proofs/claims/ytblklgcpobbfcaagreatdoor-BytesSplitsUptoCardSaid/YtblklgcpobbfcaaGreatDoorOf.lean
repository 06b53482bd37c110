/- What splitted returns, whatever the code of at most 60000 bytes. Conditions: none. -/
import Derived.Test.YtblklgcpobbfcaaGreatDoorOe
import Derived.Test.YtblklgcpobbfcaaGreatDoorOa
import Derived.Deep.AppendLies
set_option linter.all false
namespace Go.Proofs.YtblklgcpobbfcaaGreatDoor
open Go.Eng Go.RowKit
set_option maxRecDepth 1000000

theorem own_at {w w' : World} {base : Nat} {e : TypeId} {size n : Nat} {v : Value} {xs : List Value} (h : w.ownsRow base e size v n xs) (hs : ∀ k, base ≤ k → k < w.heap.size → w'.heap[k]? = w.heap[k]?) : w'.ownsRow base e size v n xs := by
  obtain ⟨h0, h1 | ⟨g, cap, cur, rfl, hb, hg, hr⟩⟩ := h
  · exact ⟨h0, .inl h1⟩
  · exact ⟨h0, .inr ⟨g, cap, cur, rfl, hb, (hs g hb (Array.getElem?_eq_some_iff.1 hg).1).trans hg, hr⟩⟩
theorem own_base {w : World} {base base' : Nat} {e : TypeId} {size n : Nat} {v : Value} {xs : List Value} (h : w.ownsRow base e size v n xs) (hb : base' ≤ base) : w.ownsRow base' e size v n xs := by
  obtain ⟨h0, h1 | ⟨g, cap, cur, rfl, hb', hg, hr⟩⟩ := h
  · exact ⟨h0, .inl h1⟩
  · exact ⟨h0, .inr ⟨g, cap, cur, rfl, Nat.le_trans hb hb', hg, hr⟩⟩
/-- A row lies in no block of other elements. -/
theorem own_ne {w : World} {base : Nat} {e e' : TypeId} {size n q : Nat} {v : Value} {xs : List Value} {cs : Array Value} {fr : Nat × Nat} (h : w.ownsRow base e size v n xs) (hq : w.heap[q]? = some (.cells cs e' fr)) (he : e ≠ e') : v.ownBlock ≠ some q := by
  obtain ⟨h0, ⟨rfl, _⟩ | ⟨g, cap, cur, rfl, hb, hg, hr⟩⟩ := h
  · simp [Value.ownBlock]
  · intro e1
    simp only [Value.ownBlock, Option.some.injEq] at e1
    rw [e1, hq] at hg
    cases hg
    exact he rfl
theorem own_high {w : World} {base : Nat} {e : TypeId} {size n q : Nat} {v : Value} {xs : List Value} (h : w.ownsRow base e size v n xs) (hq : q < base) : v.ownBlock ≠ some q := fun e1 => by
  have := (h.lt q e1).1
  omega

/-- The boxes of the lists, of the error and of its place. -/
structure Bxs (s : Nat) (w : World) (vl va : Value) (e n : Int) (W : World) : Prop where
  l : W.heap[s]? = some (.cells #[vl] 39 (0, 0))
  a : W.heap[s + 1]? = some (.cells #[va] 50 (0, 0))
  e : Bx1 W (s + 2) 22 e
  n : Bx1 W (s + 3) 3 n
  bel : Below s w W
section
variable {s : Nat} {w : World} {C : Nat → Int} {pre : List Nat} {vl va : Value} {W W' : World} {e n : Int}
theorem Bxs.sz (h : Bxs s w vl va e n W) : s + 4 ≤ W.heap.size := (Array.getElem?_eq_some_iff.1 h.n).1
theorem Bxs.kept (h : Bxs s w vl va e n W) (ho : W'.os = W.os) (ht : W'.tape = W.tape) (hu : W'.output = W.output) (hz : W.heap.size ≤ W'.heap.size)
    (hk : ∀ k, k < s + 4 → W'.heap[k]? = W.heap[k]?) : Bxs s w vl va e n W' := by
  exact ⟨(hk s (by omega)).trans h.l, (hk (s + 1) (by omega)).trans h.a, (hk (s + 2) (by omega)).trans h.e, (hk (s + 3) (by omega)).trans h.n,
    h.bel.trans ⟨ho, ht, hu, hz, fun k hk' => hk k (by omega)⟩⟩
theorem Bxs.grown {r : Option Nat} (h : Bxs s w vl va e n W) (hg : W.grownBy W' r) (hr : ∀ k, r = some k → s + 4 ≤ k) : Bxs s w vl va e n W' := by
  have := h.sz
  exact h.kept hg.os hg.tape hg.output hg.size fun k hk => hg.block k (by omega) (fun e => by have := hr k e.symm; omega)
theorem Bxs.setl (h : Bxs s w vl va e n W) (v : Value) : Bxs s w v va e n (W.setCell ⟨s, 0, none⟩ v) := by
  have o : ∀ k, k ≠ s → (W.setCell ⟨s, 0, none⟩ v).heap[k]? = W.heap[k]? := fun k hk => Below.heap_setCell W ⟨s, 0, none⟩ v k hk
  refine ⟨?_, (o _ (by omega)).trans h.a, (o _ (by omega)).trans h.e, (o _ (by omega)).trans h.n, h.bel.setCell (p := ⟨s, 0, none⟩) (Nat.le_refl _) _⟩
  simp only [World.setCell, Array.getElem?_modify, h.l]
  rfl
theorem Bxs.seta (h : Bxs s w vl va e n W) (v : Value) : Bxs s w vl v e n (W.setCell ⟨s + 1, 0, none⟩ v) := by
  have o : ∀ k, k ≠ s + 1 → (W.setCell ⟨s + 1, 0, none⟩ v).heap[k]? = W.heap[k]? := fun k hk => Below.heap_setCell W ⟨s + 1, 0, none⟩ v k hk
  refine ⟨(o _ (by omega)).trans h.l, ?_, (o _ (by omega)).trans h.e, (o _ (by omega)).trans h.n, h.bel.setCell (p := ⟨s + 1, 0, none⟩) (Nat.le_succ _) _⟩
  simp only [World.setCell, Array.getElem?_modify, h.a]
  rfl
theorem Bxs.sete (h : Bxs s w vl va e n W) (v : Int) : Bxs s w vl va v n (W.setCell ⟨s + 2, 0, none⟩ (.int .i64 v)) := by
  have o : ∀ k, k ≠ s + 2 → (W.setCell ⟨s + 2, 0, none⟩ (.int .i64 v)).heap[k]? = W.heap[k]? := fun k hk => Below.heap_setCell W ⟨s + 2, 0, none⟩ _ k hk
  refine ⟨(o _ (by omega)).trans h.l, (o _ (by omega)).trans h.a, ?_, (o _ (by omega)).trans h.n, h.bel.setCell (p := ⟨s + 2, 0, none⟩) (by show s ≤ s + 2; omega) _⟩
  have := h.e
  unfold Bx1 at this ⊢
  simp only [World.setCell, Array.getElem?_modify, this]
  rfl
theorem Bxs.setn (h : Bxs s w vl va e n W) (v : Int) : Bxs s w vl va e v (W.setCell ⟨s + 3, 0, none⟩ (.int .i64 v)) := by
  have o : ∀ k, k ≠ s + 3 → (W.setCell ⟨s + 3, 0, none⟩ (.int .i64 v)).heap[k]? = W.heap[k]? := fun k hk => Below.heap_setCell W ⟨s + 3, 0, none⟩ _ k hk
  refine ⟨(o _ (by omega)).trans h.l, (o _ (by omega)).trans h.a, (o _ (by omega)).trans h.e, ?_, h.bel.setCell (p := ⟨s + 3, 0, none⟩) (by show s ≤ s + 3; omega) _⟩
  have := h.n
  unfold Bx1 at this ⊢
  simp only [World.setCell, Array.getElem?_modify, this]
  rfl
theorem Bxs.cells (h : Bxs s w vl va e n W) :
    (W.cell? ⟨s, 0, none⟩ = some vl ∧ W.cell? ⟨s + 1, 0, none⟩ = some va ∧ W.cell? ⟨s + 2, 0, none⟩ = some (.int .i64 e) ∧ W.cell? ⟨s + 3, 0, none⟩ = some (.int .i64 n)) ∧
    W.frozen? ⟨s, 0, none⟩ = false ∧ W.frozen? ⟨s + 1, 0, none⟩ = false ∧ W.frozen? ⟨s + 2, 0, none⟩ = false ∧ W.frozen? ⟨s + 3, 0, none⟩ = false := by
  have e1 := h.l
  have e2 := h.a
  have e3 := h.e.cell
  have e4 := h.n.cell
  refine ⟨⟨?_, ?_, e3.1, e4.1⟩, ?_, ?_, e3.2, e4.2⟩
  all_goals first
    | (simp only [World.cell?, e1]; rfl)
    | (simp only [World.frozen?, e1]; rfl)
    | (simp only [World.cell?, e2]; rfl)
    | (simp only [World.frozen?, e2]; rfl)
/-- Between two rounds. -/
structure Rnd (s : Nat) (w : World) (C : Nat → Int) (pre : List Nat) (vl va : Value) (W : World) : Prop where
  b : Bxs s w vl va 0 0 W
  ol : OwnI W (s + 8) vl C pre
  oa : OwnN W (s + 8) va pre
theorem Rnd.grown {r : Nat} (h : Rnd s w C pre vl va W) (hg : W.grownBy W' (some r)) (h1 : s + 4 ≤ r) (h2 : r < s + 8) : Rnd s w C pre vl va W' :=
  ⟨h.b.grown hg (fun k e => by have := Option.some.inj e; omega), h.ol.kept hg (.inr (own_high h.ol h2)), h.oa.kept hg (.inr (own_high h.oa h2))⟩
theorem Rnd.below (h : Rnd s w C pre vl va W) (hb : Below W.heap.size W W') : Rnd s w C pre vl va W' :=
  ⟨h.b.grown (grown_below hb none) (fun k e => by cases e), own_at h.ol (fun k _ hl => hb.block k hl), own_at h.oa (fun k _ hl => hb.block k hl)⟩
theorem Rnd.setl (h : Rnd s w C pre vl va W) : Rnd s w C pre vl va (W.setCell ⟨s, 0, none⟩ vl) :=
  ⟨h.b.setl vl, h.ol.kept (grown_set _ _ _ _) (.inr (own_high h.ol (by omega))), h.oa.kept (grown_set _ _ _ _) (.inr (own_high h.oa (by omega)))⟩
theorem Rnd.seta (h : Rnd s w C pre vl va W) : Rnd s w C pre vl va (W.setCell ⟨s + 1, 0, none⟩ va) :=
  ⟨h.b.seta va, h.ol.kept (grown_set _ _ _ _) (.inr (own_high h.ol (by omega))), h.oa.kept (grown_set _ _ _ _) (.inr (own_high h.oa (by omega)))⟩
theorem Rnd.sete (h : Rnd s w C pre vl va W) : Rnd s w C pre vl va (W.setCell ⟨s + 2, 0, none⟩ (.int .i64 0)) :=
  ⟨h.b.sete 0, h.ol.kept (grown_set _ _ _ _) (.inr (own_high h.ol (by omega))), h.oa.kept (grown_set _ _ _ _) (.inr (own_high h.oa (by omega)))⟩
theorem Rnd.setn (h : Rnd s w C pre vl va W) : Rnd s w C pre vl va (W.setCell ⟨s + 3, 0, none⟩ (.int .i64 0)) :=
  ⟨h.b.setn 0, h.ol.kept (grown_set _ _ _ _) (.inr (own_high h.ol (by omega))), h.oa.kept (grown_set _ _ _ _) (.inr (own_high h.oa (by omega)))⟩
end

/-- The four boxes and the code's box. -/
abbrev bx5 (w : World) (ad : Option Addr) (n cap : Nat) : World := ((((w.alloc (.cells #[.slice none 0 0] 39)).alloc (.cells #[.slice none 0 0] 50)).alloc (.cells #[.int .i64 0] 22)).alloc (.cells #[.int .i64 0] 3)).alloc (.cells #[.slice ad n cap] 40)
theorem bx5_size (w : World) (ad : Option Addr) (n cap : Nat) : (bx5 w ad n cap).heap.size = w.heap.size + 5 := by simp
theorem bx5_below (w : World) (ad : Option Addr) (n cap : Nat) : Below w.heap.size w (bx5 w ad n cap) :=
  (((((Below.refl _ w).alloc (Nat.le_refl _) _).alloc (by simp) _).alloc (by simp; omega) _).alloc (by simp; omega) _).alloc (by simp; omega) _
theorem bx5_heap (w : World) (ad : Option Addr) (n cap : Nat) :
    (bx5 w ad n cap).heap[w.heap.size]? = some (.cells #[.slice none 0 0] 39 (0, 0)) ∧ (bx5 w ad n cap).heap[w.heap.size + 1]? = some (.cells #[.slice none 0 0] 50 (0, 0)) ∧
    (bx5 w ad n cap).heap[w.heap.size + 2]? = some (.cells #[.int .i64 0] 22 (0, 0)) ∧ (bx5 w ad n cap).heap[w.heap.size + 3]? = some (.cells #[.int .i64 0] 3 (0, 0)) ∧
    (bx5 w ad n cap).heap[w.heap.size + 4]? = some (.cells #[.slice ad n cap] 40 (0, 0)) := by
  have key : ∀ (v : World) (o : Obj) (k : Nat), v.heap.size = k → (v.alloc o).heap[k]? = some o ∧ (v.alloc o).heap.size = k + 1 := fun v o k e => by
    subst e
    exact ⟨World.alloc_heap_new v o, World.size_alloc v o⟩
  have old : ∀ (v : World) (o : Obj) (k : Nat), k < v.heap.size → (v.alloc o).heap[k]? = v.heap[k]? := fun v o k h => Below.heap_alloc v o k h
  unfold bx5
  obtain ⟨a1, s1⟩ := key w (.cells #[.slice none 0 0] 39) _ rfl
  generalize w.alloc (.cells #[.slice none 0 0] 39) = w1 at *
  obtain ⟨a2, s2⟩ := key w1 (.cells #[.slice none 0 0] 50) _ s1
  have b1 := old w1 (.cells #[.slice none 0 0] 50) w.heap.size (by omega)
  generalize w1.alloc (.cells #[.slice none 0 0] 50) = w2 at *
  obtain ⟨a3, s3⟩ := key w2 (.cells #[.int .i64 0] 22) _ s2
  have b2 := old w2 (.cells #[.int .i64 0] 22) w.heap.size (by omega)
  have c2 := old w2 (.cells #[.int .i64 0] 22) (w.heap.size + 1) (by omega)
  generalize w2.alloc (.cells #[.int .i64 0] 22) = w3 at *
  obtain ⟨a4, s4⟩ := key w3 (.cells #[.int .i64 0] 3) _ s3
  have b3 := old w3 (.cells #[.int .i64 0] 3) w.heap.size (by omega)
  have c3 := old w3 (.cells #[.int .i64 0] 3) (w.heap.size + 1) (by omega)
  have d3 := old w3 (.cells #[.int .i64 0] 3) (w.heap.size + 2) (by omega)
  generalize w3.alloc (.cells #[.int .i64 0] 3) = w4 at *
  obtain ⟨a5, s5⟩ := key w4 (.cells #[.slice ad n cap] 40) _ s4
  have b4 := old w4 (.cells #[.slice ad n cap] 40) w.heap.size (by omega)
  have c4 := old w4 (.cells #[.slice ad n cap] 40) (w.heap.size + 1) (by omega)
  have d4 := old w4 (.cells #[.slice ad n cap] 40) (w.heap.size + 2) (by omega)
  have e4 := old w4 (.cells #[.slice ad n cap] 40) (w.heap.size + 3) (by omega)
  exact ⟨b4.trans (b3.trans (b2.trans (b1.trans a1))), c4.trans (c3.trans (c2.trans a2)), d4.trans (d3.trans a3), e4.trans a4, a5⟩
theorem bx5_rnd (w : World) (ad : Option Addr) (n cap : Nat) (C : Nat → Int) : Rnd w.heap.size w C [] (.slice none 0 0) (.slice none 0 0) (bx5 w ad n cap) := by
  obtain ⟨h1, h2, h3, h4, _⟩ := bx5_heap w ad n cap
  exact ⟨⟨h1, h2, h3, h4, bx5_below w ad n cap⟩, World.ownsRow_nil _ _ _ _, World.ownsRow_nil _ _ _ _⟩
theorem bx5_stay {w : World} {g off n cap : Nat} {C : Nat → Int} (hg : Gl w) (hc : CodeAt w g off n C) : Stay w.heap.size (w.heap.size + 4) g off n cap C (bx5 w (some ⟨g, off, none⟩) n cap) := by
  obtain ⟨_, _, _, h1, _⟩ := id hg
  have h0 : 0 < w.heap.size := (Array.getElem?_eq_some_iff.1 h1).1
  refine ⟨hg.below (bx5_below w (some ⟨g, off, none⟩) n cap), hc.below (bx5_below w (some ⟨g, off, none⟩) n cap) hc.lt, (bx5_heap w (some ⟨g, off, none⟩) n cap).2.2.2.2, h0, hc.lt, by rw [bx5_size]; omega⟩

/-- A loop variable's box. -/
def XB (s : Nat) (C : Nat → Int) (x : Nat) (X : Nat) (W : World) : Prop :=
  s + 8 ≤ X ∧ W.heap[X]? = some (.cells #[.int .i64 (opA C x), .int .i64 (xA C x 0), .int .i64 (xA C x 1), .int .i64 (xA C x 2), .int .i64 (xA C x 3), .int .i64 (xA C x 4), .int .i64 (xA C x 5), .int .i64 (xA C x 6)] 38 (0, 0)) ∧
    ∀ v : Value, W.heap[s]? = some (.cells #[v] 39 (0, 0)) → v.ownBlock ≠ some X
theorem XB.grown {s : Nat} {C : Nat → Int} {x X : Nat} {A B : World} (h : XB s C x X A) (hg : A.grownBy B (some (s + 6))) (hs : s + 8 ≤ A.heap.size) : XB s C x X B := by
  obtain ⟨h1, h2, h3⟩ := h
  refine ⟨h1, (hg.block X (Array.getElem?_eq_some_iff.1 h2).1 (fun e => by have := Option.some.inj e; omega)).trans h2, fun v hv => h3 v ?_⟩
  rw [hg.block s (by omega) (fun e => by have := Option.some.inj e; omega)] at hv
  exact hv

/-- Within a round: the boxes as they were at its beginning, and the loop variable's. -/
structure Mid (s : Nat) (w W0 : World) (C : Nat → Int) (x X : Nat) (vl va : Value) (W : World) : Prop where
  b : Bxs s w vl va 0 0 W
  x : W.heap[X]? = some (.cells #[.int .i64 (opA C x), .int .i64 (xA C x 0), .int .i64 (xA C x 1), .int .i64 (xA C x 2), .int .i64 (xA C x 3), .int .i64 (xA C x 4), .int .i64 (xA C x 5), .int .i64 (xA C x 6)] 38 (0, 0))
  k : KeepOn (fun k => (k < s ∨ k = s + 4) ∨ k = s + 5 ∨ k = s + 5 + 1 ∨ k = s + 5 + 2) W0 W
  hX : s + 8 ≤ X
  sz : s + 8 ≤ W.heap.size
section
variable {s : Nat} {w W0 : World} {C : Nat → Int} {x X : Nat} {vl va : Value} {W W' : World}
theorem Mid.grown {r : Option Nat} (h : Mid s w W0 C x X vl va W) (hg : W.grownBy W' r) (hr : ∀ k, r = some k → s + 8 ≤ k) (hx : r ≠ some X) : Mid s w W0 C x X vl va W' :=
  ⟨h.b.grown hg (fun k e => by have := hr k e; omega), (hg.block X (Array.getElem?_eq_some_iff.1 h.x).1 (fun e => hx e.symm)).trans h.x,
    h.k.trans (KeepOn.of_grown hg (fun k e hk => by have := hr k e; omega)), h.hX, Nat.le_trans h.sz hg.size⟩
theorem Mid.alloc (h : Mid s w W0 C x X vl va W) (o : Obj) : Mid s w W0 C x X vl va (W.alloc o) := h.grown (grown_below ((Below.refl _ _).alloc (Nat.le_refl _) _) none) (fun k e => by cases e) (by simp)
theorem Mid.cells (h : Mid s w W0 C x X vl va W) : W.cell? ⟨X, 0, none⟩ = some (.int .i64 (opA C x)) ∧ W.cell? ⟨X, 1, none⟩ = some (.int .i64 (xA C x 0)) ∧ W.cell? ⟨X, 2, none⟩ = some (.int .i64 (xA C x 1)) ∧ W.cell? ⟨X, 3, none⟩ = some (.int .i64 (xA C x 2)) ∧ W.cell? ⟨X, 4, none⟩ = some (.int .i64 (xA C x 3)) ∧ W.cell? ⟨X, 5, none⟩ = some (.int .i64 (xA C x 4)) ∧ W.cell? ⟨X, 6, none⟩ = some (.int .i64 (xA C x 5)) ∧ W.cell? ⟨X, 7, none⟩ = some (.int .i64 (xA C x 6)) := by
  have e := h.x
  refine ⟨?_, ?_, ?_, ?_, ?_, ?_, ?_, ?_⟩
  all_goals (simp only [World.cell?, e]; rfl)
/-- The condition of the region. -/
abbrev SC (s : Nat) (w W0 : World) (C : Nat → Int) (x X : Nat) (vl va : Value) : Array Bool → World → Prop :=
  Upto2 8 (fun W => W.cell? ⟨s, 0, none⟩ = some vl) 9 (fun W => W.cell? ⟨s + 1, 0, none⟩ = some va) (fun W => W.heap[X]? = some (.cells #[.int .i64 (opA C x), .int .i64 (xA C x 0), .int .i64 (xA C x 1), .int .i64 (xA C x 2), .int .i64 (xA C x 3), .int .i64 (xA C x 4), .int .i64 (xA C x 5), .int .i64 (xA C x 6)] 38 (0, 0)))
theorem Mid.sc (h : Mid s w W0 C x X vl va W) (li : Array Bool) : SC s w W0 C x X vl va li W := ⟨fun _ => h.b.cells.1.1, fun _ => h.b.cells.1.2.1, h.x⟩
theorem xcells {W : World} (e : W.heap[X]? = some (.cells #[.int .i64 (opA C x), .int .i64 (xA C x 0), .int .i64 (xA C x 1), .int .i64 (xA C x 2), .int .i64 (xA C x 3), .int .i64 (xA C x 4), .int .i64 (xA C x 5), .int .i64 (xA C x 6)] 38 (0, 0))) : W.cell? ⟨X, 0, none⟩ = some (.int .i64 (opA C x)) ∧ W.cell? ⟨X, 1, none⟩ = some (.int .i64 (xA C x 0)) ∧ W.cell? ⟨X, 2, none⟩ = some (.int .i64 (xA C x 1)) ∧ W.cell? ⟨X, 3, none⟩ = some (.int .i64 (xA C x 2)) ∧ W.cell? ⟨X, 4, none⟩ = some (.int .i64 (xA C x 3)) ∧ W.cell? ⟨X, 5, none⟩ = some (.int .i64 (xA C x 4)) ∧ W.cell? ⟨X, 6, none⟩ = some (.int .i64 (xA C x 5)) ∧ W.cell? ⟨X, 7, none⟩ = some (.int .i64 (xA C x 6)) := by
  refine ⟨?_, ?_, ?_, ?_, ?_, ?_, ?_, ?_⟩
  all_goals (simp only [World.cell?, e]; rfl)
end
theorem info38 : (Tryz.prog.info? 38).map (fun i => (i.zero, i.size, i.bytes)) = some (some (.agg #[.int .i64 0, .int .i64 0, .int .i64 0, .int .i64 0, .int .i64 0, .int .i64 0, .int .i64 0, .int .i64 0]), 8, 64) := by kernel_rfl
theorem info3 : (Tryz.prog.info? 3).map (fun i => (i.zero, i.size, i.bytes)) = some (some (.int .i64 0), 1, 8) := by kernel_rfl

theorem Gl.at0 {w w' : World} (h : Gl w) (e : w'.heap[0]? = w.heap[0]?) : Gl w' := by
  obtain ⟨a, b, l, h1, h2⟩ := h
  exact ⟨a, b, l, e.trans h1, h2⟩
theorem Beside.kept {s : Nat} {w : World} {vl va : Value} {W W' : World} {e n e' n' : Int} (hb : Beside (s + 2) (s + 3) W W') (h : Bxs s w vl va e n W) (he : W'.cell? ⟨s + 2, 0, none⟩ = some (.int .i64 e')) (hn : W'.cell? ⟨s + 3, 0, none⟩ = some (.int .i64 n')) :
    W'.heap[s]? = some (.cells #[vl] 39 (0, 0)) ∧ W'.heap[s + 1]? = some (.cells #[va] 50 (0, 0)) ∧ Below s w W' := by
  have hz := h.sz
  exact ⟨(hb.rest s (by omega) (by omega) (by omega)).trans h.l, (hb.rest (s + 1) (by omega) (by omega) (by omega)).trans h.a, h.bel.trans ⟨hb.os, hb.tape, hb.output, hb.size, fun k hk => hb.rest k (by omega) (by omega) (by omega)⟩⟩
theorem one_cells {W : World} {B : Nat} {v : Value} {t : TypeId} (h : W.heap[B]? = some (.cells #[v] t (0, 0))) : W.cell? ⟨B, 0, none⟩ = some v ∧ W.frozen? ⟨B, 0, none⟩ = false := by
  refine ⟨?_, ?_⟩
  all_goals first
    | (simp only [World.cell?, h]; rfl)
    | (simp only [World.frozen?, h]; rfl)

abbrev defs42 (s : Nat) : List Deferred := [{ target := Target.collected (s + 5), args := #[] },
  { target := Target.fn (Fn.func 55) #[], args := #[.pointer (some ⟨s + 2, 0, none⟩), .pointer (some ⟨s + 3, 0, none⟩)] },
  { target := Target.fn (Fn.func 79) #[.pointer (some ⟨s + 2, 0, none⟩), .pointer (some ⟨s, 0, none⟩), .pointer (some ⟨s + 1, 0, none⟩)], args := #[] }]

/-- The door, where the body has returned. -/
theorem door_ok {s : Nat} {w W : World} {C : Nat → Int} {L : List Nat} {vl va : Value} {tmps : Array Value} {R : Ending → World → Prop} (h2 : tmps[2]? = some (.pointer (some ⟨s, 0, none⟩))) (h3 : tmps[3]? = some (.pointer (some ⟨s + 1, 0, none⟩))) (h4 : tmps[4]? = some (.pointer (some ⟨s + 2, 0, none⟩))) (h5 : tmps[5]? = some (.pointer (some ⟨s + 3, 0, none⟩)))
    (hr : Rnd s w C L vl va W) (hD : W.heap[s + 5]? = some (.deferred (some []))) (hg : Gl W) (h0 : 0 < s) (hR : ∀ W', Below s w W' → OwnI W' s vl C L → OwnN W' s va L → R (.returned (.tuple #[vl, va, .int .i64 0, .int .i64 0])) W') :
    LeavesM Tryz.prog Tryz.f42 tmps R (defs42 s) .returning W := by
  refine leavesM_mark (by simp) hD ?_
  have hr1 : Rnd s w C L vl va (W.putObj (s + 5) (.deferred none)) := hr.grown (grownBy_putObj' W _ _) (by omega) (by omega)
  have hg1 : Gl (W.putObj (s + 5) (.deferred none)) := hg.at0 (World.putObj_heap_other (by omega))
  generalize W.putObj (s + 5) (.deferred none) = W1 at *
  refine leavesM_call (f := 55) (args := #[.pointer (some ⟨s + 2, 0, none⟩), .pointer (some ⟨s + 3, 0, none⟩)]) (by simp) (by simp [go_sem]) ?_
  refine (caught_none W1 hg1 (s + 2) (s + 3) hr1.b.e hr1.b.n (by omega) (by omega)).mono ?_
  rintro r m' W2 ⟨⟨x, rfl⟩, rfl, hc, hc2, hb⟩
  obtain ⟨k1, k2, k3⟩ := hb.kept hr1.b hc hc2
  have hol : OwnI W2 (s + 8) vl C L := own_at hr1.ol (fun k h1 h2 => hb.rest k h2 (by omega) (by omega))
  have hoa : OwnN W2 (s + 8) va L := own_at hr1.oa (fun k h1 h2 => hb.rest k h2 (by omega) (by omega))
  show LeavesM _ _ _ _ _ (settle .returning) W2
  refine leavesM_call (f := 79) (args := #[.pointer (some ⟨s + 2, 0, none⟩), .pointer (some ⟨s, 0, none⟩), .pointer (some ⟨s + 1, 0, none⟩)]) (by simp [settle]) (by simp [go_sem]) ?_
  refine (cleanD_ok (s + 2) s (s + 1) _ W2 hc).mono ?_
  rintro r u' W3 ⟨rfl, rfl, rfl⟩
  obtain ⟨d1, _⟩ := one_cells k1
  obtain ⟨d2, _⟩ := one_cells k2
  refine ⟨.tuple #[vl, va, .int .i64 0, .int .i64 0], ?_, hR W3 k3 (own_base hol (by omega)) (own_base hoa (by omega))⟩
  simp [results, Tryz.results42, go_sem, h2, h3, h4, h5, d1, d2, hc, hc2]

/-- The door, where the iterator has panicked. -/
theorem door_pan {s : Nat} {w W : World} {C : Nat → Int} {L : List Nat} {vl va : Value} {tmps : Array Value} {R : Ending → World → Prop} {a : Int} (h2 : tmps[2]? = some (.pointer (some ⟨s, 0, none⟩))) (h3 : tmps[3]? = some (.pointer (some ⟨s + 1, 0, none⟩))) (h4 : tmps[4]? = some (.pointer (some ⟨s + 2, 0, none⟩))) (h5 : tmps[5]? = some (.pointer (some ⟨s + 3, 0, none⟩)))
    (hr : Rnd s w C L vl va W) (hD : W.heap[s + 5]? = some (.deferred (some []))) (hg : Gl W) (h0 : 0 < s) (hR : ∀ W', Below s w W' → R (.returned (.tuple #[.slice none 0 0, .slice none 0 0, .int .i64 6, .int .i64 a])) W') :
    LeavesM Tryz.prog Tryz.f42 tmps R (defs42 s) (.panicking [{ v := failV 6 a, recovered := false }]) W := by
  obtain ⟨al, cl, rfl⟩ := own_form hr.ol
  obtain ⟨aa, ca, rfl⟩ := own_form hr.oa
  refine leavesM_mark (by simp) hD ?_
  have hr1 : Rnd s w C L (.slice al L.length cl) (.slice aa L.length ca) (W.putObj (s + 5) (.deferred none)) := hr.grown (grownBy_putObj' W _ _) (by omega) (by omega)
  have hg1 : Gl (W.putObj (s + 5) (.deferred none)) := hg.at0 (World.putObj_heap_other (by omega))
  generalize W.putObj (s + 5) (.deferred none) = W1 at *
  refine leavesM_call (f := 55) (args := #[.pointer (some ⟨s + 2, 0, none⟩), .pointer (some ⟨s + 3, 0, none⟩)]) (by simp) (by simp [go_sem]) ?_
  refine (caught_panic W1 hg1 (s + 2) (s + 3) hr1.b.e hr1.b.n (by omega) (by omega) 6 a).mono ?_
  rintro r m' W2 ⟨⟨x, rfl⟩, rfl, hc, hc2, hb⟩
  obtain ⟨k1, k2, k3⟩ := hb.kept hr1.b hc hc2
  obtain ⟨d1, f1⟩ := one_cells k1
  obtain ⟨d2, f2⟩ := one_cells k2
  show LeavesM _ _ _ _ _ (settle (.panicking [{ v := failV 6 a, recovered := true }])) W2
  refine leavesM_call (f := 79) (args := #[.pointer (some ⟨s + 2, 0, none⟩), .pointer (some ⟨s, 0, none⟩), .pointer (some ⟨s + 1, 0, none⟩)]) (by simp [settle]) (by simp [go_sem]) ?_
  refine (cleanD_no (s + 2) s (s + 1) 6 _ _ _ W2 hc (by decide) d1 d2 f1 f2 (by intro e; have := congrArg Addr.block e; simp at this)).mono ?_
  rintro r u' W3 ⟨rfl, rfl, rfl⟩
  have o1 : ((W2.setCell ⟨s, 0, none⟩ (.slice none 0 0)).setCell ⟨s + 1, 0, none⟩ (.slice none 0 0)).heap[s]? = some (.cells #[.slice none 0 0] 39 (0, 0)) := by
    simp only [World.setCell, Array.getElem?_modify, k1]
    rw [if_neg (by omega)]
    rfl
  have o2 : ((W2.setCell ⟨s, 0, none⟩ (.slice none 0 0)).setCell ⟨s + 1, 0, none⟩ (.slice none 0 0)).heap[s + 1]? = some (.cells #[.slice none 0 0] 50 (0, 0)) := by
    simp only [World.setCell, Array.getElem?_modify, k2]
    rw [if_pos trivial, if_neg (by omega)]
    rfl
  have o3 : ∀ k, k ≠ s → k ≠ s + 1 → ((W2.setCell ⟨s, 0, none⟩ (.slice none 0 0)).setCell ⟨s + 1, 0, none⟩ (.slice none 0 0)).heap[k]? = W2.heap[k]? := fun k h1 h2 =>
    (Below.heap_setCell _ ⟨s + 1, 0, none⟩ _ k h2).trans (Below.heap_setCell _ ⟨s, 0, none⟩ _ k h1)
  have o4 : ((W2.setCell ⟨s, 0, none⟩ (.slice none 0 0)).setCell ⟨s + 1, 0, none⟩ (.slice none 0 0)).cell? ⟨s + 2, 0, none⟩ = some (.int .i64 6) := (World.cell?_of_block (o3 _ (by show s + 2 ≠ s; omega) (by show s + 2 ≠ s + 1; omega))).trans hc
  have o5 : ((W2.setCell ⟨s, 0, none⟩ (.slice none 0 0)).setCell ⟨s + 1, 0, none⟩ (.slice none 0 0)).cell? ⟨s + 3, 0, none⟩ = some (.int .i64 a) := (World.cell?_of_block (o3 _ (by show s + 3 ≠ s; omega) (by show s + 3 ≠ s + 1; omega))).trans hc2
  obtain ⟨p1, _⟩ := one_cells o1
  obtain ⟨p2, _⟩ := one_cells o2
  refine ⟨.tuple #[.slice none 0 0, .slice none 0 0, .int .i64 6, .int .i64 a], ?_, hR _ ((k3.setCell (p := ⟨s, 0, none⟩) (Nat.le_refl _) _).setCell (p := ⟨s + 1, 0, none⟩) (Nat.le_succ _) _)⟩
  simp [results, Tryz.results42, go_sem, h2, h3, h4, h5, p1, p2, o4, o5]

/-- A piece that goes on, where nothing else can come of it. -/
theorem wp_calm {P : Program} {c : Code} {K : Act → World → Prop} {Q : Exit → Act → World → Prop} {a : Act} {w : World} (hQ : ∀ a w, K a w → Q .normal a w) (h : c.wp P (Exit.then K (fun _ _ _ => False)) a w) : c.wp P Q a w := by
  refine (wpIn_wide (n := 0)).1 (wpIn_mono ((wpIn_wide (n := 0)).2 h) ?_)
  rintro e a w h
  cases e with
  | normal => exact hQ a w h
  | exit id => exact h.elim
  | goto t => exact h.elim
  | ret => exact h.elim
  | panic ch => exact h.elim
  | outgrown => exact h.elim

attribute [local go_sem] Oper.semAt_some wide_fn wide_depth

set_option maxHeartbeats 4000000 in
theorem split42 (ad : Option Addr) (n cap : Nat) (C : Nat → Int) (w : World) (hg : Gl w) (hc : n = 0 ∨ ∃ g off, ad = some ⟨g, off, none⟩ ∧ CodeAt w g off n C) (hn : n ≤ 60000) :
    Calls Tryz.prog 42 #[.slice ad n cap] w fun e w' => Below w.heap.size w w' ∧
      ((∃ L vl va, Seg C n 0 L n ∧ e = .returned (.tuple #[vl, va, .int .i64 0, .int .i64 0]) ∧ OwnI w' w.heap.size vl C L ∧ OwnN w' w.heap.size va L) ∨
       (∃ (L : List Nat) (b : Nat), Seg C n 0 L b ∧ b < n ∧ ¬ Dec C n b ∧ e = .returned (.tuple #[.slice none 0 0, .slice none 0 0, .int .i64 6, .int .i64 b]))) := by
  have HG : Aside (Gl w) := hg
  have HR0 : Aside (Rnd w.heap.size w C [] (.slice none 0 0) (.slice none 0 0) (bx5 w ad n cap)) := bx5_rnd w ad n cap C
  have HIT : Hid (SeqPan Fence.wide 0 Tryz.prog 93 #[.pointer (some ⟨w.heap.size + 4, 0, none⟩)] (fun b : Nat => #[.int .i64 b, insA' C b]) (fun k => k < w.heap.size ∨ k = w.heap.size + 4) (fun pre b => Seg C n 0 pre b ∧ b < n ∧ Dec C n b)
      (fun xs => Seg C n 0 xs n) (fun vs xs => ∃ b, Seg C n 0 xs b ∧ b < n ∧ ¬ Dec C n b ∧ vs = [failV 6 b]) (bx5 w ad n cap)) := Lib.hid (by
    rcases hc with rfl | ⟨g, off, rfl, hc⟩
    · exact it93_nil ad cap (w.heap.size + 4) w.heap.size C _ (bx5_heap w ad 0 cap).2.2.2.2
    · exact it93 g off n cap (w.heap.size + 4) w.heap.size C _ (by omega) (bx5_stay hg hc))
  have hz : (bx5 w ad n cap).heap.size = w.heap.size + 5 := bx5_size w ad n cap
  have HI := Lib.hid fun W => instr_any ad n cap W
  clear hg hc
  refine calls_of_wp_marks Tryz.func42 rfl ?_
  simp only [Tryz.ntmps42, List.size_toArray, List.length_cons, List.length_nil, Nat.reduceAdd, Nat.reduceSub, Array.replicate_succ, Array.replicate_zero, List.push_toArray, List.append_toArray, List.nil_append, List.cons_append]
  go_wp2_with (go_at_call 52; refine (HI.out _).mono ?_; rintro e w2 ⟨rfl, rfl⟩)
  simp only [Nat.add_assoc, Nat.reduceAdd]
  show Code.wp Tryz.prog _ _ _ (bx5 w ad n cap)
  generalize bx5 w ad n cap = w5 at *
  refine (wpIn_wide (n := 1)).1 ?_
  refine wpIn_rangeFunc_pan (F := Fence.wide) (n := 1) rfl (Nat.le_refl 1) (gf := 93) (lb := #[.pointer (some ⟨w.heap.size + 4, 0, none⟩)]) rfl trivial (encs := fun b : Nat => #[Value.int .i64 b, insA' C b]) (keep := fun k => k < w.heap.size ∨ k = w.heap.size + 4) (enters_of Tryz.func93 (by kernel_rfl) rfl) HIT.out (fun _ => rfl) (fun k hk => by omega)
    (fun pre W => ∃ vl va, Rnd w.heap.size w C pre vl va W) ?hI (Or.inr ?h0)
    (fun x a W => ∃ X, a = { tmps := #[.slice ad n cap, undef, .pointer (some ⟨w.heap.size, 0, none⟩), .pointer (some ⟨w.heap.size + 1, 0, none⟩), .pointer (some ⟨w.heap.size + 2, 0, none⟩), .pointer (some ⟨w.heap.size + 3, 0, none⟩), .int .i64 x, .pointer (some ⟨X, 0, none⟩),
        .func (.func 79) #[] #[.pointer (some ⟨w.heap.size + 2, 0, none⟩), .pointer (some ⟨w.heap.size, 0, none⟩), .pointer (some ⟨w.heap.size + 1, 0, none⟩)], .slice ad n cap, itV (w.heap.size + 4), .int .i64 x, insA' C x, undef, undef, undef, undef, undef, undef, undef, undef, undef, undef], defers := [] } ∧ XB w.heap.size C x X W)
    ?hAx ?assign ?body ?done ?pan
  case hI =>
    rintro pre A B r ⟨vl, va, h⟩ hs hg hr
    exact ⟨vl, va, h.grown hg (by omega) (by omega)⟩
  case h0 =>
    intro o o'
    exact ⟨_, _, HR0.out.below (((Below.refl _ _).alloc (Nat.le_refl _) _).alloc (by simp) _)⟩
  case hAx =>
    rintro x a A B ⟨X, rfl, h⟩ hs hg
    rw [hz] at hg hs
    exact ⟨X, rfl, h.grown hg (by omega)⟩
  case assign =>
    rintro l pre x W ⟨hseg, hlt, hd⟩ ⟨vl, va, hr⟩ hs
    gi_wp2
    have hb : Below W.heap.size W (W.alloc (.cells #[.int .i64 (opA C x), .int .i64 (xA C x 0), .int .i64 (xA C x 1), .int .i64 (xA C x 2), .int .i64 (xA C x 3), .int .i64 (xA C x 4), .int .i64 (xA C x 5), .int .i64 (xA C x 6)] 38)) := (Below.refl _ _).alloc (Nat.le_refl _) _
    have hsz := hr.b.sz
    refine ⟨⟨vl, va, hr.below hb⟩, ⟨_, rfl, by omega, World.alloc_heap_new W _, fun v hv => ?_⟩, KeepOn.of_below hb (fun k _ h => h)⟩
    rw [hb.block _ (by omega), hr.b.l] at hv
    cases hv
    intro e1
    have := (hr.ol.lt _ e1).2
    omega
  case body =>
    rintro l pre x a W ⟨hseg, hlt, hd⟩ ⟨vl, va, hr⟩ ⟨X, rfl, hx1, hx2, hx3⟩ hs
    obtain ⟨al, cl, rfl⟩ := own_form hr.ol
    obtain ⟨aa, ca, rfl⟩ := own_form hr.oa
    have hpl := hseg.len
    obtain ⟨i38, hi38, hz38, hs38, hb38⟩ := info_parts info38
    obtain ⟨i3, hi3, hz3, hs3, hb3⟩ := info_parts info3
    rw [hz] at hs ⊢
    refine wpIn_block ?_
    have hdr : Below W.heap.size W W.drew := (Below.refl _ _).drew
    have HM_Wd : Aside (Mid w.heap.size w W C x X (.slice al pre.length cl) (.slice aa pre.length ca) W.drew) := ⟨(hr.below hdr).b, hx2, KeepOn.of_below hdr (fun k _ h => h), hx1, by show _ ≤ W.heap.size; omega⟩
    have HL_Wd : Aside (OwnI W.drew (w.heap.size + 8) (.slice al pre.length cl) C pre) := (hr.below hdr).ol
    have HA_Wd : Aside (OwnN W.drew (w.heap.size + 8) (.slice aa pre.length ca) pre) := (hr.below hdr).oa
    have hXl : Value.ownBlock (.slice al pre.length cl) ≠ some X := hx3 _ hr.b.l
    refine region_inRound_G (S := SC w.heap.size w W C x X (.slice al pre.length cl) (.slice aa pre.length ca)) l _ (by kernel_rfl) (by rintro ⟨_, _, h⟩; exact h) (noDefer_spec (by kernel_rfl)) (HM_Wd.out.sc _) (fun hHeld => ?_)
    clear hr hx2 hx3 hdr
    generalize W.drew = Wd at *
    refine wpAnyG_take (i := 0) (v := (.slice al pre.length cl)) rfl (by kernel_rfl) (by kernel_rfl) (by kernel_rfl) (by kernel_rfl) (Upto2.ins (by omega) (by omega) _ _ _) (fun _ _ _ h => h) (Or.inl ⟨by rfl, fun wS hSw => ?_⟩) hHeld (fun hHeld => ?_)
    · have g0 := hSw.fst (by kernel_rfl)
      first | rfl | (go_simp; done) | (go_simp; with_reducible rfl)
    try simp only [Act.put, List.getElem_toArray, List.getElem_cons_zero, List.getElem_cons_succ, List.setIfInBounds_toArray, List.set_cons_zero, List.set_cons_succ]
    refine wpAnyG_take (i := 1) (v := (insA' C x)) rfl (by kernel_rfl) (by kernel_rfl) (by kernel_rfl) (by kernel_rfl) (Upto2.ins (by omega) (by omega) _ _ _) (fun _ _ _ h => h) (Or.inl ⟨by rfl, fun wS hSw => ?_⟩) hHeld (fun hHeld => ?_)
    · obtain ⟨g0, g1, g2, g3, g4, g5, g6, g7⟩ := xcells hSw.always
      first | rfl | (go_simp; done) | (go_simp; with_reducible rfl)
    try simp only [Act.put, List.getElem_toArray, List.getElem_cons_zero, List.getElem_cons_succ, List.setIfInBounds_toArray, List.set_cons_zero, List.set_cons_succ]
    refine wpAnyG_take (i := 4) (v := (.slice aa pre.length ca)) rfl (by kernel_rfl) (by kernel_rfl) (by kernel_rfl) (by kernel_rfl) (Upto2.ins (by omega) (by omega) _ _ _) (fun _ _ _ h => h) (Or.inl ⟨by rfl, fun wS hSw => ?_⟩) hHeld (fun hHeld => ?_)
    · have g0 := hSw.snd (by kernel_rfl)
      first | rfl | (go_simp; done) | (go_simp; with_reducible rfl)
    try simp only [Act.put, List.getElem_toArray, List.getElem_cons_zero, List.getElem_cons_succ, List.setIfInBounds_toArray, List.set_cons_zero, List.set_cons_succ]
    refine wpAnyG_take (i := 5) (v := (.int .i64 x)) rfl (by kernel_rfl) (by kernel_rfl) (by kernel_rfl) (by kernel_rfl) (Upto2.ins (by omega) (by omega) _ _ _) (fun _ _ _ h => h) (Or.inl ⟨by rfl, fun wS hSw => ?_⟩) hHeld (fun hHeld => ?_)
    · skip
      first | rfl | (go_simp; done) | (go_simp; with_reducible rfl)
    try simp only [Act.put, List.getElem_toArray, List.getElem_cons_zero, List.getElem_cons_succ, List.setIfInBounds_toArray, List.set_cons_zero, List.set_cons_succ]
    refine wpAnyG_ready (rs := [2, 6]) (by kernel_rfl) (by simp) ?_
    refine AllReadyG.cons rfl (fun KC hC => ?_) (AllReadyG.cons rfl (fun KC hC => ?_) AllReadyG.nil)
    · go_simp
      have HM_Wa : Aside (Mid w.heap.size w W C x X (.slice al pre.length cl) (.slice aa pre.length ca) (Wd.alloc (.cells #[.int .i64 (opA C x), .int .i64 (xA C x 0), .int .i64 (xA C x 1), .int .i64 (xA C x 2), .int .i64 (xA C x 3), .int .i64 (xA C x 4), .int .i64 (xA C x 5), .int .i64 (xA C x 6)] 38))) := HM_Wd.out.alloc (.cells #[.int .i64 (opA C x), .int .i64 (xA C x 0), .int .i64 (xA C x 1), .int .i64 (xA C x 2), .int .i64 (xA C x 3), .int .i64 (xA C x 4), .int .i64 (xA C x 5), .int .i64 (xA C x 6)] 38)
      have HL_Wa : Aside (OwnI (Wd.alloc (.cells #[.int .i64 (opA C x), .int .i64 (xA C x 0), .int .i64 (xA C x 1), .int .i64 (xA C x 2), .int .i64 (xA C x 3), .int .i64 (xA C x 4), .int .i64 (xA C x 5), .int .i64 (xA C x 6)] 38)) (w.heap.size + 8) (.slice al pre.length cl) C pre) := HL_Wd.out.alloc _
      have HA_Wa : Aside (OwnN (Wd.alloc (.cells #[.int .i64 (opA C x), .int .i64 (xA C x 0), .int .i64 (xA C x 1), .int .i64 (xA C x 2), .int .i64 (xA C x 3), .int .i64 (xA C x 4), .int .i64 (xA C x 5), .int .i64 (xA C x 6)] 38)) (w.heap.size + 8) (.slice aa pre.length ca) pre) := HA_Wd.out.alloc _
      have H2_Wa : Aside ((Wd.alloc (.cells #[.int .i64 (opA C x), .int .i64 (xA C x 0), .int .i64 (xA C x 1), .int .i64 (xA C x 2), .int .i64 (xA C x 3), .int .i64 (xA C x 4), .int .i64 (xA C x 5), .int .i64 (xA C x 6)] 38)).heap[Wd.heap.size]? = some (.cells #[.int .i64 (opA C x), .int .i64 (xA C x 0), .int .i64 (xA C x 1), .int .i64 (xA C x 2), .int .i64 (xA C x 3), .int .i64 (xA C x 4), .int .i64 (xA C x 5), .int .i64 (xA C x 6)] 38)) := World.alloc_heap_new _ _
      refine hC.out _ _ (HM_Wa.out.sc _) (fun hHeld => ?_)
      clear hC KC
      try simp only [Act.put, List.getElem_toArray, List.getElem_cons_zero, List.getElem_cons_succ, List.setIfInBounds_toArray, List.set_cons_zero, List.set_cons_succ]
      generalize Wd.alloc (.cells #[.int .i64 (opA C x), .int .i64 (xA C x 0), .int .i64 (xA C x 1), .int .i64 (xA C x 2), .int .i64 (xA C x 3), .int .i64 (xA C x 4), .int .i64 (xA C x 5), .int .i64 (xA C x 6)] 38) = Wa at *
      refine wpAnyG_ready (rs := [3, 6]) (by kernel_rfl) (by simp) ?_
      refine AllReadyG.cons rfl (fun KC hC => ?_) (AllReadyG.cons rfl (fun KC hC => ?_) AllReadyG.nil)
      · refine step_append_lies _ (by rfl) _ _ _ (by rfl) (w.heap.size + 8) 38 i38 (.agg #[.int .i64 0, .int .i64 0, .int .i64 0, .int .i64 0, .int .i64 0, .int .i64 0, .int .i64 0, .int .i64 0]) 8 64 Tryz.underlying39 hi38 hz38 hs38 hb38 (by rfl) (by omega) (.slice al pre.length cl) pre.length ((II C pre).map (Value.int .i64)) (by rfl) HL_Wa.out ⟨Wd.heap.size, 0, none⟩ 1 1 ((iI C x).map (Value.int .i64)) (by rfl) (by rfl) (World.news_of_block H2_Wa.out) (by simp [iI, Value.oneCell']) (by omega) (by unfold maxLen; omega) (by omega) HM_Wa.out.sz _ rfl ?_
        intro gl cl1 Wb hown hgrow hat hlt1
        have HM_Wb : Aside (Mid w.heap.size w W C x X (.slice al pre.length cl) (.slice aa pre.length ca) Wb) := HM_Wa.out.grown hgrow (fun k e => (HL_Wa.out.lt k e).1) hXl
        have HL_Wb : Aside (Wb.ownsRow (w.heap.size + 8) 38 8 (.slice (some ⟨gl, 0, none⟩) (pre.length + 1) cl1) (pre.length + 1) ((II C pre).map (Value.int .i64) ++ (iI C x).map (Value.int .i64))) := hown
        have HA_Wb : Aside (OwnN Wb (w.heap.size + 8) (.slice aa pre.length ca) pre) := HA_Wa.out.kept hgrow (own_apart HL_Wa.out HA_Wa.out (by decide))
        refine hC.out _ _ (HM_Wb.out.sc _) (fun hHeld => ?_)
        clear hC KC hown hgrow hat hlt1
        try simp only [Act.put, List.getElem_toArray, List.getElem_cons_zero, List.getElem_cons_succ, List.setIfInBounds_toArray, List.set_cons_zero, List.set_cons_succ]
        refine wpAnyG_ready (rs := [6]) (by kernel_rfl) (by simp) ?_
        refine AllReadyG.cons rfl (fun KC hC => ?_) AllReadyG.nil
        go_simp
        have HM_Wc : Aside (Mid w.heap.size w W C x X (.slice al pre.length cl) (.slice aa pre.length ca) (Wb.alloc (.cells #[.int .i64 x] 3))) := HM_Wb.out.alloc (.cells #[.int .i64 x] 3)
        have HL_Wc : Aside ((Wb.alloc (.cells #[.int .i64 x] 3)).ownsRow (w.heap.size + 8) 38 8 (.slice (some ⟨gl, 0, none⟩) (pre.length + 1) cl1) (pre.length + 1) ((II C pre).map (Value.int .i64) ++ (iI C x).map (Value.int .i64))) := HL_Wb.out.alloc _
        have HA_Wc : Aside (OwnN (Wb.alloc (.cells #[.int .i64 x] 3)) (w.heap.size + 8) (.slice aa pre.length ca) pre) := HA_Wb.out.alloc _
        have H6_Wc : Aside ((Wb.alloc (.cells #[.int .i64 x] 3)).heap[Wb.heap.size]? = some (.cells #[.int .i64 x] 3)) := World.alloc_heap_new _ _
        refine hC.out _ _ (HM_Wc.out.sc _) (fun hHeld => ?_)
        clear hC KC
        try simp only [Act.put, List.getElem_toArray, List.getElem_cons_zero, List.getElem_cons_succ, List.setIfInBounds_toArray, List.set_cons_zero, List.set_cons_succ]
        generalize Wb.alloc (.cells #[.int .i64 x] 3) = Wc at *
        refine wpAnyG_ready (rs := [7]) (by kernel_rfl) (by simp) ?_
        refine AllReadyG.cons rfl (fun KC hC => ?_) AllReadyG.nil
        refine step_append_lies _ (by rfl) _ _ _ (by rfl) (w.heap.size + 8) 3 i3 (.int .i64 0) 1 8 Tryz.underlying50 hi3 hz3 hs3 hb3 (by rfl) (by omega) (.slice aa pre.length ca) pre.length (pre.map fun (a : Nat) => Value.int .i64 a) (by rfl) HA_Wc.out ⟨Wb.heap.size, 0, none⟩ 1 1 [.int .i64 x] (by rfl) (by rfl) (World.news_of_block H6_Wc.out) (by simp [Value.oneCell']) (by omega) (by unfold maxLen; omega) (by omega) HM_Wc.out.sz _ rfl ?_
        intro ga ca1 We hown hgrow hat hlt1
        have HM_We : Aside (Mid w.heap.size w W C x X (.slice al pre.length cl) (.slice aa pre.length ca) We) := HM_Wc.out.grown hgrow (fun k e => (HA_Wc.out.lt k e).1) (own_ne HA_Wc.out HM_Wc.out.x (by decide))
        have HL_We : Aside (We.ownsRow (w.heap.size + 8) 38 8 (.slice (some ⟨gl, 0, none⟩) (pre.length + 1) cl1) (pre.length + 1) ((II C pre).map (Value.int .i64) ++ (iI C x).map (Value.int .i64))) := HL_Wc.out.kept hgrow (own_apart HA_Wc.out HL_Wc.out (by decide))
        have HA_We : Aside (We.ownsRow (w.heap.size + 8) 3 1 (.slice (some ⟨ga, 0, none⟩) (pre.length + 1) ca1) (pre.length + 1) ((pre.map fun (a : Nat) => Value.int .i64 a) ++ [.int .i64 x])) := hown
        refine hC.out _ _ (HM_We.out.sc _) (fun hHeld => ?_)
        clear hC KC hown hgrow hat hlt1
        try simp only [Act.put, List.getElem_toArray, List.getElem_cons_zero, List.getElem_cons_succ, List.setIfInBounds_toArray, List.set_cons_zero, List.set_cons_succ]
        obtain ⟨⟨c1, c2, c3, c4⟩, f1, f2, f3, f4⟩ := HM_We.out.b.cells
        refine wpAnyG_ready (rs := [8]) (by kernel_rfl) (by simp) ?_
        refine AllReadyG.cons rfl (fun KC hC => ?_) AllReadyG.nil
        go_simp
        have hXs := HM_We.out.hX
        have HB1 := HM_We.out.b.setl (.slice (some ⟨gl, 0, none⟩) (pre.length + 1) cl1)
        refine hC.out _ _ ⟨fun h => (by cases h), fun _ => HB1.cells.1.2.1, (Below.heap_setCell _ _ _ _ (by show X ≠ w.heap.size; omega)).trans HM_We.out.x⟩ (fun hHeld => ?_)
        clear hC KC c1 c2 c3 c4 f1 f2 f3 f4
        try simp only [Act.put, List.getElem_toArray, List.getElem_cons_zero, List.getElem_cons_succ, List.setIfInBounds_toArray, List.set_cons_zero, List.set_cons_succ]
        have HX1 : (We.setCell ⟨w.heap.size, 0, none⟩ (.slice (some ⟨gl, 0, none⟩) (pre.length + 1) cl1)).heap[X]? = some (.cells #[.int .i64 (opA C x), .int .i64 (xA C x 0), .int .i64 (xA C x 1), .int .i64 (xA C x 2), .int .i64 (xA C x 3), .int .i64 (xA C x 4), .int .i64 (xA C x 5), .int .i64 (xA C x 6)] 38) := (Below.heap_setCell _ _ _ _ (by show X ≠ w.heap.size; omega)).trans HM_We.out.x
        have HK1 := HM_We.out.k.trans (KeepOn.setCell (A := We) (p := ⟨w.heap.size, 0, none⟩) (.slice (some ⟨gl, 0, none⟩) (pre.length + 1) cl1) (by show ¬ (_ ∨ _); first | (simp; done) | (simp; omega)))
        have HL1 := HL_We.out.kept (grown_set We w.heap.size 0 (.slice (some ⟨gl, 0, none⟩) (pre.length + 1) cl1)) (.inr (own_high HL_We.out (by omega)))
        have HA1 := HA_We.out.kept (grown_set We w.heap.size 0 (.slice (some ⟨gl, 0, none⟩) (pre.length + 1) cl1)) (.inr (own_high HA_We.out (by omega)))
        clear HM_We HL_We HA_We
        generalize We.setCell ⟨w.heap.size, 0, none⟩ (.slice (some ⟨gl, 0, none⟩) (pre.length + 1) cl1) = Wf at *
        obtain ⟨⟨c1, c2, c3, c4⟩, f1, f2, f3, f4⟩ := HB1.cells
        refine wpAnyG_ready (rs := [9]) (by kernel_rfl) (by simp) ?_
        refine AllReadyG.cons rfl (fun KC hC => ?_) AllReadyG.nil
        go_simp
        refine hC.out _ _ ⟨fun h => (by cases h), fun h => (by cases h), (Below.heap_setCell _ _ _ _ (by show X ≠ w.heap.size + 1; omega)).trans HX1⟩ (fun hHeld => ?_)
        clear hC KC
        try simp only [Act.put, List.getElem_toArray, List.getElem_cons_zero, List.getElem_cons_succ, List.setIfInBounds_toArray, List.set_cons_zero, List.set_cons_succ]
        refine wpAnyG_done (by kernel_rfl) ?_ _
        simp only [Exit.inBlock]
        refine ⟨HK1.trans (KeepOn.setCell _ (by show ¬ (_ ∨ _); first | (simp; done) | (simp; omega))), _, _, HB1.seta _, ?_, ?_⟩
        · show World.ownsRow _ _ _ _ _ _ _
          rw [II_snoc, List.map_append, List.length_append]
          exact HL1.kept (grown_set _ _ _ _) (.inr (own_high HL1 (by omega)))
        · show World.ownsRow _ _ _ _ _ _ _
          rw [List.map_append, List.length_append]
          exact HA1.kept (grown_set _ _ _ _) (.inr (own_high HA1 (by omega)))
      · go_simp
        have HM_Wb : Aside (Mid w.heap.size w W C x X (.slice al pre.length cl) (.slice aa pre.length ca) (Wa.alloc (.cells #[.int .i64 x] 3))) := HM_Wa.out.alloc (.cells #[.int .i64 x] 3)
        have HL_Wb : Aside (OwnI (Wa.alloc (.cells #[.int .i64 x] 3)) (w.heap.size + 8) (.slice al pre.length cl) C pre) := HL_Wa.out.alloc _
        have HA_Wb : Aside (OwnN (Wa.alloc (.cells #[.int .i64 x] 3)) (w.heap.size + 8) (.slice aa pre.length ca) pre) := HA_Wa.out.alloc _
        have H6_Wb : Aside ((Wa.alloc (.cells #[.int .i64 x] 3)).heap[Wa.heap.size]? = some (.cells #[.int .i64 x] 3)) := World.alloc_heap_new _ _
        have H2_Wb : Aside ((Wa.alloc (.cells #[.int .i64 x] 3)).heap[Wd.heap.size]? = some (.cells #[.int .i64 (opA C x), .int .i64 (xA C x 0), .int .i64 (xA C x 1), .int .i64 (xA C x 2), .int .i64 (xA C x 3), .int .i64 (xA C x 4), .int .i64 (xA C x 5), .int .i64 (xA C x 6)] 38)) := (Below.heap_alloc _ _ _ (Array.getElem?_eq_some_iff.1 H2_Wa.out).1).trans H2_Wa.out
        refine hC.out _ _ (HM_Wb.out.sc _) (fun hHeld => ?_)
        clear hC KC
        try simp only [Act.put, List.getElem_toArray, List.getElem_cons_zero, List.getElem_cons_succ, List.setIfInBounds_toArray, List.set_cons_zero, List.set_cons_succ]
        generalize Wa.alloc (.cells #[.int .i64 x] 3) = Wb at *
        refine wpAnyG_ready (rs := [3]) (by kernel_rfl) (by simp) ?_
        refine AllReadyG.cons rfl (fun KC hC => ?_) AllReadyG.nil
        refine step_append_lies _ (by rfl) _ _ _ (by rfl) (w.heap.size + 8) 38 i38 (.agg #[.int .i64 0, .int .i64 0, .int .i64 0, .int .i64 0, .int .i64 0, .int .i64 0, .int .i64 0, .int .i64 0]) 8 64 Tryz.underlying39 hi38 hz38 hs38 hb38 (by rfl) (by omega) (.slice al pre.length cl) pre.length ((II C pre).map (Value.int .i64)) (by rfl) HL_Wb.out ⟨Wd.heap.size, 0, none⟩ 1 1 ((iI C x).map (Value.int .i64)) (by rfl) (by rfl) (World.news_of_block H2_Wb.out) (by simp [iI, Value.oneCell']) (by omega) (by unfold maxLen; omega) (by omega) HM_Wb.out.sz _ rfl ?_
        intro gl cl1 Wc hown hgrow hat hlt1
        have HM_Wc : Aside (Mid w.heap.size w W C x X (.slice al pre.length cl) (.slice aa pre.length ca) Wc) := HM_Wb.out.grown hgrow (fun k e => (HL_Wb.out.lt k e).1) hXl
        have HL_Wc : Aside (Wc.ownsRow (w.heap.size + 8) 38 8 (.slice (some ⟨gl, 0, none⟩) (pre.length + 1) cl1) (pre.length + 1) ((II C pre).map (Value.int .i64) ++ (iI C x).map (Value.int .i64))) := hown
        have HA_Wc : Aside (OwnN Wc (w.heap.size + 8) (.slice aa pre.length ca) pre) := HA_Wb.out.kept hgrow (own_apart HL_Wb.out HA_Wb.out (by decide))
        have H6_Wc : Aside (Wc.heap[Wa.heap.size]? = some (.cells #[.int .i64 x] 3)) := (hgrow.block _ (Array.getElem?_eq_some_iff.1 H6_Wb.out).1 (fun e => own_ne HL_Wb.out H6_Wb.out (by decide) e.symm)).trans H6_Wb.out
        refine hC.out _ _ (HM_Wc.out.sc _) (fun hHeld => ?_)
        clear hC KC hown hgrow hat hlt1
        try simp only [Act.put, List.getElem_toArray, List.getElem_cons_zero, List.getElem_cons_succ, List.setIfInBounds_toArray, List.set_cons_zero, List.set_cons_succ]
        refine wpAnyG_ready (rs := [7]) (by kernel_rfl) (by simp) ?_
        refine AllReadyG.cons rfl (fun KC hC => ?_) AllReadyG.nil
        refine step_append_lies _ (by rfl) _ _ _ (by rfl) (w.heap.size + 8) 3 i3 (.int .i64 0) 1 8 Tryz.underlying50 hi3 hz3 hs3 hb3 (by rfl) (by omega) (.slice aa pre.length ca) pre.length (pre.map fun (a : Nat) => Value.int .i64 a) (by rfl) HA_Wc.out ⟨Wa.heap.size, 0, none⟩ 1 1 [.int .i64 x] (by rfl) (by rfl) (World.news_of_block H6_Wc.out) (by simp [Value.oneCell']) (by omega) (by unfold maxLen; omega) (by omega) HM_Wc.out.sz _ rfl ?_
        intro ga ca1 We hown hgrow hat hlt1
        have HM_We : Aside (Mid w.heap.size w W C x X (.slice al pre.length cl) (.slice aa pre.length ca) We) := HM_Wc.out.grown hgrow (fun k e => (HA_Wc.out.lt k e).1) (own_ne HA_Wc.out HM_Wc.out.x (by decide))
        have HL_We : Aside (We.ownsRow (w.heap.size + 8) 38 8 (.slice (some ⟨gl, 0, none⟩) (pre.length + 1) cl1) (pre.length + 1) ((II C pre).map (Value.int .i64) ++ (iI C x).map (Value.int .i64))) := HL_Wc.out.kept hgrow (own_apart HA_Wc.out HL_Wc.out (by decide))
        have HA_We : Aside (We.ownsRow (w.heap.size + 8) 3 1 (.slice (some ⟨ga, 0, none⟩) (pre.length + 1) ca1) (pre.length + 1) ((pre.map fun (a : Nat) => Value.int .i64 a) ++ [.int .i64 x])) := hown
        refine hC.out _ _ (HM_We.out.sc _) (fun hHeld => ?_)
        clear hC KC hown hgrow hat hlt1
        try simp only [Act.put, List.getElem_toArray, List.getElem_cons_zero, List.getElem_cons_succ, List.setIfInBounds_toArray, List.set_cons_zero, List.set_cons_succ]
        obtain ⟨⟨c1, c2, c3, c4⟩, f1, f2, f3, f4⟩ := HM_We.out.b.cells
        refine wpAnyG_ready (rs := [8]) (by kernel_rfl) (by simp) ?_
        refine AllReadyG.cons rfl (fun KC hC => ?_) AllReadyG.nil
        go_simp
        have hXs := HM_We.out.hX
        have HB1 := HM_We.out.b.setl (.slice (some ⟨gl, 0, none⟩) (pre.length + 1) cl1)
        refine hC.out _ _ ⟨fun h => (by cases h), fun _ => HB1.cells.1.2.1, (Below.heap_setCell _ _ _ _ (by show X ≠ w.heap.size; omega)).trans HM_We.out.x⟩ (fun hHeld => ?_)
        clear hC KC c1 c2 c3 c4 f1 f2 f3 f4
        try simp only [Act.put, List.getElem_toArray, List.getElem_cons_zero, List.getElem_cons_succ, List.setIfInBounds_toArray, List.set_cons_zero, List.set_cons_succ]
        have HX1 : (We.setCell ⟨w.heap.size, 0, none⟩ (.slice (some ⟨gl, 0, none⟩) (pre.length + 1) cl1)).heap[X]? = some (.cells #[.int .i64 (opA C x), .int .i64 (xA C x 0), .int .i64 (xA C x 1), .int .i64 (xA C x 2), .int .i64 (xA C x 3), .int .i64 (xA C x 4), .int .i64 (xA C x 5), .int .i64 (xA C x 6)] 38) := (Below.heap_setCell _ _ _ _ (by show X ≠ w.heap.size; omega)).trans HM_We.out.x
        have HK1 := HM_We.out.k.trans (KeepOn.setCell (A := We) (p := ⟨w.heap.size, 0, none⟩) (.slice (some ⟨gl, 0, none⟩) (pre.length + 1) cl1) (by show ¬ (_ ∨ _); first | (simp; done) | (simp; omega)))
        have HL1 := HL_We.out.kept (grown_set We w.heap.size 0 (.slice (some ⟨gl, 0, none⟩) (pre.length + 1) cl1)) (.inr (own_high HL_We.out (by omega)))
        have HA1 := HA_We.out.kept (grown_set We w.heap.size 0 (.slice (some ⟨gl, 0, none⟩) (pre.length + 1) cl1)) (.inr (own_high HA_We.out (by omega)))
        clear HM_We HL_We HA_We
        generalize We.setCell ⟨w.heap.size, 0, none⟩ (.slice (some ⟨gl, 0, none⟩) (pre.length + 1) cl1) = Wf at *
        obtain ⟨⟨c1, c2, c3, c4⟩, f1, f2, f3, f4⟩ := HB1.cells
        refine wpAnyG_ready (rs := [9]) (by kernel_rfl) (by simp) ?_
        refine AllReadyG.cons rfl (fun KC hC => ?_) AllReadyG.nil
        go_simp
        refine hC.out _ _ ⟨fun h => (by cases h), fun h => (by cases h), (Below.heap_setCell _ _ _ _ (by show X ≠ w.heap.size + 1; omega)).trans HX1⟩ (fun hHeld => ?_)
        clear hC KC
        try simp only [Act.put, List.getElem_toArray, List.getElem_cons_zero, List.getElem_cons_succ, List.setIfInBounds_toArray, List.set_cons_zero, List.set_cons_succ]
        refine wpAnyG_done (by kernel_rfl) ?_ _
        simp only [Exit.inBlock]
        refine ⟨HK1.trans (KeepOn.setCell _ (by show ¬ (_ ∨ _); first | (simp; done) | (simp; omega))), _, _, HB1.seta _, ?_, ?_⟩
        · show World.ownsRow _ _ _ _ _ _ _
          rw [II_snoc, List.map_append, List.length_append]
          exact HL1.kept (grown_set _ _ _ _) (.inr (own_high HL1 (by omega)))
        · show World.ownsRow _ _ _ _ _ _ _
          rw [List.map_append, List.length_append]
          exact HA1.kept (grown_set _ _ _ _) (.inr (own_high HA1 (by omega)))
    · go_simp
      have HM_Wa : Aside (Mid w.heap.size w W C x X (.slice al pre.length cl) (.slice aa pre.length ca) (Wd.alloc (.cells #[.int .i64 x] 3))) := HM_Wd.out.alloc (.cells #[.int .i64 x] 3)
      have HL_Wa : Aside (OwnI (Wd.alloc (.cells #[.int .i64 x] 3)) (w.heap.size + 8) (.slice al pre.length cl) C pre) := HL_Wd.out.alloc _
      have HA_Wa : Aside (OwnN (Wd.alloc (.cells #[.int .i64 x] 3)) (w.heap.size + 8) (.slice aa pre.length ca) pre) := HA_Wd.out.alloc _
      have H6_Wa : Aside ((Wd.alloc (.cells #[.int .i64 x] 3)).heap[Wd.heap.size]? = some (.cells #[.int .i64 x] 3)) := World.alloc_heap_new _ _
      refine hC.out _ _ (HM_Wa.out.sc _) (fun hHeld => ?_)
      clear hC KC
      try simp only [Act.put, List.getElem_toArray, List.getElem_cons_zero, List.getElem_cons_succ, List.setIfInBounds_toArray, List.set_cons_zero, List.set_cons_succ]
      generalize Wd.alloc (.cells #[.int .i64 x] 3) = Wa at *
      refine wpAnyG_ready (rs := [2]) (by kernel_rfl) (by simp) ?_
      refine AllReadyG.cons rfl (fun KC hC => ?_) AllReadyG.nil
      go_simp
      have HM_Wb : Aside (Mid w.heap.size w W C x X (.slice al pre.length cl) (.slice aa pre.length ca) (Wa.alloc (.cells #[.int .i64 (opA C x), .int .i64 (xA C x 0), .int .i64 (xA C x 1), .int .i64 (xA C x 2), .int .i64 (xA C x 3), .int .i64 (xA C x 4), .int .i64 (xA C x 5), .int .i64 (xA C x 6)] 38))) := HM_Wa.out.alloc (.cells #[.int .i64 (opA C x), .int .i64 (xA C x 0), .int .i64 (xA C x 1), .int .i64 (xA C x 2), .int .i64 (xA C x 3), .int .i64 (xA C x 4), .int .i64 (xA C x 5), .int .i64 (xA C x 6)] 38)
      have HL_Wb : Aside (OwnI (Wa.alloc (.cells #[.int .i64 (opA C x), .int .i64 (xA C x 0), .int .i64 (xA C x 1), .int .i64 (xA C x 2), .int .i64 (xA C x 3), .int .i64 (xA C x 4), .int .i64 (xA C x 5), .int .i64 (xA C x 6)] 38)) (w.heap.size + 8) (.slice al pre.length cl) C pre) := HL_Wa.out.alloc _
      have HA_Wb : Aside (OwnN (Wa.alloc (.cells #[.int .i64 (opA C x), .int .i64 (xA C x 0), .int .i64 (xA C x 1), .int .i64 (xA C x 2), .int .i64 (xA C x 3), .int .i64 (xA C x 4), .int .i64 (xA C x 5), .int .i64 (xA C x 6)] 38)) (w.heap.size + 8) (.slice aa pre.length ca) pre) := HA_Wa.out.alloc _
      have H2_Wb : Aside ((Wa.alloc (.cells #[.int .i64 (opA C x), .int .i64 (xA C x 0), .int .i64 (xA C x 1), .int .i64 (xA C x 2), .int .i64 (xA C x 3), .int .i64 (xA C x 4), .int .i64 (xA C x 5), .int .i64 (xA C x 6)] 38)).heap[Wa.heap.size]? = some (.cells #[.int .i64 (opA C x), .int .i64 (xA C x 0), .int .i64 (xA C x 1), .int .i64 (xA C x 2), .int .i64 (xA C x 3), .int .i64 (xA C x 4), .int .i64 (xA C x 5), .int .i64 (xA C x 6)] 38)) := World.alloc_heap_new _ _
      have H6_Wb : Aside ((Wa.alloc (.cells #[.int .i64 (opA C x), .int .i64 (xA C x 0), .int .i64 (xA C x 1), .int .i64 (xA C x 2), .int .i64 (xA C x 3), .int .i64 (xA C x 4), .int .i64 (xA C x 5), .int .i64 (xA C x 6)] 38)).heap[Wd.heap.size]? = some (.cells #[.int .i64 x] 3)) := (Below.heap_alloc _ _ _ (Array.getElem?_eq_some_iff.1 H6_Wa.out).1).trans H6_Wa.out
      refine hC.out _ _ (HM_Wb.out.sc _) (fun hHeld => ?_)
      clear hC KC
      try simp only [Act.put, List.getElem_toArray, List.getElem_cons_zero, List.getElem_cons_succ, List.setIfInBounds_toArray, List.set_cons_zero, List.set_cons_succ]
      generalize Wa.alloc (.cells #[.int .i64 (opA C x), .int .i64 (xA C x 0), .int .i64 (xA C x 1), .int .i64 (xA C x 2), .int .i64 (xA C x 3), .int .i64 (xA C x 4), .int .i64 (xA C x 5), .int .i64 (xA C x 6)] 38) = Wb at *
      refine wpAnyG_ready (rs := [3]) (by kernel_rfl) (by simp) ?_
      refine AllReadyG.cons rfl (fun KC hC => ?_) AllReadyG.nil
      refine step_append_lies _ (by rfl) _ _ _ (by rfl) (w.heap.size + 8) 38 i38 (.agg #[.int .i64 0, .int .i64 0, .int .i64 0, .int .i64 0, .int .i64 0, .int .i64 0, .int .i64 0, .int .i64 0]) 8 64 Tryz.underlying39 hi38 hz38 hs38 hb38 (by rfl) (by omega) (.slice al pre.length cl) pre.length ((II C pre).map (Value.int .i64)) (by rfl) HL_Wb.out ⟨Wa.heap.size, 0, none⟩ 1 1 ((iI C x).map (Value.int .i64)) (by rfl) (by rfl) (World.news_of_block H2_Wb.out) (by simp [iI, Value.oneCell']) (by omega) (by unfold maxLen; omega) (by omega) HM_Wb.out.sz _ rfl ?_
      intro gl cl1 Wc hown hgrow hat hlt1
      have HM_Wc : Aside (Mid w.heap.size w W C x X (.slice al pre.length cl) (.slice aa pre.length ca) Wc) := HM_Wb.out.grown hgrow (fun k e => (HL_Wb.out.lt k e).1) hXl
      have HL_Wc : Aside (Wc.ownsRow (w.heap.size + 8) 38 8 (.slice (some ⟨gl, 0, none⟩) (pre.length + 1) cl1) (pre.length + 1) ((II C pre).map (Value.int .i64) ++ (iI C x).map (Value.int .i64))) := hown
      have HA_Wc : Aside (OwnN Wc (w.heap.size + 8) (.slice aa pre.length ca) pre) := HA_Wb.out.kept hgrow (own_apart HL_Wb.out HA_Wb.out (by decide))
      have H6_Wc : Aside (Wc.heap[Wd.heap.size]? = some (.cells #[.int .i64 x] 3)) := (hgrow.block _ (Array.getElem?_eq_some_iff.1 H6_Wb.out).1 (fun e => own_ne HL_Wb.out H6_Wb.out (by decide) e.symm)).trans H6_Wb.out
      refine hC.out _ _ (HM_Wc.out.sc _) (fun hHeld => ?_)
      clear hC KC hown hgrow hat hlt1
      try simp only [Act.put, List.getElem_toArray, List.getElem_cons_zero, List.getElem_cons_succ, List.setIfInBounds_toArray, List.set_cons_zero, List.set_cons_succ]
      refine wpAnyG_ready (rs := [7]) (by kernel_rfl) (by simp) ?_
      refine AllReadyG.cons rfl (fun KC hC => ?_) AllReadyG.nil
      refine step_append_lies _ (by rfl) _ _ _ (by rfl) (w.heap.size + 8) 3 i3 (.int .i64 0) 1 8 Tryz.underlying50 hi3 hz3 hs3 hb3 (by rfl) (by omega) (.slice aa pre.length ca) pre.length (pre.map fun (a : Nat) => Value.int .i64 a) (by rfl) HA_Wc.out ⟨Wd.heap.size, 0, none⟩ 1 1 [.int .i64 x] (by rfl) (by rfl) (World.news_of_block H6_Wc.out) (by simp [Value.oneCell']) (by omega) (by unfold maxLen; omega) (by omega) HM_Wc.out.sz _ rfl ?_
      intro ga ca1 We hown hgrow hat hlt1
      have HM_We : Aside (Mid w.heap.size w W C x X (.slice al pre.length cl) (.slice aa pre.length ca) We) := HM_Wc.out.grown hgrow (fun k e => (HA_Wc.out.lt k e).1) (own_ne HA_Wc.out HM_Wc.out.x (by decide))
      have HL_We : Aside (We.ownsRow (w.heap.size + 8) 38 8 (.slice (some ⟨gl, 0, none⟩) (pre.length + 1) cl1) (pre.length + 1) ((II C pre).map (Value.int .i64) ++ (iI C x).map (Value.int .i64))) := HL_Wc.out.kept hgrow (own_apart HA_Wc.out HL_Wc.out (by decide))
      have HA_We : Aside (We.ownsRow (w.heap.size + 8) 3 1 (.slice (some ⟨ga, 0, none⟩) (pre.length + 1) ca1) (pre.length + 1) ((pre.map fun (a : Nat) => Value.int .i64 a) ++ [.int .i64 x])) := hown
      refine hC.out _ _ (HM_We.out.sc _) (fun hHeld => ?_)
      clear hC KC hown hgrow hat hlt1
      try simp only [Act.put, List.getElem_toArray, List.getElem_cons_zero, List.getElem_cons_succ, List.setIfInBounds_toArray, List.set_cons_zero, List.set_cons_succ]
      obtain ⟨⟨c1, c2, c3, c4⟩, f1, f2, f3, f4⟩ := HM_We.out.b.cells
      refine wpAnyG_ready (rs := [8]) (by kernel_rfl) (by simp) ?_
      refine AllReadyG.cons rfl (fun KC hC => ?_) AllReadyG.nil
      go_simp
      have hXs := HM_We.out.hX
      have HB1 := HM_We.out.b.setl (.slice (some ⟨gl, 0, none⟩) (pre.length + 1) cl1)
      refine hC.out _ _ ⟨fun h => (by cases h), fun _ => HB1.cells.1.2.1, (Below.heap_setCell _ _ _ _ (by show X ≠ w.heap.size; omega)).trans HM_We.out.x⟩ (fun hHeld => ?_)
      clear hC KC c1 c2 c3 c4 f1 f2 f3 f4
      try simp only [Act.put, List.getElem_toArray, List.getElem_cons_zero, List.getElem_cons_succ, List.setIfInBounds_toArray, List.set_cons_zero, List.set_cons_succ]
      have HX1 : (We.setCell ⟨w.heap.size, 0, none⟩ (.slice (some ⟨gl, 0, none⟩) (pre.length + 1) cl1)).heap[X]? = some (.cells #[.int .i64 (opA C x), .int .i64 (xA C x 0), .int .i64 (xA C x 1), .int .i64 (xA C x 2), .int .i64 (xA C x 3), .int .i64 (xA C x 4), .int .i64 (xA C x 5), .int .i64 (xA C x 6)] 38) := (Below.heap_setCell _ _ _ _ (by show X ≠ w.heap.size; omega)).trans HM_We.out.x
      have HK1 := HM_We.out.k.trans (KeepOn.setCell (A := We) (p := ⟨w.heap.size, 0, none⟩) (.slice (some ⟨gl, 0, none⟩) (pre.length + 1) cl1) (by show ¬ (_ ∨ _); first | (simp; done) | (simp; omega)))
      have HL1 := HL_We.out.kept (grown_set We w.heap.size 0 (.slice (some ⟨gl, 0, none⟩) (pre.length + 1) cl1)) (.inr (own_high HL_We.out (by omega)))
      have HA1 := HA_We.out.kept (grown_set We w.heap.size 0 (.slice (some ⟨gl, 0, none⟩) (pre.length + 1) cl1)) (.inr (own_high HA_We.out (by omega)))
      clear HM_We HL_We HA_We
      generalize We.setCell ⟨w.heap.size, 0, none⟩ (.slice (some ⟨gl, 0, none⟩) (pre.length + 1) cl1) = Wf at *
      obtain ⟨⟨c1, c2, c3, c4⟩, f1, f2, f3, f4⟩ := HB1.cells
      refine wpAnyG_ready (rs := [9]) (by kernel_rfl) (by simp) ?_
      refine AllReadyG.cons rfl (fun KC hC => ?_) AllReadyG.nil
      go_simp
      refine hC.out _ _ ⟨fun h => (by cases h), fun h => (by cases h), (Below.heap_setCell _ _ _ _ (by show X ≠ w.heap.size + 1; omega)).trans HX1⟩ (fun hHeld => ?_)
      clear hC KC
      try simp only [Act.put, List.getElem_toArray, List.getElem_cons_zero, List.getElem_cons_succ, List.setIfInBounds_toArray, List.set_cons_zero, List.set_cons_succ]
      refine wpAnyG_done (by kernel_rfl) ?_ _
      simp only [Exit.inBlock]
      refine ⟨HK1.trans (KeepOn.setCell _ (by show ¬ (_ ∨ _); first | (simp; done) | (simp; omega))), _, _, HB1.seta _, ?_, ?_⟩
      · show World.ownsRow _ _ _ _ _ _ _
        rw [II_snoc, List.map_append, List.length_append]
        exact HL1.kept (grown_set _ _ _ _) (.inr (own_high HL1 (by omega)))
      · show World.ownsRow _ _ _ _ _ _ _
        rw [List.map_append, List.length_append]
        exact HA1.kept (grown_set _ _ _ _) (.inr (own_high HA1 (by omega)))
  case done =>
    rintro xs W hS ⟨vl, va, hr⟩ hD hs
    obtain ⟨al, cl, rfl⟩ := own_form hr.ol
    obtain ⟨aa, ca, rfl⟩ := own_form hr.oa
    rename_i hK
    have HK := Lib.hid hK
    clear hK
    simp only [Exit.inBlock, Exit.then]
    refine HK.out _ _ ?_
    go_wp2
    have hd : Below W.heap.size W W.drew := (Below.refl _ _).drew
    have HR1 : Aside (Rnd w.heap.size w C xs (.slice al xs.length cl) (.slice aa xs.length ca) W.drew) := hr.below hd
    have HD1 : Aside (W.drew.heap[w5.heap.size]? = some (.deferred (some []))) := hD
    obtain ⟨⟨c1, c2, c3, c4⟩, f1, f2, f3, f4⟩ := HR1.out.b.cells
    rename_i Q' K hK
    have HK := Lib.hid hK
    clear hK
    refine wp_calm (K := K) (fun _ _ h => h) ?_
    refine wp_region_G (S := Upto2 2 (fun W' => W'.cell? ⟨w.heap.size, 0, none⟩ = some (.slice al xs.length cl)) 3 (fun W' => W'.cell? ⟨w.heap.size + 1, 0, none⟩ = some (.slice aa xs.length ca)) (fun _ => True)) (by kernel_rfl) ⟨fun _ => c1, fun _ => c2, trivial⟩ (fun hHeld => ?_)
    clear hr hD hd
    generalize W.drew = Wd at *
    refine wpAnyG_take (i := 0) (v := (.slice al xs.length cl)) rfl (by kernel_rfl) (by kernel_rfl) (by kernel_rfl) (by kernel_rfl) (Upto2.ins (by omega) (by omega) _ _ _) (fun _ _ _ h => h) (Or.inl ⟨by rfl, fun wS hSw => ?_⟩) hHeld (fun hHeld => ?_)
    · have g0 := hSw.fst (by kernel_rfl)
      first | rfl | (go_simp; done) | (go_simp; with_reducible rfl)
    try simp only [Act.put, List.getElem_toArray, List.getElem_cons_zero, List.getElem_cons_succ, List.setIfInBounds_toArray, List.set_cons_zero, List.set_cons_succ]
    refine wpAnyG_take (i := 1) (v := (.slice aa xs.length ca)) rfl (by kernel_rfl) (by kernel_rfl) (by kernel_rfl) (by kernel_rfl) (Upto2.ins (by omega) (by omega) _ _ _) (fun _ _ _ h => h) (Or.inl ⟨by rfl, fun wS hSw => ?_⟩) hHeld (fun hHeld => ?_)
    · have g0 := hSw.snd (by kernel_rfl)
      first | rfl | (go_simp; done) | (go_simp; with_reducible rfl)
    try simp only [Act.put, List.getElem_toArray, List.getElem_cons_zero, List.getElem_cons_succ, List.setIfInBounds_toArray, List.set_cons_zero, List.set_cons_succ]
    refine wpAnyG_ready (rs := [2]) (by kernel_rfl) (by simp) ?_
    refine AllReadyG.cons rfl (fun KC hC => ?_) AllReadyG.nil
    go_simp
    refine hC.out _ _ ⟨fun h => (by cases h), fun _ => HR1.out.setl.b.cells.1.2.1, trivial⟩ (fun hHeld => ?_)
    clear hC KC
    try simp only [Act.put, List.getElem_toArray, List.getElem_cons_zero, List.getElem_cons_succ, List.setIfInBounds_toArray, List.set_cons_zero, List.set_cons_succ]
    have HR2 : Aside (Rnd w.heap.size w C xs (.slice al xs.length cl) (.slice aa xs.length ca) (Wd.setCell ⟨w.heap.size, 0, none⟩ (.slice al xs.length cl))) := HR1.out.setl
    have HD2 : Aside ((Wd.setCell ⟨w.heap.size, 0, none⟩ (.slice al xs.length cl)).heap[w5.heap.size]? = some (.deferred (some []))) := (Below.heap_setCell _ _ _ _ (by show _ ≠ _; simp; omega)).trans HD1.out
    clear c1 c2 c3 c4 f1 f2 f3 f4
    generalize Wd.setCell ⟨w.heap.size, 0, none⟩ (.slice al xs.length cl) = We at *
    obtain ⟨⟨c1, c2, c3, c4⟩, f1, f2, f3, f4⟩ := HR2.out.b.cells
    refine wpAnyG_ready (rs := [3]) (by kernel_rfl) (by simp) ?_
    refine AllReadyG.cons rfl (fun KC hC => ?_) AllReadyG.nil
    go_simp
    refine hC.out _ _ ⟨fun h => (by cases h), fun h => (by cases h), trivial⟩ (fun hHeld => ?_)
    clear hC KC
    try simp only [Act.put, List.getElem_toArray, List.getElem_cons_zero, List.getElem_cons_succ, List.setIfInBounds_toArray, List.set_cons_zero, List.set_cons_succ]
    have HR3 : Aside (Rnd w.heap.size w C xs (.slice al xs.length cl) (.slice aa xs.length ca) (We.setCell ⟨w.heap.size + 1, 0, none⟩ (.slice aa xs.length ca))) := HR2.out.seta
    have HD3 : Aside ((We.setCell ⟨w.heap.size + 1, 0, none⟩ (.slice aa xs.length ca)).heap[w5.heap.size]? = some (.deferred (some []))) := (Below.heap_setCell _ _ _ _ (by show _ ≠ _; simp; omega)).trans HD2.out
    clear c1 c2 c3 c4 f1 f2 f3 f4
    generalize We.setCell ⟨w.heap.size + 1, 0, none⟩ (.slice aa xs.length ca) = Wf at *
    obtain ⟨⟨c1, c2, c3, c4⟩, f1, f2, f3, f4⟩ := HR3.out.b.cells
    refine wpAnyG_ready (rs := [4]) (by kernel_rfl) (by simp) ?_
    refine AllReadyG.cons rfl (fun KC hC => ?_) AllReadyG.nil
    go_simp
    refine hC.out _ _ ⟨fun h => (by cases h), fun h => (by cases h), trivial⟩ (fun hHeld => ?_)
    clear hC KC
    try simp only [Act.put, List.getElem_toArray, List.getElem_cons_zero, List.getElem_cons_succ, List.setIfInBounds_toArray, List.set_cons_zero, List.set_cons_succ]
    have HR4 : Aside (Rnd w.heap.size w C xs (.slice al xs.length cl) (.slice aa xs.length ca) (Wf.setCell ⟨w.heap.size + 2, 0, none⟩ (.int .i64 0))) := HR3.out.sete
    have HD4 : Aside ((Wf.setCell ⟨w.heap.size + 2, 0, none⟩ (.int .i64 0)).heap[w5.heap.size]? = some (.deferred (some []))) := (Below.heap_setCell _ _ _ _ (by show _ ≠ _; simp; omega)).trans HD3.out
    clear c1 c2 c3 c4 f1 f2 f3 f4
    generalize Wf.setCell ⟨w.heap.size + 2, 0, none⟩ (.int .i64 0) = Wg at *
    obtain ⟨⟨c1, c2, c3, c4⟩, f1, f2, f3, f4⟩ := HR4.out.b.cells
    refine wpAnyG_ready (rs := [5]) (by kernel_rfl) (by simp) ?_
    refine AllReadyG.cons rfl (fun KC hC => ?_) AllReadyG.nil
    go_simp
    refine hC.out _ _ ⟨fun h => (by cases h), fun h => (by cases h), trivial⟩ (fun hHeld => ?_)
    clear hC KC
    try simp only [Act.put, List.getElem_toArray, List.getElem_cons_zero, List.getElem_cons_succ, List.setIfInBounds_toArray, List.set_cons_zero, List.set_cons_succ]
    have HR5 : Aside (Rnd w.heap.size w C xs (.slice al xs.length cl) (.slice aa xs.length ca) (Wg.setCell ⟨w.heap.size + 3, 0, none⟩ (.int .i64 0))) := HR4.out.setn
    have HD5 : Aside ((Wg.setCell ⟨w.heap.size + 3, 0, none⟩ (.int .i64 0)).heap[w5.heap.size]? = some (.deferred (some []))) := (Below.heap_setCell _ _ _ _ (by show _ ≠ _; simp; omega)).trans HD4.out
    clear c1 c2 c3 c4 f1 f2 f3 f4
    generalize Wg.setCell ⟨w.heap.size + 3, 0, none⟩ (.int .i64 0) = Wh at *
    obtain ⟨⟨c1, c2, c3, c4⟩, f1, f2, f3, f4⟩ := HR5.out.b.cells
    refine wpAnyG_done (by kernel_rfl) ?_ _
    simp only [Exit.then]
    refine HK.out _ _ ?_
    go_wp2
    have HG5 := HG.out.below HR5.out.b.bel
    obtain ⟨_, _, _, hg0, _⟩ := id HG.out
    refine door_ok rfl rfl rfl rfl HR5.out (by have := HD5.out; rwa [hz] at this) HG5 (Array.getElem?_eq_some_iff.1 hg0).1 (fun W' b1 b2 b3 => ⟨b1, .inl ⟨xs, _, _, hS, rfl, b2, b3⟩⟩)
  case pan =>
    rintro v xs W ⟨b, hseg, hlt, hd, hv⟩ ⟨vl, va, hr⟩ hD hs
    obtain rfl : v = failV 6 b := by simpa using hv
    obtain ⟨_, _, _, hg0, _⟩ := id HG.out
    rw [hz] at hD ⊢
    simp only [Exit.inBlock, Exit.then]
    exact door_pan rfl rfl rfl rfl hr hD (HG.out.below hr.b.bel) (Array.getElem?_eq_some_iff.1 hg0).1 (fun W' b1 => ⟨b1, .inr ⟨xs, b, hseg, hlt, hd, rfl⟩⟩)
end Go.Proofs.YtblklgcpobbfcaaGreatDoor
