/- The engine, third part: regions that draw their order. Conditions: none. -/
import Derived.Test.YtilnhkflgfajcaaGreatDoorEb
import Derived.Below
set_option linter.all false
namespace Go.Eng
set_option linter.unusedSimpArgs false

/-! ### Temporaries -/

def optX : Option BX → List BX
  | none => []
  | some x => [x]

def partsX : List (Nat × Nat × BX) → List BX
  | [] => []
  | (_, _, x) :: ps => x :: partsX ps

/-- The operands of an operation. -/
def BOp.xs : BOp → List BX
  | .u _ x => [x]
  | .b _ x y => [x, y]
  | .eq _ _ _ x y => [x, y]
  | .pick c x y => [c, x, y]
  | .build _ ps => partsX ps
  | .mkFunc _ f c => f ++ c
  | .subStr x lo hi => x :: (optX lo ++ optX hi)
  | .subSl _ x lo hi => x :: (optX lo ++ optX hi)
  | .subArr _ _ x lo hi => x :: (optX lo ++ optX hi)
  | .minmax _ x xs => x :: xs
  | .alloc _ _ => []
  | .box _ x => [x]
  | .mkArr _ _ _ _ ps => partsX ps
  | .mkMap => []
  | .mkSlice _ _ _ l c => [l, c]
  | .toBytes _ x => [x]
  | .toRunes _ x => [x]
  | .rng x => [x]
  | .load1 a => [a]
  | .loadN _ a => [a]
  | .look _ _ _ m k => [m, k]
  | .toStr x => [x]
  | .toUns x => [x]
  | .ofUns _ _ x => [x]
  | .lenMap x => [x]
  | .store _ a x => [a, x]
  | .upd _ m k x => [m, k, x]
  | .still x => [x]
  | .nxt x => [x]
  | .append _ _ _ s x => [s, x]
  | .appendZ _ _ _ _ s x => [s, x]
  | .copy _ d s => [d, s]
  | .clear _ x => [x]
  | .ustr _ p l => [p, l]
  | .call _ args => args
  | .callV f args => f :: args
  | .invoke r _ args => r :: args
  | .defer f args => f :: args
  | .recover => []
  | .panic x => [x]
  | .bad => []

section
variable {P : Program} {tm tm' : Tm} {H H' : AHeap} {v : AVal} {R : Tab}

theorem evs_congr : ∀ {l : List BX}, (∀ x ∈ l, x.ev tm = x.ev tm') → evs l tm = evs l tm'
  | [], _ => rfl
  | x :: l, h => by
    simp only [evs]
    rw [h x (by simp), evs_congr (l := l) fun y hy => h y (by simp [hy])]

theorem evO_congr : ∀ {o : Option BX}, (∀ x ∈ optX o, x.ev tm = x.ev tm') → evO o tm = evO o tm'
  | none, _ => rfl
  | some x, h => by simp only [evO]; rw [h x (by simp [optX])]

theorem fillA_congr : ∀ {ps : List (Nat × Nat × BX)} {cells : List AVal}, (∀ x ∈ partsX ps, x.ev tm = x.ev tm') → fillA cells ps tm = fillA cells ps tm'
  | [], _, _ => rfl
  | (off, size, x) :: ps, cells, h => by
    simp only [fillA]
    rw [h x (by simp [partsX])]
    rw [fillA_congr (ps := ps) fun y hy => h y (by simp [partsX, hy])]

/-- An operation looks at its operands alone. -/
theorem mem_congr {op : BOp} (h : ∀ x ∈ op.xs, x.ev tm = x.ev tm') : op.mem P tm H = op.mem P tm' H := by
  cases op <;> simp only [BOp.mem] <;> simp only [BOp.xs, List.mem_cons, List.mem_append, List.not_mem_nil, or_false, forall_eq_or_imp, forall_eq] at h
  all_goals first
    | rfl
    | (simp only [h]; done)
    | (simp only [fillA_congr h]; done)
    | (rw [evs_congr (fun x hx => h x (.inl hx)), evs_congr (fun x hx => h x (.inr hx))]; done)
    | (rw [h.1, evO_congr (fun x hx => h.2 x (.inl hx)), evO_congr (fun x hx => h.2 x (.inr hx))]; done)
    | (rw [h.1, evs_congr h.2]; done)

theorem callB_congr {op : BOp} (h : ∀ x ∈ op.xs, x.ev tm = x.ev tm') : op.callB P R tm H = op.callB P R tm' H := by
  cases op <;> simp only [BOp.callB] <;> simp only [BOp.xs, List.mem_cons, List.mem_append, List.not_mem_nil, or_false, forall_eq_or_imp, forall_eq] at h
  all_goals first
    | rfl
    | (rw [evs_congr h]; done)
    | (rw [h.1, evs_congr h.2]; done)

theorem blk_congr {op : BOp} (h : ∀ x ∈ op.xs, x.ev tm = x.ev tm') : op.blk tm = op.blk tm' := by
  cases op <;> simp only [BOp.blk] <;> simp only [BOp.xs, List.mem_cons, List.mem_append, List.not_mem_nil, or_false, forall_eq_or_imp, forall_eq] at h
  all_goals first
    | rfl
    | (simp only [h]; done)

end
end Go.Eng

namespace Go.Eng
set_option linter.unusedSimpArgs false

section
variable {P : Program} {n : Nat}

theorem cxs_mem : ∀ {l : List Operand} {bs : List BX}, cxs P n l = some bs → ∀ x ∈ bs, ∃ y ∈ l, cx P n y = some x
  | [], bs, h, x, hx => by simp only [cxs, Option.some.injEq] at h; subst h; cases hx
  | y :: l, bs, h, x, hx => by
    simp only [cxs] at h
    split at h
    · rename_i b hb
      split at h
      · rename_i cs hcs
        simp only [Option.some.injEq] at h
        subst h
        cases hx with
        | head => exact ⟨y, by simp, hb⟩
        | tail _ hx =>
          obtain ⟨z, h1, h2⟩ := cxs_mem hcs x hx
          exact ⟨z, by simp [h1], h2⟩
      · cases h
    · cases h

theorem cplaces_mem : ∀ {l : List (Nat × Operand)} {place : Nat → Option (Nat × Nat)} {ps : List (Nat × Nat × BX)}, cplaces P n l place = some ps → ∀ x ∈ partsX ps, ∃ y ∈ l, cx P n y.2 = some x
  | [], _, ps, h, x, hx => by simp only [cplaces, Option.some.injEq] at h; subst h; cases hx
  | (i, y) :: l, place, ps, h, x, hx => by
    simp only [cplaces] at h
    split at h
    · split at h
      · rename_i b hb
        split at h
        · rename_i r hr
          simp only [Option.some.injEq] at h
          subst h
          simp only [partsX, List.mem_cons] at hx
          rcases hx with rfl | hx
          · exact ⟨(i, y), by simp, hb⟩
          · obtain ⟨z, h1, h2⟩ := cplaces_mem hr x hx
            exact ⟨z, by simp [h1], h2⟩
        · cases h
      · cases h
    · cases h

theorem cxo_mem {o : Option Operand} {b : Option BX} (h : cxo P n o = some b) : ∀ x ∈ optX b, ∃ y, o = some y ∧ cx P n y = some x := by
  intro x hx
  unfold cxo at h
  split at h
  · cases h; cases hx
  · split at h
    · cases h
      simp only [optX, List.mem_singleton] at hx
      subst hx
      exact ⟨_, rfl, ‹_›⟩
    · cases h

theorem c1_mem {f : BX → BOp} {y : Operand} (hf : ∀ b, (f b).xs = [b]) : ∀ x ∈ (c1 P n f y).xs, cx P n y = some x := by
  intro x hx
  unfold c1 at hx
  split at hx
  · rw [hf, List.mem_singleton] at hx; subst hx; assumption
  · cases hx

theorem c2_mem {f : BX → BX → BOp} {y z : Operand} (hf : ∀ b c, (f b c).xs = [b, c]) : ∀ x ∈ (c2 P n f y z).xs, cx P n y = some x ∨ cx P n z = some x := by
  intro x hx
  unfold c2 at hx
  split at hx
  · split at hx
    · rw [hf] at hx
      simp only [List.mem_cons, List.not_mem_nil, or_false] at hx
      rcases hx with rfl | rfl
      · exact .inl ‹_›
      · exact .inr ‹_›
    · cases hx
  · cases hx

theorem c3_mem {f : BX → BX → BX → BOp} {y z u : Operand} (hf : ∀ b c d, (f b c d).xs = [b, c, d]) : ∀ x ∈ (c3 P n f y z u).xs, cx P n y = some x ∨ cx P n z = some x ∨ cx P n u = some x := by
  intro x hx
  unfold c3 at hx
  split at hx
  · split at hx
    · split at hx
      · rw [hf] at hx
        simp only [List.mem_cons, List.not_mem_nil, or_false] at hx
        rcases hx with rfl | rfl | rfl
        · exact .inl ‹_›
        · exact .inr (.inl ‹_›)
        · exact .inr (.inr ‹_›)
      · cases hx
    · cases hx
  · cases hx

/-- In a list of one, two or three operands. -/
def Among (P : Program) (n : Nat) (b : BOp) (l : List Operand) : Prop := ∀ x ∈ b.xs, ∃ y ∈ l, cx P n y = some x

theorem among_bad {l : List Operand} : Among P n .bad l := fun x hx => by cases hx
theorem among1 {f : BX → BOp} {y : Operand} {l : List Operand} (hf : ∀ b, (f b).xs = [b]) (hy : y ∈ l) : Among P n (c1 P n f y) l := fun x hx => ⟨y, hy, c1_mem hf x hx⟩
theorem among2 {f : BX → BX → BOp} {y z : Operand} {l : List Operand} (hf : ∀ b c, (f b c).xs = [b, c]) (hy : y ∈ l) (hz : z ∈ l) : Among P n (c2 P n f y z) l := fun x hx => by
  rcases c2_mem hf x hx with h | h
  · exact ⟨y, hy, h⟩
  · exact ⟨z, hz, h⟩
theorem among3 {f : BX → BX → BX → BOp} {y z u : Operand} {l : List Operand} (hf : ∀ b c d, (f b c d).xs = [b, c, d]) (hy : y ∈ l) (hz : z ∈ l) (hu : u ∈ l) : Among P n (c3 P n f y z u) l := fun x hx => by
  rcases c3_mem hf x hx with h | h | h
  · exact ⟨y, hy, h⟩
  · exact ⟨z, hz, h⟩
  · exact ⟨u, hu, h⟩

theorem cop_among (op : Op) : Among P n (cop P n op) op.operands.toList := by
  cases op <;> simp only [cop, Op.operands] <;> try exact among_bad
  case move x => exact among1 (fun _ => rfl) (by simp)
  case assign x => exact among1 (fun _ => rfl) (by simp)
  case pick c a b => exact among3 (fun _ _ _ => rfl) (by simp) (by simp) (by simp)
  case alloc t => split <;> (intro x hx; cases hx)
  case box t x => exact among1 (fun _ => rfl) (by simp)
  case build t parts =>
    unfold cbuild
    repeat' split
    all_goals first
      | exact among_bad
      | (rename_i hps
         intro x hx
         obtain ⟨y, h1, h2⟩ := cplaces_mem hps x hx
         exact ⟨y.2, by simp; exact ⟨y.1, by simpa using h1⟩, h2⟩)
  case buildSlice t len parts =>
    unfold cbuildSlice
    simp only [Bool.cond_eq_ite]
    repeat' split
    all_goals first
      | exact among_bad
      | (rename_i hps
         intro x hx
         obtain ⟨y, h1, h2⟩ := cplaces_mem hps x hx
         exact ⟨y.2, by simp; exact ⟨y.1, by simpa using h1⟩, h2⟩)
  case insert t m k x =>
    unfold cupdate
    repeat' split
    all_goals first
      | exact among_bad
      | exact among3 (fun _ _ _ => rfl) (by simp) (by simp) (by simp)
  case load t a =>
    unfold cload
    repeat' split
    all_goals first
      | exact among_bad
      | exact among1 (fun _ => rfl) (by simp)
  case store t a x =>
    unfold cstore
    repeat' split
    all_goals first
      | exact among_bad
      | exact among2 (fun _ _ => rfl) (by simp) (by simp)
  case nilCheck x => exact among1 (fun _ => rfl) (by simp)
  case binOp op t x y yt =>
    unfold cbin
    simp only [Bool.cond_eq_ite]
    repeat' split
    all_goals first
      | exact among_bad
      | exact among2 (fun _ _ => rfl) (by simp) (by simp)
  case unOp op t x =>
    cases op <;> simp only [cun] <;> first
      | exact among_bad
      | exact among1 (fun _ => rfl) (by simp)
  case convert src dst x =>
    unfold cconvert
    simp only [Bool.cond_eq_ite]
    repeat' split
    all_goals first
      | exact among_bad
      | exact among1 (fun _ => rfl) (by simp)
  case makeInterface t x =>
    repeat' split
    all_goals first
      | exact among_bad
      | exact among1 (fun _ => rfl) (by simp)
  case makeFunc fn first captured =>
    unfold cmakeFunc
    split
    · exact among_bad
    · split
      · rename_i f hf
        split
        · rename_i c hc
          intro x hx
          simp only [BOp.xs, List.mem_append] at hx
          rcases hx with hx | hx
          · obtain ⟨y, h1, h2⟩ := cxs_mem hf x hx
            exact ⟨y, by simp at h1 ⊢; exact .inl h1, h2⟩
          · obtain ⟨y, h1, h2⟩ := cxs_mem hc x hx
            exact ⟨y, by simp at h1 ⊢; exact .inr h1, h2⟩
        · exact among_bad
      · exact among_bad
  case makeMap t r =>
    have made : ∀ {l : List Operand}, Among P n (match P.underlying t with
      | some (.map _ _) => BOp.mkMap
      | _ => .bad) l := by
      intro l
      split <;> (intro x hx; cases hx)
    rcases r with _ | r
    · exact made
    · cases r <;> try exact among_bad
      rename_i v
      cases v <;> first
        | exact among_bad
        | exact made
  case makeSlice t l c =>
    unfold cmakeSlice
    simp only [Bool.cond_eq_ite]
    repeat' split
    all_goals first
      | exact among_bad
      | exact among2 (fun _ _ => rfl) (by simp) (by simp)
  case slice t x lo hi mx =>
    cases mx with
    | some m => exact among_bad
    | none =>
      simp only
      unfold cslice
      split
      · rename_i a ha
        split
        · rename_i l hl
          split
          · rename_i h hh
            have key : ∀ z ∈ a :: (optX l ++ optX h), ∃ y ∈ (#[x] ++ lo.toArray ++ hi.toArray ++ (none : Option Operand).toArray).toList, cx P n y = some z := by
              intro z hz
              simp only [List.mem_cons, List.mem_append] at hz
              rcases hz with rfl | hz | hz
              · exact ⟨x, by simp, ha⟩
              · obtain ⟨y, rfl, h2⟩ := cxo_mem hl z hz
                exact ⟨y, by simp, h2⟩
              · obtain ⟨y, rfl, h2⟩ := cxo_mem hh z hz
                exact ⟨y, by simp, h2⟩
            repeat' split
            all_goals first
              | exact among_bad
              | (intro z hz; simpa using key z hz)
          · exact among_bad
        · exact among_bad
      · exact among_bad
  case fieldAddr t x f =>
    unfold cfieldAddr
    simp only [Bool.cond_eq_ite]
    repeat' split
    all_goals first
      | exact among_bad
      | exact among1 (fun _ => rfl) (by simp)
  case field t x f =>
    unfold cfield cpart
    repeat' split
    all_goals first
      | exact among_bad
      | exact among1 (fun _ => rfl) (by simp)
  case indexAddr t x i =>
    unfold cindexAddr
    repeat' split
    all_goals first
      | exact among_bad
      | exact among2 (fun _ _ => rfl) (by simp) (by simp)
  case index t x i =>
    unfold cindex
    simp only [Bool.cond_eq_ite]
    repeat' split
    all_goals first
      | exact among_bad
      | exact among2 (fun _ _ => rfl) (by simp) (by simp)
  case lookup t m k ok =>
    unfold clookup
    repeat' split
    all_goals first
      | exact among_bad
      | exact among2 (fun _ _ => rfl) (by simp) (by simp)
  case mapUpdate t m k x =>
    unfold cupdate
    repeat' split
    all_goals first
      | exact among_bad
      | exact among3 (fun _ _ _ => rfl) (by simp) (by simp) (by simp)
  case range t x =>
    repeat' split
    all_goals first
      | exact among_bad
      | exact among1 (fun _ => rfl) (by simp)
  case next x s =>
    cases s <;> simp only [cop] <;> first
      | exact among_bad
      | exact among1 (fun _ => rfl) (by simp)
  case typeAssert x xt t ok =>
    unfold cassert
    repeat' split
    all_goals first
      | exact among_bad
      | exact among1 (fun _ => rfl) (by simp)
  case extract x i => exact among1 (fun _ => rfl) (by simp)
  case panic x => exact among1 (fun _ => rfl) (by simp)
  case defer c =>
    unfold cdefer
    split
    · rename_i f hcal
      split
      · rename_i as has
        split
        · rename_i x hx
          intro z hz
          simp only [BOp.xs, List.mem_cons] at hz
          rcases hz with rfl | hz
          · exact ⟨f, by simp [Call.operands, hcal], hx⟩
          · obtain ⟨y, h1, h2⟩ := cxs_mem has z hz
            exact ⟨y, by simp [Call.operands, hcal]; exact .inr (by simpa using h1), h2⟩
        · exact among_bad
      · exact among_bad
    · exact among_bad
  case call c =>
    unfold ccall
    split
    · rename_i bi hcal
      have hops : c.operands.toList = c.args.toList := by simp [Call.operands, hcal]
      rw [hops]
      generalize c.args.toList = args
      generalize c.argTypes.toList = types
      unfold cbuiltin
      split
      · unfold clen
        repeat' split
        all_goals first
          | exact among_bad
          | exact among1 (fun _ => rfl) (by simp)
      · repeat' split
        all_goals first
          | exact among_bad
          | exact among1 (fun _ => rfl) (by simp)
      · split
        · rename_i a ha
          split
          · rename_i as has
            intro z hz
            simp only [BOp.xs, List.mem_cons] at hz
            rcases hz with rfl | hz
            · exact ⟨_, by simp, ha⟩
            · obtain ⟨y, h1, h2⟩ := cxs_mem has z hz
              exact ⟨y, by simp [h1], h2⟩
          · exact among_bad
        · exact among_bad
      · split
        · rename_i a ha
          split
          · rename_i as has
            intro z hz
            simp only [BOp.xs, List.mem_cons] at hz
            rcases hz with rfl | hz
            · exact ⟨_, by simp, ha⟩
            · obtain ⟨y, h1, h2⟩ := cxs_mem has z hz
              exact ⟨y, by simp [h1], h2⟩
          · exact among_bad
        · exact among_bad
      · unfold cappend
        simp only [Bool.cond_eq_ite]
        repeat' split
        all_goals first
          | exact among_bad
          | exact among2 (fun _ _ => rfl) (by simp) (by simp)
      · repeat' split
        all_goals first
          | exact among_bad
          | exact among2 (fun _ _ => rfl) (by simp) (by simp)
      · repeat' split
        all_goals first
          | exact among_bad
          | exact among1 (fun _ => rfl) (by simp)
      · exact among1 (fun _ => rfl) (by simp)
      · simp only [Bool.cond_eq_ite]
        repeat' split
        all_goals first
          | exact among_bad
          | exact among2 (fun _ _ => rfl) (by simp) (by simp)
      · intro x hx; cases hx
      · exact among_bad
    · rename_i f hcal
      split
      · rename_i as has
        have hargs : ∀ z ∈ as, ∃ y ∈ c.operands.toList, cx P n y = some z := fun z hz => by
          obtain ⟨y, h1, h2⟩ := cxs_mem has z hz
          exact ⟨y, by simp [Call.operands, hcal]; exact .inr (by simpa using h1), h2⟩
        split
        · exact hargs
        · split
          · rename_i x hx
            intro z hz
            simp only [BOp.xs, List.mem_cons] at hz
            rcases hz with rfl | hz
            · exact ⟨_, by simp [Call.operands, hcal], hx⟩
            · exact hargs z hz
          · exact among_bad
      · exact among_bad
    · rename_i r name hcal
      split
      · rename_i as has
        split
        · rename_i x hx
          intro z hz
          simp only [BOp.xs, List.mem_cons] at hz
          rcases hz with rfl | hz
          · exact ⟨r, by simp [Call.operands, hcal], hx⟩
          · obtain ⟨y, h1, h2⟩ := cxs_mem has z hz
            exact ⟨y, by simp [Call.operands, hcal]; exact .inr (by simpa using h1), h2⟩
        · exact among_bad
      · exact among_bad

/-- Where two states of the temporaries agree at its operands, an operation is the same. -/
theorem cop_agree {tm tm' : Tm} {op : Op} (h : ∀ t, t ∈ namesT op.operands.toList → Tm.get (path t) tm = Tm.get (path t) tm') : ∀ x ∈ (cop P n op).xs, x.ev tm = x.ev tm' := by
  intro x hx
  obtain ⟨y, hy, hc⟩ := cop_among (P := P) (n := n) op x hx
  have hmem : ∀ {l : List Operand} {t : Tmp}, Operand.tmp t ∈ l → t ∈ namesT l := by
    intro l
    induction l with
    | nil => intro t h; cases h
    | cons z l ih =>
      intro t ht
      cases ht with
      | head => simp [namesT]
      | tail _ ht =>
        have := ih ht
        cases z <;> simp [namesT, this]
  cases y with
  | tmp t =>
    simp only [cx] at hc
    cases hb : Nat.blt t n <;> rw [hb] at hc <;> simp only [cond_true, cond_false, Option.some.injEq, reduceCtorEq] at hc
    subst hc
    exact h t (hmem hy)
  | const v =>
    simp only [cx] at hc
    split at hc
    · cases hc; rfl
    · cases hc
  | global g =>
    simp only [cx] at hc
    cases hb : Nat.blt g P.globals.size <;> rw [hb] at hc <;> simp only [cond_true, cond_false, Option.some.injEq, reduceCtorEq] at hc
    subst hc
    rfl
  | func f => simp only [cx, Option.some.injEq] at hc; subst hc; rfl

end
end Go.Eng

namespace Go.Eng
set_option linter.unusedSimpArgs false

section
variable {P : Program} {tm : Tm} {H H' : AHeap} {v : AVal}

/-- What a quiet operation does to memory. -/
def PureAct (P : Program) (op : BOp) (tm : Tm) (H H' : AHeap) (v : AVal) : Prop :=
  (H' = H ∧ ∀ G, op.mem P tm G = .v v G) ∨ ∃ x, H' = H.new x ∧ ∀ G : AHeap, G.next = H.next → op.mem P tm G = .v v (G.new x)

theorem pure_ov {op : BOp} {r : Option AVal} (he : ∀ G, op.mem P tm G = ov r G) (hm : op.mem P tm H = .v v H') : PureAct P op tm H H' v := by
  rw [he] at hm
  obtain ⟨rfl, rfl⟩ := ov_eq hm
  exact .inl ⟨rfl, fun G => he G⟩

theorem pure_new {op : BOp} {x : ABlk} {f : Nat → AVal} {g : Bool} (he : ∀ G : AHeap, op.mem P tm G = if g = true then .v (f G.next) (G.new x) else .x) (hm : op.mem P tm H = .v v H') : PureAct P op tm H H' v := by
  rw [he] at hm
  cases g with
  | false => simp at hm
  | true =>
    simp only [if_true] at hm
    cases hm
    exact .inr ⟨x, rfl, fun G hG => by rw [he]; simp [hG]⟩

theorem local_pure {op : BOp} (hk : op.kind = .pure) (hm : op.mem P tm H = .v v H') : PureAct P op tm H H' v := by
  cases op <;> simp only [BOp.kind, reduceCtorEq] at hk
  case u f x => exact pure_ov (fun _ => rfl) hm
  case b f x y => exact pure_ov (fun _ => rfl) hm
  case eq neg nilOk t x y =>
    refine pure_ov (r := bif (x.ev tm).isNilIface && (y.ev tm).isNilIface && !nilOk then none else
      match aequal P 100 t (x.ev tm) (y.ev tm) with
      | some b => some (.bool (bif neg then !b else b))
      | none => none) (fun G => ?_) hm
    simp only [BOp.mem, eqA]
    cases (x.ev tm).isNilIface && (y.ev tm).isNilIface && !nilOk with
    | true => rfl
    | false =>
      simp only [cond_false]
      cases aequal P 100 t (x.ev tm) (y.ev tm) <;> rfl
  case pick c x y => exact pure_ov (fun _ => rfl) hm
  case build z ps => exact pure_ov (fun _ => rfl) hm
  case mkFunc fn f c => exact pure_ov (r := some (.func fn (evs f tm) (evs c tm))) (fun _ => rfl) hm
  case subStr x lo hi => exact pure_ov (fun _ => rfl) hm
  case subSl esz x lo hi => exact pure_ov (fun _ => rfl) hm
  case subArr n esz x lo hi => exact pure_ov (fun _ => rfl) hm
  case minmax big x xs => exact pure_ov (fun _ => rfl) hm
  case alloc z e => exact pure_new (g := true) (x := .cells z e .rw) (f := fun n => .ptr n 0) (fun _ => rfl) hm
  case box e x =>
    refine pure_new (g := (x.ev tm).cells.all AVal.plain) (x := .cells (x.ev tm).cells e .rw) (f := fun n => .ptr n 0) (fun G => ?_) hm
    simp only [BOp.mem, Bool.cond_eq_ite]
  case mkArr e esz len z ps =>
    simp only [BOp.mem] at hm
    cases hf : fillA z ps tm with
    | none => rw [hf] at hm; cases hm
    | some cs => exact pure_new (g := true) (x := .cells cs e .rw) (f := fun n => .slice n 0 len len esz true) (fun G => by simp [BOp.mem, hf, mkArrA]) hm
  case mkMap => exact pure_new (g := true) (x := .map []) (f := fun n => .map n) (fun _ => rfl) hm
  case mkSlice e esz z l c =>
    simp only [BOp.mem] at hm
    revert hm
    cases hl : l.ev tm <;> try (intro hm; simp only [mkSliceA, reduceCtorEq] at hm; done)
    rename_i kl nl
    cases hc : c.ev tm <;> try (intro hm; cases kl <;> cases nl <;> simp only [mkSliceA, reduceCtorEq] at hm; done)
    rename_i kc nc
    intro hm
    cases kl <;> try (simp only [mkSliceA, reduceCtorEq] at hm; done)
    cases nl <;> try (simp only [mkSliceA, reduceCtorEq] at hm; done)
    cases kc <;> try (simp only [mkSliceA, reduceCtorEq] at hm; done)
    cases nc <;> try (simp only [mkSliceA, reduceCtorEq] at hm; done)
    rename_i nl nc
    refine pure_new (g := Nat.ble nl nc && Nat.ble nc 1048576) (x := .cells (repeated z nc) e .rw) (f := fun n => .slice n 0 nl nc esz true) (fun G => ?_) (H := H) (H' := H') (v := v) ?_
    · simp only [BOp.mem, hl, hc, mkSliceA, Bool.cond_eq_ite]
    · simp only [BOp.mem, hl, hc]; exact hm
  case toBytes e x =>
    simp only [BOp.mem] at hm
    revert hm
    cases hl : x.ev tm <;> try (intro hm; simp only [toBytesA, reduceCtorEq] at hm; done)
    rename_i s
    intro hm
    refine pure_new (g := true) (x := .cells (s.map fun b => .int .u8 b.toNat) e .rw) (f := fun n => .slice n 0 s.length s.length 1 false) (fun G => ?_) (H := H) (H' := H') (v := v) ?_
    · simp [BOp.mem, hl, toBytesA]
    · simp only [BOp.mem, hl]; exact hm
  case toRunes e x =>
    simp only [BOp.mem] at hm
    revert hm
    cases hl : x.ev tm <;> try (intro hm; simp only [toRunesA, reduceCtorEq] at hm; done)
    rename_i s
    intro hm
    refine pure_new (g := true) (x := .cells (runesA s) e .rw) (f := fun n => .slice n 0 (runesA s).length (runesA s).length 1 false) (fun G => ?_) (H := H) (H' := H') (v := v) ?_
    · simp [BOp.mem, hl, toRunesA]
    · simp only [BOp.mem, hl]; exact hm
  case rng x =>
    simp only [BOp.mem] at hm
    revert hm
    cases hl : x.ev tm <;> try (intro hm; simp only [rngA, reduceCtorEq] at hm; done)
    rename_i s
    intro hm
    refine pure_new (g := true) (x := .siter s 0) (f := fun n => .ptr n 0) (fun G => ?_) (H := H) (H' := H') (v := v) ?_
    · simp [BOp.mem, hl, rngA]
    · simp only [BOp.mem, hl]; exact hm

/-- What an operation at known blocks does to memory. -/
inductive HAct where
  | id
  | set (b : Nat) (x : ABlk)
  | new (x : ABlk)
  | dropNew (b : Nat) (x : ABlk)

noncomputable def HAct.run : HAct → AHeap → AHeap
  | .id => fun H => H
  | .set b x => fun H => H.set b x
  | .new x => fun H => H.new x
  | .dropNew b x => fun H => (H.drop b).new x

def HAct.On (bs : List Nat) : HAct → Prop
  | .id => True
  | .set b _ => b ∈ bs
  | .new _ => True
  | .dropNew b _ => b ∈ bs

def SomeAct (P : Program) (op : BOp) (tm : Tm) (bs : List Nat) (H H' : AHeap) (v : AVal) : Prop :=
  ∃ a : HAct, a.On bs ∧ H' = a.run H ∧ ∀ G : AHeap, G.next = H.next → (∀ b ∈ bs, G.get b = H.get b) → op.mem P tm G = .v v (a.run G)

theorem firstA_same {size n : Nat} {x : AVal} {l : List Nat} (hl : x.sblk = some l) {G : AHeap} (hG : ∀ b ∈ l, G.get b = H.get b) : firstA G size n x = firstA H size n x := by
  cases x <;> simp only [AVal.sblk, reduceCtorEq, Option.some.injEq] at hl <;> subst hl <;> simp only [firstA]
  rename_i b o len cap esz ex
  have : G.cellsAt b o (n * size) = H.cellsAt b o (n * size) := by unfold AHeap.cellsAt; rw [hG b (by simp)]
  rw [this]

theorem appendTo_form {e esz bytes n : Nat} {new : List AVal} {s : AVal} {l : List Nat} (hl : s.sblk = some l) (hm : appendTo e esz bytes n new H s = .v v H') :
    ∃ a : HAct, a.On l ∧ H' = a.run H ∧ ∀ G : AHeap, G.next = H.next → (∀ b ∈ l, G.get b = H.get b) → appendTo e esz bytes n new G s = .v v (a.run G) := by
  cases s <;> simp only [AVal.sblk, reduceCtorEq, Option.some.injEq] at hl
  case str t => simp only [appendTo, reduceCtorEq] at hm
  case emptySlice => simp only [appendTo, reduceCtorEq] at hm
  case nilSlice =>
    simp only [appendTo, Bool.cond_eq_ite] at hm
    split at hm
    · cases hm
      rename_i h1
      exact ⟨.id, trivial, rfl, fun G hn _ => by simp only [appendTo, Bool.cond_eq_ite, if_pos h1]; rfl⟩
    · rename_i h1
      split at hm
      · rename_i h2
        cases hm
        exact ⟨.new _, trivial, rfl, fun G hn _ => by simp only [appendTo, Bool.cond_eq_ite, if_neg h1, if_pos h2, hn]; rfl⟩
      · cases hm
  case slice b o len cap esz' ex =>
    subst hl
    simp only [appendTo, Bool.cond_eq_ite] at hm
    split at hm
    · cases hm
    · rename_i h0
      split at hm
      · rename_i h1
        split at hm
        · rename_i h2
          cases hm
          exact ⟨.id, trivial, rfl, fun G hn hG => by simp only [appendTo, Bool.cond_eq_ite, if_neg h0, if_pos h1, if_pos h2]; rfl⟩
        · rename_i h2
          split at hm
          · rename_i cs t hb
            split at hm
            · rename_i h3
              cases hm
              exact ⟨.set b _, by simp [HAct.On], rfl, fun G hn hG => by simp only [appendTo, Bool.cond_eq_ite, if_neg h0, if_pos h1, if_neg h2, hG b (by simp), hb, if_pos h3]; rfl⟩
            · cases hm
          · cases hm
      · rename_i h1
        split at hm
        · rename_i h2
          split at hm
          · rename_i cs t wr hb
            split at hm
            · rename_i old ho
              split at hm
              · rename_i h3
                cases hm
                exact ⟨.new _, trivial, rfl, fun G hn hG => by simp only [appendTo, Bool.cond_eq_ite, if_neg h0, if_neg h1, if_pos h2, hG b (by simp), hb, ho, if_pos h3, hn]; rfl⟩
              · rename_i h3
                split at hm
                · rename_i h4
                  cases hm
                  exact ⟨.dropNew b _, by simp [HAct.On], rfl, fun G hn hG => by simp only [appendTo, Bool.cond_eq_ite, if_neg h0, if_neg h1, if_pos h2, hG b (by simp), hb, ho, if_neg h3, if_pos h4, hn]; rfl⟩
                · cases hm
            · cases hm
          · cases hm
        · cases hm

theorem local_one {op : BOp} {b : List Nat} (hk : op.kind = .read ∨ op.kind = .write) (hb : op.blk tm = some b) (hm : op.mem P tm H = .v v H') : SomeAct P op tm b H H' v := by
  cases op <;> simp only [BOp.blk, reduceCtorEq] at hb
  case load1 a =>
    simp only [BOp.mem] at hm
    revert hm hb
    cases ha : a.ev tm <;> intro hb hm <;> simp only [load1A, reduceCtorEq] at hm
    rename_i bb o
    simp only [AVal.blk, Option.some.injEq] at hb
    subst hb
    obtain ⟨hr, rfl⟩ := ov_eq hm
    refine ⟨.id, trivial, rfl, fun G _ hG' => ?_⟩
    have hG := hG' _ (List.mem_singleton.2 rfl)
    have : G.cellAt bb o = H'.cellAt bb o := by unfold AHeap.cellAt; rw [hG]
    simp only [BOp.mem, ha, load1A, this, hr]
    rfl
  case loadN n a =>
    simp only [BOp.mem] at hm
    revert hm hb
    cases ha : a.ev tm <;> intro hb hm <;> simp only [loadNA, reduceCtorEq] at hm
    rename_i bb o
    simp only [AVal.blk, Option.some.injEq] at hb
    subst hb
    have key : ∀ G : AHeap, G.get bb = H.get bb → G.cellsAt bb o n = H.cellsAt bb o n := fun G hG => by unfold AHeap.cellsAt; rw [hG]
    split at hm
    · rename_i cs hcs
      cases hm
      refine ⟨.id, trivial, rfl, fun G _ hG' => ?_⟩
      have hG := hG' _ (List.mem_singleton.2 rfl)
      simp only [BOp.mem, ha, loadNA, key G hG, hcs]
      rfl
    · cases hm
  case look kk ok z m k =>
    simp only [BOp.mem] at hm
    unfold lookA at hm
    split at hm
    · rename_i es hes
      revert hes hb
      cases ha : m.ev tm <;> intro hb hes <;> simp only [mapEs, reduceCtorEq, AVal.blk, Option.some.injEq] at hes hb
      rename_i bb
      subst hb
      have key : ∀ G : AHeap, G.get bb = H.get bb → mapEs G (.map bb) = some es := fun G hG => by simp only [mapEs, hG]; exact hes
      split at hm
      · rename_i u hu
        obtain ⟨hr, rfl⟩ := ov_eq hm
        refine ⟨.id, trivial, rfl, fun G _ hG' => ?_⟩
        have hG := hG' _ (List.mem_singleton.2 rfl)
        simp only [BOp.mem, ha, lookA, key G hG, hu, hr]
        rfl
      · rename_i hu
        cases hm
        refine ⟨.id, trivial, rfl, fun G _ hG' => ?_⟩
        have hG := hG' _ (List.mem_singleton.2 rfl)
        simp only [BOp.mem, ha, lookA, key G hG, hu]
        rfl
      · cases hm
    · cases hm
  case store n a x =>
    simp only [BOp.mem] at hm
    obtain ⟨c, oo, cs, e, hp, rfl, h1, h2, h3, h4, rfl⟩ := storeA_some hm
    rw [hp] at hb
    simp only [AVal.blk, Option.some.injEq] at hb
    subst hb
    refine ⟨.set c _, by simp [HAct.On], rfl, fun G _ hG' => ?_⟩
    have hG := hG' _ (List.mem_singleton.2 rfl)
    simp only [BOp.mem]
    have hst : ∀ vs, G.storeAt c oo vs = (match H.storeAt c oo vs with
        | some _ => some (G.set c (.cells (splice cs oo vs) e .rw))
        | none => none) := by
      intro vs
      unfold AHeap.storeAt
      rw [hG, h3]
      simp only
      cases Nat.ble (oo + vs.length) cs.length <;> rfl
    have hs1 : ∀ u, G.store1 c oo u = (match H.store1 c oo u with
        | some _ => some (G.set c (.cells (splice cs oo [u]) e .rw))
        | none => none) := by
      intro u
      unfold AHeap.store1
      rw [hG, h3]
      simp only
      cases hb : Nat.blt oo cs.length with
      | false => rfl
      | true => simp only [cond_true]; rw [splice_one _ _ _ (blt_iff.1 hb)]
    rw [hp] at hm ⊢
    revert hm
    generalize x.ev tm = u
    intro hm
    simp only [storeA] at hm ⊢
    cases hn : Nat.beq n 1 with
    | false =>
      rw [hn] at hm
      simp only [cond_false] at hm ⊢
      cases u <;> try (simp only [reduceCtorEq] at hm; done)
      rename_i us
      simp only at hm ⊢
      cases hq : (Nat.beq us.length n && us.all AVal.plain) with
      | false => rw [hq] at hm; cases hm
      | true =>
        rw [hq] at hm
        simp only [cond_true] at hm ⊢
        rw [hst]
        split at hm
        · rename_i H2 hs; rw [hs]; rfl
        · cases hm
    | true =>
      rw [hn] at hm
      simp only [cond_true] at hm ⊢
      split at hm
      · rename_i u1 x1
        cases hpl : x1.plain with
        | false => rw [hpl] at hm; cases hm
        | true =>
          rw [hpl] at hm
          simp only [cond_true] at hm ⊢
          rw [hs1]
          split at hm
          · rename_i H2 hs; rw [hs]; rfl
          · cases hm
      · rename_i u1 hne
        cases hpl : u.plain with
        | false => rw [hpl] at hm; cases hm
        | true =>
          rw [hpl] at hm
          simp only [cond_true] at hm
          cases u <;> first | (simp [AVal.plain] at hpl; done) | skip
          all_goals
            simp only [AVal.plain, cond_true] at hm ⊢
            rw [hs1]
            split at hm
            · rename_i H2 hs; rw [hs]; rfl
            · cases hm
  case append e esz bytes s x =>
    simp only [BOp.mem, appendA] at hm
    unfold bothL at hb
    split at hb
    · rename_i l1 l2 hl1 hl2
      cases hb
      split at hm
      · rename_i n hn
        split at hm
        · rename_i new hnew
          simp only [Bool.cond_eq_ite] at hm
          split at hm
          · cases hm
          · rename_i h1
            obtain ⟨a, h2, h3, h4⟩ := appendTo_form hl1 hm
            refine ⟨a, ?_, h3, fun G hGn hG => ?_⟩
            · cases a <;> simp only [HAct.On, List.mem_append] at h2 ⊢ <;> exact .inl h2
            · have hf := firstA_same (H := H) (size := esz) (n := n) hl2 (G := G) fun b hb => hG b (by simp [hb])
              simp only [BOp.mem, appendA, hn, hf, hnew, Bool.cond_eq_ite, if_neg h1]
              exact h4 G hGn fun b hb => hG b (by simp [hb])
        · cases hm
      · cases hm
    · cases hb

/-- What an operation at all of memory does to it. -/
theorem local_all {op : BOp} (hk : op.kind = .read ∨ op.kind = .write) (hm : op.mem P tm H = .v v H') : H.next ≤ H'.next ∧ H'.low ≤ H.low ∧ (op.kind = .read → H' = H) := by
  have ovl : ∀ {r : Option AVal}, ov r H = .v v H' → H' = H := fun h => (ov_eq h).2
  cases op <;> simp only [BOp.kind, reduceCtorEq, or_false, or_self] at hk
  all_goals simp only [BOp.mem] at hm
  case load1 a =>
    unfold load1A at hm
    split at hm
    · have := ovl hm; subst this; exact ⟨Nat.le_refl _, Nat.le_refl _, fun _ => rfl⟩
    · cases hm
  case loadN n a =>
    unfold loadNA at hm
    repeat' split at hm
    all_goals first
      | (cases hm; done)
      | (cases hm; exact ⟨Nat.le_refl _, Nat.le_refl _, fun _ => rfl⟩)
  case look kk ok z m k =>
    unfold lookA at hm
    repeat' split at hm
    all_goals first
      | (cases hm; done)
      | (have := ovl hm; subst this; exact ⟨Nat.le_refl _, Nat.le_refl _, fun _ => rfl⟩)
      | (cases hm; exact ⟨Nat.le_refl _, Nat.le_refl _, fun _ => rfl⟩)
  case toStr x =>
    unfold toStrA at hm
    repeat' split at hm
    all_goals first
      | (cases hm; done)
      | (cases hm; exact ⟨Nat.le_refl _, Nat.le_refl _, fun _ => rfl⟩)
  case toUns x =>
    simp only [toUnsA, Bool.cond_eq_ite] at hm
    repeat' split at hm
    all_goals first
      | (cases hm; done)
      | (cases hm; exact ⟨Nat.le_refl _, Nat.le_refl _, fun _ => rfl⟩)
  case ofUns u n x =>
    simp only [ofUnsA, Bool.cond_eq_ite] at hm
    repeat' split at hm
    all_goals first
      | (cases hm; done)
      | (cases hm; exact ⟨Nat.le_refl _, Nat.le_refl _, fun _ => rfl⟩)
  case lenMap x =>
    unfold lenMapA at hm
    repeat' split at hm
    all_goals first
      | (cases hm; done)
      | (cases hm; exact ⟨Nat.le_refl _, Nat.le_refl _, fun _ => rfl⟩)
  case store n a x =>
    obtain ⟨c, oo, cs, e, hp, rfl, h1, h2, h3, h4, rfl⟩ := storeA_some hm
    exact ⟨Nat.le_refl _, by simp; omega, fun h => by cases h⟩
  case upd kk m k x =>
    unfold mupdA at hm
    repeat' split at hm
    all_goals first
      | (cases hm; done)
      | (cases hm; exact ⟨Nat.le_refl _, by simp; omega, fun h => by cases h⟩)
  case still x =>
    simp only [stillA, Bool.cond_eq_ite] at hm
    repeat' split at hm
    all_goals first
      | (cases hm; done)
      | (cases hm; exact ⟨Nat.le_refl _, by simp; omega, fun h => by cases h⟩)
  case nxt x =>
    simp only [nxtA, Bool.cond_eq_ite] at hm
    repeat' split at hm
    all_goals first
      | (cases hm; done)
      | (cases hm; exact ⟨Nat.le_refl _, by first | (simp; done) | (simp; omega), fun h => by cases h⟩)
      | (cases hm; exact ⟨Nat.le_refl _, by simp; omega, fun h => by cases h⟩)
  case append e esz bytes s x =>
    simp only [appendA, appendTo, Bool.cond_eq_ite] at hm
    repeat' split at hm
    all_goals first
      | (cases hm; done)
      | (cases hm; exact ⟨by simp, by first | (simp; done) | (simp; omega), fun h => by cases h⟩)
      | (cases hm; exact ⟨by simp, by simp; omega, fun h => by cases h⟩)
  case appendZ e esz bytes z s x =>
    simp only [appendZA, appendTo, Bool.cond_eq_ite] at hm
    repeat' split at hm
    all_goals first
      | (cases hm; done)
      | (cases hm; exact ⟨by simp, by first | (simp; done) | (simp; omega), fun h => by cases h⟩)
      | (cases hm; exact ⟨by simp, by simp; omega, fun h => by cases h⟩)
  case copy esz d s =>
    simp only [copyA, Bool.cond_eq_ite] at hm
    repeat' split at hm
    all_goals first
      | (cases hm; done)
      | (cases hm; exact ⟨Nat.le_refl _, Nat.le_refl _, fun h => by cases h⟩)
      | (rename_i hs
         cases hm
         obtain ⟨_, _, _, _, rfl⟩ := storeAt_some hs
         exact ⟨Nat.le_refl _, by simp; omega, fun h => by cases h⟩)
  case clear z x =>
    simp only [clearA, Bool.cond_eq_ite] at hm
    repeat' split at hm
    all_goals first
      | (cases hm; done)
      | (cases hm; exact ⟨Nat.le_refl _, Nat.le_refl _, fun h => by cases h⟩)
      | (rename_i hs
         cases hm
         obtain ⟨_, _, _, _, rfl⟩ := storeAt_some hs
         exact ⟨Nat.le_refl _, by simp; omega, fun h => by cases h⟩)
  case ustr t p l =>
    simp only [ustrA, Bool.cond_eq_ite] at hm
    repeat' split at hm
    all_goals first
      | (cases hm; done)
      | (cases hm; exact ⟨Nat.le_refl _, Nat.le_refl _, fun h => by cases h⟩)
      | (cases hm; exact ⟨Nat.le_refl _, by simp; omega, fun h => by cases h⟩)

end
end Go.Eng

namespace Go.Eng
set_option linter.unusedSimpArgs false

/-! ### The last word -/

/-- What the last of X says, of those below a number. -/
def pick {α : Type} (X : Nat → Bool) (upd : Nat → Option α) (a : α) : Nat → α
  | 0 => a
  | j + 1 => if X j = true then (upd j).getD (pick X upd a j) else pick X upd a j

theorem pick_eq {α : Type} {X : Nat → Bool} {upd : Nat → Option α} {a : α} {j : Nat} (h1 : ∀ i, i < j → upd i ≠ none → X i = true) :
    ∀ n, j ≤ n → (∀ k, j ≤ k → k < n → X k = true → upd k = none) → pick X upd a n = pick (fun _ => true) upd a j
  | n, hn, h2 => by
    by_cases hj : n = j
    · subst hj
      clear hn h2
      induction n with
      | zero => rfl
      | succ n ih =>
        have := ih fun i hi => h1 i (by omega)
        simp only [pick, if_true]
        cases hu : upd n with
        | none => simp only [Option.getD_none, this, ite_self]
        | some x =>
          rw [if_pos (h1 n (by omega) (by rw [hu]; simp))]
          rfl
    · obtain ⟨n, rfl⟩ : ∃ n', n = n' + 1 := ⟨n - 1, by omega⟩
      have := pick_eq (a := a) h1 n (by omega) fun k hk1 hk2 => h2 k hk1 (by omega)
      simp only [pick]
      split
      · rename_i hx
        rw [h2 n (by omega) (by omega) hx]
        exact this
      · exact this

theorem pick_add {α : Type} {X : Nat → Bool} {upd : Nat → Option α} {a : α} {j : Nat} (hX : X j = false) : ∀ n, j < n → (∀ k, j < k → k < n → X k = true → upd j ≠ none → upd k = none) →
    pick (fun i => X i || i == j) upd a n = (upd j).getD (pick X upd a n)
  | n + 1, hn, h => by
    by_cases hj : n = j
    · subst hj
      simp only [pick, hX, Bool.false_eq_true, if_false, beq_self_eq_true, Bool.or_true, if_true]
      have : ∀ m, m ≤ n → pick (fun i => X i || i == n) upd a m = pick X upd a m := by
        intro m
        induction m with
        | zero => intro _; rfl
        | succ m ih =>
          intro hm
          have hne : (m == n) = false := by simp; omega
          simp only [pick, hne, Bool.or_false, ih (by omega)]
      rw [this n (Nat.le_refl _)]
    · have ih := pick_add (a := a) hX n (by omega) fun k h1 h2 => h k h1 (by omega)
      have hne : (n == j) = false := by simpa using hj
      simp only [pick, hne, Bool.or_false, ih]
      by_cases hx : X n = true
      · rw [if_pos hx, if_pos hx]
        cases hu : upd j with
        | none => rfl
        | some x =>
          rw [h n (by omega) (by omega) hx (by rw [hu]; simp)]
          rfl
      · rw [if_neg hx, if_neg hx]

/-! ### The run in the order of the text -/

structure Rec where
  o : BIns
  m : Nat
  tm : Tm
  H : AHeap
  v : AVal
  H' : AHeap
  loud : Option (Bool × Option (List Nat))

/-- One operation that is done. -/
inductive OpOk (P : Program) (R : Tab) (base made : Nat) (ls : List Loud) (m : Nat) (tm : Tm) (H : AHeap) (op : BOp) : AVal → AHeap → Option (Bool × Option (List Nat)) → Prop
  | quiet {v : AVal} {H' : AHeap} (hk : op.kind = .pure) (hm : op.mem P tm H = .v v H') : OpOk P R base made ls m tm H op v H' none
  | read {v : AVal} {H' : AHeap} (hk : op.kind = .read) (hm : op.mem P tm H = .v v H') (hmade : within made m = true ∨ ∃ l, op.blk tm = some l ∧ ∀ b ∈ l, b < base) (hf : freeOf m false (op.blk tm) ls = true) :
      OpOk P R base made ls m tm H op v H' (some (false, op.blk tm))
  | write {v : AVal} {H' : AHeap} (hk : op.kind = .write) (hm : op.mem P tm H = .v v H') (hmade : within made m = true ∨ ∃ l, op.blk tm = some l ∧ ∀ b ∈ l, b < base) (hf : freeOf m true (op.blk tm) ls = true) :
      OpOk P R base made ls m tm H op v H' (some (true, op.blk tm))
  | callR {v : AVal} {H1 : AHeap} (hc : op.isCall = true) (hmade : within made m = true) (hm : op.callB P R tm ⟨H.tr, H.next, H.next⟩ = .ret v H1) (hn : H.next ≤ H1.next) (hl : H.next ≤ H1.low) (hf : freeOf m false none ls = true) :
      OpOk P R base made ls m tm H op v (adopt H H1) (some (false, none))
  | callW {v : AVal} {H1 : AHeap} (hc : op.isCall = true) (hmade : within made m = true) (hm : op.callB P R tm ⟨H.tr, H.next, H.next⟩ = .ret v H1) (hn : H.next ≤ H1.next) (hf : freeOf m true none ls = true) :
      OpOk P R base made ls m tm H op v ⟨H1.tr, H1.next, Nat.min H.low H1.low⟩ (some (true, none))

def loudOf (i : Nat) (ls : List Loud) : Option (Bool × Option (List Nat)) → List Loud
  | none => ls
  | some (wr, blk) => ⟨i, wr, blk⟩ :: ls

def madeOf (i made : Nat) (H H' : AHeap) : Nat := bif Nat.beq H.next H'.next then made else Nat.lor made (2 ^ i)

inductive Trc (P : Program) (R : Tab) (base : Nat) (all : List (BIns × Nat)) (st₀ : St) : List Rec → Nat → List Loud → St → Prop
  | nil : Trc P R base all st₀ [] 0 [] st₀
  | skip {recs : List Rec} {made : Nat} {ls : List Loud} {st : St} {o : BIns} {m : Nat} (h : Trc P R base all st₀ recs made ls st) (ho : all[recs.length]? = some (o, m)) (hw : wantedB o.guard st.tm = false) :
      Trc P R base all st₀ (recs ++ [⟨o, m, st.tm, st.H, .undef, st.H, none⟩]) made ls (st.put o.dst .undef st.H)
  | op {recs : List Rec} {made : Nat} {ls : List Loud} {st : St} {o : BIns} {m : Nat} {v : AVal} {H' : AHeap} {loud : Option (Bool × Option (List Nat))} (h : Trc P R base all st₀ recs made ls st) (ho : all[recs.length]? = some (o, m))
      (hw : wantedB o.guard st.tm = true) (hop : OpOk P R base made ls m st.tm st.H o.op v H' loud) :
      Trc P R base all st₀ (recs ++ [⟨o, m, st.tm, st.H, v, H', loud⟩]) (madeOf recs.length made st.H H') (loudOf recs.length ls loud) (st.put o.dst v H')

/-- One operation that panics. -/
structure PanAt (P : Program) (R : Tab) (all : List (BIns × Nat)) (i made : Nat) (st : St) (ch : List APan) (st' : St) : Prop where
  at' : ∃ o m H1, all[i]? = some (o, m) ∧ wantedB o.guard st.tm = true ∧ o.op.isCall = true ∧ within made m = true ∧ o.op.callB P R st.tm ⟨st.H.tr, st.H.next, st.H.next⟩ = .pan ch H1 ∧
    allWait i (all.drop (i + 1)) = true ∧ within (2 ^ i - 1) m = true ∧ st' = ⟨st.tm, st.defs, st.rcv, st.rnd, ⟨H1.tr, H1.next, Nat.min st.H.low H1.low⟩⟩

section
variable {P : Program} {R : Tab} {base : Nat} {all : List (BIns × Nat)} {st₀ : St}

theorem drawOp_cases {tm : Tm} {op : BOp} {H : AHeap} {made : Nat} {ls : List Loud} {m : Nat} :
    (∀ v H', drawOp P R tm op H base made ls m = .pure v H' → OpOk P R base made ls m tm H op v H' none) ∧
    (∀ v H' wr blk, drawOp P R tm op H base made ls m = .loud v H' wr blk → OpOk P R base made ls m tm H op v H' (some (wr, blk))) ∧
    (∀ ch H', drawOp P R tm op H base made ls m = .pan ch H' → op.isCall = true ∧ within made m = true ∧ ∃ H1, op.callB P R tm ⟨H.tr, H.next, H.next⟩ = .pan ch H1 ∧ H' = ⟨H1.tr, H1.next, Nat.min H.low H1.low⟩) := by
  have all : ∀ {l : List Nat}, allB l base = true → ∀ b ∈ l, b < base := by
    intro l
    induction l with
    | nil => intro _ b hb; cases hb
    | cons x xs ih =>
      intro h b hb
      simp only [allB, Bool.and_eq_true] at h
      cases hb with
      | head => exact blt_iff.1 h.1
      | tail _ hb => exact ih h.2 b hb
  have below : ∀ {o : Option (List Nat)}, Option.belowO o base = true → ∃ l, o = some l ∧ ∀ b ∈ l, b < base := by
    intro o h
    cases o with
    | none => cases h
    | some b => exact ⟨b, rfl, all h⟩
  unfold drawOp
  cases hk : op.kind with
  | pure =>
    refine ⟨fun v H' h => ?_, fun v H' wr blk h => ?_, fun ch H' h => ?_⟩
    all_goals (simp only [drawPure] at h; split at h <;> cases h)
    exact .quiet hk ‹_›
  | read =>
    simp only
    cases hc : ((within made m || Option.belowO (op.blk tm) base) && freeOf m false (op.blk tm) ls) with
    | false => exact ⟨fun v H' h => (by cases h), fun v H' wr blk h => (by cases h), fun ch H' h => (by cases h)⟩
    | true =>
      simp only [Bool.and_eq_true, Bool.or_eq_true] at hc
      refine ⟨fun v H' h => ?_, fun v H' wr blk h => ?_, fun ch H' h => ?_⟩
      all_goals (simp only [cond_true, drawLoud] at h; split at h <;> cases h)
      exact .read hk ‹_› (hc.1.imp id below) hc.2
  | write =>
    simp only
    cases hc : ((within made m || Option.belowO (op.blk tm) base) && freeOf m true (op.blk tm) ls) with
    | false => exact ⟨fun v H' h => (by cases h), fun v H' wr blk h => (by cases h), fun ch H' h => (by cases h)⟩
    | true =>
      simp only [Bool.and_eq_true, Bool.or_eq_true] at hc
      refine ⟨fun v H' h => ?_, fun v H' wr blk h => ?_, fun ch H' h => ?_⟩
      all_goals (simp only [cond_true, drawLoud] at h; split at h <;> cases h)
      exact .write hk ‹_› (hc.1.imp id below) hc.2
  | other =>
    simp only
    cases hc : (op.isCall && within made m) with
    | false => exact ⟨fun v H' h => (by cases h), fun v H' wr blk h => (by cases h), fun ch H' h => (by cases h)⟩
    | true =>
      simp only [Bool.and_eq_true] at hc
      simp only [cond_true]
      cases hcall : op.callB P R tm ⟨H.tr, H.next, H.next⟩ with
      | fail => exact ⟨fun v H' h => (by cases h), fun v H' wr blk h => (by cases h), fun ch H' h => (by cases h)⟩
      | pan ch1 H1 =>
        simp only
        cases freeOf m true none ls with
        | false => exact ⟨fun v H' h => (by cases h), fun v H' wr blk h => (by cases h), fun ch H' h => (by cases h)⟩
        | true => exact ⟨fun v H' h => (by cases h), fun v H' wr blk h => (by cases h), fun ch H' h => by cases h; exact ⟨hc.1, hc.2, H1, rfl, rfl⟩⟩
      | ret v1 H1 =>
        simp only
        cases hn : Nat.ble H.next H1.next with
        | false => exact ⟨fun v H' h => (by cases h), fun v H' wr blk h => (by cases h), fun ch H' h => (by cases h)⟩
        | true =>
          have hn := ble_iff.1 hn
          simp only [Bool.not_true, cond_false]
          cases hl : Nat.ble H.next H1.low with
          | true =>
            have hl := ble_iff.1 hl
            simp only [cond_true]
            cases hf : freeOf m false none ls with
            | false => exact ⟨fun v H' h => (by cases h), fun v H' wr blk h => (by cases h), fun ch H' h => (by cases h)⟩
            | true => exact ⟨fun v H' h => (by cases h), fun v H' wr blk h => (by cases h; exact .callR hc.1 hc.2 hcall hn hl hf), fun ch H' h => (by cases h)⟩
          | false =>
            simp only [cond_false]
            cases hf : freeOf m true none ls with
            | false => exact ⟨fun v H' h => (by cases h), fun v H' wr blk h => (by cases h), fun ch H' h => (by cases h)⟩
            | true => exact ⟨fun v H' h => (by cases h), fun v H' wr blk h => (by cases h; exact .callW hc.1 hc.2 hcall hn hf), fun ch H' h => (by cases h)⟩

theorem draw_trace : ∀ (os : List (BIns × Nat)) {recs : List Rec} {made : Nat} {ls : List Loud} {st : St}, Trc P R base all st₀ recs made ls st → all.drop recs.length = os →
    (∀ st', drawOps P R base os recs.length made ls st = .norm st' → ∃ recs' made' ls', Trc P R base all st₀ recs' made' ls' st' ∧ recs'.length = all.length) ∧
    (∀ ch st', drawOps P R base os recs.length made ls st = .pan ch st' → ∃ recs' made' ls' stp, Trc P R base all st₀ recs' made' ls' stp ∧ PanAt P R all recs'.length made' stp ch st') ∧
    (∀ id st', drawOps P R base os recs.length made ls st ≠ .exit id st') ∧ (∀ st', drawOps P R base os recs.length made ls st ≠ .ret st')
  | [], recs, made, ls, st, h, hd => by
    refine ⟨fun st' e => ?_, fun ch st' e => ?_, fun id st' e => ?_, fun st' e => ?_⟩
    · simp only [drawOps, CR.norm.injEq] at e
      subst e
      refine ⟨recs, made, ls, h, ?_⟩
      have h1 := List.drop_eq_nil_iff.1 hd
      have h2 : recs.length ≤ all.length := by
        clear hd h1
        induction h with
        | nil => simp
        | skip h ho hw ih => have := (List.getElem?_eq_some_iff.1 ho).1; simp; omega
        | op h ho hw hop ih => have := (List.getElem?_eq_some_iff.1 ho).1; simp; omega
      omega
    · cases e
    · cases e
    · cases e
  | (o, m) :: os, recs, made, ls, st, h, hd => by
    have ho : all[recs.length]? = some (o, m) := by
      have := congrArg (·[0]?) hd
      simpa using this
    have hd' : all.drop (recs.length + 1) = os := by rw [← List.drop_drop, hd]; rfl
    simp only [drawOps]
    cases hw : wantedB o.guard st.tm with
    | false =>
      simp only [cond_false]
      have ht := Trc.skip h ho hw
      have := draw_trace os ht (by simpa using hd')
      simpa using this
    | true =>
      simp only [cond_true]
      obtain ⟨c1, c2, c3⟩ := drawOp_cases (P := P) (R := R) (base := base) (tm := st.tm) (op := o.op) (H := st.H) (made := made) (ls := ls) (m := m)
      cases hdr : drawOp P R st.tm o.op st.H base made ls m with
      | pure v H' =>
        have ht := Trc.op h ho hw (c1 v H' hdr)
        have := draw_trace os ht (by simpa using hd')
        simpa [loudOf, madeOf] using this
      | loud v H' wr blk =>
        have ht := Trc.op h ho hw (c2 v H' wr blk hdr)
        have := draw_trace os ht (by simpa using hd')
        simpa [loudOf, madeOf] using this
      | pan ch H' =>
        obtain ⟨g1, g2, H1, g3, g4⟩ := c3 ch H' hdr
        dsimp only
        cases hq : (allWait recs.length os && within (2 ^ recs.length - 1) m) with
        | false => exact ⟨fun st' e => (by cases e), fun ch st' e => (by cases e), fun id st' e => (by cases e), fun st' e => (by cases e)⟩
        | true =>
          simp only [Bool.and_eq_true] at hq
          refine ⟨fun st' e => (by cases e), fun ch st' e => ?_, fun id st' e => (by cases e), fun st' e => (by cases e)⟩
          simp only [cond_true, CR.pan.injEq] at e
          obtain ⟨rfl, rfl⟩ := e
          exact ⟨recs, made, ls, st, h, ⟨o, m, H1, ho, hw, g1, g2, g3, by rw [hd']; exact hq.1, hq.2, by rw [g4]⟩⟩
      | fail => exact ⟨fun st' e => (by cases e), fun ch st' e => (by cases e), fun id st' e => (by cases e), fun st' e => (by cases e)⟩

end
end Go.Eng

namespace Go.Eng
set_option linter.unusedSimpArgs false

/-- One operation that is done, without what was asked of the others. -/
inductive OpDone (P : Program) (R : Tab) (tm : Tm) (H : AHeap) (op : BOp) : AVal → AHeap → Option (Bool × Option (List Nat)) → Prop
  | quiet {v : AVal} {H' : AHeap} (hk : op.kind = .pure) (hm : op.mem P tm H = .v v H') : OpDone P R tm H op v H' none
  | read {v : AVal} {H' : AHeap} (hk : op.kind = .read) (hm : op.mem P tm H = .v v H') : OpDone P R tm H op v H' (some (false, op.blk tm))
  | write {v : AVal} {H' : AHeap} (hk : op.kind = .write) (hm : op.mem P tm H = .v v H') : OpDone P R tm H op v H' (some (true, op.blk tm))
  | callR {v : AVal} {H1 : AHeap} (hc : op.isCall = true) (hm : op.callB P R tm ⟨H.tr, H.next, H.next⟩ = .ret v H1) (hn : H.next ≤ H1.next) (hl : H.next ≤ H1.low) : OpDone P R tm H op v (adopt H H1) (some (false, none))
  | callW {v : AVal} {H1 : AHeap} (hc : op.isCall = true) (hm : op.callB P R tm ⟨H.tr, H.next, H.next⟩ = .ret v H1) (hn : H.next ≤ H1.next) : OpDone P R tm H op v ⟨H1.tr, H1.next, Nat.min H.low H1.low⟩ (some (true, none))

inductive Did (P : Program) (R : Tab) (r : Rec) : Prop
  | skip (hw : wantedB r.o.guard r.tm = false) (hv : r.v = .undef) (hH : r.H' = r.H) (hl : r.loud = none)
  | done (hw : wantedB r.o.guard r.tm = true) (h : OpDone P R r.tm r.H r.o.op r.v r.H' r.loud)

noncomputable def tmAt (recs : List Rec) (t₀ : Tm) : Nat → Tm
  | 0 => t₀
  | j + 1 => match recs[j]? with
    | some r => putD r.o.dst r.v r.tm
    | none => t₀

noncomputable def HAt (recs : List Rec) (H₀ : AHeap) : Nat → AHeap
  | 0 => H₀
  | j + 1 => match recs[j]? with
    | some r => r.H'
    | none => H₀

structure Facts (P : Program) (R : Tab) (base : Nat) (all : List (BIns × Nat)) (st₀ : St) (recs : List Rec) (st : St) : Prop where
  src : ∀ (j : Nat) (r : Rec), recs[j]? = some r → all[j]? = some (r.o, r.m)
  tm : ∀ (j : Nat) (r : Rec), recs[j]? = some r → r.tm = tmAt recs st₀.tm j
  H : ∀ (j : Nat) (r : Rec), recs[j]? = some r → r.H = HAt recs st₀.H j
  tmE : st.tm = tmAt recs st₀.tm recs.length
  HE : st.H = HAt recs st₀.H recs.length
  defs : st.defs = st₀.defs
  rcv : st.rcv = st₀.rcv
  rnd : st.rnd = st₀.rnd
  did : ∀ (j : Nat) (r : Rec), recs[j]? = some r → Did P R r
  apart : ∀ (i j : Nat) (ri rj : Rec) (wi : Bool) (bi : Option (List Nat)) (wj : Bool) (bj : Option (List Nat)), i < j → recs[i]? = some ri → recs[j]? = some rj → ri.loud = some (wi, bi) → rj.loud = some (wj, bj) →
    Nat.testBit rj.m i = true ∨ (wi = false ∧ wj = false) ∨ ∃ l m, bi = some l ∧ bj = some m ∧ ∀ b ∈ l, b ∉ m
  made : ∀ (j : Nat) (rj : Rec) (w : Bool) (blk : Option (List Nat)), recs[j]? = some rj → rj.loud = some (w, blk) → (∀ (i : Nat) (ri : Rec), i < j → recs[i]? = some ri → ri.H.next ≠ ri.H'.next → Nat.testBit rj.m i = true) ∨ ∃ l, blk = some l ∧ ∀ b ∈ l, b < base

theorem memN_iff {b : Nat} : ∀ {l : List Nat}, memN b l = true ↔ b ∈ l
  | [] => by simp [memN]
  | c :: cs => by simp only [memN, Bool.or_eq_true, memN_iff (l := cs), List.mem_cons, beq_iff]

theorem apartL_mem : ∀ {k l : List Nat}, apartL k l = true → ∀ b ∈ k, b ∉ l
  | [], _, _, b, hb => by cases hb
  | x :: xs, l, h, b, hb => by
    simp only [apartL, Bool.and_eq_true, Bool.not_eq_true'] at h
    cases hb with
    | head => exact fun hl => by rw [memN_iff.2 hl] at h; cases h.1
    | tail _ hb => exact apartL_mem h.2 b hb

theorem freeOf_mem {m : Nat} {wr : Bool} {blk : Option (List Nat)} : ∀ {ls : List Loud}, freeOf m wr blk ls = true → ∀ l ∈ ls, Nat.testBit m l.op = true ∨ (l.wr = false ∧ wr = false) ∨ ∃ k n, l.blk = some k ∧ blk = some n ∧ ∀ b ∈ k, b ∉ n
  | [], _, l, hl => by cases hl
  | x :: ls, h, l, hl => by
    simp only [freeOf, Bool.and_eq_true, Bool.or_eq_true, Bool.not_eq_true'] at h
    cases hl with
    | tail _ hl => exact freeOf_mem h.2 l hl
    | head =>
      rcases h.1 with (h1 | h1) | h1
      · exact .inl h1
      · exact .inr (.inl ⟨h1.2, h1.1⟩)
      · refine .inr (.inr ?_)
        split at h1
        · rename_i b c hc
          refine ⟨_, _, hc, rfl, fun y hy hn => ?_⟩
          exact apartL_mem h1 y hn hy
        · cases h1

theorem within_bit {a b i : Nat} (h : within a b = true) (hi : Nat.testBit a i = true) : Nat.testBit b i = true := by
  unfold within at h
  have h := beq_iff.1 h
  have : Nat.testBit (Nat.land a b) i = Nat.testBit a i := by rw [h]
  have h2 : Nat.testBit (Nat.land a b) i = (Nat.testBit a i && Nat.testBit b i) := Nat.testBit_and a b i
  rw [h2, hi] at this
  simpa using this

section
variable {P : Program} {R : Tab} {base : Nat} {all : List (BIns × Nat)} {st₀ : St}

theorem tmAt_snoc {recs : List Rec} {r : Rec} {t₀ : Tm} : ∀ {j : Nat}, j ≤ recs.length → tmAt (recs ++ [r]) t₀ j = tmAt recs t₀ j
  | 0, _ => rfl
  | j + 1, h => by simp only [tmAt]; rw [List.getElem?_append_left (by omega)]

theorem HAt_snoc {recs : List Rec} {r : Rec} {H₀ : AHeap} : ∀ {j : Nat}, j ≤ recs.length → HAt (recs ++ [r]) H₀ j = HAt recs H₀ j
  | 0, _ => rfl
  | j + 1, h => by simp only [HAt]; rw [List.getElem?_append_left (by omega)]

theorem snoc_cases {recs : List Rec} {r x : Rec} {j : Nat} (h : (recs ++ [x])[j]? = some r) : recs[j]? = some r ∨ (j = recs.length ∧ r = x) := by
  rw [List.getElem?_append] at h
  split at h
  · exact .inl h
  · rename_i hj
    have : j - recs.length = 0 := by
      have := (List.getElem?_eq_some_iff.1 h).1
      simp at this
      omega
    rw [this] at h
    simp at h
    exact .inr ⟨by omega, h.symm⟩

theorem tr_facts {recs : List Rec} {made : Nat} {ls : List Loud} {st : St} (h : Trc P R base all st₀ recs made ls st) :
    Facts P R base all st₀ recs st ∧ (∀ (i : Nat) (r : Rec), recs[i]? = some r → r.H.next ≠ r.H'.next → Nat.testBit made i = true) ∧ (∀ (i : Nat) (r : Rec) (wr : Bool) (blk : Option (List Nat)), recs[i]? = some r → r.loud = some (wr, blk) → (⟨i, wr, blk⟩ : Loud) ∈ ls) := by
  induction h with
  | nil =>
    refine ⟨⟨?_, ?_, ?_, rfl, rfl, rfl, rfl, rfl, ?_, ?_, ?_⟩, ?_, ?_⟩ <;> simp
  | @skip recs made ls st o m h ho hw ih =>
    obtain ⟨f, f1, f2⟩ := ih
    refine ⟨⟨?_, ?_, ?_, ?_, ?_, f.defs, f.rcv, f.rnd, ?_, ?_, ?_⟩, ?_, ?_⟩
    · intro j r hr
      rcases snoc_cases hr with hr | ⟨rfl, rfl⟩
      · exact f.src j r hr
      · exact ho
    · intro j r hr
      rcases snoc_cases hr with hr' | ⟨rfl, rfl⟩
      · rw [tmAt_snoc (Nat.le_of_lt (List.getElem?_eq_some_iff.1 hr').1)]; exact f.tm j r hr'
      · rw [tmAt_snoc (Nat.le_refl _)]; exact f.tmE
    · intro j r hr
      rcases snoc_cases hr with hr' | ⟨rfl, rfl⟩
      · rw [HAt_snoc (Nat.le_of_lt (List.getElem?_eq_some_iff.1 hr').1)]; exact f.H j r hr'
      · rw [HAt_snoc (Nat.le_refl _)]; exact f.HE
    · simp [tmAt, St.put]
    · simp [HAt, St.put]
    · intro j r hr
      rcases snoc_cases hr with hr | ⟨rfl, rfl⟩
      · exact f.did j r hr
      · exact .skip hw rfl rfl rfl
    · intro i j ri rj wi bi wj bj hij hi hj hli hlj
      rcases snoc_cases hj with hj' | ⟨rfl, rfl⟩
      · rcases snoc_cases hi with hi' | ⟨rfl, rfl⟩
        · exact f.apart i j ri rj wi bi wj bj hij hi' hj' hli hlj
        · have := (List.getElem?_eq_some_iff.1 hj').1; omega
      · cases hlj
    · intro j rj w blk hj hl
      rcases snoc_cases hj with hj' | ⟨rfl, rfl⟩
      · rcases f.made j rj w blk hj' hl with g | g
        · refine .inl fun i ri hij hi hne => ?_
          rcases snoc_cases hi with hi' | ⟨rfl, rfl⟩
          · exact g i ri hij hi' hne
          · have := (List.getElem?_eq_some_iff.1 hj').1; omega
        · exact .inr g
      · cases hl
    · intro i r hr hne
      rcases snoc_cases hr with hr' | ⟨rfl, rfl⟩
      · exact f1 i r hr' hne
      · exact absurd rfl hne
    · intro i r wr blk hr hl
      rcases snoc_cases hr with hr' | ⟨rfl, rfl⟩
      · exact f2 i r wr blk hr' hl
      · cases hl
  | @op recs made ls st o m v H' loud h ho hw hop ih =>
    obtain ⟨f, f1, f2⟩ := ih
    have done : OpDone P R st.tm st.H o.op v H' loud := by
      cases hop with
      | quiet hk hm => exact .quiet hk hm
      | read hk hm _ _ => exact .read hk hm
      | write hk hm _ _ => exact .write hk hm
      | callR hc _ hm hn hl _ => exact .callR hc hm hn hl
      | callW hc _ hm hn _ => exact .callW hc hm hn
    have free : ∀ wr blk, loud = some (wr, blk) → freeOf m wr blk ls = true := by
      intro wr blk e
      cases hop <;> cases e <;> assumption
    have mades : ∀ wr blk, loud = some (wr, blk) → within made m = true ∨ ∃ l, blk = some l ∧ ∀ b ∈ l, b < base := by
      intro wr blk e
      cases hop <;> cases e <;> first | assumption | exact .inl ‹_›
    refine ⟨⟨?_, ?_, ?_, ?_, ?_, f.defs, f.rcv, f.rnd, ?_, ?_, ?_⟩, ?_, ?_⟩
    · intro j r hr
      rcases snoc_cases hr with hr | ⟨rfl, rfl⟩
      · exact f.src j r hr
      · exact ho
    · intro j r hr
      rcases snoc_cases hr with hr' | ⟨rfl, rfl⟩
      · rw [tmAt_snoc (Nat.le_of_lt (List.getElem?_eq_some_iff.1 hr').1)]; exact f.tm j r hr'
      · rw [tmAt_snoc (Nat.le_refl _)]; exact f.tmE
    · intro j r hr
      rcases snoc_cases hr with hr' | ⟨rfl, rfl⟩
      · rw [HAt_snoc (Nat.le_of_lt (List.getElem?_eq_some_iff.1 hr').1)]; exact f.H j r hr'
      · rw [HAt_snoc (Nat.le_refl _)]; exact f.HE
    · simp [tmAt, St.put]
    · simp [HAt, St.put]
    · intro j r hr
      rcases snoc_cases hr with hr | ⟨rfl, rfl⟩
      · exact f.did j r hr
      · exact .done hw done
    · intro i j ri rj wi bi wj bj hij hi hj hli hlj
      rcases snoc_cases hj with hj' | ⟨rfl, rfl⟩
      · rcases snoc_cases hi with hi' | ⟨rfl, rfl⟩
        · exact f.apart i j ri rj wi bi wj bj hij hi' hj' hli hlj
        · have := (List.getElem?_eq_some_iff.1 hj').1; omega
      · rcases snoc_cases hi with hi' | ⟨rfl, rfl⟩
        · exact freeOf_mem (free wj bj hlj) _ (f2 i ri wi bi hi' hli)
        · omega
    · intro j rj w blk hj hl
      rcases snoc_cases hj with hj' | ⟨rfl, rfl⟩
      · rcases f.made j rj w blk hj' hl with g | g
        · refine .inl fun i ri hij hi hne => ?_
          rcases snoc_cases hi with hi' | ⟨rfl, rfl⟩
          · exact g i ri hij hi' hne
          · have := (List.getElem?_eq_some_iff.1 hj').1; omega
        · exact .inr g
      · rcases mades w blk hl with g | g
        · refine .inl fun i ri hij hi hne => ?_
          rcases snoc_cases hi with hi' | ⟨rfl, rfl⟩
          · exact within_bit g (f1 i ri hi' hne)
          · omega
        · exact .inr g
    · intro i r hr hne
      unfold madeOf
      rcases snoc_cases hr with hr' | ⟨rfl, rfl⟩
      · have := f1 i r hr' hne
        cases Nat.beq st.H.next H'.next with
        | true => exact this
        | false =>
          show Nat.testBit (made ||| 2 ^ recs.length) i = true
          rw [Nat.testBit_or, this]; rfl
      · have hb : Nat.beq st.H.next H'.next = false := by
          cases hb : Nat.beq st.H.next H'.next with
          | false => rfl
          | true => exact absurd (beq_iff.1 hb) hne
        rw [hb]
        show Nat.testBit (made ||| 2 ^ recs.length) recs.length = true
        rw [Nat.testBit_or, Nat.testBit_two_pow_self]
        simp
    · intro i r wr blk hr hl
      rcases snoc_cases hr with hr' | ⟨rfl, rfl⟩
      · have := f2 i r wr blk hr' hl
        unfold loudOf
        split
        · exact this
        · exact .tail _ this
      · simp only at hl
        subst hl
        exact .head _

end
end Go.Eng

namespace Go.Eng
set_option linter.unusedSimpArgs false

theorem ancOf_bit {masks : List Nat} {k : Nat} : ∀ {es : List Edge}, Nat.testBit (ancOf masks es) k = true → ∃ e ∈ es, Region.binds .any e = true ∧ (e.on = k ∨ Nat.testBit ((masks[e.on]?).getD 0) k = true)
  | [], h => by simp [ancOf] at h
  | e :: es, h => by
    simp only [ancOf] at h
    cases hb : Region.binds .any e with
    | false =>
      rw [hb] at h
      obtain ⟨e', h1, h2⟩ := ancOf_bit (es := es) h
      exact ⟨e', by simp [h1], h2⟩
    | true =>
      rw [hb] at h
      simp only [cond_true] at h
      have h' : Nat.testBit ((2 ^ e.on ||| (getAt masks e.on).getD 0) ||| ancOf masks es) k = true := h
      rw [Nat.testBit_or, Nat.testBit_or, Bool.or_eq_true, Bool.or_eq_true] at h'
      rcases h' with (h' | h') | h'
      · refine ⟨e, by simp, hb, .inl ?_⟩
        rw [Nat.testBit_two_pow] at h'
        simpa using h'
      · rw [getAt_eq] at h'
        exact ⟨e, by simp, hb, .inr h'⟩
      · obtain ⟨e', h1, h2⟩ := ancOf_bit (es := es) h'
        exact ⟨e', by simp [h1], h2⟩

theorem ancs_spec : ∀ (os : List Oper) (pre : List Nat), (ancs os pre).length = pre.length + os.length ∧ (∀ i, i < pre.length → (ancs os pre)[i]? = pre[i]?) ∧
    (∀ i o, os[i]? = some o → (ancs os pre)[pre.length + i]? = some (ancOf ((ancs os pre).take (pre.length + i)) o.after.toList))
  | [], pre => ⟨by simp [ancs], fun _ _ => rfl, fun i o h => by simp at h⟩
  | o :: os, pre => by
    obtain ⟨h1, h2, h3⟩ := ancs_spec os (pre ++ [ancOf pre o.after.toList])
    simp only [ancs]
    simp only [List.length_append, List.length_cons, List.length_nil, Nat.zero_add] at h1 h2 h3
    refine ⟨by rw [h1]; simp; omega, fun i hi => ?_, fun i o' ho => ?_⟩
    · rw [h2 i (by omega), List.getElem?_append_left hi]
    · cases i with
      | zero =>
        simp only [List.getElem?_cons_zero, Option.some.injEq] at ho
        subst ho
        rw [Nat.add_zero, h2 pre.length (by omega)]
        have : (ancs os (pre ++ [ancOf pre o.after.toList])).take pre.length = pre := by
          apply List.ext_getElem?
          intro i
          rw [List.getElem?_take]
          split
          · rename_i hi
            rw [h2 i (by omega), List.getElem?_append_left hi]
          · rename_i hi
            rw [List.getElem?_eq_none (by omega)]
        rw [this]
        simp
      | succ i =>
        have := h3 i o' (by simpa using ho)
        rw [show pre.length + (i + 1) = pre.length + 1 + i by omega]
        exact this

/-- The masks of a region. -/
theorem mask_bit {ops : List Oper} {i m k : Nat} {o : Oper} (ho : ops[i]? = some o) (hm : (ancs ops [])[i]? = some m) (hk : Nat.testBit m k = true) :
    ∃ e ∈ o.after.toList, Region.binds .any e = true ∧ (e.on = k ∨ ∃ m', (ancs ops [])[e.on]? = some m' ∧ Nat.testBit m' k = true) := by
  obtain ⟨h1, h2, h3⟩ := ancs_spec ops []
  have := h3 i o ho
  simp only [List.length_nil, Nat.zero_add] at this
  rw [hm] at this
  simp only [Option.some.injEq] at this
  rw [this] at hk
  obtain ⟨e, he, hb, hc⟩ := ancOf_bit hk
  refine ⟨e, he, hb, hc.imp id fun h => ?_⟩
  rw [List.getElem?_take] at h
  split at h
  · cases hg : (ancs ops [])[e.on]? with
    | none => rw [hg] at h; simp at h
    | some m' => rw [hg] at h; exact ⟨m', rfl, h⟩
  · simp at h

section
variable {P : Program} {n : Nat}

theorem zipIns_spec {all : List Oper} : ∀ {os : List Oper} {ms : List Nat}, os.length = ms.length → (zipIns P n all os ms).length = os.length ∧ ∀ (i : Nat) (x : BIns × Nat), (zipIns P n all os ms)[i]? = some x →
    ∃ o, os[i]? = some o ∧ x.1 = cins P n all o ∧ ms[i]? = some x.2
  | [], [], _ => ⟨rfl, fun i x h => by simp [zipIns] at h⟩
  | [], _ :: _, h => by simp at h
  | _ :: _, [], h => by simp at h
  | o :: os, m :: ms, h => by
    obtain ⟨h1, h2⟩ := zipIns_spec (all := all) (os := os) (ms := ms) (by simpa using h)
    refine ⟨by simp [zipIns, h1], fun i x hx => ?_⟩
    cases i with
    | zero =>
      simp only [zipIns, List.getElem?_cons_zero, Option.some.injEq] at hx
      subst hx
      exact ⟨o, rfl, rfl, rfl⟩
    | succ i =>
      simp only [zipIns, List.getElem?_cons_succ] at hx
      simpa using h2 i x hx

theorem edges_back {ops : List Oper} : ∀ {os : List Oper} {j : Nat}, edgesOk os j = true → ∀ i o, os[i]? = some o → ∀ e ∈ o.after.toList, Region.binds .any e = true → e.on < j + i
  | [], _, _, i, o, ho, _, _, _ => by simp at ho
  | o :: os, j, h, i, o', ho, e, he, hb => by
    simp only [edgesOk, Bool.and_eq_true, List.all_eq_true] at h
    cases i with
    | zero =>
      simp only [List.getElem?_cons_zero, Option.some.injEq] at ho
      subst ho
      have := h.1 e he
      rw [hb] at this
      simpa [Nat.blt] using blt_iff.1 (by simpa using this)
    | succ i =>
      have := edges_back (ops := ops) h.2 i o' (by simpa using ho) e he hb
      omega

theorem noSelect_all : ∀ {ops : List Oper}, noSelect ops = true → ∀ o ∈ ops, ∀ cs b, o.op ≠ .select cs b
  | [], _, o, ho, _, _ => by cases ho
  | x :: ops, h, o, ho, cs, b => by
    simp only [noSelect, Bool.and_eq_true] at h
    cases ho with
    | head => intro e; rw [e] at h; cases h.1
    | tail _ ho => exact noSelect_all h.2 o ho cs b

/-- Temporaries: two operations that share one are ordered, unless both only look. -/
theorem tmps_apart {all : List Oper} : ∀ {os : List Oper} {ms : List Nat} {seen : List (Oper × Nat)} {i : Nat}, tmpsOk all seen i os ms = true → (∀ (p : Oper) (j : Nat), (p, j) ∈ seen → j < i) →
    (∀ (a : Nat) (p : Oper) (m : Nat), os[a]? = some p → ms[a]? = some m → ∀ q j, (q, j) ∈ seen → Nat.testBit m j = true ∨ (meets q.dst (looksAt all p) = false ∧ meets p.dst (looksAt all q) = false ∧ meets p.dst q.dst.toList = false)) ∧
    (∀ (a c : Nat) (p q : Oper) (m : Nat), a < c → os[a]? = some p → os[c]? = some q → ms[c]? = some m → Nat.testBit m (i + a) = true ∨ (meets p.dst (looksAt all q) = false ∧ meets q.dst (looksAt all p) = false ∧ meets q.dst p.dst.toList = false))
  | [], ms, seen, i, _, _ => ⟨fun a p m h => by simp at h, fun a c p q m _ h => by simp at h⟩
  | o :: os, [], seen, i, h, _ => by simp [tmpsOk] at h
  | o :: os, m :: ms, seen, i, h, hs => by
    simp only [tmpsOk, Bool.and_eq_true, List.all_eq_true] at h
    have hs' : ∀ (p : Oper) (j : Nat), (p, j) ∈ (o, i) :: seen → j < i + 1 := by
      intro p j hp
      cases hp with
      | head => omega
      | tail _ hp => have := hs p j hp; omega
    obtain ⟨g1, g2⟩ := tmps_apart h.2 hs'
    have here : ∀ q j, (q, j) ∈ seen → Nat.testBit m j = true ∨ (meets q.dst (looksAt all o) = false ∧ meets o.dst (looksAt all q) = false ∧ meets o.dst q.dst.toList = false) := by
      intro q j hq
      have := h.1 (q, j) hq
      simp only [Bool.or_eq_true, Bool.not_eq_true', Bool.or_eq_false_iff] at this
      rcases this with h1 | h1
      · exact .inl h1
      · exact .inr ⟨h1.1.1, h1.1.2, h1.2⟩
    refine ⟨fun a p m' ha hm q j hq => ?_, fun a c p q m' hac ha hc hm => ?_⟩
    · cases a with
      | zero =>
        simp only [List.getElem?_cons_zero, Option.some.injEq] at ha hm
        subst ha; subst hm
        exact here q j hq
      | succ a => exact g1 a p m' (by simpa using ha) (by simpa using hm) q j (.tail _ hq)
    · cases c with
      | zero => omega
      | succ c =>
        cases a with
        | zero =>
          simp only [List.getElem?_cons_zero, Option.some.injEq] at ha
          subst ha
          exact g1 c q m' (by simpa using hc) (by simpa using hm) o i (.head _)
        | succ a =>
          have := g2 a c p q m' (by omega) (by simpa using ha) (by simpa using hc) (by simpa using hm)
          rwa [show i + 1 + a = i + (a + 1) by omega] at this

end
end Go.Eng

namespace Go.Eng
set_option linter.unusedSimpArgs false

theorem adoptN_get (H1 : AHeap) : ∀ (k b : Nat) (t : Go.Eng.Tr) (c : Nat), Go.Eng.Tr.get (path c) (adoptN H1 k b t) = if b ≤ c ∧ c < b + k then H1.get c else Go.Eng.Tr.get (path c) t
  | 0, b, t, c => by simp only [adoptN]; rw [if_neg (by omega)]
  | k + 1, b, t, c => by
    simp only [adoptN]
    rw [adoptN_get H1 k (b + 1)]
    by_cases h : c = b
    · subst h
      rw [if_neg (by omega), Go.Eng.Tr.get_put_self, if_pos (by omega)]
    · rw [Go.Eng.Tr.get_put_ne _ _ _ _ (path_ne h)]
      by_cases h2 : b ≤ c ∧ c < b + (k + 1)
      · rw [if_pos (by omega), if_pos h2]
      · rw [if_neg (by omega), if_neg h2]

theorem adopt_get {H H1 : AHeap} (hn : H.next ≤ H1.next) (c : Nat) : (adopt H H1).get c = if H.next ≤ c ∧ c < H1.next then H1.get c else H.get c := by
  show Go.Eng.Tr.get (path c) (adoptN H1 (H1.next - H.next) H.next H.tr) = _
  rw [adoptN_get]
  by_cases h : H.next ≤ c ∧ c < H1.next
  · rw [if_pos (by omega), if_pos h]
  · rw [if_neg (by omega), if_neg h]; rfl

section
variable {P : Program} {R : Tab} {r : Rec}

theorem done_mono {tm : Tm} {H H' : AHeap} {op : BOp} {v : AVal} {loud : Option (Bool × Option (List Nat))} (h : OpDone P R tm H op v H' loud) : H.next ≤ H'.next ∧ H'.low ≤ H.low := by
  cases h with
  | quiet hk hm =>
    rcases local_pure hk hm with ⟨rfl, _⟩ | ⟨x, rfl, _⟩
    · exact ⟨Nat.le_refl _, Nat.le_refl _⟩
    · exact ⟨by simp, by simp⟩
  | read hk hm => exact ⟨(local_all (.inl hk) hm).1, (local_all (.inl hk) hm).2.1⟩
  | write hk hm => exact ⟨(local_all (.inr hk) hm).1, (local_all (.inr hk) hm).2.1⟩
  | callR hc hm hn hl => exact ⟨hn, Nat.le_refl _⟩
  | callW hc hm hn => exact ⟨hn, Nat.min_le_left _ _⟩

theorem did_mono (h : Did P R r) : r.H.next ≤ r.H'.next ∧ r.H'.low ≤ r.H.low := by
  cases h with
  | skip hw hv hH hl => rw [hH]; exact ⟨Nat.le_refl _, Nat.le_refl _⟩
  | done hw h => exact done_mono h

/-- An operation makes a block or turns it. -/
def Touch (r : Rec) (b : Nat) : Prop := b < r.H'.next ∧ (r.H.next ≤ b ∨ r.H'.get b ≠ r.H.get b)

/-- Who turns a block that was there, writes. -/
theorem touch_loud (h : Did P R r) {b : Nat} (hb : b < r.H.next) (ht : r.H'.get b ≠ r.H.get b) : ∃ blk, r.loud = some (true, blk) ∧ (∀ l, blk = some l → b ∈ l) := by
  obtain ⟨o, m, tm, H, v, H', loud⟩ := r
  cases h with
  | skip hw hv hH hl => exact absurd (by rw [hH]) ht
  | done hw h =>
    simp only at h ht hb ⊢
    cases h with
    | quiet hk hm =>
      rcases local_pure hk hm with ⟨rfl, _⟩ | ⟨x, rfl, _⟩
      · exact absurd rfl ht
      · rw [AHeap.get_new, if_neg (by omega)] at ht; exact absurd rfl ht
    | read hk hm =>
      have := (local_all (.inl hk) hm).2.2 hk
      subst this
      exact absurd rfl ht
    | write hk hm =>
      refine ⟨_, rfl, fun l hl => ?_⟩
      obtain ⟨a, h1, rfl, _⟩ := local_one (.inr hk) hl hm
      cases a with
      | id => exact absurd rfl ht
      | set c x =>
        simp only [HAct.run] at ht
        rw [AHeap.get_set] at ht
        by_cases e : b = c
        · subst e; exact h1
        · rw [if_neg e] at ht; exact absurd rfl ht
      | new x =>
        simp only [HAct.run] at ht
        rw [AHeap.get_new, if_neg (by omega)] at ht; exact absurd rfl ht
      | dropNew c x =>
        simp only [HAct.run] at ht
        rw [AHeap.get_new, AHeap.next_drop, if_neg (by omega), AHeap.get_drop] at ht
        by_cases e : b = c
        · subst e; exact h1
        · rw [if_neg e] at ht; exact absurd rfl ht
    | callR hc hm hn hl =>
      rw [adopt_get hn, if_neg (by omega)] at ht
      exact absurd rfl ht
    | callW hc hm hn => exact ⟨none, rfl, fun l hl => by cases hl⟩

end
end Go.Eng

namespace Go.Eng
set_option linter.unusedSimpArgs false

open Classical in
/-- What operation i says of a block: what it is then, and below which number everything lies that it names. -/
noncomputable def updH (recs : List Rec) (b i : Nat) : Option (Option ABlk × Nat) :=
  match recs[i]? with
  | some r => if Touch r b then some (r.H'.get b, r.H'.next) else none
  | none => none

noncomputable def iniH (H₀ : AHeap) (b : Nat) : Option ABlk × Nat := (if b < H₀.next then H₀.get b else none, H₀.next)

/-- What operation i says of a temporary. -/
def updT (recs : List Rec) (p : List Bool) (i : Nat) : Option (AVal × Nat) :=
  match recs[i]? with
  | some r => if r.o.dst = some p then some (r.v, r.H'.next) else none
  | none => none

noncomputable def iniT (tm₀ : Tm) (H₀ : AHeap) (p : List Bool) : AVal × Nat := (Tm.get p tm₀, H₀.next)

theorem updH_some {recs : List Rec} {b i : Nat} {r : Rec} (hr : recs[i]? = some r) (h : updH recs b i ≠ none) : Touch r b := by
  unfold updH at h
  rw [hr] at h
  simp only at h
  split at h
  · assumption
  · exact absurd rfl h

theorem updH_touch {recs : List Rec} {b i : Nat} {r : Rec} (hr : recs[i]? = some r) (h : Touch r b) : updH recs b i = some (r.H'.get b, r.H'.next) := by
  unfold updH
  rw [hr]
  simp only
  rw [if_pos h]

theorem updH_not {recs : List Rec} {b i : Nat} {r : Rec} (hr : recs[i]? = some r) (h : ¬ Touch r b) : updH recs b i = none := by
  unfold updH
  rw [hr]
  simp only
  rw [if_neg h]

section
variable {P : Program} {R : Tab} {base : Nat} {all : List (BIns × Nat)} {st₀ st : St} {recs : List Rec}

theorem Facts.next_le (f : Facts P R base all st₀ recs st) : ∀ {j k : Nat}, j ≤ k → k ≤ recs.length → (HAt recs st₀.H j).next ≤ (HAt recs st₀.H k).next := by
  intro j k hjk hk
  induction k with
  | zero => have : j = 0 := by omega
            subst this; exact Nat.le_refl _
  | succ k ih =>
    by_cases h : j = k + 1
    · subst h; exact Nat.le_refl _
    · have hr : recs[k]? = some recs[k] := List.getElem?_eq_getElem (by omega)
      have h1 := ih (by omega) (by omega)
      have h2 := (did_mono (f.did k _ hr)).1
      rw [f.H k _ hr] at h2
      have h3 : HAt recs st₀.H (k + 1) = recs[k].H' := by simp only [HAt, hr]
      rw [h3]
      omega

theorem Facts.low_le (f : Facts P R base all st₀ recs st) : ∀ {j k : Nat}, j ≤ k → k ≤ recs.length → (HAt recs st₀.H k).low ≤ (HAt recs st₀.H j).low := by
  intro j k hjk hk
  induction k with
  | zero => have : j = 0 := by omega
            subst this; exact Nat.le_refl _
  | succ k ih =>
    by_cases h : j = k + 1
    · subst h; exact Nat.le_refl _
    · have hr : recs[k]? = some recs[k] := List.getElem?_eq_getElem (by omega)
      have h1 := ih (by omega) (by omega)
      have h2 := (did_mono (f.did k _ hr)).2
      rw [f.H k _ hr] at h2
      have h3 : HAt recs st₀.H (k + 1) = recs[k].H' := by simp only [HAt, hr]
      rw [h3]
      omega

theorem HAt_succ {H₀ : AHeap} {j : Nat} {r : Rec} (hr : recs[j]? = some r) : HAt recs H₀ (j + 1) = r.H' := by simp only [HAt, hr]
theorem tmAt_succ {t₀ : Tm} {j : Nat} {r : Rec} (hr : recs[j]? = some r) : tmAt recs t₀ (j + 1) = putD r.o.dst r.v r.tm := by simp only [tmAt, hr]

/-- In the order of the text, memory is what the last word says. -/
theorem text_heap (f : Facts P R base all st₀ recs st) (b : Nat) : ∀ j, j ≤ recs.length → b < (HAt recs st₀.H j).next →
    (pick (fun _ => true) (updH recs b) (iniH st₀.H b) j).1 = (HAt recs st₀.H j).get b ∧ (pick (fun _ => true) (updH recs b) (iniH st₀.H b) j).2 ≤ (HAt recs st₀.H j).next
  | 0, _, hb => by
    simp only [HAt] at hb ⊢
    simp only [pick, iniH, hb, if_true]
    exact ⟨trivial, Nat.le_refl _⟩
  | j + 1, hj, hb => by
    have hr : recs[j]? = some recs[j] := List.getElem?_eq_getElem (by omega)
    rw [HAt_succ hr] at hb ⊢
    simp only [pick, if_true]
    by_cases ht : Touch recs[j] b
    · rw [updH_touch hr ht]
      exact ⟨rfl, Nat.le_refl _⟩
    · rw [updH_not hr ht]
      simp only [Option.getD_none]
      have hlt : b < recs[j].H.next := Nat.lt_of_not_le fun h => ht ⟨hb, .inl h⟩
      have heq : recs[j].H'.get b = recs[j].H.get b := Classical.byContradiction fun h => ht ⟨hb, .inr h⟩
      have hH := f.H j _ hr
      obtain ⟨h1, h2⟩ := text_heap f b j (by omega) (by rw [← hH]; exact hlt)
      have := (did_mono (f.did j _ hr)).1
      rw [heq, hH]
      exact ⟨h1, by rw [← hH] at h2; omega⟩

theorem text_tmp (f : Facts P R base all st₀ recs st) (p : List Bool) : ∀ j, j ≤ recs.length →
    (pick (fun _ => true) (updT recs p) (iniT st₀.tm st₀.H p) j).1 = Tm.get p (tmAt recs st₀.tm j) ∧ (pick (fun _ => true) (updT recs p) (iniT st₀.tm st₀.H p) j).2 ≤ (HAt recs st₀.H j).next
  | 0, _ => ⟨rfl, Nat.le_refl _⟩
  | j + 1, hj => by
    have hr : recs[j]? = some recs[j] := List.getElem?_eq_getElem (by omega)
    have hH := f.H j _ hr
    have ht := f.tm j _ hr
    have hn := (did_mono (f.did j _ hr)).1
    obtain ⟨h1, h2⟩ := text_tmp f p j (by omega)
    rw [HAt_succ hr, tmAt_succ hr]
    simp only [pick, if_true, updT, hr]
    by_cases hd : recs[j].o.dst = some p
    · rw [if_pos hd, hd]
      simp only [Option.getD_some, putD]
      exact ⟨(Tm.get_put_self _ _ _).symm, Nat.le_refl _⟩
    · rw [if_neg hd]
      simp only [Option.getD_none]
      refine ⟨?_, by rw [← hH] at h2; omega⟩
      rw [h1, ← ht]
      cases hq : recs[j].o.dst with
      | none => rfl
      | some q =>
        simp only [putD]
        rw [Tm.get_put_ne]
        intro e
        subst e
        exact hd hq

/-- Closed: with an operation, all that come ahead of it in every order. -/
structure Cl (recs : List Rec) (X : Nat → Bool) : Prop where
  lt : ∀ i, X i = true → i < recs.length
  anc : ∀ (i : Nat) (r : Rec) (k : Nat), X i = true → recs[i]? = some r → Nat.testBit r.m k = true → X k = true

/-- This operation may be done next. -/
structure Rdy (recs : List Rec) (X : Nat → Bool) (j : Nat) (r : Rec) : Prop where
  rec' : recs[j]? = some r
  new : X j = false
  anc : ∀ k, Nat.testBit r.m k = true → X k = true

variable {X : Nat → Bool} {j : Nat} {r : Rec}

/-- Who comes behind j and is done all the same, has not j ahead of it. -/
theorem Cl.not_anc (c : Cl recs X) (d : Rdy recs X j r) {k : Nat} {s : Rec} (hk : X k = true) (hs : recs[k]? = some s) : Nat.testBit s.m j = false := by
  cases h : Nat.testBit s.m j with
  | false => rfl
  | true => exact absurd (c.anc k s j hk hs h) (by rw [d.new]; simp)

theorem Facts.baseNext (f : Facts P R base all st₀ recs st) {i : Nat} {s : Rec} (hs : recs[i]? = some s) : st₀.H.next ≤ s.H.next := by
  have hi := (List.getElem?_eq_some_iff.1 hs).1
  have := f.next_le (j := 0) (k := i) (by omega) (by omega)
  rw [← f.H i s hs] at this
  exact this

/-- A block at which an operation looks is what it was in the order of the text. -/
theorem seen_same (f : Facts P R base all st₀ recs st) (hbase : base = st₀.H.next) (c : Cl recs X) (d : Rdy recs X j r) {wj : Bool} {blk : Option (List Nat)} (hl : r.loud = some (wj, blk)) {b : Nat} (hb : b < r.H.next)
    (hblk : ∀ l, blk = some l → b ∈ l) : pick X (updH recs b) (iniH st₀.H b) recs.length = pick (fun _ => true) (updH recs b) (iniH st₀.H b) j := by
  have hjn := (List.getElem?_eq_some_iff.1 d.rec').1
  -- a writer of the block
  have wr : ∀ {i : Nat} {s : Rec}, recs[i]? = some s → b < s.H.next → Touch s b → ∃ bi, s.loud = some (true, bi) ∧ (∀ l, bi = some l → b ∈ l) := by
    intro i s hs hlt ht
    rcases ht.2 with h | h
    · omega
    · exact touch_loud (f.did i s hs) hlt h
  refine pick_eq ?_ _ (by omega) ?_
  · intro i hij hu
    have hs : recs[i]? = some recs[i] := List.getElem?_eq_getElem (by omega)
    have ht := updH_some hs hu
    by_cases hlt : b < recs[i].H.next
    · obtain ⟨bi, h1, h2⟩ := wr hs hlt ht
      rcases f.apart i j _ _ _ _ _ _ hij hs d.rec' h1 hl with h | ⟨h, _⟩ | ⟨b1, b2, g1, g2, g3⟩
      · exact d.anc i h
      · cases h
      · exact absurd (hblk _ g2) (g3 b (h2 _ g1))
    · rcases f.made j r wj blk d.rec' hl with h | ⟨b', h1, h2⟩
      · exact d.anc i (h i _ hij hs (by have := ht.1; omega))
      · exfalso
        have h3 := h2 b (hblk _ h1)
        have := f.baseNext hs
        omega
  · intro k hjk hkn hX
    have hne : k ≠ j := fun e => by subst e; rw [d.new] at hX; cases hX
    have hs : recs[k]? = some recs[k] := List.getElem?_eq_getElem hkn
    refine updH_not hs fun ht => ?_
    have hlt : b < recs[k].H.next := by
      have h1 := f.next_le (j := j) (k := k) hjk (by omega)
      rw [← f.H j r d.rec', ← f.H k _ hs] at h1
      omega
    obtain ⟨bk, h1, h2⟩ := wr hs hlt ht
    rcases f.apart j k _ _ _ _ _ _ (by omega) d.rec' hs hl h1 with h | ⟨_, h⟩ | ⟨b1, b2, g1, g2, g3⟩
    · rw [c.not_anc d hX hs] at h; cases h
    · cases h
    · exact absurd (h2 _ g2) (g3 b (hblk _ g1))

/-- What an operation says of a block, is the last word. -/
theorem says_last (f : Facts P R base all st₀ recs st) (hbase : base = st₀.H.next) (c : Cl recs X) (d : Rdy recs X j r) (b : Nat) :
    pick (fun i => X i || i == j) (updH recs b) (iniH st₀.H b) recs.length = (updH recs b j).getD (pick X (updH recs b) (iniH st₀.H b) recs.length) := by
  have hjn := (List.getElem?_eq_some_iff.1 d.rec').1
  refine pick_add d.new _ hjn ?_
  intro k hjk hkn hX hu
  have hs : recs[k]? = some recs[k] := List.getElem?_eq_getElem hkn
  refine updH_not hs fun htk => ?_
  have ht := updH_some d.rec' hu
  have hnext : r.H'.next ≤ recs[k].H.next := by
    have h1 := f.next_le (j := j + 1) (k := k) (by omega) (by omega)
    rw [HAt_succ d.rec', ← f.H k _ hs] at h1
    exact h1
  have hlt : b < recs[k].H.next := by have := ht.1; omega
  obtain ⟨bk, h1, h2⟩ : ∃ bi, recs[k].loud = some (true, bi) ∧ (∀ l, bi = some l → b ∈ l) := by
    rcases htk.2 with h | h
    · omega
    · exact touch_loud (f.did k _ hs) hlt h
  by_cases hm : r.H.next ≤ b
  · rcases f.made k _ _ _ hs h1 with h | ⟨b', g1, g2⟩
    · have := h j r hjk d.rec' (by have := ht.1; omega)
      rw [c.not_anc d hX hs] at this; cases this
    · have h3 := g2 b (h2 _ g1)
      have := f.baseNext d.rec'
      omega
  · obtain ⟨bj, h3, h4⟩ : ∃ bi, r.loud = some (true, bi) ∧ (∀ l, bi = some l → b ∈ l) := by
      rcases ht.2 with h | h
      · omega
      · exact touch_loud (f.did j r d.rec') (by omega) h
    rcases f.apart j k _ _ _ _ _ _ hjk d.rec' hs h3 h1 with h | ⟨h, _⟩ | ⟨b1, b2, g1, g2, g3⟩
    · rw [c.not_anc d hX hs] at h; cases h
    · cases h
    · exact absurd (h2 _ g2) (g3 b (h4 _ g1))

end
end Go.Eng

namespace Go.Eng
set_option linter.unusedSimpArgs false

/-- A region that draws its order, and its run in the order of the text. -/
structure Reg (P : Program) (R : Tab) (ops : Array Oper) (sz : Nat) (st₀ : St) (recs : List Rec) (st : St) : Prop where
  facts : Facts P R st₀.H.next (zipIns P sz ops.toList ops.toList (ancs ops.toList [])) st₀ recs st
  tmps : tmpsOk ops.toList [] 0 ops.toList (ancs ops.toList []) = true
  sel : noSelect ops.toList = true
  edges : edgesOk ops.toList 0 = true

section
variable {P : Program} {R : Tab} {ops : Array Oper} {sz : Nat} {st₀ st : St} {recs : List Rec} {X : Nat → Bool} {j : Nat} {r : Rec}

theorem Reg.src (g : Reg P R ops sz st₀ recs st) {i : Nat} {s : Rec} (hs : recs[i]? = some s) : ∃ o, ops[i]? = some o ∧ s.o = cins P sz ops.toList o ∧ (ancs ops.toList [])[i]? = some s.m := by
  have h1 := g.facts.src i s hs
  have hlen := (ancs_spec ops.toList []).1
  obtain ⟨_, h2⟩ := zipIns_spec (P := P) (n := sz) (all := ops.toList) (os := ops.toList) (ms := ancs ops.toList []) (by rw [hlen]; simp)
  obtain ⟨o, h3, h4, h5⟩ := h2 i _ h1
  exact ⟨o, by simpa using h3, h4, h5⟩

theorem not_meets {d : Nat} {l : List Nat} (h : meets (some d) l = false) : d ∉ l := by
  intro hd
  simp only [meets] at h
  have := List.any_eq_false.1 h d hd
  simp at this

theorem cins_dst {n : Nat} {all : List Oper} {o : Oper} {p : List Bool} (h : (cins P n all o).dst = some p) : ∃ d, o.dst = some d ∧ p = path d := by
  unfold cins at h
  split at h
  · rename_i dd hd
    split at h
    · simp only at h
      subst h
      cases hdst : o.dst with
      | none => rw [hdst] at hd; simp [cdst] at hd
      | some d =>
        rw [hdst] at hd
        simp only [cdst] at hd
        cases hb : Nat.blt d n <;> rw [hb] at hd <;> simp only [cond_true, cond_false, Option.some.injEq, reduceCtorEq] at hd
        exact ⟨d, rfl, hd.symm⟩
    · cases h
  · cases h

theorem updT_some {p : List Bool} {i : Nat} {s : Rec} (hs : recs[i]? = some s) (h : updT recs p i ≠ none) : s.o.dst = some p := by
  unfold updT at h
  rw [hs] at h
  simp only at h
  split at h
  · assumption
  · exact absurd rfl h

theorem updT_not {p : List Bool} {i : Nat} {s : Rec} (hs : recs[i]? = some s) (h : s.o.dst ≠ some p) : updT recs p i = none := by
  unfold updT
  rw [hs]
  simp only
  rw [if_neg h]

/-- A temporary at which an operation looks is what it was in the order of the text. -/
theorem tmp_same (g : Reg P R ops sz st₀ recs st) (c : Cl recs X) (d : Rdy recs X j r) {o : Oper} (ho : ops[j]? = some o) {t : Nat} (ht : t ∈ looksAt ops.toList o) :
    pick X (updT recs (path t)) (iniT st₀.tm st₀.H (path t)) recs.length = pick (fun _ => true) (updT recs (path t)) (iniT st₀.tm st₀.H (path t)) j := by
  have hjn := (List.getElem?_eq_some_iff.1 d.rec').1
  obtain ⟨_, hap⟩ := tmps_apart g.tmps (fun p j h => by cases h)
  obtain ⟨o', ho', _, hmj⟩ := g.src d.rec'
  rw [ho] at ho'; cases ho'
  refine pick_eq ?_ _ (by omega) ?_
  · intro i hij hu
    have hs : recs[i]? = some recs[i] := List.getElem?_eq_getElem (by omega)
    have hd := updT_some hs hu
    obtain ⟨oi, hoi, hsi, _⟩ := g.src hs
    rw [hsi] at hd
    obtain ⟨dd, hdd, hp⟩ := cins_dst hd
    have := path_inj hp
    subst this
    rcases hap i j oi o r.m hij (by simpa using hoi) (by simpa using ho) hmj with h | ⟨h, _, _⟩
    · rw [Nat.zero_add] at h
      exact d.anc i h
    · rw [hdd] at h
      exact absurd ht (not_meets h)
  · intro k hjk hkn hX
    have hne : k ≠ j := fun e => by subst e; rw [d.new] at hX; cases hX
    have hs : recs[k]? = some recs[k] := List.getElem?_eq_getElem hkn
    refine updT_not hs fun hd => ?_
    obtain ⟨ok, hok, hsk, hmk⟩ := g.src hs
    rw [hsk] at hd
    obtain ⟨dd, hdd, hp⟩ := cins_dst hd
    have := path_inj hp
    subst this
    rcases hap j k o ok _ (by omega) (by simpa using ho) (by simpa using hok) hmk with h | ⟨_, h, _⟩
    · rw [Nat.zero_add, c.not_anc d hX hs] at h; cases h
    · rw [hdd] at h
      exact absurd ht (not_meets h)

theorem tmp_last (g : Reg P R ops sz st₀ recs st) (c : Cl recs X) (d : Rdy recs X j r) (p : List Bool) :
    pick (fun i => X i || i == j) (updT recs p) (iniT st₀.tm st₀.H p) recs.length = (updT recs p j).getD (pick X (updT recs p) (iniT st₀.tm st₀.H p) recs.length) := by
  have hjn := (List.getElem?_eq_some_iff.1 d.rec').1
  obtain ⟨_, hap⟩ := tmps_apart g.tmps (fun p j h => by cases h)
  refine pick_add d.new _ hjn ?_
  intro k hjk hkn hX hu
  have hs : recs[k]? = some recs[k] := List.getElem?_eq_getElem hkn
  refine updT_not hs fun hdk => ?_
  have hdj := updT_some d.rec' hu
  obtain ⟨oj, hoj, hsj, _⟩ := g.src d.rec'
  obtain ⟨ok, hok, hsk, hmk⟩ := g.src hs
  rw [hsj] at hdj
  rw [hsk] at hdk
  obtain ⟨dj, hdj', hpj⟩ := cins_dst hdj
  obtain ⟨dk, hdk', hpk⟩ := cins_dst hdk
  rw [hpj] at hpk
  have := path_inj hpk
  subst this
  rcases hap j k oj ok _ hjk (by simpa using hoj) (by simpa using hok) hmk with h | ⟨_, _, h⟩
  · rw [Nat.zero_add, c.not_anc d hX hs] at h; cases h
  · rw [hdk', hdj'] at h
    exact absurd (by simp) (not_meets h)

end

/-- There are temporaries with these values. -/
theorem tm_of (f : Nat → AVal) : ∀ n, ∃ tm : Tm, ∀ t, t < n → Tm.get (path t) tm = f t
  | 0 => ⟨.leaf, fun t h => by omega⟩
  | n + 1 => by
    obtain ⟨tm, h⟩ := tm_of f n
    refine ⟨Tm.put (path n) (f n) tm, fun t ht => ?_⟩
    by_cases e : t = n
    · subst e; exact Tm.get_put_self _ _ _
    · rw [Tm.get_put_ne _ _ _ _ (path_ne e)]
      exact h t (by omega)

end Go.Eng

namespace Go.Eng
set_option linter.unusedSimpArgs false

theorem bound_of : ∀ (l : List Nat) (n : Nat), ∃ B, n ≤ B ∧ ∀ t ∈ l, t < B
  | [], n => ⟨n, Nat.le_refl _, fun t h => by cases h⟩
  | x :: l, n => by
    obtain ⟨B, h1, h2⟩ := bound_of l n
    refine ⟨B + x + 1, by omega, fun t ht => ?_⟩
    cases ht with
    | head => omega
    | tail _ ht => have := h2 t ht; omega

open Classical in
/-- Temporaries that nobody looks at are left out. -/
theorem restrict {ρ : Emb} {looked : List Nat} {tmps : Array Value} {tm : Tm} (h : ∀ (t : Nat) (x : Value), t ∈ looked → tmps[t]? = some x → VRel ρ (Tm.get (path t) tm) x) :
    ∃ (tm' : Tm) (tmps' : Array Value), tmps'.size = tmps.size ∧ TmRel ρ tm' tmps' ∧ (∀ t ∈ looked, Tm.get (path t) tm' = Tm.get (path t) tm) ∧ (∀ t ∈ looked, tmps'[t]? = tmps[t]?) := by
  obtain ⟨B, hB1, hB2⟩ := bound_of looked tmps.size
  obtain ⟨tm', ht'⟩ := tm_of (fun t => if t ∈ looked then Tm.get (path t) tm else .undef) B
  refine ⟨tm', tmps.mapIdx fun t x => if t ∈ looked then x else undef, by simp, ?_, ?_, ?_⟩
  · intro i x hx
    simp only [Array.getElem?_mapIdx, Option.map_eq_some_iff] at hx
    obtain ⟨y, hy, rfl⟩ := hx
    have hlt := (Array.getElem?_eq_some_iff.1 hy).1
    rw [ht' i (by omega)]
    by_cases hl : i ∈ looked
    · rw [if_pos hl, if_pos hl]
      exact h i y hl hy
    · rw [if_neg hl, if_neg hl]
      exact .undef
  · intro t hl
    rw [ht' t (hB2 t hl), if_pos hl]
  · intro t hl
    simp only [Array.getElem?_mapIdx, if_pos hl]
    cases tmps[t]? <;> rfl

section
variable {P : Program} {R : Tab} {ops : Array Oper} {ρ : Emb} {G : AHeap} {w : World} {b : Frame} {cs : List Frame} {k : List Item} {tmps : Array Value} {defers : List Deferred} {tm : Tm}

theorem eval_agree {tmps' : Array Value} {o : Oper} (h : ∀ t ∈ looksAt ops.toList o, tmps'[t]? = tmps[t]?) : ∀ x ∈ o.op.operands, (⟨tmps', defers⟩ : Act).eval x = (⟨tmps, defers⟩ : Act).eval x := by
  intro x hx
  cases x with
  | tmp t =>
    have : t ∈ looksAt ops.toList o := by
      unfold looksAt
      refine List.mem_append_left _ ?_
      have hx' : Operand.tmp t ∈ o.op.operands.toList := by simpa using hx
      revert hx'
      generalize o.op.operands.toList = l
      intro hx'
      induction l with
      | nil => cases hx'
      | cons y l ih =>
        cases hx' with
        | head => simp [namesT]
        | tail _ hx' =>
          have := ih hx'
          cases y <;> simp [namesT, this]
    have := h t this
    simp only [Act.eval]
    rw [Array.getD_eq_getD_getElem?, Array.getD_eq_getD_getElem?, this]
  | const v => rfl
  | global g => rfl
  | func f => rfl

theorem wanted_agree {tmps' : Array Value} {o : Oper} (h : ∀ t ∈ looksAt ops.toList o, tmps'[t]? = tmps[t]?) : Region.wanted o (yielded ops tmps') = Region.wanted o (yielded ops tmps) := by
  unfold Region.wanted
  cases hg : o.guard with
  | none => rfl
  | some jw =>
    obtain ⟨j, want⟩ := jw
    have : yielded ops tmps' j = yielded ops tmps j := by
      unfold yielded
      cases hd : (ops[j]?).bind (·.dst) with
      | none => rfl
      | some d =>
        have hl : d ∈ looksAt ops.toList o := by
          unfold looksAt
          refine List.mem_append_right _ ?_
          rw [hg]
          simp only [getAt_eq, Array.getElem?_toList]
          cases ho : ops[j]? with
          | none => rw [ho] at hd; cases hd
          | some p =>
            rw [ho] at hd
            simp only [Option.bind_some] at hd
            simp [hd]
        simp only [Option.bind_some]
        rw [h d hl]
    simp only [this]

theorem tm_agree {tm' : Tm} {o : Oper} {n : Nat} (h : ∀ t ∈ looksAt ops.toList o, Tm.get (path t) tm' = Tm.get (path t) tm) : ∀ x ∈ (cop P n o.op).xs, x.ev tm' = x.ev tm :=
  cop_agree fun t ht => h t (by unfold looksAt; exact List.mem_append_left _ ht)

/-- An operation that calls nothing, on a part of memory. -/
theorem part_mem {o : Oper} {i : Nat} {rest : List Nat} (ho : ops[i]? = some o) (hsel : ∀ cs b, o.op ≠ .select cs b) (hw : WRel P ρ G w)
    (hrel : ∀ (t : Nat) (x : Value), t ∈ looksAt ops.toList o → tmps[t]? = some x → VRel ρ (Tm.get (path t) tm) x) (hwant : Region.wanted o (yielded ops tmps) = true) {v : AVal} {G' : AHeap}
    (hm : (cop P tmps.size o.op).mem P tm G = .v v G') :
    ∃ x ρ' w', VRel ρ' v x ∧ Stp P ρ G w ρ' G' w' ∧
      step P (lone (Fr b tmps defers (.inRegion ops (i :: rest) :: k)) cs w) = .next (lone (Fr b (putT tmps o.dst x) defers (.inRegion ops rest :: k)) cs w') := by
  obtain ⟨tm', tmps', h1, h2, h3, h4⟩ := restrict hrel
  have hag := tm_agree (P := P) (n := tmps.size) h3
  rw [← mem_congr hag] at hm
  have hev : execOp (⟨tmps', defers⟩ : Act).eval o = execOp (⟨tmps, defers⟩ : Act).eval o := execOp_congr o hsel (eval_agree h4)
  obtain ⟨x, w', ρ', g1, g2, g3⟩ := op_value (o := o) (a := ⟨tmps', defers⟩) hw h2 (by rw [h1]) hm
  rw [hev] at g1
  have hnd : ∀ c, o.op ≠ .defer c := by
    intro c e
    rw [e] at hm
    simp only [cop, cdefer] at hm
    split at hm
    · split at hm
      · split at hm <;> cases hm
      · cases hm
    · cases hm
  have happ := applies_op (P := P) (b := b) (k := k) (cs := cs) (w := w) (rest := rest) (defers := defers) ho hwant (.inr hnd) ⟨tmps, defers⟩ rfl
  refine ⟨x, ρ', w', g2, g3, ?_⟩
  rw [← Fr_finish i rest x ho]
  rcases g1 with g1 | ⟨g1, rfl⟩
  · exact apply_value happ g1
  · exact apply_skip happ g1

/-- A call, on a part of memory. -/
theorem part_call (S : Sound P R) {o : Oper} {i : Nat} {rest : List Nat} (ho : ops[i]? = some o) (hsel : ∀ cs b, o.op ≠ .select cs b) (hw : WRel P ρ G w)
    (hrel : ∀ (t : Nat) (x : Value), t ∈ looksAt ops.toList o → tmps[t]? = some x → VRel ρ (Tm.get (path t) tm) x) (hwant : Region.wanted o (yielded ops tmps) = true) (hc : (cop P tmps.size o.op).isCall = true) :
    NextOut P ρ G (Fr b tmps defers (.inRegion ops (i :: rest) :: k)) cs w (lone (Fr b tmps defers (.inRegion ops (i :: rest) :: k)) cs w) ((cop P tmps.size o.op).callB P R tm G) := by
  obtain ⟨tm', tmps', h1, h2, h3, h4⟩ := restrict hrel
  have hag := tm_agree (P := P) (n := tmps.size) h3
  rw [← callB_congr hag]
  have hev : execOp (⟨tmps', defers⟩ : Act).eval o = execOp (⟨tmps, defers⟩ : Act).eval o := execOp_congr o hsel (eval_agree h4)
  have hnd : ∀ c, o.op ≠ .defer c := by
    intro c e
    rw [e] at hc
    simp only [cop, cdefer] at hc
    split at hc
    · split at hc
      · split at hc <;> cases hc
      · cases hc
    · cases hc
  have happ := applies_op (P := P) (b := b) (k := k) (cs := cs) (w := w) (rest := rest) (defers := defers) ho hwant (.inr hnd) ⟨tmps, defers⟩ rfl
  exact op_calls S hw (o := o) (a := ⟨tmps', defers⟩) h2 (b := cop P tmps.size o.op) (by rw [h1]) hc (by rw [hev]) quiet_region happ

end
end Go.Eng

namespace Go.Eng
set_option linter.unusedSimpArgs false

/-- What holds where the operations of X are done. -/
structure XInv (P : Program) (recs : List Rec) (st₀ : St) (sz : Nat) (ρ₀ : Emb) (w₀ : World) (X : Nat → Bool) (tmps : Array Value) (w : World) (ρ : Emb) (HX : AHeap) : Prop where
  stp : Stp P ρ₀ st₀.H w₀ ρ HX w
  next : HX.next = (HAt recs st₀.H recs.length).next
  low : HX.low = (HAt recs st₀.H recs.length).low
  get : ∀ b, b < HX.next → HX.get b = (pick X (updH recs b) (iniH st₀.H b) recs.length).1
  cont : ∀ b blk, b < HX.next → HX.get b = some blk → ∃ p o, ρ b = some p ∧ w.heap[p.r]? = some o ∧ BRel P (ρ.cut (pick X (updH recs b) (iniH st₀.H b) recs.length).2) p blk o
  fresh : ∀ (j : Nat) (r : Rec), recs[j]? = some r → X j = false → ∀ b, r.H.next ≤ b → b < r.H'.next → ρ b = none
  size : tmps.size = sz
  tmp : ∀ (t : Nat) (x : Value), tmps[t]? = some x → VRel (ρ.cut (pick X (updT recs (path t)) (iniT st₀.tm st₀.H (path t)) recs.length).2) (pick X (updT recs (path t)) (iniT st₀.tm st₀.H (path t)) recs.length).1 x

section
variable {P : Program} {R : Tab} {ops : Array Oper} {sz : Nat} {st₀ st : St} {recs : List Rec} {ρ₀ : Emb} {w₀ : World} {tmps : Array Value}

theorem pick_none {α : Type} (upd : Nat → Option α) (a : α) : ∀ n, pick (fun _ => false) upd a n = a
  | 0 => rfl
  | n + 1 => by simp only [pick, Bool.false_eq_true, if_false]; exact pick_none upd a n

theorem cut_self (hw : WRel P ρ₀ st₀.H w₀) : ρ₀.cut st₀.H.next = ρ₀ := by
  funext b
  unfold Emb.cut
  split
  · rfl
  · exact (hw.fresh b (by omega)).symm

/-- Where nothing is done yet. -/
theorem xinv_begin {base : Nat} {all : List (BIns × Nat)} (f : Facts P R base all st₀ recs st) (hw : WRel P ρ₀ st₀.H w₀) (ht : TmRel ρ₀ st₀.tm tmps) :
    ∃ HX, XInv P recs st₀ tmps.size ρ₀ w₀ (fun _ => false) tmps w₀ ρ₀ HX := by
  obtain ⟨HX, h1, h2, h3⟩ := heap_of (fun b => (iniH st₀.H b).1) (HAt recs st₀.H recs.length).low (HAt recs st₀.H recs.length).next _ (Nat.le_refl _)
  have hn : st₀.H.next ≤ HX.next := by
    rw [h1]
    exact f.next_le (j := 0) (k := recs.length) (by omega) (Nat.le_refl _)
  have hl : HX.low ≤ st₀.H.low := by
    rw [h2]
    exact f.low_le (j := 0) (k := recs.length) (by omega) (Nat.le_refl _)
  have get : ∀ b, b < st₀.H.next → HX.get b = st₀.H.get b := fun b hb => by
    rw [h3 b (by omega)]; simp [iniH, hb]
  have getN : ∀ b, st₀.H.next ≤ b → b < HX.next → HX.get b = none := fun b hb hb' => by
    rw [h3 b (by omega)]; simp only [iniH]; rw [if_neg (by omega)]
  have lt : ∀ b x, b < HX.next → HX.get b = some x → b < st₀.H.next := fun b x hb hx => Nat.lt_of_not_le fun h => by
    rw [getN b h hb] at hx; cases hx
  have own : ∀ b, b < st₀.H.next → HX.Own b → st₀.H.Own b := fun b hb ⟨x, h1, h2⟩ => ⟨x, by rw [← get b hb]; exact h1, h2⟩
  refine ⟨HX, ?_, h1, h2, ?_, ?_, ?_, rfl, ?_⟩
  · constructor
    · constructor
      · intro b blk hb hx
        have hb' := lt b blk hb hx
        rw [get b hb'] at hx
        exact hw.blocks b blk hb' hx
      · intro b c x y p q hb hc hx hy hne hown hp hq
        have hb' := lt b x hb hx
        have hc' := lt c y hc hy
        rw [get b hb'] at hx
        rw [get c hc'] at hy
        exact hw.inj b c x y p q hb' hc' hx hy hne hown hp hq
      · intro b hb; exact hw.fresh b (by omega)
      · exact hw.glob
    · intro _ _; rfl
    · exact hn
    · exact hl
    · intro b hb h; rw [get b hb] at h; exact h
    · exact own
    · intro b hb _; exact get b hb
    · intro b p hb e; rw [hw.fresh _ hb] at e; cases e
    · rfl
    · rfl
    · rfl
    · exact Nat.le_refl _
    · intro _ _ _; rfl
  · intro b hb
    rw [pick_none]
    exact h3 b (by omega)
  · intro b blk hb hx
    rw [pick_none]
    have hb' := lt b blk hb hx
    rw [get b hb'] at hx
    obtain ⟨p, o, g1, g2, g3⟩ := hw.blocks b blk hb' hx
    refine ⟨p, o, g1, g2, ?_⟩
    simp only [iniH]
    rw [cut_self hw]
    exact g3
  · intro j r hr _ b hb _
    have := f.next_le (j := 0) (k := j) (by omega) (by have := (List.getElem?_eq_some_iff.1 hr).1; omega)
    rw [← f.H j r hr] at this
    exact hw.fresh b (Nat.le_trans this hb)
  · intro t x hx
    rw [pick_none]
    simp only [iniT]
    rw [cut_self hw]
    exact ht t x hx

end
end Go.Eng

namespace Go.Eng
set_option linter.unusedSimpArgs false

/-! ### A block that stands for two objects -/

section
variable {P : Program} {ρ₁ ρ' ρ₂ : Emb} {n : Nat}

mutual
theorem VRel.down2 (h : ∀ b p, b < n → ρ' b = some p → ρ₂ b = some p) : ∀ {v : AVal} {x : Value}, VRel ρ' v x → v.under n = true → VRel ρ₂ v x
  | _, _, .bool b, _ => .bool b
  | _, _, .int k n, _ => .int k n
  | _, _, .str s, _ => .str s
  | _, _, .ptr e, u => .ptr (h _ _ (blt_iff.1 u) e)
  | _, _, .nilPtr, _ => .nilPtr
  | _, _, .slice e h0 h1 h2 h3, u => .slice (h _ _ (blt_iff.1 u) e) h0 h1 h2 h3
  | _, _, .nilSlice, _ => .nilSlice
  | _, _, .emptySlice a c, _ => .emptySlice a c
  | _, _, .map e, u => .map (h _ _ (blt_iff.1 u) e)
  | _, _, .nilMap, _ => .nilMap
  | _, _, .func fn hf hc, u => by
    simp only [AVal.under, Bool.and_eq_true] at u
    exact .func fn (VRels.down2 h hf u.1) (VRels.down2 h hc u.2)
  | _, _, .yld e, u => .yld (h _ _ (blt_iff.1 u) e)
  | _, _, .nilFunc, _ => .nilFunc
  | _, _, .iface t hv, u => .iface t (VRel.down2 h hv (by simpa [AVal.under] using u))
  | _, _, .nilIface, _ => .nilIface
  | _, _, .agg hs, u => .agg (VRels.down2 h hs (by simpa [AVal.under] using u))
  | _, _, .tuple hs, u => .tuple (VRels.down2 h hs (by simpa [AVal.under] using u))
theorem VRels.down2 (h : ∀ b p, b < n → ρ' b = some p → ρ₂ b = some p) : ∀ {vs : List AVal} {xs : List Value}, VRels ρ' vs xs → AVal.unders vs n = true → VRels ρ₂ vs xs
  | _, _, .nil, _ => .nil
  | _, _, .cons hv hs, u => by
    simp only [AVal.unders, Bool.and_eq_true] at u
    exact .cons (VRel.down2 h hv u.1) (VRels.down2 h hs u.2)
end

theorem VRel.two (hf : ∀ b, n ≤ b → ρ₁ b = none) (hd : ∀ b p, b < n → ρ' b = some p → ρ₂ b = some p) {v : AVal} {x y : Value} (h1 : VRel ρ₁ v x) (h2 : VRel ρ' v y) : VRel ρ₂ v y :=
  h2.down2 hd (VRel.live (H := ⟨.leaf, n, 0⟩) hf h1)

theorem ERel.two (hf : ∀ b, n ≤ b → ρ₁ b = none) (hd : ∀ b p, b < n → ρ' b = some p → ρ₂ b = some p) : ∀ {es : List (AVal × AVal)} {fs gs : List MapEntry}, ERel ρ₁ es fs → ERel ρ' es gs → ERel ρ₂ es gs
  | _, _, _, .nil, .nil => .nil
  | _, _, _, .cons k1 v1 s1, .cons k2 v2 s2 => .cons (VRel.two hf hd k1 k2) (VRel.two hf hd v1 v2) (ERel.two hf hd s1 s2)

theorem LRel.two (hf : ∀ b, n ≤ b → ρ₁ b = none) (hd : ∀ b p, b < n → ρ' b = some p → ρ₂ b = some p) {l : ALoop} {r s : Loop} (h1 : LRel P ρ₁ l r) (h2 : LRel P ρ' l s) : LRel P ρ₂ l s where
  state := h2.state
  pending := h2.pending
  tm i x hx := by
    have hlt := (Array.getElem?_eq_some_iff.1 hx).1
    have e : i < r.tmps.size := by rw [h1.size, ← h2.size]; exact hlt
    exact VRel.two hf hd (h1.tm i _ (Array.getElem?_eq_getElem e)) (h2.tm i x hx)
  params := h2.params
  assign := h2.assign
  body := h2.body
  defers := by
    obtain ⟨p, g1, _⟩ := h1.defers
    obtain ⟨q, g2, g3⟩ := h2.defers
    exact ⟨q, hd _ _ (Nat.lt_of_not_le fun h => by rw [hf _ h] at g1; cases g1) g2, g3⟩
  fn := h2.fn
  size := h2.size

theorem BRel.two (hf : ∀ b, n ≤ b → ρ₁ b = none) (hd : ∀ b p, b < n → ρ' b = some p → ρ₂ b = some p) {p q : Place} {x : ABlk} {o₁ o₂ : Obj} (h1 : BRel P ρ₁ p x o₁) (h2 : BRel P ρ' q x o₂) : BRel P ρ₂ q x o₂ := by
  cases h2 with
  | cells hd' g1 g2 =>
    cases h1 with
    | cells _ f1 _ =>
      refine .cells hd' (fun i v hv => ?_) g2
      obtain ⟨y, h3, h4⟩ := g1 i v hv
      obtain ⟨z, _, h6⟩ := f1 i v hv
      exact ⟨y, h3, VRel.two hf hd h6 h4⟩
  | map e => cases h1 with | map e1 => exact .map (ERel.two hf hd e1 e)
  | siter hd' s pos => exact .siter hd' s pos
  | loop e => cases h1 with | loop e1 => exact .loop (LRel.two hf hd e1 e)
  | defs => exact .defs
  | taken => exact .taken

end

section
variable {P : Program} {R : Tab} {ops : Array Oper} {sz : Nat} {st₀ st : St} {recs : List Rec} {ρ₀ ρ ρ' : Emb} {w₀ w w' : World} {tmps : Array Value} {X : Nat → Bool} {HX G G' : AHeap} {j : Nat} {r : Rec}

theorem xinv_join (g : Reg P R ops sz st₀ recs st) (c : Cl recs X) (d : Rdy recs X j r) (I : XInv P recs st₀ sz ρ₀ w₀ X tmps w ρ HX) {o : Oper} (ho : ops[j]? = some o)
    (hGn : G.next = r.H.next) (hG : ∀ b, b < r.H.next → G.get b ≠ none → G.get b = r.H.get b ∧ HX.get b = r.H.get b)
    (s : Stp P (ρ.cut r.H.next) G w ρ' G' w') (hn' : G'.next = r.H'.next)
    (hsame : ∀ b, (b < r.H.next ∧ G.get b ≠ none) ∨ (r.H.next ≤ b ∧ b < r.H'.next) → G'.get b = r.H'.get b)
    (htouch : ∀ b, b < r.H.next → G.get b = none → r.H'.get b = r.H.get b)
    (hlow : ∀ b, b < r.H.next → b < (HAt recs st₀.H recs.length).low → b < G'.low) {x : Value} (hv : VRel ρ' r.v x) (hdst : cdst sz o.dst = some r.o.dst) :
    ∃ HX', XInv P recs st₀ sz ρ₀ w₀ (fun i => X i || i == j) (putT tmps o.dst x) w' (joinEmb ρ ρ' G' r.H.next) HX' := by
  have f := g.facts
  have hjn := (List.getElem?_eq_some_iff.1 d.rec').1
  have hHj := f.H j r d.rec'
  have hH0 : st₀.H.next ≤ r.H.next := f.baseNext d.rec'
  have hHn : r.H'.next ≤ HX.next := by
    have := f.next_le (j := j + 1) (k := recs.length) (by omega) (Nat.le_refl _)
    rw [HAt_succ d.rec'] at this
    rw [I.next]; exact this
  have hmn : r.H.next ≤ r.H'.next := (did_mono (f.did j r d.rec')).1
  obtain ⟨HX', h1, h2, h3⟩ := heap_of (joinGet HX G G' r.H.next) (HAt recs st₀.H recs.length).low HX.next _ (Nat.le_refl _)
  have S := stp_join I.stp hH0 (by omega) hGn (fun b blk hb e => by
      have := hG b hb (by rw [e]; simp)
      rw [this.2, ← this.1]; exact e) s (by omega) (fun b hb hb' => I.fresh j r d.rec' d.new b hb (by omega)) hlow (by rw [I.low]; exact Nat.le_refl _) h1 h2 h3
  have hlast := says_last f rfl c d
  -- what a block is now
  have now : ∀ b, b < HX.next → HX'.get b = (pick (fun i => X i || i == j) (updH recs b) (iniH st₀.H b) recs.length).1 := by
    intro b hb
    rw [h3 b hb, hlast b]
    unfold joinGet
    by_cases hn : r.H.next ≤ b ∧ b < G'.next
    · rw [if_pos hn, updH_touch d.rec' ⟨by omega, .inl hn.1⟩]
      exact hsame b (.inr ⟨hn.1, by omega⟩)
    · rw [if_neg hn]
      by_cases hg : b < r.H.next ∧ G.get b ≠ none
      · rw [if_pos hg, hsame b (.inl hg)]
        by_cases ht : Touch r b
        · rw [updH_touch d.rec' ht]; rfl
        · rw [updH_not d.rec' ht, Option.getD_none, ← I.get b hb, (hG b hg.1 hg.2).2]
          exact Classical.byContradiction fun e => ht ⟨by omega, .inr e⟩
      · rw [if_neg hg]
        have ht : ¬ Touch r b := by
          rintro ⟨t1, t2⟩
          rcases t2 with t2 | t2
          · exact hn ⟨t2, by omega⟩
          · by_cases hlt : b < r.H.next
            · exact t2 (htouch b hlt (Classical.byContradiction fun e => hg ⟨hlt, e⟩))
            · exact hn ⟨by omega, by omega⟩
        rw [updH_not d.rec' ht, Option.getD_none]
        exact I.get b hb
  have mono' : ∀ b p, ρ' b = some p → (joinEmb ρ ρ' G' r.H.next).cut r.H'.next b = some p := fun b p e => by
    have hlt := s.wrel.lt e
    rw [Emb.cut_lt (by omega)]
    unfold joinEmb
    by_cases hm : r.H.next ≤ b
    · rw [if_pos ⟨hm, hlt⟩]; exact e
    · rw [if_neg (by omega)]
      rw [s.ext b (by omega), Emb.cut_lt (by omega)] at e
      exact e
  have mono : ∀ n b p, ρ.cut n b = some p → (joinEmb ρ ρ' G' r.H.next).cut n b = some p := fun n b p e => by
    obtain ⟨hb, hp⟩ := Emb.cut_some e
    rw [Emb.cut_lt hb]
    unfold joinEmb
    split
    · rename_i h
      rw [I.fresh j r d.rec' d.new b h.1 (by omega)] at hp; cases hp
    · exact hp
  refine ⟨HX', ⟨S, by rw [h1, I.next], h2, ?_, ?_, ?_, by rw [putT_size]; exact I.size, ?_⟩⟩
  · intro b hb; exact now b (by omega)
  · intro b blk hb hx
    rw [h1] at hb
    have hnow := now b hb
    have hx0 := hx
    rw [hlast b] at hnow ⊢
    by_cases ht : Touch r b
    · rw [updH_touch d.rec' ht] at hnow ⊢
      simp only [Option.getD_some] at hnow ⊢
      -- it is one of the part
      have hin : G'.get b = some blk := by
        by_cases hm : r.H.next ≤ b
        · rw [hsame b (.inr ⟨hm, ht.1⟩), ← hnow]; exact hx
        · have hne : G.get b ≠ none := fun e => by
            rcases ht.2 with t | t
            · exact hm t
            · exact t (htouch b (by omega) e)
          rw [hsame b (.inl ⟨by omega, hne⟩), ← hnow]; exact hx
      obtain ⟨p, ob, g1, g2, g3⟩ := s.wrel.blocks b blk (by have := ht.1; omega) hin
      refine ⟨p, ob, ?_, g2, g3.mono mono'⟩
      exact Emb.cut_le b p (mono' b p g1)
    · rw [updH_not d.rec' ht, Option.getD_none] at hnow ⊢
      have hxX : HX.get b = some blk := by rw [I.get b hb, ← hnow]; exact hx
      obtain ⟨p, ob, g1, g2, g3⟩ := I.cont b blk hb hxX
      have hr := S.wrel.blocks b blk (by rw [h1]; exact hb) hx0
      obtain ⟨p', ob', k1, k2, _⟩ := hr
      -- it lies where it lay
      have hp' : joinEmb ρ ρ' G' r.H.next b = some p := by
        unfold joinEmb
        split
        · rename_i h
          rw [I.fresh j r d.rec' d.new b h.1 (by omega)] at g1; cases g1
        · exact g1
      rw [hp'] at k1
      cases k1
      by_cases hg : b < r.H.next ∧ G.get b ≠ none
      · -- one of the part that is as it was
        have hin : G'.get b = some blk := by
          rw [hsame b (.inl hg)]
          have := hG b hg.1 hg.2
          have e : r.H'.get b = r.H.get b := Classical.byContradiction fun e => ht ⟨by omega, .inr e⟩
          rw [e, ← this.2]; exact hxX
        obtain ⟨q, o2, f1, f2, f3⟩ := s.wrel.blocks b blk (by omega) hin
        have hq : q = p := by
          have := Emb.cut_le b q (mono' b q f1)
          rw [hp'] at this
          cases this; rfl
        subst hq
        refine ⟨q, o2, hp', f2, BRel.two (n := (pick X (updH recs b) (iniH st₀.H b) recs.length).2) ?_ ?_ g3 f3⟩
        · intro c hc
          unfold Emb.cut
          rw [if_neg (by omega)]
        · intro c y hc e
          rw [Emb.cut_lt hc]
          exact Emb.cut_le c y (mono' c y e)
      · have kept : w'.heap[p.r]? = w.heap[p.r]? := by
          refine s.frame p.r (I.stp.wrel.heap_lt hxX g1) fun c q hc hq hr => ?_
          obtain ⟨hcm, hq'⟩ := Emb.cut_some hq
          obtain ⟨y, hy, hown⟩ := hc
          have hcc := hG c hcm (by rw [hy]; simp)
          have hne : c ≠ b := fun e => by
            subst e
            exact hg ⟨hcm, by rw [hy]; simp⟩
          exact absurd hr (I.stp.wrel.inj c b y blk q p (by omega) hb (by rw [hcc.2, ← hcc.1]; exact hy) hxX hne hown hq' g1)
        exact ⟨p, ob, hp', by rw [kept]; exact g2, g3.mono (mono _)⟩
  · intro i s' hs' hX b hb hb'
    simp only [Bool.or_eq_false_iff, beq_eq_false_iff_ne] at hX
    unfold joinEmb
    split
    · rename_i h
      exfalso
      rcases Nat.lt_or_ge i j with hij | hij
      · have := f.next_le (j := i + 1) (k := j) (by omega) (by omega)
        rw [HAt_succ hs', ← hHj] at this
        omega
      · have := f.next_le (j := j + 1) (k := i) (by omega) (by have := (List.getElem?_eq_some_iff.1 hs').1; omega)
        rw [HAt_succ d.rec', ← f.H i s' hs'] at this
        omega
    · exact I.fresh i s' hs' hX.1 b hb hb'
  · intro t y hy
    rw [tmp_last g c d (path t)]
    have hsz := I.size
    by_cases hd : r.o.dst = some (path t)
    · have hu : updT recs (path t) j = some (r.v, r.H'.next) := by
        unfold updT
        rw [d.rec']
        simp only
        rw [if_pos hd]
      rw [hu]
      simp only [Option.getD_some]
      rw [hd] at hdst
      cases hod : o.dst with
      | none => rw [hod] at hdst; simp [cdst] at hdst
      | some t' =>
        rw [hod] at hdst hy
        simp only [cdst] at hdst
        cases hb : Nat.blt t' sz <;> rw [hb] at hdst <;> simp only [cond_true, cond_false, Option.some.injEq, reduceCtorEq] at hdst
        have := path_inj hdst
        subst this
        simp only [putT] at hy
        rw [Array.getElem?_setIfInBounds_self_of_lt (by rw [hsz]; exact blt_iff.1 hb)] at hy
        cases hy
        exact hv.mono mono'
    · rw [updT_not d.rec' hd, Option.getD_none]
      have hy' : tmps[t]? = some y := by
        cases hod : o.dst with
        | none => rw [hod] at hy; exact hy
        | some t' =>
          rw [hod] at hdst hy
          simp only [cdst] at hdst
          cases hb : Nat.blt t' sz <;> rw [hb] at hdst <;> simp only [cond_true, cond_false, Option.some.injEq, reduceCtorEq] at hdst
          have hne : t' ≠ t := fun e => by subst e; exact hd hdst.symm
          simp only [putT] at hy
          rw [Array.getElem?_setIfInBounds_ne hne] at hy
          exact hy
      exact (I.tmp t y hy').mono (mono _)

end
end Go.Eng

namespace Go.Eng
set_option linter.unusedSimpArgs false

section
variable {P : Program} {R : Tab} {ops : Array Oper} {sz : Nat} {st₀ st : St} {recs : List Rec} {ρ₀ ρ : Emb} {w₀ w : World} {tmps : Array Value} {X : Nat → Bool} {HX : AHeap} {j : Nat} {r : Rec}
  {b : Frame} {cs : List Frame} {k : List Item} {defers : List Deferred}

/-- A part of memory. -/
theorem part_wrel (I : XInv P recs st₀ sz ρ₀ w₀ X tmps w ρ HX) (hw0 : WRel P ρ₀ st₀.H w₀) {m : Nat} (h0 : st₀.H.next ≤ m) (hm : m ≤ HX.next) {G : AHeap} (hGn : G.next = m)
    (hG : ∀ b blk, b < m → G.get b = some blk → HX.get b = some blk ∧ (pick X (updH recs b) (iniH st₀.H b) recs.length).2 ≤ m) : WRel P (ρ.cut m) G w where
  blocks b blk hb e := by
    rw [hGn] at hb
    obtain ⟨h1, h2⟩ := hG b blk hb e
    obtain ⟨p, o, g1, g2, g3⟩ := I.cont b blk (by omega) h1
    exact ⟨p, o, by rw [Emb.cut_lt hb]; exact g1, g2, g3.mono (Emb.cut_mono h2)⟩
  inj c d x y p q hc hd hx hy hne hown hp hq := by
    rw [hGn] at hc hd
    exact I.stp.wrel.inj c d x y p q (by omega) (by omega) (hG c x hc hx).1 (hG d y hd hy).1 hne hown (Emb.cut_le _ _ hp) (Emb.cut_le _ _ hq)
  fresh b hb := by
    unfold Emb.cut
    rw [if_neg (by omega)]
  glob g hg := by
    obtain ⟨p, h1, h2⟩ := I.stp.wrel.glob g hg
    obtain ⟨q, h3, _⟩ := hw0.glob g hg
    have := hw0.lt h3
    exact ⟨p, by rw [Emb.cut_lt (by omega)]; exact h1, h2⟩

theorem guard_agree {tm tm' : Tm} {n : Nat} {o : Oper} {g : Option (List Bool × Bool)} (hg : cguard n ops.toList o.guard = some g) (h : ∀ t ∈ looksAt ops.toList o, Tm.get (path t) tm' = Tm.get (path t) tm) :
    wantedB g tm' = wantedB g tm := by
  cases hgu : o.guard with
  | none =>
    rw [hgu] at hg
    simp only [cguard, Option.some.injEq] at hg
    subst hg
    rfl
  | some jw =>
    obtain ⟨i, want⟩ := jw
    rw [hgu] at hg
    simp only [cguard] at hg
    split at hg
    · rename_i o' ho'
      split at hg
      · rename_i d hd
        cases hb : Nat.blt d n <;> rw [hb] at hg <;> simp only [cond_true, cond_false, Option.some.injEq, reduceCtorEq] at hg
        subst hg
        simp only [wantedB]
        rw [h d ?_]
        unfold looksAt
        refine List.mem_append_right _ ?_
        rw [hgu]
        simp only
        rw [ho']
        simp only
        rw [hd]
        simp
      · cases hg
    · cases hg

/-- A block at which an operation looks, where the operations of X are done. -/
theorem seen_get (g : Reg P R ops sz st₀ recs st) (c : Cl recs X) (d : Rdy recs X j r) (I : XInv P recs st₀ sz ρ₀ w₀ X tmps w ρ HX) {wj : Bool} {blk : Option (List Nat)} (hl : r.loud = some (wj, blk)) {b : Nat} (hb : b < r.H.next)
    (hblk : ∀ l, blk = some l → b ∈ l) : HX.get b = r.H.get b ∧ (pick X (updH recs b) (iniH st₀.H b) recs.length).2 ≤ r.H.next := by
  have hjn := (List.getElem?_eq_some_iff.1 d.rec').1
  have f := g.facts
  have hHj := f.H j r d.rec'
  have hHn : r.H.next ≤ HX.next := by
    have := f.next_le (j := j) (k := recs.length) (by omega) (Nat.le_refl _)
    rw [← hHj] at this
    rw [I.next]; exact this
  have h1 := seen_same f rfl c d hl hb hblk
  obtain ⟨h2, h3⟩ := text_heap f b j (by omega) (by rw [← hHj]; exact hb)
  rw [I.get b (by omega), h1, h2, hHj]
  exact ⟨rfl, h3⟩

/-- Memory where some blocks alone are there. -/
theorem heap_pick (H : AHeap) : ∀ bs : List Nat, ∃ G : AHeap, G.next = H.next ∧ G.low = H.low ∧ ∀ b, G.get b = if b ∈ bs then H.get b else none
  | [] => ⟨⟨.leaf, H.next, H.low⟩, rfl, rfl, fun b => by
      show Tr.get (path b) .leaf = _
      rw [Tr.get_leaf]; simp⟩
  | c :: bs => by
    obtain ⟨G, h1, h2, h3⟩ := heap_pick H bs
    refine ⟨⟨Tr.put (path c) (H.get c) G.tr, H.next, H.low⟩, rfl, rfl, fun b => ?_⟩
    show Tr.get (path b) (Tr.put (path c) (H.get c) G.tr) = _
    by_cases e : b = c
    · subst e; rw [Tr.get_put_self]; simp
    · rw [Tr.get_put_ne _ _ _ _ (path_ne e)]
      exact (h3 b).trans (by simp [e])

theorem xinv_step (S : Sound P R) (g : Reg P R ops sz st₀ recs st) (hw0 : WRel P ρ₀ st₀.H w₀) (c : Cl recs X) (d : Rdy recs X j r) (I : XInv P recs st₀ sz ρ₀ w₀ X tmps w ρ HX) (rest : List Nat) :
    ∃ tmps' w' ρ' HX', XInv P recs st₀ sz ρ₀ w₀ (fun i => X i || i == j) tmps' w' ρ' HX' ∧
      Steps P (lone (Fr b tmps defers (.inRegion ops (j :: rest) :: k)) cs w) (lone (Fr b tmps' defers (.inRegion ops rest :: k)) cs w') := by
  have f := g.facts
  obtain ⟨o, ho, hso, hm⟩ := g.src d.rec'
  have hjn := (List.getElem?_eq_some_iff.1 d.rec').1
  have hHj := f.H j r d.rec'
  have hH0 : st₀.H.next ≤ r.H.next := f.baseNext d.rec'
  have hHn : r.H.next ≤ HX.next := by
    have := f.next_le (j := j) (k := recs.length) (by omega) (Nat.le_refl _)
    rw [← hHj] at this
    rw [I.next]; exact this
  have hlowF : (HAt recs st₀.H recs.length).low ≤ r.H'.low := by
    have := f.low_le (j := j + 1) (k := recs.length) (by omega) (Nat.le_refl _)
    rw [HAt_succ d.rec'] at this
    exact this
  have hmono := did_mono (f.did j r d.rec')
  obtain rfl : tmps.size = sz := I.size
  have hrel : ∀ (t : Nat) (x : Value), t ∈ looksAt ops.toList o → tmps[t]? = some x → VRel (ρ.cut r.H.next) (Tm.get (path t) r.tm) x := by
    intro t x ht hx
    have h1 := I.tmp t x hx
    rw [tmp_same g c d ho ht] at h1
    obtain ⟨h2, h3⟩ := text_tmp f (path t) j (by omega)
    rw [h2, ← f.tm j r d.rec'] at h1
    rw [← hHj] at h3
    exact h1.mono (Emb.cut_mono h3)
  have hsel : ∀ cs b, o.op ≠ .select cs b := noSelect_all g.sel o (by
    have := List.mem_of_getElem? (l := ops.toList) (i := j) (a := o) (by simpa using ho)
    exact this)
  rcases cins_cases hso.symm with hbad | ⟨hd, hgd, hc⟩
  · exfalso
    cases f.did j r d.rec' with
    | skip hw _ _ _ => rw [hbad] at hw; cases hw
    | done hw h =>
      rw [hbad] at h
      generalize r.v = rv at h
      generalize r.H' = rH' at h
      generalize r.loud = rl at h
      cases h with
      | quiet hk _ => cases hk
      | read hk _ => cases hk
      | write hk _ => cases hk
      | callR hc _ _ _ => cases hc
      | callW hc _ _ => cases hc
  · have hwant : wantedB r.o.guard r.tm = Region.wanted o (yielded ops tmps) := by
      obtain ⟨tm', tmps', h1, h2, h3, h4⟩ := restrict hrel
      rw [← guard_agree hgd h3, ← wanted_agree h4]
      exact wanted_rel (ops := ops) h2 (by rw [h1]; exact hgd)
    -- an operation that calls nothing, on a part
    have simple : ∀ (G G' : AHeap), wantedB r.o.guard r.tm = true → G.next = r.H.next → (∀ b blk, b < r.H.next → G.get b = some blk → r.H.get b = some blk ∧ HX.get b = some blk ∧ (pick X (updH recs b) (iniH st₀.H b) recs.length).2 ≤ r.H.next) →
        r.o.op.mem P r.tm G = .v r.v G' → G'.next = r.H'.next → (∀ b, (b < r.H.next ∧ G.get b ≠ none) ∨ (r.H.next ≤ b ∧ b < r.H'.next) → G'.get b = r.H'.get b) →
        (∀ b, b < r.H.next → G.get b = none → G'.get b = none → r.H'.get b = r.H.get b) → r.H'.low ≤ G'.low →
        ∃ tmps' w' ρ' HX', XInv P recs st₀ tmps.size ρ₀ w₀ (fun i => X i || i == j) tmps' w' ρ' HX' ∧
          Steps P (lone (Fr b tmps defers (.inRegion ops (j :: rest) :: k)) cs w) (lone (Fr b tmps' defers (.inRegion ops rest :: k)) cs w') := by
      intro G G' hwt hGn hG hmem hn' hsame htouch hlow
      have wG := part_wrel I hw0 hH0 hHn hGn fun b blk hb e => (hG b blk hb e).2
      obtain ⟨x, ρ', w', h1, h2, h3⟩ := part_mem (k := k) (rest := rest) (b := b) (cs := cs) (defers := defers) ho hsel wG hrel (by rw [← hwant]; exact hwt) (by rw [hc]; exact hmem)
      obtain ⟨HX', h4⟩ := xinv_join g c d I ho hGn (fun b hb e => by
          obtain ⟨blk, hblk⟩ := Option.ne_none_iff_exists'.1 e
          obtain ⟨e1, e2, _⟩ := hG b blk hb hblk
          rw [hblk, e1, e2]; exact ⟨rfl, rfl⟩) h2 hn' hsame (fun b hb e => htouch b hb e (Classical.byContradiction fun e' => h2.lives b (by omega) e' e))
        (fun b hb hb' => by omega) h1 hd
      exact ⟨_, w', _, HX', h4, .one h3⟩
    have seen := fun {wj : Bool} {blk : Option (List Nat)} (hl : r.loud = some (wj, blk)) {b : Nat} (hb : b < r.H.next) (hblk : ∀ l, blk = some l → b ∈ l) => seen_get g c d I hl hb hblk
    cases f.did j r d.rec' with
    | skip hw hv hH hl =>
      rw [hw] at hwant
      let G : AHeap := ⟨.leaf, r.H.next, r.H.low⟩
      have hGnone : ∀ b, G.get b = none := fun b => Tr.get_leaf _
      have wG := part_wrel (G := G) I hw0 hH0 hHn rfl fun b blk hb e => by rw [hGnone] at e; cases e
      obtain ⟨HX', h4⟩ := xinv_join (x := undef) g c d I ho (G := G) rfl (fun b hb e => absurd (hGnone b) e) (.refl wG) (by rw [hH]) (fun b hb => by
          rcases hb with hb | hb
          · exact absurd (hGnone b) hb.2
          · rw [hH] at hb; omega) (fun b hb _ => by rw [hH]) (fun b hb hb' => by
            show b < r.H.low
            have := hmono.2
            omega) (by rw [hv]; exact .undef) hd
      exact ⟨_, w, _, HX', h4, .one (step_unwanted ho hwant.symm)⟩
    | done hw h =>
      have calls : ∀ (H1 : AHeap), r.o.op.isCall = true → r.o.op.callB P R r.tm ⟨r.H.tr, r.H.next, r.H.next⟩ = .ret r.v H1 → (∃ wj, r.loud = some (wj, none)) → H1.next = r.H'.next →
          (∀ b, b < r.H'.next → (r.H.next ≤ H1.low → b < r.H.next → H1.get b = r.H.get b) → H1.get b = r.H'.get b) →
          (∀ b, b < r.H.next → b < r.H'.low → b < H1.low) →
          ∃ tmps' w' ρ' HX', XInv P recs st₀ tmps.size ρ₀ w₀ (fun i => X i || i == j) tmps' w' ρ' HX' ∧
            Steps P (lone (Fr b tmps defers (.inRegion ops (j :: rest) :: k)) cs w) (lone (Fr b tmps' defers (.inRegion ops rest :: k)) cs w') := by
        intro H1 hcall hb hl hn hget hlow
        obtain ⟨wj, hl⟩ := hl
        let G : AHeap := ⟨r.H.tr, r.H.next, r.H.next⟩
        have wG := part_wrel (G := G) I hw0 hH0 hHn rfl fun b blk hb e => by
          obtain ⟨e1, e2⟩ := seen hl hb fun l h => by cases h
          exact ⟨by rw [e1]; exact e, e2⟩
        have hout := part_call (k := k) (rest := rest) (b := b) (cs := cs) (defers := defers) S ho hsel wG hrel (by rw [← hwant]; exact hw) (by rw [hc]; exact hcall)
        rw [hc, hb] at hout
        obtain ⟨x, ρ', w', h1, h2, h3⟩ := hout
        rw [Fr_finish j rest x ho] at h3
        have same : ∀ b, b < r.H'.next → H1.get b = r.H'.get b := fun b hb' => hget b hb' fun hlo hlt => h2.keeps b hlt (by omega)
        obtain ⟨HX', h4⟩ := xinv_join g c d I ho (G := G) rfl (fun b hb e => ⟨rfl, (seen hl hb fun l h => by cases h).1⟩) h2 hn (fun b hb => same b (by have := hmono.1; omega))
          (fun b hb e => by
            have e' : r.H.get b = none := e
            rw [← same b (by have := hmono.1; omega), e']
            exact Classical.byContradiction fun hne => h2.lives b hb hne e) (fun b hb hb' => hlow b hb (by omega)) h1 hd
        exact ⟨_, w', _, HX', h4, h3⟩
      have some' : ∀ (bs : List Nat) {rv : AVal} {rH' : AHeap}, SomeAct P r.o.op r.tm bs r.H rH' rv → (∃ wj, r.loud = some (wj, some bs)) → r.v = rv → r.H' = rH' →
          ∃ tmps' w' ρ' HX', XInv P recs st₀ tmps.size ρ₀ w₀ (fun i => X i || i == j) tmps' w' ρ' HX' ∧
            Steps P (lone (Fr b tmps defers (.inRegion ops (j :: rest) :: k)) cs w) (lone (Fr b tmps' defers (.inRegion ops rest :: k)) cs w') := by
        intro bs rv rH' hact hl hrv hrH'
        obtain ⟨wj, hl⟩ := hl
        obtain ⟨G, hGn, hGl, hGget⟩ := heap_pick r.H bs
        have hGsome : ∀ b blk, b < r.H.next → G.get b = some blk → r.H.get b = some blk ∧ HX.get b = some blk ∧ (pick X (updH recs b) (iniH st₀.H b) recs.length).2 ≤ r.H.next := by
          intro b blk hb e
          rw [hGget] at e
          by_cases eb : b ∈ bs
          · rw [if_pos eb] at e
            obtain ⟨e1, e2⟩ := seen hl hb fun l h => by cases h; exact eb
            exact ⟨e, by rw [e1]; exact e, e2⟩
          · rw [if_neg eb] at e; cases e
        have hGin : ∀ b ∈ bs, G.get b = r.H.get b := fun b hb => by rw [hGget, if_pos hb]
        have hGne : ∀ b, G.get b ≠ none → b ∈ bs := fun b h => Classical.byContradiction fun e => h (by rw [hGget, if_neg e])
        obtain ⟨a, hon, hH, hall⟩ := hact
        have hmG := hall G hGn hGin
        cases a with
        | id =>
          refine simple G G hw hGn hGsome (by rw [hrv]; exact hmG) (by rw [hrH', hH, hGn]; rfl) (fun b hb => ?_) (fun b hb _ _ => by rw [hrH', hH]; rfl) (by rw [hrH', hH, hGl]; exact Nat.le_refl _)
          rw [hrH', hH] at hb ⊢
          rcases hb with hb | hb
          · exact hGin b (hGne b hb.2)
          · have : r.H.next ≤ b ∧ b < r.H.next := hb
            omega
        | set c x =>
          refine simple G (G.set c x) hw hGn hGsome (by rw [hrv]; exact hmG) (by rw [hrH', hH]; simp only [HAct.run, AHeap.next_set, hGn]) (fun b hb => ?_) (fun b hb e e' => ?_) (by rw [hrH', hH]; simp only [HAct.run, AHeap.low_set, hGl]; exact Nat.le_refl _)
          · rw [hrH', hH] at hb ⊢
            simp only [HAct.run, AHeap.next_set] at hb ⊢
            rcases hb with hb | hb
            · rw [AHeap.get_set, AHeap.get_set, hGin b (hGne b hb.2)]
            · omega
          · rw [AHeap.get_set] at e'
            by_cases eb : b = c
            · rw [if_pos eb] at e'; cases e'
            · rw [hrH', hH]; simp only [HAct.run]; rw [AHeap.get_set, if_neg eb]
        | new x =>
          refine simple G (G.new x) hw hGn hGsome (by rw [hrv]; exact hmG) (by rw [hrH', hH]; simp only [HAct.run, AHeap.next_new, hGn]) (fun b hb => ?_) (fun b hb e e' => ?_) (by rw [hrH', hH]; simp only [HAct.run, AHeap.low_new, hGl]; exact Nat.le_refl _)
          · rw [hrH', hH] at hb ⊢
            simp only [HAct.run, AHeap.next_new] at hb ⊢
            rw [AHeap.get_new, AHeap.get_new, hGn]
            rcases hb with hb | hb
            · rw [if_neg (by omega), if_neg (by omega), hGin b (hGne b hb.2)]
            · rw [if_pos (by omega), if_pos (by omega)]
          · rw [hrH', hH]; simp only [HAct.run]; rw [AHeap.get_new, if_neg (by omega)]
        | dropNew c x =>
          refine simple G ((G.drop c).new x) hw hGn hGsome (by rw [hrv]; exact hmG) (by rw [hrH', hH]; simp only [HAct.run, AHeap.next_new, AHeap.next_drop, hGn]) (fun b hb => ?_) (fun b hb e e' => ?_) (by rw [hrH', hH]; simp only [HAct.run, AHeap.low_new, AHeap.low_drop, hGl]; exact Nat.le_refl _)
          · rw [hrH', hH] at hb ⊢
            simp only [HAct.run, AHeap.next_new, AHeap.next_drop] at hb ⊢
            rw [AHeap.get_new, AHeap.get_new, AHeap.next_drop, AHeap.next_drop, hGn]
            rcases hb with hb | hb
            · rw [if_neg (by omega), if_neg (by omega), AHeap.get_drop, AHeap.get_drop, hGin b (hGne b hb.2)]
            · rw [if_pos (by omega), if_pos (by omega)]
          · rw [hrH', hH]
            simp only [HAct.run]
            rw [AHeap.get_new, AHeap.next_drop, if_neg (by omega), AHeap.get_drop]
            by_cases eb : b = c
            · rw [if_pos eb, ← hGin b (by rw [eb]; exact hon), e]
            · rw [if_neg eb]
      revert h
      generalize hrv : r.v = rv
      generalize hrH' : r.H' = rH'
      generalize hrl : r.loud = rl
      intro h
      cases h with
      | quiet hk hm' =>
        let G : AHeap := ⟨.leaf, r.H.next, r.H.low⟩
        have hGnone : ∀ b, G.get b = none := fun b => Tr.get_leaf _
        rcases local_pure hk hm' with ⟨e, hall⟩ | ⟨x, e, hall⟩
        · refine simple G G hw rfl (fun b blk hb e => by rw [hGnone] at e; cases e) (by rw [hrv]; exact hall G) (by rw [hrH', e]) (fun b hb => ?_) (fun b hb _ _ => by rw [hrH', e]) (by rw [hrH', e]; exact Nat.le_refl _)
          rcases hb with hb | hb
          · exact absurd (hGnone b) hb.2
          · rw [hrH', e] at hb; omega
        · refine simple G (G.new x) hw rfl (fun b blk hb e => by rw [hGnone] at e; cases e) (by rw [hrv]; exact hall G rfl) (by rw [hrH', e]; rfl) (fun b hb => ?_) (fun b hb _ _ => by rw [hrH', e, AHeap.get_new, if_neg (by omega)])
            (by rw [hrH', e]; exact Nat.le_refl _)
          rcases hb with hb | hb
          · exact absurd (hGnone b) hb.2
          · rw [hrH', e] at hb ⊢
            simp only [AHeap.next_new] at hb
            have hbn : b = r.H.next := by omega
            rw [AHeap.get_new, AHeap.get_new, if_pos hbn, if_pos hbn]
      | read hk hm' =>
        cases hblk : r.o.op.blk r.tm with
        | none =>
          rw [hblk] at hrl
          have hH := (local_all (.inl hk) hm').2.2 hk
          refine simple r.H r.H hw rfl (fun b blk hb e => ?_) (by rw [hrv, hm', hH]) (by rw [hrH', hH]) (fun b hb => by rw [hrH', hH]) (fun b hb _ _ => by rw [hrH', hH]) (by rw [hrH', hH]; exact Nat.le_refl _)
          obtain ⟨e1, e2⟩ := seen hrl hb fun l h => by cases h
          exact ⟨e, by rw [e1]; exact e, e2⟩
        | some bs =>
          rw [hblk] at hrl
          exact some' bs (local_one (.inl hk) hblk hm') ⟨_, hrl⟩ hrv hrH'
      | write hk hm' =>
        cases hblk : r.o.op.blk r.tm with
        | none =>
          rw [hblk] at hrl
          refine simple r.H r.H' hw rfl (fun b blk hb e => ?_) (by rw [hrv, hm', hrH']) rfl (fun b hb => rfl) (fun b hb e e' => by rw [e, e']) (Nat.le_refl _)
          obtain ⟨e1, e2⟩ := seen hrl hb fun l h => by cases h
          exact ⟨e, by rw [e1]; exact e, e2⟩
        | some bs =>
          rw [hblk] at hrl
          exact some' bs (local_one (.inr hk) hblk hm') ⟨_, hrl⟩ hrv hrH'
      | callR hcall hm' hn hl =>
        refine calls _ hcall (by rw [hrv]; exact hm') ⟨_, hrl⟩ (by rw [hrH']; rfl) (fun b hb hkeep => ?_) (fun b hb _ => by omega)
        rw [hrH'] at hb ⊢
        rw [adopt_get hn]
        by_cases hb' : r.H.next ≤ b
        · rw [if_pos ⟨hb', hb⟩]
        · rw [if_neg (by omega)]
          exact hkeep hl (by omega)
      | callW hcall hm' hn =>
        refine calls _ hcall (by rw [hrv]; exact hm') ⟨_, hrl⟩ (by rw [hrH']) (fun b hb _ => by rw [hrH']; rfl) (fun b hb hb' => ?_)
        rw [hrH'] at hb'
        exact Nat.lt_of_lt_of_le hb' (Nat.min_le_right _ _)

end
end Go.Eng

namespace Go.Eng
set_option linter.unusedSimpArgs false

section
variable {P : Program} {R : Tab} {ops : Array Oper} {sz : Nat} {st₀ st : St} {recs : List Rec} {ρ₀ : Emb} {w₀ : World}
  {b : Frame} {cs : List Frame} {k : List Item} {defers : List Deferred}

theorem pick_congr {α : Type} {X Y : Nat → Bool} {upd : Nat → Option α} {a : α} : ∀ n, (∀ i, i < n → X i = Y i) → pick X upd a n = pick Y upd a n
  | 0, _ => rfl
  | n + 1, h => by simp only [pick]; rw [h n (by omega), pick_congr n fun i hi => h i (by omega)]

/-- So many operations are not listed yet. -/
def left (n : Nat) (listed : Array Bool) : Nat := ((List.range n).filter fun i => !listed.getD i false).length

theorem left_zero {n : Nat} {listed : Array Bool} (h : left n listed = 0) : ∀ i, i < n → listed.getD i false = true := by
  intro i hi
  unfold left at h
  have h := List.eq_nil_of_length_eq_zero h
  have := List.filter_eq_nil_iff.1 h i (by simpa using hi)
  simpa using this

theorem getD_set {listed : Array Bool} {i : Nat} (hi : i < listed.size) (j : Nat) : (listed.setIfInBounds i true).getD j false = (listed.getD j false || j == i) := by
  rw [Array.getD_eq_getD_getElem?, Array.getD_eq_getD_getElem?]
  by_cases h : i = j
  · subst h
    rw [Array.getElem?_setIfInBounds_self_of_lt hi]
    simp
  · rw [Array.getElem?_setIfInBounds_ne h]
    have : (j == i) = false := by simpa using fun e : j = i => h e.symm
    rw [this, Bool.or_false]

theorem left_set {n : Nat} {listed : Array Bool} {i : Nat} (hi : i < n) (hs : i < listed.size) (hl : listed.getD i false = false) : left n (listed.setIfInBounds i true) < left n listed := by
  unfold left
  have e : ∀ l : List Nat, (l.filter fun j => !(listed.setIfInBounds i true).getD j false) = (l.filter fun j => !listed.getD j false).filter (fun j => j != i) := by
    intro l
    rw [List.filter_filter]
    congr 1
    funext j
    rw [getD_set hs]
    simp [Bool.not_or, bne, Bool.and_comm]
  rw [e]
  refine List.length_filter_lt_length_iff_exists.2 ⟨i, ?_, by simp⟩
  rw [List.mem_filter]
  exact ⟨by simpa using hi, by rw [hl]; rfl⟩

theorem ready_mem {listed : Array Bool} {i : Nat} (hs : listed.size = ops.size) : i ∈ Region.ready .any ops listed ↔
    ∃ o, ops[i]? = some o ∧ listed.getD i false = false ∧ ∀ e ∈ o.after.toList, Region.binds .any e = true → listed.getD e.on false = true := by
  unfold Region.ready
  rw [List.mem_filter]
  simp only [List.mem_range, Bool.and_eq_true, Bool.not_eq_true']
  constructor
  · rintro ⟨hi, h1, h2⟩
    have ho : ops[i]? = some ops[i] := by simp [hi]
    refine ⟨ops[i], ho, ?_, ?_⟩
    · rw [Array.getD_eq_getD_getElem?] at h1 ⊢
      cases hq : listed[i]? with
      | none => rfl
      | some v => rw [hq] at h1; exact h1
    · rw [ho] at h2
      simp only [Option.map_some, Option.getD_some] at h2
      intro e he hb
      have h3 := Array.all_eq_true'.1 h2 e (by simpa using he)
      rw [hb] at h3
      simpa using h3
  · rintro ⟨o, ho, h1, h2⟩
    have hi : i < ops.size := (Array.getElem?_eq_some_iff.1 ho).1
    refine ⟨hi, ?_, ?_⟩
    · rw [Array.getD_eq_getD_getElem?] at h1 ⊢
      have hlt : i < listed.size := by omega
      rw [Array.getElem?_eq_getElem hlt] at h1 ⊢
      exact h1
    · rw [ho]
      simp only [Option.map_some, Option.getD_some]
      refine Array.all_eq_true'.2 fun e he => ?_
      cases hb : Region.binds .any e with
      | false => rfl
      | true => simpa using h2 e (by simpa using he) hb

theorem go_step {fuel t : Nat} {listed : Array Bool} (hne : Region.ready .any ops listed ≠ []) : ∃ i t', i ∈ Region.ready .any ops listed ∧
    Region.linearise.go .any ops (fuel + 1) t listed [] = i :: Region.linearise.go .any ops fuel t' (listed.setIfInBounds i true) [] := by
  have hlen : 0 < (Region.ready .any ops listed).length := List.length_pos_iff.2 hne
  have hlt : t % (Region.ready .any ops listed).length < (Region.ready .any ops listed).length := Nat.mod_lt _ hlen
  refine ⟨(Region.ready .any ops listed)[t % (Region.ready .any ops listed).length], t / (Region.ready .any ops listed).length, List.getElem_mem hlt, ?_⟩
  simp only [Region.linearise.go]
  change (match (Region.ready .any ops listed)[t % (Region.ready .any ops listed).length]? with
      | some i => Region.linearise.go .any ops fuel (t / (Region.ready .any ops listed).length) (listed.setIfInBounds i true) [i]
      | none => [].reverse) = _
  rw [List.getElem?_eq_getElem hlt]
  simp only
  rw [linearise_go_acc, List.reverse_singleton, List.singleton_append]

theorem go_nil {fuel t : Nat} {listed : Array Bool} (hnil : Region.ready .any ops listed = []) : Region.linearise.go .any ops fuel t listed [] = [] := by
  cases fuel with
  | zero => rfl
  | succ fuel =>
    simp only [Region.linearise.go]
    change (match (Region.ready .any ops listed)[t % (Region.ready .any ops listed).length]? with
        | some i => Region.linearise.go .any ops fuel (t / (Region.ready .any ops listed).length) (listed.setIfInBounds i true) [i]
        | none => [].reverse) = _
    rw [hnil]
    rfl

/-- A ready operation's masks. -/
theorem ready_anc (g : Reg P R ops sz st₀ recs st) {listed : Array Bool} (c : Cl recs fun i => listed.getD i false) {i m : Nat} {o : Oper} (ho : ops[i]? = some o) (hm : (ancs ops.toList [])[i]? = some m)
    (he : ∀ e ∈ o.after.toList, Region.binds .any e = true → listed.getD e.on false = true) : ∀ k, Nat.testBit m k = true → listed.getD k false = true := by
  intro k hk
  obtain ⟨e, h1, h2, h3⟩ := mask_bit (ops := ops.toList) (by simpa using ho) hm hk
  have hon := he e h1 h2
  rcases h3 with h3 | ⟨m', h3, h4⟩
  · rw [← h3]; exact hon
  · have hlt := c.lt e.on hon
    have hs : recs[e.on]? = some recs[e.on] := List.getElem?_eq_getElem hlt
    obtain ⟨_, _, _, hms⟩ := g.src hs
    rw [h3] at hms
    cases hms
    exact c.anc e.on _ k hon hs h4

/-- The least operation that is not listed is ready. -/
theorem least_ready (g : Reg P R ops sz st₀ recs st) {listed : Array Bool} (hs : listed.size = ops.size) : ∀ i, i < ops.size → listed.getD i false = false → ∃ j, j ≤ i ∧ j ∈ Region.ready .any ops listed := by
  intro i
  induction i using Nat.strongRecOn with
  | _ i ih =>
    intro hi hl
    by_cases h : ∃ j, j < i ∧ listed.getD j false = false
    · obtain ⟨j, h1, h2⟩ := h
      obtain ⟨j', h3, h4⟩ := ih j h1 (by omega) h2
      exact ⟨j', by omega, h4⟩
    · refine ⟨i, Nat.le_refl _, (ready_mem hs).2 ⟨ops[i], by simp [hi], hl, fun e he hb => ?_⟩⟩
      have hlt : e.on < i := by
        have := edges_back (ops := ops.toList) g.edges i ops[i] (by simp [hi]) e he hb
        omega
      cases hq : listed.getD e.on false with
      | true => rfl
      | false => exact absurd ⟨e.on, hlt, hq⟩ h

/-- All earlier ones come ahead of it in every order, all later ones behind it. -/
structure Wall (ops : Array Oper) (n : Nat) : Prop where
  lt : n < ops.size
  before : ∃ m, (ancs ops.toList [])[n]? = some m ∧ ∀ k, k < n → Nat.testBit m k = true
  behind : ∀ i m, n < i → (ancs ops.toList [])[i]? = some m → Nat.testBit m n = true

theorem draw_go (S : Sound P R) (g : Reg P R ops sz st₀ recs st) (hw0 : WRel P ρ₀ st₀.H w₀) (hN : recs.length = ops.size ∨ Wall ops recs.length) : ∀ (fuel t : Nat) (listed : Array Bool) (tmps : Array Value) (w : World) (ρ : Emb) (HX : AHeap),
    listed.size = ops.size → left ops.size listed ≤ fuel → Cl recs (fun i => listed.getD i false) → XInv P recs st₀ sz ρ₀ w₀ (fun i => listed.getD i false) tmps w ρ HX →
    ∃ rest tmps' w' ρ' HX', XInv P recs st₀ sz ρ₀ w₀ (fun i => decide (i < recs.length)) tmps' w' ρ' HX' ∧
      Steps P (lone (Fr b tmps defers (.inRegion ops (Region.linearise.go .any ops fuel t listed []) :: k)) cs w) (lone (Fr b tmps' defers (.inRegion ops rest :: k)) cs w') ∧
      (recs.length = ops.size → rest = []) ∧ (Wall ops recs.length → ∃ rest', rest = recs.length :: rest') := by
  intro fuel
  induction fuel with
  | zero =>
    intro t listed tmps w ρ HX hs hl c I
    have hall := left_zero (Nat.le_zero.1 hl)
    have hX : (fun i => listed.getD i false) = fun i => decide (i < recs.length) := by
      funext i
      by_cases hi : i < recs.length
      · have hi' : i < ops.size := by
          rcases hN with h | h
          · omega
          · have := h.lt; omega
        rw [hall i hi']; simp [hi]
      · cases hq : listed.getD i false with
        | true => exact absurd (c.lt i hq) hi
        | false => simp [hi]
    rw [hX] at I
    refine ⟨_, tmps, w, ρ, HX, I, .refl _ _, fun _ => rfl, fun h => ?_⟩
    exfalso
    have h1 := hall recs.length h.lt
    have := c.lt _ h1
    omega
  | succ fuel ih =>
    intro t listed tmps w ρ HX hs hl c I
    by_cases hdone : ∀ i, i < recs.length → listed.getD i false = true
    · have hX : (fun i => listed.getD i false) = fun i => decide (i < recs.length) := by
        funext i
        by_cases hi : i < recs.length
        · rw [hdone i hi]; simp [hi]
        · cases hq : listed.getD i false with
          | true => exact absurd (c.lt i hq) hi
          | false => simp [hi]
      have I' := I
      rw [hX] at I'
      refine ⟨_, tmps, w, ρ, HX, I', .refl _ _, fun h => ?_, fun h => ?_⟩
      · apply go_nil
        cases hr : Region.ready .any ops listed with
        | nil => rfl
        | cons i is =>
          exfalso
          have hi : i ∈ Region.ready .any ops listed := by rw [hr]; simp
          obtain ⟨o, ho, h1, _⟩ := (ready_mem hs).1 hi
          have := (Array.getElem?_eq_some_iff.1 ho).1
          rw [hdone i (by omega)] at h1
          cases h1
      · have hnew : listed.getD recs.length false = false := by
          cases hq : listed.getD recs.length false with
          | true => have := c.lt _ hq; omega
          | false => rfl
        obtain ⟨j, _, hj⟩ := least_ready g hs recs.length h.lt hnew
        obtain ⟨i, t', hi, hgo⟩ := go_step (fuel := fuel) (t := t) (List.ne_nil_of_mem hj)
        rw [hgo]
        obtain ⟨o, ho, h1, h2⟩ := (ready_mem hs).1 hi
        have hlt := (Array.getElem?_eq_some_iff.1 ho).1
        by_cases hin : i = recs.length
        · subst hin; exact ⟨_, rfl⟩
        · exfalso
          have hge : recs.length < i := by
            rcases Nat.lt_or_ge i recs.length with h3 | h3
            · rw [hdone i h3] at h1; cases h1
            · omega
          have hlen := (ancs_spec ops.toList []).1
          have hil : i < (ancs ops.toList []).length := by simp at hlen; omega
          have hm : (ancs ops.toList [])[i]? = some (ancs ops.toList [])[i] := List.getElem?_eq_getElem hil
          have := ready_anc g c ho hm h2 _ (h.behind i _ hge hm)
          rw [hnew] at this; cases this
    · obtain ⟨i₀, hi₀⟩ := Classical.not_forall.1 hdone
      obtain ⟨hi₀, hl₀⟩ := Classical.not_imp.1 hi₀
      have hl₀ : listed.getD i₀ false = false := by simpa using hl₀
      have hNs : recs.length ≤ ops.size := by
        rcases hN with h | h
        · omega
        · have := h.lt; omega
      obtain ⟨j, _, hj⟩ := least_ready g hs i₀ (by omega) hl₀
      obtain ⟨i, t', hi, hgo⟩ := go_step (fuel := fuel) (t := t) (List.ne_nil_of_mem hj)
      rw [hgo]
      obtain ⟨o, ho, h1, h2⟩ := (ready_mem hs).1 hi
      have hlt := (Array.getElem?_eq_some_iff.1 ho).1
      have hlen := (ancs_spec ops.toList []).1
      have hil : i < (ancs ops.toList []).length := by simp at hlen; omega
      have hm : (ancs ops.toList [])[i]? = some (ancs ops.toList [])[i] := List.getElem?_eq_getElem hil
      have hanc := ready_anc g c ho hm h2
      have hiN : i < recs.length := by
        rcases hN with h | h
        · omega
        · rcases Nat.lt_trichotomy i recs.length with h3 | h3 | h3
          · exact h3
          · exfalso
            obtain ⟨m, hm', hbef⟩ := h.before
            rw [← h3, hm] at hm'
            cases hm'
            have := hanc i₀ (hbef i₀ hi₀)
            rw [hl₀] at this; cases this
          · exfalso
            have h4 := hanc _ (h.behind i _ h3 hm)
            have := c.lt _ h4
            omega
      have hr : recs[i]? = some recs[i] := List.getElem?_eq_getElem hiN
      obtain ⟨_, _, _, hms⟩ := g.src hr
      rw [hm] at hms
      have d : Rdy recs (fun i => listed.getD i false) i recs[i] := ⟨hr, h1, fun k hk => hanc k (by
        have e := Option.some.inj hms
        rw [e]; exact hk)⟩
      obtain ⟨tmps', w', ρ', HX', I', hstep⟩ := xinv_step (b := b) (cs := cs) (k := k) (defers := defers) S g hw0 c d I (Region.linearise.go .any ops fuel t' (listed.setIfInBounds i true) [])
      have hX : (fun j => listed.getD j false || j == i) = fun j => (listed.setIfInBounds i true).getD j false := by
        funext j
        rw [getD_set (by omega)]
      rw [hX] at I'
      have c' : Cl recs (fun j => (listed.setIfInBounds i true).getD j false) := by
        rw [← hX]
        refine ⟨fun j hj => ?_, fun j r kk hj hr' hk => ?_⟩
        · simp only [Bool.or_eq_true, beq_iff_eq] at hj
          rcases hj with hj | rfl
          · exact c.lt j hj
          · exact hiN
        · simp only [Bool.or_eq_true, beq_iff_eq] at hj ⊢
          rcases hj with hj | rfl
          · exact .inl (c.anc j r kk hj hr' hk)
          · rw [hr] at hr'
            cases hr'
            exact .inl (d.anc kk hk)
      obtain ⟨rest, tmps2, w2, ρ2, HX2, I2, s2, e1, e2⟩ := ih t' (listed.setIfInBounds i true) tmps' w' ρ' HX' (by simpa using hs) (by have := left_set hlt (by omega) h1; omega) c' I'
      exact ⟨rest, tmps2, w2, ρ2, HX2, I2, hstep.trans s2, e1, e2⟩

end
end Go.Eng

namespace Go.Eng
set_option linter.unusedSimpArgs false

section
variable {P : Program} {R : Tab} {ops : Array Oper} {sz : Nat} {st₀ st : St} {recs : List Rec} {ρ₀ ρ ρ' : Emb} {w₀ w w' : World} {H H₁ H' : AHeap}
  {b : Frame} {cs cs₀ : List Frame} {k : List Item} {defers : List Deferred}

theorem WRel.congr2 (h : WRel P ρ H w) (hg : ∀ b, b < H.next → H'.get b = H.get b) (hn : H'.next = H.next) : WRel P ρ H' w where
  blocks b blk hb e := h.blocks b blk (hn ▸ hb) (by rw [← hg b (hn ▸ hb)]; exact e)
  inj b c x y p q hb hc e f := h.inj b c x y p q (hn ▸ hb) (hn ▸ hc) (by rw [← hg b (hn ▸ hb)]; exact e) (by rw [← hg c (hn ▸ hc)]; exact f)
  fresh b hb := h.fresh b (by rw [← hn]; exact hb)
  glob := h.glob

theorem Stp.congr2 (s : Stp P ρ H w ρ' H' w') (hg : ∀ b, b < H'.next → H₁.get b = H'.get b) (hn : H₁.next = H'.next) (hl : H₁.low = H'.low) : Stp P ρ H w ρ' H₁ w' where
  wrel := s.wrel.congr2 hg hn
  ext := s.ext
  next := hn ▸ s.next
  low := hl ▸ s.low
  lives b hb h := s.lives b hb (by rw [← hg b (Nat.lt_of_lt_of_le hb s.next)]; exact h)
  owns b hb h := s.owns b hb (by
    obtain ⟨x, h1, h2⟩ := h
    exact ⟨x, by rw [← hg b (Nat.lt_of_lt_of_le hb s.next)]; exact h1, h2⟩)
  keeps b hb h := (hg b (Nat.lt_of_lt_of_le hb s.next)).trans (s.keeps b hb (hl ▸ h))
  news b p hb e := by rw [hl]; exact s.news b p hb e
  tape := s.tape
  os := s.os
  output := s.output
  size := s.size
  frame r hr h := s.frame r hr (by rw [← hl]; exact h)

/-- Where all operations are done. -/
theorem xinv_end {tmps' : Array Value} {HX : AHeap} (g : Reg P R ops sz st₀ recs st) (I : XInv P recs st₀ sz ρ₀ w₀ (fun i => decide (i < recs.length)) tmps' w' ρ' HX) :
    Stp P ρ₀ st₀.H w₀ ρ' st.H w' ∧ TmRel ρ' st.tm tmps' ∧ tmps'.size = sz := by
  have f := g.facts
  have hX : ∀ {α : Type} (upd : Nat → Option α) (a : α), pick (fun i => decide (i < recs.length)) upd a recs.length = pick (fun _ => true) upd a recs.length :=
    fun upd a => pick_congr _ fun i hi => by simp [hi]
  refine ⟨I.stp.congr2 (fun b hb => ?_) (by rw [I.next, f.HE]) (by rw [I.low, f.HE]), fun t x hx => ?_, I.size⟩
  · rw [I.get b hb, hX]
    rw [I.next] at hb
    rw [(text_heap f b recs.length (Nat.le_refl _) hb).1, f.HE]
  · have h1 := I.tmp t x hx
    rw [hX, (text_tmp f (path t) recs.length (Nat.le_refl _)).1, ← f.tmE] at h1
    exact h1.mono Emb.cut_le

theorem stp_drawn (hw : WRel P ρ H w) : Stp P ρ H w ρ H { w with drawn := w.drawn + 1 } where
  wrel := ⟨hw.blocks, hw.inj, hw.fresh, hw.glob⟩
  ext _ _ := rfl
  next := Nat.le_refl _
  low := Nat.le_refl _
  lives _ _ h := h
  owns _ _ h := h
  keeps _ _ _ := rfl
  news b p hb e := by rw [hw.fresh _ hb] at e; cases e
  tape := rfl
  os := rfl
  output := rfl
  size := Nat.le_refl _
  frame _ _ _ := rfl

theorem allWait_bit {i : Nat} : ∀ {l : List (BIns × Nat)}, allWait i l = true → ∀ (j : Nat) (x : BIns × Nat), l[j]? = some x → Nat.testBit x.2 i = true
  | [], _, j, x, h => by simp at h
  | (o, m) :: l, h, j, x, hx => by
    simp only [allWait, Bool.and_eq_true] at h
    cases j with
    | zero =>
      simp only [List.getElem?_cons_zero, Option.some.injEq] at hx
      subst hx
      exact h.1
    | succ j => exact allWait_bit h.2 j x (by simpa using hx)

theorem step_draw (fit : Fit P) {id : Nat} {tmps : Array Value} : ∃ t, step P (lone (Fr b tmps defers (.code (.region id ops true) :: k)) cs w) =
    .next (lone (Fr b tmps defers (.inRegion ops (Region.linearise.go .any ops ops.size t (Array.replicate ops.size false) []) :: k)) cs { w with drawn := w.drawn + 1 }) := by
  refine ⟨w.tape w.drawn (.order b.fn id), step_lone_go ?_⟩
  simp [stepG, stepG.exec, Fr, choose, Sem.run, Question.forced, Question.cut, Region.schedule, fit.mixed, Region.linearise]

theorem draw_ok (fit : Fit P) (S : Sound P R) : DrawOK P R := by
  intro id ops b cs₀ k st tmps defers cs w ρ f
  unfold cregion
  simp only [cond_true]
  cases hc : (tmpsOk ops.toList [] 0 ops.toList (ancs ops.toList []) && noSelect ops.toList && edgesOk ops.toList 0) with
  | false => trivial
  | true =>
    simp only [Bool.and_eq_true] at hc
    obtain ⟨⟨hc1, hc2⟩, hc3⟩ := hc
    simp only [cond_true]
    show CodeOut P ρ b cs₀ k tmps.size st.H w _ (drawOps P R st.H.next (zipIns P tmps.size ops.toList ops.toList (ancs ops.toList [])) 0 0 [] st)
    have hlen := (ancs_spec ops.toList []).1
    obtain ⟨hz1, hz2⟩ := zipIns_spec (P := P) (n := tmps.size) (all := ops.toList) (os := ops.toList) (ms := ancs ops.toList []) (by rw [hlen]; simp)
    obtain ⟨t1, t2, t3, t4⟩ := draw_trace (P := P) (R := R) (base := st.H.next) (all := zipIns P tmps.size ops.toList ops.toList (ancs ops.toList [])) (st₀ := st) _ .nil rfl
    obtain ⟨t, hstep⟩ := step_draw (P := P) (b := b) (ops := ops) (k := k) (cs := cs) (w := w) (defers := defers) fit (id := id) (tmps := tmps)
    have s0 := stp_drawn f.wrel
    -- from the beginning to where the operations of the trace are done
    have run : ∀ {recs : List Rec} {stp : St} {made : Nat} {ls : List Loud}, Trc P R st.H.next (zipIns P tmps.size ops.toList ops.toList (ancs ops.toList [])) st recs made ls stp → (recs.length = ops.size ∨ Wall ops recs.length) →
        ∃ rest tmps' w' ρ', FRel P ρ' b cs₀ stp tmps' defers cs w' ∧ Stp P ρ st.H w ρ' stp.H w' ∧ tmps'.size = tmps.size ∧
          Steps P (lone (Fr b tmps defers (.code (.region id ops true) :: k)) cs w) (lone (Fr b tmps' defers (.inRegion ops rest :: k)) cs w') ∧
          (recs.length = ops.size → rest = []) ∧ (Wall ops recs.length → ∃ rest', rest = recs.length :: rest') := by
      intro recs stp made ls htr hN
      have facts := (tr_facts htr).1
      have g : Reg P R ops tmps.size st recs stp := ⟨facts, hc1, hc2, hc3⟩
      obtain ⟨HX, I⟩ := xinv_begin facts s0.wrel f.tm
      have hX : (fun _ : Nat => false) = fun i => (Array.replicate ops.size false).getD i false := by
        funext i
        rw [Array.getD_eq_getD_getElem?, Array.getElem?_replicate]
        split <;> rfl
      have c : Cl recs (fun i => (Array.replicate ops.size false).getD i false) := by
        rw [← hX]
        exact ⟨fun i h => (by cases h), fun i r k h => (by cases h)⟩
      rw [hX] at I
      obtain ⟨rest, tmps', w', ρ', HX', I', s1, e1, e2⟩ := draw_go (b := b) (cs := cs) (k := k) (defers := defers) S g s0.wrel hN ops.size t (Array.replicate ops.size false) tmps _ ρ HX (by simp)
        (by unfold left; exact Nat.le_trans (List.length_filter_le _ _) (by simp)) c I
      obtain ⟨h1, h2, h3⟩ := xinv_end g I'
      have s2 := s0.trans h1 f.wrel
      have fg := f.grow s2
      refine ⟨rest, tmps', w', ρ', ?_, s2, h3, .head hstep s1, e1, e2⟩
      exact { wrel := s2.wrel, tm := h2, defs := by rw [facts.defs]; exact fg.defs, cs := by rw [facts.rcv]; exact fg.cs, rnd := by rw [facts.rnd]; exact fg.rnd, kind := by rw [facts.rcv]; exact fg.kind, fn := fg.fn }
    cases hr : drawOps P R st.H.next (zipIns P tmps.size ops.toList ops.toList (ancs ops.toList [])) 0 0 [] st with
    | norm st' =>
      obtain ⟨recs, made, ls, htr, hrl⟩ := t1 st' hr
      have hN : recs.length = ops.size := by rw [hrl, hz1]; simp
      obtain ⟨rest, tmps', w', ρ', h1, h2, h3, h4, h5, _⟩ := run htr (.inl hN)
      rw [h5 hN] at h4
      exact ⟨ρ', tmps', defers, cs, w', _, h1, h2, h3, rfl, h4.trans (.one step_regionEnd)⟩
    | exit id' st' => exact absurd hr (t3 id' st')
    | ret st' => exact absurd hr (t4 st')
    | fail => trivial
    | pan ch st' =>
      obtain ⟨recs, made, ls, stp, htr, ⟨bi, m, H1, ha, hwt, hcall, _, hcb, hall, hbef, rfl⟩⟩ := t2 ch st' hr
      obtain ⟨o, ho, hso, hm⟩ := hz2 _ _ ha
      simp only at hso hm
      have ho' : ops[recs.length]? = some o := by simpa using ho
      have hlt := (Array.getElem?_eq_some_iff.1 ho').1
      have wall : Wall ops recs.length := by
        refine ⟨hlt, ⟨m, hm, fun i hi => ?_⟩, fun i m' hi hm' => ?_⟩
        · refine within_bit hbef ?_
          rw [Nat.testBit_two_pow_sub_one]
          simpa using hi
        · have hi' : i < ops.toList.length := by
            have := (List.getElem?_eq_some_iff.1 hm').1
            simp at hlen
            simp; omega
          have hx : (zipIns P tmps.size ops.toList ops.toList (ancs ops.toList []))[i]? = some (zipIns P tmps.size ops.toList ops.toList (ancs ops.toList []))[i] := List.getElem?_eq_getElem (by omega)
          obtain ⟨_, _, _, hmx⟩ := hz2 _ _ hx
          rw [hm'] at hmx
          have e := Option.some.inj hmx
          rw [e]
          refine allWait_bit hall (i - (recs.length + 1)) _ ?_
          rw [List.getElem?_drop, show recs.length + 1 + (i - (recs.length + 1)) = i by omega]
          exact hx
      obtain ⟨rest, tmps', w', ρ', h1, h2, h3, h4, _, h6⟩ := run htr (.inr wall)
      obtain ⟨rest', hrest⟩ := h6 wall
      rw [hrest] at h4
      rcases cins_cases hso.symm with hbad | ⟨hd, hgd, hcp⟩
      · rw [hbad] at hcall; cases hcall
      · have hwant := wanted_rel (ops := ops) h1.tm (by rw [h3]; exact hgd)
        rw [hwt] at hwant
        have hnd : ∀ c, o.op ≠ .defer c := by
          intro c e
          rw [e] at hcp
          simp only [cop, cdefer] at hcp
          rw [← hcp] at hcall
          split at hcall
          · split at hcall
            · split at hcall <;> cases hcall
            · cases hcall
          · cases hcall
        have happ := applies_op (P := P) (b := b) (k := k) (cs := cs) (w := w') (rest := rest') (defers := defers) ho' hwant.symm (.inr hnd) ⟨tmps', defers⟩ rfl
        have hw0 : WRel P ρ' ⟨stp.H.tr, stp.H.next, stp.H.next⟩ w' := h1.wrel.congr (fun _ => rfl) rfl
        have hout := op_calls S hw0 (o := o) (a := ⟨tmps', defers⟩) h1.tm (b := bi.op) (by rw [h3]; exact hcp) hcall rfl quiet_region happ
        rw [hcb] at hout
        obtain ⟨xs, ρ2, w2, g1, g2, g3⟩ := hout
        have s2 : Stp P ρ' stp.H w' ρ2 ⟨H1.tr, H1.next, Nat.min stp.H.low H1.low⟩ w2 :=
          (g2.lower (l := Nat.min stp.H.low _) (Nat.min_le_right _ _)).relow (l := stp.H.low) (fun _ => rfl) rfl rfl (Nat.min_le_left _ _)
        exact ⟨ρ2, tmps', defers, cs, w2, _, h1.grow s2, h2.trans s2 f.wrel, h3, ⟨_, xs, g1, rfl⟩, h4.trans g3⟩

/-- The engine is right. -/
theorem sound (fit : Fit P) : ∀ n, Sound P (tab P n)
  | 0 => Sound.no P
  | n + 1 => Sound.next fit (sound fit n) (draw_ok fit (sound fit n))

/-! ### What is run from without -/

noncomputable def topE (P : Program) (f : BEnt) (args : List AVal) (H : AHeap) (R : Tab) : ER :=
  match f with
  | .fn fn => bif Nat.ble args.length fn.ntmps then
      (match execB P fn.body R ⟨putFrom args 0 .leaf, [], none, none, ⟨H.tr, H.next, H.next⟩⟩ with
      | .norm st => (match st.defs with | [] => resultA st.tm st.H fn.results | _ => .fail)
      | .ret st => (match st.defs with | [] => resultA st.tm st.H fn.results | _ => .fail)
      | _ => .fail)
    else .fail
  | _ => .fail

/-- A call from without. -/
theorem top_calls (fit : Fit P) {n : Nat} {f : FuncId} {args : List AVal} {args' : Array Value} (hw : WRel P ρ H w) (ha : VRels ρ args args'.toList) {v : AVal} (h : topE P (cfun P f) args H (tab P n) = .ret v H') :
    Calls P f args' w fun e w' => ∃ x ρ', VRel ρ' v x ∧ e = .returned x ∧ Stp P ρ ⟨H.tr, H.next, H.next⟩ w ρ' H' w' := by
  cases hcf : cfun P f with
  | bad => rw [hcf] at h; cases h
  | ext name e => rw [hcf] at h; cases h
  | fn fe =>
    rw [hcf] at h
    obtain ⟨fn, c, rs, hf, hb, hrs, rfl⟩ := cfun_some hcf
    simp only [topE] at h
    cases hle : Nat.ble args.length fn.ntmps with
    | false => rw [hle] at h; cases h
    | true =>
      rw [hle] at h
      have hle := ble_iff.1 hle
      simp only [cond_true] at h
      have hlen := ha.length
      simp only [Array.length_toList] at hlen
      intro cs
      have hw0 : WRel P ρ ⟨H.tr, H.next, H.next⟩ w := hw.congr (fun _ => rfl) rfl
      let b : Frame := Frame.enter P f args' .normal
      have hsize : (args' ++ Array.replicate (fn.ntmps - args'.size) undef).size = fn.ntmps := by simp; omega
      have f0 : FRel P ρ b cs ⟨putFrom args 0 .leaf, [], none, none, ⟨H.tr, H.next, H.next⟩⟩ (args' ++ Array.replicate (fn.ntmps - args'.size) undef) [] cs w :=
        { wrel := hw0, tm := enter_tm ha _, defs := .nil, cs := rfl, rnd := rfl, kind := rfl, fn := ⟨fn, hf⟩ }
      have hex := exec_out (sound fit n) (draw_ok fit (sound fit n)) c (.code c) b cs [] _ _ _ _ _ _ (.inl rfl) f0
      rw [hsize] at hex
      have he := enter_eq (P := P) hf hb args' .normal
      rw [he]
      have rcvNone : ∀ {ρ' : Emb} {st' : St} {tmps' : Array Value} {defers' : List Deferred} {cs' : List Frame} {w' : World}, FRel P ρ' b cs st' tmps' defers' cs' w' → st'.rcv = none := by
        intro ρ' st' tmps' defers' cs' w' f'
        have := f'.kind
        cases hr : st'.rcv with
        | none => rfl
        | some u =>
          rw [hr] at this
          exact absurd (show b.kind = .deferred from this) (by simp [b, Frame.enter])
      -- how it is left
      have leave : ∀ {ρ' : Emb} {st' : St} {tmps' : Array Value} {defers' : List Deferred} {cs' : List Frame} {w' : World} {fr : Frame}, FRel P ρ' b cs st' tmps' defers' cs' w' → tmps'.size = fn.ntmps →
          fr.tmps = tmps' → fr.defers = defers' → fr.fn = f → fr.kind = .normal → fr.mode = .returning → Stp P ρ ⟨H.tr, H.next, H.next⟩ w ρ' st'.H w' →
          Steps P (lone (Fr b (args' ++ Array.replicate (fn.ntmps - args'.size) undef) [] [.code c]) cs w) (lone fr cs' w') →
          (match st'.defs with | [] => resultA st'.tm st'.H rs | _ => .fail) = .ret v H' →
          ∃ e w' fr, (∃ x ρ', VRel ρ' v x ∧ e = .returned x ∧ Stp P ρ ⟨H.tr, H.next, H.next⟩ w ρ' H' w') ∧ Comes P (lone (Fr b (args' ++ Array.replicate (fn.ntmps - args'.size) undef) [] [.code c]) cs w) (lone fr cs w') e ∧ fr.fn = f ∧ fr.leaving P w' e := by
        intro ρ' st' tmps' defers' cs' w' fr f' hsz h1 h2 h3 h4 h5 hst hsteps hres
        have hcs := f'.cs
        rw [rcvNone f'] at hcs
        have hcs : cs' = cs := hcs
        subst hcs
        have hdefs := f'.defs
        cases hd : st'.defs with
        | cons d ds => rw [hd] at hres; cases hres
        | nil =>
          rw [hd] at hres hdefs
          cases hdefs
          simp only [resultA] at hres
          cases hr : resultsA st'.tm st'.H rs with
          | none => rw [hr] at hres; cases hres
          | some vs =>
            rw [hr] at hres
            obtain ⟨x, g1, g2⟩ := run_results f'.wrel f'.tm (by rw [hsz]; exact hrs) hr
            have key : ∀ vs : List AVal, (match vs with | [v] => ER.ret v st'.H | vs => .ret (.tuple vs) st'.H) = .ret v H' → VRel ρ' (match vs with | [v] => v | vs => .tuple vs) x → VRel ρ' v x ∧ H' = st'.H := by
              intro vs h g
              rcases vs with _ | ⟨a, _ | ⟨a', as⟩⟩ <;> (cases h; exact ⟨g, rfl⟩)
            obtain ⟨k1, rfl⟩ := key vs hres g1
            exact ⟨.returned x, w', fr, ⟨x, ρ', k1, rfl, hst⟩, hsteps, h3, h5, h2, h4, fn, by rw [h3]; exact hf, by rw [h1]; exact g2⟩
      revert hex h
      generalize execB P (ccode P fn.ntmps c) (tab P n) ⟨putFrom args 0 .leaf, [], none, none, ⟨H.tr, H.next, H.next⟩⟩ = r
      intro h hex
      cases r with
      | fail => cases h
      | exit id st' => cases h
      | pan ch st' => cases h
      | norm st' =>
        obtain ⟨ρ', tmps', defers', cs', w', fr, h1, h2, h3, rfl, h5⟩ := hex
        exact leave (fr := { Fr b tmps' defers' [] with mode := .returning }) h1 h3 rfl rfl rfl rfl rfl h2 (h5.trans (.one (step_Fr_end rfl))) h
      | ret st' =>
        obtain ⟨ρ', tmps', defers', cs', w', fr, h1, h2, h3, ⟨todo, rfl⟩, h5⟩ := hex
        exact leave (fr := { Fr b tmps' defers' (.code .ret :: todo) with mode := .returning }) h1 h3 rfl rfl rfl rfl rfl h2 (h5.trans (.one (step_Fr_ret rfl))) h

/-- A call from without that leaves what was there. -/
theorem top_below (fit : Fit P) {n : Nat} {f : FuncId} {args : List AVal} {args' : Array Value} (hw : WRel P ρ H w) (ha : VRels ρ args args'.toList) {v : AVal} (h : topE P (cfun P f) args H (tab P n) = .ret v H') (hl : H.next ≤ H'.low) :
    Calls P f args' w fun e w' => ∃ x ρ', VRel ρ' v x ∧ e = .returned x ∧ WRel P ρ' H' w' ∧ RowKit.Below w.heap.size w w' :=
  (top_calls fit hw ha h).mono fun _ _ ⟨x, ρ', h1, h2, h3⟩ => ⟨x, ρ', h1, h2, h3.wrel, h3.os, h3.tape, h3.output, h3.size, fun r hr => h3.frame r hr fun _ _ _ hp _ => Nat.lt_of_lt_of_le (hw.lt hp) hl⟩

end
end Go.Eng
