/- What Split returns; lists that grow; the law BytesOffsets where the code is none. Conditions: none. -/
import Derived.Test.YtblklgcpobbfcaaGreatDoorOf
import Derived.Test.YtblklgcpobbfcaaGreatDoorOe
import Derived.Laws.OwnMore
import Derived.Deep.AppendLies
set_option linter.all false
namespace Go.Proofs.YtblklgcpobbfcaaGreatDoor
open Go.Eng Go.RowKit
set_option maxRecDepth 1000000

/-- What Split hands back. -/
def SplitOut (C : Nat → Int) (n base : Nat) (e : Ending) (w' : World) : Prop :=
  (∃ L vl va, Good C n L ∧ e = .returned (.tuple #[vl, va, .int .i64 0]) ∧ OwnI w' base vl C L ∧ OwnN w' base va L) ∨
  (∃ L b, Fails C n L b ∧ e = .returned (.tuple #[.slice none 0 0, .slice none 0 0, .int .i64 6]))

theorem split_any (ad : Option Addr) (n cap : Nat) (C : Nat → Int) (w : World) (hg : Gl w) (hc : n = 0 ∨ ∃ g off, ad = some ⟨g, off, none⟩ ∧ CodeAt w g off n C) (hn : n ≤ 60000) :
    Calls Tryz.prog 21 #[.slice ad n cap] w fun e w' => SplitOut C n w.heap.size e w' ∧ Below w.heap.size w w' := by
  have H := Lib.hid (split42 ad n cap C w hg hc hn)
  have hn' : ¬ (60000 : Int) < (n : Int) := by omega
  clear hg hc
  have key : Calls Tryz.prog 21 #[.slice ad n cap] w fun e w' => Below w.heap.size w w' ∧
      ((∃ L vl va, Seg C n 0 L n ∧ e = .returned (.tuple #[vl, va, .int .i64 0]) ∧ OwnI w' w.heap.size vl C L ∧ OwnN w' w.heap.size va L) ∨
       (∃ (L : List Nat) (b : Nat), Seg C n 0 L b ∧ b < n ∧ ¬ Dec C n b ∧ e = .returned (.tuple #[.slice none 0 0, .slice none 0 0, .int .i64 6]))) := by
    go_enter Tryz.func21, Tryz.ntmps21
    go_wp2_with (go_at_call 42; refine H.out.mono ?_; rintro e w1 ⟨hb1, (⟨L, vl, va, h1, rfl, h2, h3⟩ | ⟨L, b, h1, h2, h3, rfl⟩)⟩)
    · try simp only [Exit.inBlock, Exit.then]
      refine bodyPost_ret (results_tmp3 rfl _ _ _) rfl ?_
      exact ⟨hb1, .inl ⟨L, vl, va, h1, rfl, h2, h3⟩⟩
    · try simp only [Exit.inBlock, Exit.then]
      refine bodyPost_ret (results_tmp3 rfl _ _ _) rfl ?_
      exact ⟨hb1, .inr ⟨L, b, h1, h2, h3, rfl⟩⟩
  refine key.mono ?_
  rintro e w' ⟨hb, (⟨L, vl, va, h1, h2, h3, h4⟩ | ⟨L, b, h1, h2, h3, h4⟩)⟩
  · exact ⟨.inl ⟨L, vl, va, h1, h2, h3, h4⟩, hb⟩
  · exact ⟨.inr ⟨L, b, ⟨h1, h2, h3⟩, h4⟩, hb⟩
theorem split_long (ad : Option Addr) (n cap : Nat) (w : World) (hn : 60000 < n) :
    Calls Tryz.prog 21 #[.slice ad n cap] w fun e w' => e = .returned (.tuple #[.slice none 0 0, .slice none 0 0, .int .i64 2]) ∧ w' = w := by
  have hn' : (60000 : Int) < (n : Int) := by omega
  go_enter Tryz.func21, Tryz.ntmps21
  go_wp2
  try simp only [Exit.inBlock, Exit.then]
  refine bodyPost_ret (results_tmp3 rfl _ _ _) rfl ?_
  exact ⟨rfl, rfl⟩
end Go.Proofs.YtblklgcpobbfcaaGreatDoor

namespace Go.Proofs.YtblklgcpobbfcaaGreatDoor
open Go.Eng Go.RowKit
set_option maxRecDepth 1000000

theorem good_or_fails (C : Nat → Int) (n : Nat) : (∃ L, Good C n L) ∨ ∃ L b, Fails C n L b := by
  have key : ∀ (k a : Nat) (pre : List Nat), n - a ≤ k → a ≤ n → Seg C n 0 pre a → (∃ L, Good C n L) ∨ ∃ L b, Fails C n L b := by
    intro k
    induction k with
    | zero =>
      intro a pre h1 h2 h
      have : a = n := by omega
      subst this
      exact .inl ⟨pre, h⟩
    | succ k ih =>
      intro a pre h1 h2 h
      by_cases he : a = n
      · subst he
        exact .inl ⟨pre, h⟩
      · by_cases hd : Dec C n a
        · obtain ⟨e1, e2, e3⟩ := lnA_eq hd
          exact ih (a + lnA C a) (pre ++ [a]) (by omega) (by omega) (h.snoc (by omega) hd)
        · exact .inr ⟨pre, a, h, by omega, hd⟩
  exact key n 0 [] (by omega) (Nat.zero_le _) (.nil _)

/-- A code that was handed in, or made. -/
structure CodeArg (w : World) (v : Value) (n : Nat) (C : Nat → Int) : Prop where
  byte : ∀ j, 0 ≤ C j ∧ C j < 256
  at' : (v = .slice none 0 0 ∧ n = 0) ∨ ∃ ad c, v = .slice (some ad) n c ∧ (0 < n → ∃ g off, ad = ⟨g, off, none⟩ ∧ CodeAt w g off n C)
theorem CodeArg.below {w w' : World} {v : Value} {n : Nat} {C : Nat → Int} (h : CodeArg w v n C) {B : Nat} (hb : Below B w w') (hB : B = w.heap.size) : CodeArg w' v n C := by
  refine ⟨h.byte, ?_⟩
  rcases h.at' with h1 | ⟨ad, c, rfl, h1⟩
  · exact .inl h1
  · refine .inr ⟨ad, c, rfl, fun hn => ?_⟩
    obtain ⟨g, off, e, hc⟩ := h1 hn
    exact ⟨g, off, e, hc.below hb (by rw [hB]; exact hc.lt)⟩
theorem CodeArg.form {w : World} {v : Value} {n : Nat} {C : Nat → Int} (h : CodeArg w v n C) : ∃ ad cap, v = .slice ad n cap ∧ (n = 0 ∨ ∃ g off, ad = some ⟨g, off, none⟩ ∧ CodeAt w g off n C) := by
  rcases h.at' with ⟨rfl, rfl⟩ | ⟨ad, c, rfl, h1⟩
  · exact ⟨_, _, rfl, .inl rfl⟩
  · refine ⟨_, _, rfl, ?_⟩
    rcases Nat.eq_zero_or_pos n with h0 | h0
    · exact .inl h0
    · obtain ⟨g, off, rfl, hc⟩ := h1 h0
      exact .inr ⟨g, off, rfl, hc⟩

/-- What is appended: nothing, or cells that lie somewhere. -/
def Src (w : World) (xv : Value) (m size : Nat) (news : List Value) : Prop :=
  (xv = .slice none 0 0 ∧ m = 0 ∧ news = []) ∨ ∃ ad c, xv = .slice (some ad) m c ∧ news.length = m * size ∧ ∀ j u, news[j]? = some u → w.cell? (ad.add j) = some u

theorem wpList_append_src {P : Program} {w : World} {ops : Array Oper} {rest : List Oper} {o : Oper} {a : Act} {Q : Exit → Act → World → Prop} (hw : Region.wanted o (yielded ops a.tmps) = true) (s x : Operand) (t : TypeId)
    (ho : o.op = .call { callee := .builtin .append, args := #[s, x], argTypes := #[t, t] })
    (base : Nat) (e : TypeId) (i : TypeInfo) (z : Value) (size bytes : Nat) (ht : P.underlying t = some (.slice e)) (hi : P.info? e = some i) (hz : i.zero = some z)
    (hsize : i.size = size) (hby : i.bytes = bytes) (hzs : z.cells.size = size) (hsz : 0 < size)
    (v : Value) (n : Nat) (xs : List Value) (hs : a.eval s = v) (hown : w.ownsRow base e size v n xs)
    (xv : Value) (m : Nat) (news : List Value) (hx : a.eval x = xv) (hsrc : Src w xv m size news) (h1 : ∀ u ∈ news, u.oneCell' = true)
    (h63 : n + m ≤ maxLen) (hbytes : (n + m) * bytes ≤ 140737488355328) (hbase : base ≤ w.heap.size)
    (h : ∀ v' w', w'.ownsRow base e size v' (n + m) (xs ++ news) → w.grownBy w' v.ownBlock → wpList P ops Q rest (a.put o.dst v') w') : wpList P ops Q (o :: rest) a w := by
  refine wpList_step fun K hK => ?_
  rw [if_pos hw]
  rcases hsrc with ⟨rfl, rfl, rfl⟩ | ⟨ad, c, rfl, hl, hnews⟩
  · have hrun := run_append_owned_none (P := P) (w := w) base t o.type e i size ht hi v n xs hown
    unfold Oper.wp
    simp [execOp, ho, resolve, invoke, builtin, hs, hx, hrun, Result.andThen]
    exact hK _ _ (h v w (by simpa using hown) ⟨rfl, rfl, rfl, Nat.le_refl _, fun _ _ _ => rfl⟩)
  · obtain ⟨v', w', hrun, r1, r2, r3⟩ := run_append_own (P := P) w base t o.type e i z size bytes ht hi hz hsize hby hzs hsz v n xs hown ad m c news hl hnews h1 h63 hbytes hbase
    unfold Oper.wp
    simp [execOp, ho, resolve, invoke, builtin, hs, hx, hrun, Result.andThen]
    exact hK _ _ (h v' w' r1 r2)

noncomputable def bytesOf (C : Nat → Int) (n : Nat) : List Value := (List.range n).map fun j => Value.int .u8 (C j)
theorem bytesOf_len (C : Nat → Int) (n : Nat) : (bytesOf C n).length = n := by simp [bytesOf]
theorem bytesOf_one (C : Nat → Int) (n : Nat) : ∀ u ∈ bytesOf C n, u.oneCell' = true := by
  intro u hu
  simp only [bytesOf, List.mem_map] at hu
  obtain ⟨_, _, rfl⟩ := hu
  rfl
theorem add_plain' (g off j : Nat) : (⟨g, off, none⟩ : Addr).add j = ⟨g, off + j, none⟩ := by unfold Addr.add; split <;> simp_all
theorem CodeArg.src {w : World} {v : Value} {n : Nat} {C : Nat → Int} (h : CodeArg w v n C) : Src w v n 1 (bytesOf C n) := by
  rcases h.at' with ⟨rfl, rfl⟩ | ⟨ad, c, rfl, h1⟩
  · exact .inl ⟨rfl, rfl, rfl⟩
  · refine .inr ⟨ad, c, rfl, by rw [bytesOf_len, Nat.mul_one], fun j u hu => ?_⟩
    have hj : j < n := by
      have := (List.getElem?_eq_some_iff.1 hu).1
      rwa [bytesOf_len] at this
    obtain ⟨g, off, rfl, hc⟩ := h1 (by omega)
    rw [add_plain', hc.cell j hj]
    simp only [bytesOf, List.getElem?_map, List.getElem?_range hj, Option.map_some] at hu
    exact hu
theorem OwnI.src {w : World} {base : Nat} {v : Value} {C : Nat → Int} {L : List Nat} (h : OwnI w base v C L) : Src w v L.length 8 ((II C L).map (Value.int .i64)) := by
  rcases h.2 with ⟨rfl, h0⟩ | ⟨g, cap, cur, rfl, hb, hg, _⟩
  · refine .inl ⟨rfl, h0, ?_⟩
    rw [List.eq_nil_of_length_eq_zero h0]
    rfl
  · refine .inr ⟨⟨g, 0, none⟩, cap, rfl, by rw [List.length_map, II_len], fun j u hu => ?_⟩
    have hj : j < L.length * 8 := by
      have := (List.getElem?_eq_some_iff.1 hu).1
      rwa [List.length_map, II_len] at this
    rw [add_plain', Nat.zero_add, h.cellAt j hj]
    exact hu
theorem ints_one (l : List Int) : ∀ u ∈ l.map (Value.int .i64), u.oneCell' = true := by
  intro u hu
  simp only [List.mem_map] at hu
  obtain ⟨_, _, rfl⟩ := hu
  rfl

/-- A list of bytes that the call owns grows by a code. -/
theorem append40 {w : World} {ops : Array Oper} {rest : List Oper} {o : Oper} {a : Act} {Q : Exit → Act → World → Prop} (hw : Region.wanted o (yielded ops a.tmps) = true) (s x : Operand)
    (ho : o.op = .call { callee := .builtin .append, args := #[s, x], argTypes := #[40, 40] }) (base : Nat) (v : Value) (n : Nat) (xs : List Value) (hs : a.eval s = v) (hown : w.ownsRow base 5 1 v n xs)
    (xv : Value) (m : Nat) (D : Nat → Int) (hx : a.eval x = xv) (hsrc : CodeArg w xv m D) (hl : n + m ≤ 60000) (hbase : base ≤ w.heap.size)
    (h : ∀ v' w', w'.ownsRow base 5 1 v' (n + m) (xs ++ bytesOf D m) → w.grownBy w' v.ownBlock → wpList Tryz.prog ops Q rest (a.put o.dst v') w') : wpList Tryz.prog ops Q (o :: rest) a w := by
  obtain ⟨i5, hi5, hz5, hs5, hb5⟩ := info_parts info5
  exact wpList_append_src hw s x 40 ho base 5 i5 (.int .u8 0) 1 1 Tryz.underlying40 hi5 hz5 hs5 hb5 rfl (by decide) v n xs hs hown xv m (bytesOf D m) hx hsrc.src (bytesOf_one D m) (by unfold maxLen; omega) (by omega) hbase h
/-- A list of instructions that the call owns grows by such a list. -/
theorem append39 {w : World} {ops : Array Oper} {rest : List Oper} {o : Oper} {a : Act} {Q : Exit → Act → World → Prop} (hw : Region.wanted o (yielded ops a.tmps) = true) (s x : Operand)
    (ho : o.op = .call { callee := .builtin .append, args := #[s, x], argTypes := #[39, 39] }) (base : Nat) (v : Value) (n : Nat) (xs : List Value) (hs : a.eval s = v) (hown : w.ownsRow base 38 8 v n xs)
    (xv : Value) (base2 : Nat) (D : Nat → Int) (L : List Nat) (hx : a.eval x = xv) (hsrc : OwnI w base2 xv D L) (hl : n + L.length ≤ 60000) (hbase : base ≤ w.heap.size)
    (h : ∀ v' w', w'.ownsRow base 38 8 v' (n + L.length) (xs ++ (II D L).map (Value.int .i64)) → w.grownBy w' v.ownBlock → wpList Tryz.prog ops Q rest (a.put o.dst v') w') : wpList Tryz.prog ops Q (o :: rest) a w := by
  obtain ⟨i5, hi5, hz5, hs5, hb5⟩ := info_parts info38
  exact wpList_append_src hw s x 39 ho base 38 i5 (.agg #[.int .i64 0, .int .i64 0, .int .i64 0, .int .i64 0, .int .i64 0, .int .i64 0, .int .i64 0, .int .i64 0]) 8 64 Tryz.underlying39 hi5 hz5 hs5 hb5 rfl (by decide) v n xs hs hown xv L.length _ hx (OwnI.src hsrc) (ints_one _) (by unfold maxLen; omega) (by omega) hbase h

/-- Both codes, one behind the other. -/
def cat (C D : Nat → Int) (n j : Nat) : Int := if j < n then C j else D (j - n)
theorem cat_arg {w : World} {base : Nat} {v : Value} {C D : Nat → Int} {n m : Nat} (hC : ∀ j, 0 ≤ C j ∧ C j < 256) (hD : ∀ j, 0 ≤ D j ∧ D j < 256) (h : w.ownsRow base 5 1 v (0 + n + m) ([] ++ bytesOf C n ++ bytesOf D m)) : CodeArg w v (n + m) (cat C D n) := by
  have hb : ∀ j, 0 ≤ cat C D n j ∧ cat C D n j < 256 := fun j => by
    unfold cat
    split
    · exact hC j
    · exact hD _
  rw [Nat.zero_add, List.nil_append] at h
  refine ⟨hb, ?_⟩
  rcases h.2 with ⟨rfl, h0⟩ | ⟨g, cap, cur, rfl, _, hg, _⟩
  · exact .inl ⟨rfl, h0⟩
  · refine .inr ⟨⟨g, 0, none⟩, cap, rfl, fun _ => ⟨g, 0, rfl, ⟨fun j hj => ?_, (Array.getElem?_eq_some_iff.1 hg).1, hb⟩⟩⟩
    rw [Nat.zero_add, h.cellAt j (by omega)]
    unfold cat
    by_cases hlt : j < n
    · rw [if_pos hlt, List.getElem?_append_left (by rw [bytesOf_len]; exact hlt)]
      simp [bytesOf, hlt]
    · rw [if_neg hlt, List.getElem?_append_right (by rw [bytesOf_len]; omega), bytesOf_len]
      simp [bytesOf, show j - n < m by omega]

theorem below_stepG {w a b : World} {r : Option Nat} (h : Below w.heap.size w a) (hg : a.grownBy b r) (hr : ∀ k, r = some k → w.heap.size ≤ k) : Below w.heap.size w b :=
  ⟨hg.os.trans h.os, hg.tape.trans h.tape, hg.output.trans h.output, Nat.le_trans h.size hg.size, fun k hk => (hg.block k (Nat.lt_of_lt_of_le hk h.size) (fun e => by have := hr k e.symm; omega)).trans (h.block k hk)⟩
theorem own_lowest {a : World} {base : Nat} {e : TypeId} {size n : Nat} {v : Value} {xs : List Value} (ho : a.ownsRow base e size v n xs) : ∀ k, v.ownBlock = some k → base ≤ k := fun k hk => (ho.lt k hk).1

/-- An old row and one that lies higher. -/
theorem own_old {w w' : World} {b e1 e2 s1 s2 n1 n2 : Nat} {v1 v2 : Value} {x1 x2 : List Value} (h1 : w.ownsRow b e1 s1 v1 n1 x1) (h2 : w'.ownsRow w.heap.size e2 s2 v2 n2 x2) : v1.ownBlock = none ∨ v1.ownBlock ≠ v2.ownBlock := by
  cases h : v1.ownBlock with
  | none => exact .inl rfl
  | some q =>
    refine .inr fun e => ?_
    have := (h1.lt q h).2
    have := (h2.lt q e.symm).1
    omega
/-- A row lasts while a list of bytes is made beside it. -/
theorem rows_on {w2 w3 w4 w5 : World} {base b k : Nat} {v v3 : Value} {e : TypeId} {size n : Nat} {xs ys : List Value} (h : w2.ownsRow base e size v n xs) (h3 : w2.grownBy w3 (some w2.heap.size)) (ho3 : w3.ownsRow b 5 1 v3 k ys) (h4 : w3.grownBy w4 v3.ownBlock) (h5 : Below w4.heap.size w4 w5) (he : 5 ≠ e) : w5.ownsRow base e size v n xs := by
  have o3 : w3.ownsRow base e size v n xs := h.kept h3 (.inr (fun e1 => by have := (h.lt _ e1).2; omega))
  have o4 : w4.ownsRow base e size v n xs := o3.kept h4 (own_apart ho3 o3 he)
  exact own_at o4 (fun k _ hk => h5.block k hk)
theorem codes_eq {w : World} {b1 b2 k : Nat} {v v' : Value} {xs : List Int} (h : w.ownsRow b1 38 8 v k (xs.map (Value.int .i64))) (h' : w.ownsRow b2 38 8 v' k (xs.map (Value.int .i64))) (hk : k ≤ 60000) :
    Calls Tryz.prog 25 #[v, v'] w fun e w' => e = .returned (.bool true) ∧ Below w.heap.size w w' := by
  rcases Nat.eq_zero_or_pos k with rfl | hp
  · obtain ⟨a, c, rfl⟩ := own_form h
    obtain ⟨a', c', rfl⟩ := own_form h'
    refine (codes_nil a a' c c' w).mono ?_
    rintro e w' ⟨rfl, rfl⟩
    exact ⟨rfl, Below.refl _ _⟩
  · have hl : xs.length = k * 8 := by have := h.1; rwa [List.length_map] at this
    have lies : ∀ {b : Nat} {v : Value}, w.ownsRow b 38 8 v k (xs.map (Value.int .i64)) → ∃ g c, v = .slice (some ⟨g, 0, none⟩) k c ∧ Lies w g 0 k (fun j => xs.getD j 0) := by
      intro b v h
      obtain ⟨g, c, rfl, hlt, _, hc⟩ := own_some h hp
      refine ⟨g, c, rfl, hlt, fun j hj => ?_⟩
      rw [Nat.zero_add, hc j hj]
      have : j < xs.length := by omega
      simp [this]
    obtain ⟨g, c, rfl, l1⟩ := lies h
    obtain ⟨g', c', rfl, l2⟩ := lies h'
    exact codes_some g 0 c g' 0 c' k _ (by omega) w l1 l2

/-! Split, where it is known what it finds. -/
theorem split_good {v : Value} {n : Nat} {C : Nat → Int} {w : World} {L : List Nat} (hg : Gl w) (hc : CodeArg w v n C) (hn : n ≤ 60000) (h : Good C n L) :
    Calls Tryz.prog 21 #[v] w fun e w' => ∃ vl va, e = .returned (.tuple #[vl, va, .int .i64 0]) ∧ OwnI w' w.heap.size vl C L ∧ OwnN w' w.heap.size va L ∧ Below w.heap.size w w' := by
  obtain ⟨ad, cap, rfl, hc'⟩ := hc.form
  refine (split_any ad n cap C w hg hc' hn).mono ?_
  rintro e w' ⟨⟨L', vl, va, h1, rfl, h2, h3⟩ | ⟨L', b, h1, _⟩, hb⟩
  · obtain rfl := h.uniq h1
    exact ⟨vl, va, rfl, h2, h3, hb⟩
  · exact (h.not h1).elim
theorem split_bad {v : Value} {n : Nat} {C : Nat → Int} {w : World} {L : List Nat} {b : Nat} (hg : Gl w) (hc : CodeArg w v n C) (hn : n ≤ 60000) (h : Fails C n L b) :
    Calls Tryz.prog 21 #[v] w fun e w' => e = .returned (.tuple #[.slice none 0 0, .slice none 0 0, .int .i64 6]) ∧ Below w.heap.size w w' := by
  obtain ⟨ad, cap, rfl, hc'⟩ := hc.form
  refine (split_any ad n cap C w hg hc' hn).mono ?_
  rintro e w' ⟨⟨L', vl, va, h1, rfl, h2, h3⟩ | ⟨L', b, h1, h2⟩, hb⟩
  · exact (h1.not h).elim
  · exact ⟨h2, hb⟩
theorem split_some {v : Value} {n : Nat} {C : Nat → Int} {w : World} (hg : Gl w) (hc : CodeArg w v n C) (hn : n ≤ 60000) :
    Calls Tryz.prog 21 #[v] w fun e w' => ∃ x y z, e = .returned (.tuple #[x, y, .int .i64 z]) ∧ Below w.heap.size w w' := by
  obtain ⟨ad, cap, rfl, hc'⟩ := hc.form
  refine (split_any ad n cap C w hg hc' hn).mono ?_
  rintro e w' ⟨⟨L', vl, va, h1, rfl, h2, h3⟩ | ⟨L', b, h1, rfl⟩, hb⟩
  · exact ⟨_, _, _, rfl, hb⟩
  · exact ⟨_, _, _, rfl, hb⟩
end Go.Proofs.YtblklgcpobbfcaaGreatDoor

namespace Go.Proofs.YtblklgcpobbfcaaGreatDoor
open Go.Eng Go.RowKit
set_option maxRecDepth 1000000

theorem olaw_long1 (a a' : Option Addr) (n c m c' : Nat) (w : World) (hg : Gl w) (hn : 3000 < n) :
    Calls Tryz.prog 6 #[.slice a n c, .slice a' m c'] w fun e w' => e = .returned (.bool true) ∧ Below w.heap.size w w' := by
  have hn' : (3000 : Int) < (n : Int) := by omega
  have hud : (undef : Value) = .tuple #[] := rfl
  have HS := Lib.hid (sane_any w hg)
  clear hg
  go_enter Tryz.func6, Tryz.ntmps6
  go_wp2_with (go_at_call 13; refine HS.out.mono ?_; rintro e w1 ⟨rfl, hb⟩)
  go_ret
  exact ⟨rfl, hb⟩
theorem olaw_long2 (a a' : Option Addr) (n c m c' : Nat) (w : World) (hg : Gl w) (hn : n ≤ 3000) (hm : 3000 < m) :
    Calls Tryz.prog 6 #[.slice a n c, .slice a' m c'] w fun e w' => e = .returned (.bool true) ∧ Below w.heap.size w w' := by
  have hn' : ¬ (3000 : Int) < (n : Int) := by omega
  have hm' : (3000 : Int) < (m : Int) := by omega
  have HS := Lib.hid (sane_any w hg)
  clear hg
  go_enter Tryz.func6, Tryz.ntmps6
  go_wp2_with (go_at_call 13; refine HS.out.mono ?_; rintro e w1 ⟨rfl, hb⟩)
  go_ret
  exact ⟨rfl, hb⟩

/-- The walk to where the three codes have been split. -/
theorem olaw_bad (v1 v2 : Value) (n m : Nat) (C D : Nat → Int) (w : World) (hg : Gl w) (h1 : CodeArg w v1 n C) (h2 : CodeArg w v2 m D) (hn : n ≤ 3000) (hm : m ≤ 3000) (L : List Nat) (b : Nat) (hF : Fails C n L b) :
    Calls Tryz.prog 6 #[v1, v2] w fun e w' => e = .returned (.bool true) ∧ Below w.heap.size w w' := by
  obtain ⟨a1, c1, e1, _⟩ := h1.form
  obtain ⟨a2, c2, e2, _⟩ := h2.form
  subst e1 e2
  have hn' : ¬ (3000 : Int) < (n : Int) := by omega
  have hm' : ¬ (3000 : Int) < (m : Int) := by omega
  have H1 := Lib.hid (split_bad hg h1 (by omega) hF)
  have HA1 : Aside (CodeArg w (.slice a1 n c1) n C) := h1
  have HA2 : Aside (CodeArg w (.slice a2 m c2) m D) := h2
  have HG : Aside (Gl w) := hg
  obtain ⟨i5, hi5, hz5, hs5, hb5⟩ := info_parts info5
  clear hg h1 h2
  go_enter Tryz.func6, Tryz.ntmps6
  go_wp2_with (first
    | (go_at_call 21; refine H1.out.mono ?_; clear H1; rintro e w1 ⟨rfl, hb1⟩; have HB1 : Aside (Below w.heap.size w w1) := hb1; have H2 := Lib.hid (split_some (HG.out.below hb1) (HA2.out.below hb1 rfl) (by omega)); clear hb1)
    | (go_at_call 21; refine H2.out.mono ?_; clear H2; rintro e w2 ⟨x2, y2, z2, rfl, hb2⟩; have HB2 : Aside (Below w.heap.size w w2) := step HB1.out hb2; clear hb2 HB1)
    | (at_builtin; refine append40 (by rfl) _ _ rfl w.heap.size (.slice (some ⟨w2.heap.size, 0, none⟩) 0 0) 0 [] rfl (World.ownsRow_lit w2 #[] 0 HB2.out.size (by decide) rfl) (.slice a1 n c1) n C rfl (HA1.out.below (HB2.out.alloc HB2.out.size _) rfl) (by omega) (by have := HB2.out.size; simp; omega) ?_; intro v3 w3 ho3 hg3; have HO3 : Aside (w3.ownsRow w.heap.size 5 1 v3 (0 + n) ([] ++ bytesOf C n)) := ho3; have HB3 : Aside (Below w.heap.size w w3) := below_stepG (HB2.out.alloc HB2.out.size _) hg3 (fun k e => by cases e; exact HB2.out.size); clear ho3 hg3 HB2)
    | (at_builtin; refine append40 (by rfl) _ _ rfl w.heap.size v3 (0 + n) ([] ++ bytesOf C n) rfl HO3.out (.slice a2 m c2) m D rfl (HA2.out.below HB3.out rfl) (by omega) HB3.out.size ?_; intro v4 w4 ho4 hg4; have HA4 : Aside (CodeArg w4 v4 (n + m) (cat C D n)) := cat_arg HA1.out.byte HA2.out.byte ho4; have HB4 : Aside (Below w.heap.size w w4) := below_stepG HB3.out hg4 (own_lowest HO3.out); clear ho4 hg4 HO3 HB3; have H3 := Lib.hid (split_some (HG.out.below HB4.out) HA4.out (by omega)))
    | (go_at_call 21; refine H3.out.mono ?_; clear H3; rintro e w5 ⟨x5, y5, z5, rfl, hb5'⟩; have HB5 : Aside (Below w.heap.size w w5) := step HB4.out hb5'; clear hb5' HB4; have HS := Lib.hid (sane_any w5 (HG.out.below HB5.out)))
    | (go_at_call 13; refine HS.out.mono ?_; rintro e w6 ⟨rfl, hb6⟩))
  go_ret
  exact ⟨rfl, step HB5.out hb6⟩
end Go.Proofs.YtblklgcpobbfcaaGreatDoor
