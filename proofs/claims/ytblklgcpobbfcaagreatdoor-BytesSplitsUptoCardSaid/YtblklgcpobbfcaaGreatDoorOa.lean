/- ref.Join, and lists of bytes that a call makes. Conditions: none. -/
import Derived.Test.YtblklgcpobbfcaaGreatDoorPc
import Derived.OwnWalk
import Derived.Laws.AppendOwn
import Derived.WalkKit
set_option linter.all false
namespace Go.Proofs.YtblklgcpobbfcaaGreatDoor
open Go.Eng Go.RowKit
set_option maxRecDepth 1000000

/-- Whether an instruction is valid. -/
noncomputable def okX (op x0 x1 x2 x3 x4 x5 x6 : Int) : Bool := decide (0 ≤ op ∧ op < 27) && (List.range 7).all fun j => opOk op.toNat j (xAt x0 x1 x2 x3 x4 x5 x6 j)

theorem op_cases (op : Int) : (op < 0 ∨ 27 ≤ op) ∨ ∃ i : Nat, i < 27 ∧ op = (i : Int) := by
  by_cases h : op < 0 ∨ 27 ≤ op
  · exact .inl h
  · exact .inr ⟨op.toNat, by omega, by omega⟩
theorem okX_out {op : Int} (h : op < 0 ∨ 27 ≤ op) (x0 x1 x2 x3 x4 x5 x6 : Int) : okX op x0 x1 x2 x3 x4 x5 x6 = false := by
  rw [okX, decide_eq_false (by omega)]; rfl
theorem okX_in {i : Nat} (h : i < 27) (x0 x1 x2 x3 x4 x5 x6 : Int) : okX i x0 x1 x2 x3 x4 x5 x6 = (List.range 7).all fun j => opOk i j (xAt x0 x1 x2 x3 x4 x5 x6 j) := by
  rw [okX, decide_eq_true (by omega)]; rfl

theorem valid_any (op x0 x1 x2 x3 x4 x5 x6 : Int) (w : World) (hg : Gl w) : Calls Tryz.prog 39 #[insV op x0 x1 x2 x3 x4 x5 x6] w fun e w' => e = .returned (.bool (okX op x0 x1 x2 x3 x4 x5 x6)) ∧ Below w.heap.size w w' := by
  rcases op_cases op with h | ⟨i, hi, rfl⟩
  · rw [okX_out h]; exact valid_no op x0 x1 x2 x3 x4 x5 x6 w h
  · rw [okX_in hi]; exact valid_yes i hi x0 x1 x2 x3 x4 x5 x6 w hg
theorem rvalid_any (op x0 x1 x2 x3 x4 x5 x6 : Int) (w : World) (hg : Gl w) : Calls Tryz.prog 17 #[insV op x0 x1 x2 x3 x4 x5 x6] w fun e w' => e = .returned (.bool (okX op x0 x1 x2 x3 x4 x5 x6)) ∧ Below w.heap.size w w' := by
  rcases op_cases op with h | ⟨i, hi, rfl⟩
  · rw [okX_out h]; exact rvalid_no op x0 x1 x2 x3 x4 x5 x6 w h
  · rw [okX_in hi]; exact rvalid_yes i hi x0 x1 x2 x3 x4 x5 x6 w hg

noncomputable def bX (op x0 x1 x2 x3 x4 x5 x6 : Int) : List Int := putB byI op.toNat x0 x1 x2 x3 x4 x5 x6

theorem put_ok (op x0 x1 x2 x3 x4 x5 x6 : Int) (w : World) (hg : Gl w) (h : okX op x0 x1 x2 x3 x4 x5 x6 = true) :
    Calls Tryz.prog 15 #[insV op x0 x1 x2 x3 x4 x5 x6] w fun e w' => ∃ v, e = .returned (.tuple #[v, .int .i64 0]) ∧ BytesAt w' v (bX op x0 x1 x2 x3 x4 x5 x6) ∧ Below w.heap.size w w' := by
  rcases op_cases op with h' | ⟨i, hi, rfl⟩
  · rw [okX_out h'] at h; cases h
  · rw [okX_in hi] at h; exact put_yes i hi x0 x1 x2 x3 x4 x5 x6 w hg h
theorem rput_ok (op x0 x1 x2 x3 x4 x5 x6 : Int) (w : World) (hg : Gl w) (h : okX op x0 x1 x2 x3 x4 x5 x6 = true) :
    Calls Tryz.prog 18 #[insV op x0 x1 x2 x3 x4 x5 x6] w fun e w' => ∃ v, e = .returned v ∧ BytesAt w' v (bX op x0 x1 x2 x3 x4 x5 x6) ∧ Below w.heap.size w w' := by
  rcases op_cases op with h' | ⟨i, hi, rfl⟩
  · rw [okX_out h'] at h; cases h
  · exact rput_yes i hi x0 x1 x2 x3 x4 x5 x6 w hg

theorem put_not (op x0 x1 x2 x3 x4 x5 x6 : Int) (w : World) (hg : Gl w) (h : okX op x0 x1 x2 x3 x4 x5 x6 = false) :
    Calls Tryz.prog 15 #[insV op x0 x1 x2 x3 x4 x5 x6] w fun e w' => e = .returned (.tuple #[.slice none 0 0, .int .i64 1]) ∧ Below w.heap.size w w' := by
  have hB0 : Below w.heap.size w (w.alloc (boxO op x0 x1 x2 x3 x4 x5 x6)) := (Below.refl _ _).alloc (Nat.le_refl _) _
  have HV := valid_any op x0 x1 x2 x3 x4 x5 x6 (w.alloc (boxO op x0 x1 x2 x3 x4 x5 x6)) (hg.alloc _)
  rw [h] at HV
  clear h
  go_enter Tryz.func15, Tryz.ntmps15
  go_wp2_with (go_at_call 39; refine HV.mono ?_; rintro e w1 ⟨rfl, hB⟩)
  go_ret2
  exact ⟨rfl, step hB0 hB⟩

/-- How many bytes there may be. -/
theorem opL_len (f : Int → Nat → Int) (x : Int) : ∀ n, (opL f x n).length = n
  | 0 => rfl
  | n + 1 => by rw [opL, List.length_cons, opL_len f x n]
theorem putL_len (f : Int → Nat → Int) : ∀ (ks : List UInt8) (xs : List Int), (putL f ks xs).length ≤ 4 * xs.length
  | [], _ => by simp [putL]
  | _ :: _, [] => by simp [putL]
  | k :: ks, x :: xs => by
    have := putL_len f ks xs
    have := wN_le k
    rw [putL, List.length_append, opL_len, List.length_cons]
    omega
theorem bX_len (op x0 x1 x2 x3 x4 x5 x6 : Int) : (bX op x0 x1 x2 x3 x4 x5 x6).length ≤ 29 := by
  have := putL_len byI (kd op.toNat) [x0, x1, x2, x3, x4, x5, x6]
  simp only [List.length_cons, List.length_nil] at this
  simp only [bX, putB, List.length_cons]
  omega
theorem bX_pos (op x0 x1 x2 x3 x4 x5 x6 : Int) : 0 < (bX op x0 x1 x2 x3 x4 x5 x6).length := by simp [bX, putB]
end Go.Proofs.YtblklgcpobbfcaaGreatDoor

namespace Go.Proofs.YtblklgcpobbfcaaGreatDoor
open Go.Eng Go.RowKit
set_option maxRecDepth 1000000

noncomputable def okA (X : Nat → Int) (k : Nat) : Bool := okX (X (k * 8)) (X (k * 8 + 1)) (X (k * 8 + 2)) (X (k * 8 + 3)) (X (k * 8 + 4)) (X (k * 8 + 5)) (X (k * 8 + 6)) (X (k * 8 + 7))
noncomputable def bA (X : Nat → Int) (k : Nat) : List Int := bX (X (k * 8)) (X (k * 8 + 1)) (X (k * 8 + 2)) (X (k * 8 + 3)) (X (k * 8 + 4)) (X (k * 8 + 5)) (X (k * 8 + 6)) (X (k * 8 + 7))
noncomputable def J (X : Nat → Int) : Nat → List Int
  | 0 => []
  | k + 1 => J X k ++ bA X k
theorem J_len (X : Nat → Int) : ∀ k, (J X k).length ≤ 29 * k
  | 0 => by simp [J]
  | k + 1 => by
    have := J_len X k
    have : (bA X k).length ≤ 29 := bX_len _ _ _ _ _ _ _ _
    rw [J, List.length_append]
    omega

abbrev insW (X : Nat → Int) (k : Nat) : Value := insV (X (k * 8)) (X (k * 8 + 1)) (X (k * 8 + 2)) (X (k * 8 + 3)) (X (k * 8 + 4)) (X (k * 8 + 5)) (X (k * 8 + 6)) (X (k * 8 + 7))

/-- Instructions as they lie in memory. -/
def Lies (w : World) (b off n : Nat) (X : Nat → Int) : Prop := b < w.heap.size ∧ ∀ j, j < n * 8 → w.cell? ⟨b, off + j, none⟩ = some (.int .i64 (X j))
theorem Lies.below {w w' : World} {b off n : Nat} {X : Nat → Int} (h : Lies w b off n X) {B : Nat} (hb : Below B w w') (hB : b < B) : Lies w' b off n X :=
  ⟨Nat.lt_of_lt_of_le h.1 hb.size, fun j hj => (hb.cell (p := ⟨b, off + j, none⟩) hB).trans (h.2 j hj)⟩

theorem grown_of {w w' : World} (hb : Below w.heap.size w w') : w.grownBy w' none := ⟨hb.os, hb.tape, hb.output, hb.size, fun k hk _ => hb.block k hk⟩

theorem info5 : (Tryz.prog.info? 5).map (fun i => (i.zero, i.size, i.bytes)) = some (some (.int .u8 0), 1, 1) := by kernel_rfl

theorem news_at {w : World} {g o : Nat} {ns : List Int} (h : ∀ j, j < ns.length → w.cell? ⟨g, o + j, none⟩ = some (.int .u8 (ns.getD j 0))) :
    ∀ j u, (ns.map (Value.int .u8))[j]? = some u → w.cell? ((⟨g, o, none⟩ : Addr).add j) = some u := by
  intro j u hu
  have hj : j < ns.length := by
    rcases Nat.lt_or_ge j ns.length with h | h
    · exact h
    · rw [List.getElem?_eq_none (by simpa using h)] at hu; cases hu
  have e : (⟨g, o, none⟩ : Addr).add j = ⟨g, o + j, none⟩ := by unfold Addr.add; split <;> simp_all
  rw [e, h j hj]
  simp [List.getElem?_eq_getElem hj] at hu
  subst hu
  simp [List.getD, List.getElem?_eq_getElem hj]
theorem one_cell (ns : List Int) : ∀ u ∈ ns.map (Value.int .u8), u.oneCell' = true := by
  intro u hu
  obtain ⟨n, _, rfl⟩ := List.mem_map.1 hu
  rfl

theorem below_grown {w a c : World} {base : Nat} {v : Value} {n : Nat} {xs : List Value} (hB : Below w.heap.size w a) (ho : a.ownsRow base 5 1 v n xs) (hbase : w.heap.size ≤ base) (hg : a.grownBy c v.ownBlock) : Below w.heap.size w c :=
  ⟨hg.os.trans hB.os, hg.tape.trans hB.tape, hg.output.trans hB.output, Nat.le_trans hB.size hg.size, fun k hk => (hg.block k (Nat.lt_of_lt_of_le hk hB.size) (fun e => by have := (ho.lt k e.symm).1; omega)).trans (hB.block k hk)⟩

theorem own_kept {w w1 : World} {base : Nat} {v : Value} {n : Nat} {xs : List Value} (h : w.ownsRow base 5 1 v n xs) (hb : Below w.heap.size w w1) : w1.ownsRow base 5 1 v n xs :=
  h.kept (grown_of hb) (by cases v.ownBlock <;> simp)
theorem join_len1 {X : Nat → Int} {n k : Nat} (hn : n ≤ 300) (hk : k < n) : (J X k).length + (bA X k).length ≤ maxLen := by
  have := J_len X k
  have : (bA X k).length ≤ 29 := bX_len _ _ _ _ _ _ _ _
  unfold maxLen
  omega
theorem join_len2 {X : Nat → Int} {n k : Nat} (hn : n ≤ 300) (hk : k < n) : ((J X k).length + (bA X k).length) * 1 ≤ 140737488355328 := by
  have := J_len X k
  have : (bA X k).length ≤ 29 := bX_len _ _ _ _ _ _ _ _
  omega

set_option maxHeartbeats 4000000 in
theorem rjoin_yes (b off n cap : Nat) (X : Nat → Int) (w : World) (hg : Gl w) (hn : n ≤ 300) (hl : Lies w b off n X) (hok : ∀ k, k < n → okA X k = true) :
    Calls Tryz.prog 19 #[.slice (some ⟨b, off, none⟩) n cap] w fun e w' => ∃ v, e = .returned v ∧ w'.ownsRow w.heap.size 5 1 v (J X n).length ((J X n).map (Value.int .u8)) ∧ Below w.heap.size w w' := by
  have HL : Aside (Lies w b off n X) := hl
  have HO : Aside (∀ k, k < n → okA X k = true) := hok
  have HG : Aside (Gl w) := hg
  have hbw := hl.1
  obtain ⟨i0, hi, hz0, hz1, hz2⟩ := info_parts info5
  clear hl hok hg
  go_enter Tryz.func19, Tryz.ntmps19
  go_wp2_with fail
  go_loopw [3, 4] (fun v i wr => ∃ k : Nat, k ≤ n ∧ i = .int .i64 k ∧ Aside (wr.ownsRow w.heap.size 5 1 v (J X k).length ((J X k).map (Value.int .u8))) ∧ Aside (Below w.heap.size w wr)) (fun _ i _ => n - (intOf i).toNat)
  case atStart => exact ⟨0, Nat.zero_le _, rfl, World.ownsRow_nil _ _ _ _, Below.refl _ _⟩
  case round =>
    obtain ⟨k, hk, rfl, hown, hB⟩ := hrel
    by_cases hlt : k < n
    · have hc : ∀ j, j < 8 → wr.cell? ⟨b, off + k * 8 + j, none⟩ = some (.int .i64 (X (k * 8 + j))) := fun j hj => by
        have := (HL.out.below hB.out hbw).2 (k * 8 + j) (by omega)
        rwa [← Nat.add_assoc] at this
      have hc0 := hc 0 (by omega)
      have hc1 := hc 1 (by omega)
      have hc2 := hc 2 (by omega)
      have hc3 := hc 3 (by omega)
      have hc4 := hc 4 (by omega)
      have hc5 := hc 5 (by omega)
      have hc6 := hc 6 (by omega)
      have hc7 := hc 7 (by omega)
      simp only [Nat.add_zero] at hc0
      clear hc
      have HP : Hid (Calls Tryz.prog 18 #[insW X k] wr fun e w' => ∃ v, e = .returned v ∧ BytesAt w' v (bA X k) ∧ Below wr.heap.size wr w') := Lib.hid (rput_ok _ _ _ _ _ _ _ _ wr (HG.out.below hB.out) (HO.out k hlt))
      have hk0 : (0 : Int) ≤ (k : Int) := by omega
      have hk1 : (k : Int) < (n : Int) := by omega
      go_wp2_with (first
        | (go_at_call 18; refine HP.out.mono ?_; rintro e w1 ⟨vb, rfl, ⟨g, o, c, rfl, hg1, hcells⟩, hB1⟩)
        | (at_builtin; refine wpList_append_own _ rfl _ _ 40 rfl w.heap.size 5 i0 (.int .u8 0) 1 1 Tryz.underlying40 hi hz0 hz1 hz2 rfl (by decide) _ _ _ rfl (own_kept hown.out hB1) ⟨g, o, none⟩ (bA X k).length c ((bA X k).map (Value.int .u8)) rfl (by simp) (news_at hcells) (one_cell _) (join_len1 hn hlt) (join_len2 hn hlt) (Nat.le_trans hB.out.size hB1.size) ?_))
      intro v' w2 hown' hgrow _
      have R1 : Aside (w2.ownsRow w.heap.size 5 1 v' (J X (k + 1)).length ((J X (k + 1)).map (Value.int .u8))) := by
        rw [J, List.length_append, List.map_append]; exact hown'
      have R2 : Aside (Below w.heap.size w w2) := below_grown (hB.out.trans (hB1.mono hB.out.size)) (own_kept hown.out hB1) (Nat.le_refl _) hgrow
      clear hown' hgrow hown hB hB1 hcells HP
      go_wp2
      go_roundw
      case rel => exact ⟨k + 1, by omega, by go_num, R1, R2⟩
      case measure => simp [intOf]; omega
    · have e : k = n := by omega
      subst e
      go_wp2
      go_ret
      exact ⟨_, rfl, hown.out, hB.out⟩
end Go.Proofs.YtblklgcpobbfcaaGreatDoor
