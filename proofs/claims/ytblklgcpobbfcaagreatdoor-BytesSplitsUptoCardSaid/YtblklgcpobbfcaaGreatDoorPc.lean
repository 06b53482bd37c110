/- Put and ref.Put, run by the engine at operands that are letters. Conditions: none. -/
import Derived.Test.YtblklgcpobbfcaaGreatDoorPb
import Derived.Test.YtblklgcpobbfcaaGreatDoorEd
set_option linter.all false
namespace Go.Proofs.YtblklgcpobbfcaaGreatDoor
open Go.Eng Go.RowKit
set_option maxRecDepth 1000000

/-- An instruction as an abstract value. -/
noncomputable abbrev insA (i : Nat) (x0 x1 x2 x3 x4 x5 x6 : Int) : AVal := .agg [.int .i64 (Int.ofNat i), .int .i64 x0, .int .i64 x1, .int .i64 x2, .int .i64 x3, .int .i64 x4, .int .i64 x5, .int .i64 x6]

/-- How many bytes an operand has. -/
noncomputable def wN (k : UInt8) : Nat := bif Nat.beq k.toNat 107 || Nat.beq k.toNat 102 || Nat.beq k.toNat 103 || Nat.beq k.toNat 100 then 2 else bif Nat.beq k.toNat 110 then 4 else 1
noncomputable def shrV (x : Int) (n : Nat) : Int := Int.rec (motive := fun _ => Int) (fun a => shrN a n) (fun a => (Int.negSucc a).fdiv (2 ^ n)) x
theorem shrV_eq (x : Int) (n : Nat) : shrV x n = x.fdiv (2 ^ n) := by
  cases x with
  | negSucc a => rfl
  | ofNat a =>
    show ((a / 2 ^ n : Nat) : Int) = _
    rw [Int.ofNat_eq_natCast, Int.fdiv_eq_ediv_of_nonneg _ (Int.le_of_lt (Int.pow_pos (by decide)))]
    simp
noncomputable def byU (x : Int) (n : Nat) : Int := wrapF .u8 (shrV (wrapF .u64 x) (8 * n))
noncomputable def byI (x : Int) (n : Nat) : Int := wrapF .u8 (shrV x (8 * n))
noncomputable def opL (f : Int → Nat → Int) (x : Int) : Nat → List Int
  | 0 => []
  | n + 1 => f x n :: opL f x n
noncomputable def putL (f : Int → Nat → Int) : List UInt8 → List Int → List Int
  | k :: ks, x :: xs => opL f x (wN k) ++ putL f ks xs
  | _, _ => []
/-- The bytes of an instruction. -/
noncomputable def putB (f : Int → Nat → Int) (i : Nat) (x0 x1 x2 x3 x4 x5 x6 : Int) : List Int := wrapF .u8 (Int.ofNat i) :: putL f (kd i) [x0, x1, x2, x3, x4, x5, x6]

/-- A run that comes to a slice of bytes: its cells. -/
noncomputable def cellsOut (n : Nat) : ER → Option (List AVal × Bool)
  | .ret (.slice b o l _ z _) H' => match H'.cellsAt b o l with
    | some cs => some (cs, Nat.ble n H'.low && Nat.ble n b && Nat.beq z 1)
    | none => none
  | _ => none

theorem rput_runs (x0 x1 x2 x3 x4 x5 x6 : Int) (e0 : TypeId) : (List.range 27).map (fun i => cellsOut 11 (topF Tryz.prog (cfun Tryz.prog 18) [insA i x0 x1 x2 x3 x4 x5 x6] (G0 e0) (tabF Tryz.prog 100))) =
    (List.range 27).map (fun i => some ((putB byU i x0 x1 x2 x3 x4 x5 x6).map (AVal.int .u8), true)) := by kernel_rfl
end Go.Proofs.YtblklgcpobbfcaaGreatDoor

namespace Go.Proofs.YtblklgcpobbfcaaGreatDoor
open Go.Eng Go.RowKit
set_option maxRecDepth 1000000

theorem soundF (n : Nat) : Sound Tryz.prog (tabF Tryz.prog n) := by rw [tabF_eq]; exact sound fits n

/-- A value that is a slice of these bytes. -/
def BytesAt (w : World) (v : Value) (ns : List Int) : Prop :=
  ∃ g o c, v = .slice (some ⟨g, o, none⟩) ns.length c ∧ g < w.heap.size ∧ ∀ j, j < ns.length → w.cell? ⟨g, o + j, none⟩ = some (.int .u8 (ns.getD j 0))

theorem BytesAt.below {w w' : World} {v : Value} {ns : List Int} (h : BytesAt w v ns) (hb : Below w.heap.size w w') : BytesAt w' v ns := by
  obtain ⟨g, o, c, h1, h2, h3⟩ := h
  exact ⟨g, o, c, h1, Nat.lt_of_lt_of_le h2 hb.size, fun j hj => (hb.cell (p := ⟨g, o + j, none⟩) h2).trans (h3 j hj)⟩

theorem cellsAt_some {H : AHeap} {b o l : Nat} {r : List AVal} (h : H.cellsAt b o l = some r) : ∃ cs e wr, H.get b = some (.cells cs e wr) ∧ r.length = l ∧ ∀ j v, r[j]? = some v → cs[o + j]? = some v := by
  unfold AHeap.cellsAt at h
  split at h
  · rename_i cs e wr hg
    refine ⟨cs, e, wr, hg, ?_⟩
    simp only [sub?] at h
    cases hq : Nat.beq ((cs.drop o).take l).length l with
    | false => rw [hq] at h; cases h
    | true =>
      rw [hq] at h
      simp only [cond_true, Option.some.injEq] at h
      subst h
      refine ⟨Nat.eq_of_beq_eq_true hq, fun j v hj => ?_⟩
      rw [List.getElem?_take] at hj
      split at hj
      · rwa [List.getElem?_drop] at hj
      · cases hj
  · cases h

theorem bytesAt_of {ρ : Emb} {H : AHeap} {w : World} (hw : WRel Tryz.prog ρ H w) {b o l c : Nat} {ex : Bool} {x : Value} (hx : VRel ρ (.slice b o l c 1 ex) x) {ns : List Int}
    (hc : H.cellsAt b o l = some (ns.map (AVal.int .u8))) : BytesAt w x ns := by
  obtain ⟨cs, e, wr, hg, hl, hat⟩ := cellsAt_some hc
  cases hx with
  | slice hp k1 k2 k3 k4 =>
    rename_i cap1 p
    obtain ⟨ob, ho, hB⟩ := hw.blk hg hp
    simp only [List.length_map] at hl
    subst hl
    cases hB with
    | cells hd h _ =>
      rename_i arr lo hi
      refine ⟨p.r, p.d + o, _, rfl, (Array.getElem?_eq_some_iff.1 ho).1, fun j hj => ?_⟩
      obtain ⟨x, h1, h2⟩ := h (o + j) (.int .u8 (ns.getD j 0)) (hat j _ (by simp [List.getElem?_eq_getElem hj, List.getD]))
      cases h2
      simp only [World.cell?, ho]
      rw [Nat.add_assoc]
      simpa using h1

theorem cellsOut_ret {n : Nat} {r : ER} {ns : List Int} (h : cellsOut n r = some (ns.map (AVal.int .u8), true)) : ∃ b o l c ex H', r = .ret (.slice b o l c 1 ex) H' ∧ H'.cellsAt b o l = some (ns.map (AVal.int .u8)) ∧ n ≤ H'.low := by
  unfold cellsOut at h
  split at h
  · rename_i b o l c z ex H'
    split at h
    · rename_i cs hcs
      simp only [Option.some.injEq, Prod.mk.injEq, Bool.and_eq_true] at h
      obtain ⟨rfl, ⟨h1, _⟩, h3⟩ := h
      obtain rfl := Nat.eq_of_beq_eq_true h3
      exact ⟨_, _, _, _, _, _, rfl, hcs, Nat.le_of_ble_eq_true h1⟩
    · cases h
  · cases h

theorem byU_eq (x : Int) (n : Nat) (h : n < 4) : byU x n = byI x n := by
  unfold byU byI
  rw [wrapF_eq, wrapF_eq, wrapF_eq, shrV_eq, shrV_eq]
  rcases (show n = 0 ∨ n = 1 ∨ n = 2 ∨ n = 3 by omega) with rfl | rfl | rfl | rfl
  all_goals
    rw [Int.fdiv_eq_ediv_of_nonneg _ (by decide), Int.fdiv_eq_ediv_of_nonneg _ (by decide)]
    simp [IntKind.wrap, IntKind.bits, IntKind.signed]
    try omega
theorem wN_le (k : UInt8) : wN k ≤ 4 := by
  unfold wN
  cases Nat.beq k.toNat 107 || Nat.beq k.toNat 102 || Nat.beq k.toNat 103 || Nat.beq k.toNat 100 <;> cases Nat.beq k.toNat 110 <;> simp
theorem opL_eq (x : Int) : ∀ n, n ≤ 4 → opL byU x n = opL byI x n
  | 0, _ => rfl
  | n + 1, h => by rw [opL, opL, byU_eq x n (by omega), opL_eq x n (by omega)]
theorem putL_eq : ∀ (ks : List UInt8) (xs : List Int), putL byU ks xs = putL byI ks xs
  | [], _ => by simp [putL]
  | _ :: _, [] => by simp [putL]
  | k :: ks, x :: xs => by rw [putL, putL, opL_eq x _ (wN_le k), putL_eq ks xs]
theorem putB_eq (i : Nat) (x0 x1 x2 x3 x4 x5 x6 : Int) : putB byU i x0 x1 x2 x3 x4 x5 x6 = putB byI i x0 x1 x2 x3 x4 x5 x6 := by rw [putB, putB, putL_eq]

theorem insA_rel (ρ : Emb) (i : Nat) (x0 x1 x2 x3 x4 x5 x6 : Int) : VRel ρ (insA i x0 x1 x2 x3 x4 x5 x6) (insV i x0 x1 x2 x3 x4 x5 x6) :=
  .agg (.cons (.int _ _) (.cons (.int _ _) (.cons (.int _ _) (.cons (.int _ _) (.cons (.int _ _) (.cons (.int _ _) (.cons (.int _ _) (.cons (.int _ _) .nil))))))))

theorem rput_yes (i : Nat) (hi : i < 27) (x0 x1 x2 x3 x4 x5 x6 : Int) (w : World) (hg : Gl w) :
    Calls Tryz.prog 18 #[insV i x0 x1 x2 x3 x4 x5 x6] w fun e w' => ∃ v, e = .returned v ∧ BytesAt w' v (putB byI i x0 x1 x2 x3 x4 x5 x6) ∧ Below w.heap.size w w' := by
  obtain ⟨e0, hw⟩ := hg.rel
  obtain ⟨b, o, l, c, ex, H', h1, h2, h3⟩ := cellsOut_ret (of_map (rput_runs x0 x1 x2 x3 x4 x5 x6 e0) hi)
  rw [putB_eq] at h2
  refine (topR_below fits (soundF 100) (f := 18) (args' := #[insV i x0 x1 x2 x3 x4 x5 x6]) hw (.cons (insA_rel _ _ _ _ _ _ _ _ _) .nil) h1 h3).mono ?_
  rintro e w' ⟨x, ρ', hx, rfl, hst, hB⟩
  exact ⟨x, rfl, bytesAt_of hst.wrel hx h2, hB⟩
end Go.Proofs.YtblklgcpobbfcaaGreatDoor

namespace Go.Proofs.YtblklgcpobbfcaaGreatDoor
open Go.Eng Go.RowKit
set_option maxRecDepth 1000000

noncomputable def sq1 : Code → Code
  | .seq a _ => a
  | c => c
noncomputable def sq2 : Code → Code
  | .seq _ b => b
  | c => c
noncomputable abbrev bd15 : Code := Tryz.f15.body.getD .skip

noncomputable def boxA (i : Nat) (x0 x1 x2 x3 x4 x5 x6 : Int) : ABlk := .cells [.int .i64 (Int.ofNat i), .int .i64 x0, .int .i64 x1, .int .i64 x2, .int .i64 x3, .int .i64 x4, .int .i64 x5, .int .i64 x6] 38 .rw
noncomputable def tm15 (i : Nat) (x0 x1 x2 x3 x4 x5 x6 : Int) : List AVal :=
  [insA i x0 x1 x2 x3 x4 x5 x6, .ptr 11 0, .nilSlice, .int .i64 0, .undef, .undef, .undef, .undef, insA i x0 x1 x2 x3 x4 x5 x6, .bool true, .bool false]

/-- A run that comes to a slice of bytes and no error: its cells. -/
noncomputable def cellsOut2 (n : Nat) : ER → Option (List AVal × Bool)
  | .ret (.tuple [.slice b o l _ z _, .int .i64 (.ofNat 0)]) H' => match H'.cellsAt b o l with
    | some cs => some (cs, Nat.ble n H'.low && Nat.ble n b && Nat.beq z 1)
    | none => none
  | _ => none
theorem cellsOut2_ret {n : Nat} {r : ER} {ns : List Int} (h : cellsOut2 n r = some (ns.map (AVal.int .u8), true)) : ∃ b o l c ex H', r = .ret (.tuple [.slice b o l c 1 ex, .int .i64 0]) H' ∧ H'.cellsAt b o l = some (ns.map (AVal.int .u8)) ∧ n ≤ H'.low := by
  unfold cellsOut2 at h
  split at h
  · rename_i b o l c z ex H'
    split at h
    · rename_i cs hcs
      simp only [Option.some.injEq, Prod.mk.injEq, Bool.and_eq_true] at h
      obtain ⟨rfl, ⟨h1, _⟩, h3⟩ := h
      obtain rfl := Nat.eq_of_beq_eq_true h3
      exact ⟨_, _, _, _, _, _, rfl, hcs, Nat.le_of_ble_eq_true h1⟩
    · cases h
  · cases h

noncomputable def rs15 : List BRes := (cresults Tryz.prog Tryz.f15.ntmps Tryz.f15.results.toList).getD []
theorem rs15_eq : cresults Tryz.prog Tryz.f15.ntmps Tryz.f15.results.toList = some rs15 := by kernel_rfl

theorem put_runs (x0 x1 x2 x3 x4 x5 x6 : Int) (e0 : TypeId) :
    (List.range 27).map (fun i => cellsOut2 12 (tailE Tryz.prog (ccode Tryz.prog Tryz.f15.ntmps (sq2 (sq2 bd15))) rs15 (putFrom (tm15 i x0 x1 x2 x3 x4 x5 x6) 0 .leaf) ((G0 e0).new (boxA i x0 x1 x2 x3 x4 x5 x6)) (tabF Tryz.prog 100))) =
    (List.range 27).map (fun i => some ((putB byI i x0 x1 x2 x3 x4 x5 x6).map (AVal.int .u8), true)) := by kernel_rfl
end Go.Proofs.YtblklgcpobbfcaaGreatDoor

namespace Go.Proofs.YtblklgcpobbfcaaGreatDoor
open Go.Eng Go.RowKit
set_option maxRecDepth 1000000

theorem box_stp {ρ : Emb} {e0 : TypeId} {w : World} (hw : WRel Tryz.prog ρ (G0 e0) w) (i : Nat) (x0 x1 x2 x3 x4 x5 x6 : Int) :
    ∃ ρ', WRel Tryz.prog ρ' ((G0 e0).new (boxA i x0 x1 x2 x3 x4 x5 x6)) (w.alloc (boxO i x0 x1 x2 x3 x4 x5 x6)) ∧ ρ' 11 = some ⟨w.heap.size, 0, 8⟩ := by
  refine ⟨_, (stp_new hw (room := 8) rfl (x := boxA i x0 x1 x2 x3 x4 x5 x6) (o := boxO i x0 x1 x2 x3 x4 x5 x6) ?_ rfl).wrel, by simp [G0]⟩
  refine .cells rfl (fun j v hj => ?_) (fun _ => ⟨by simp, by simp, fun k _ h => by omega⟩)
  rcases (show j = 0 ∨ j = 1 ∨ j = 2 ∨ j = 3 ∨ j = 4 ∨ j = 5 ∨ j = 6 ∨ j = 7 ∨ 8 ≤ j by omega) with rfl | rfl | rfl | rfl | rfl | rfl | rfl | rfl | h
  all_goals first
    | (simp only [List.getElem?_cons_zero, List.getElem?_cons_succ, Option.some.injEq] at hj
       subst hj
       exact ⟨_, rfl, .int _ _⟩)
    | (rw [List.getElem?_eq_none (by simp; omega)] at hj; cases hj)

/-- The frame behind the test. -/
abbrev fr15 (i : Nat) (x0 x1 x2 x3 x4 x5 x6 : Int) (b : Nat) : Act :=
  ⟨#[insV i x0 x1 x2 x3 x4 x5 x6, .pointer (some ⟨b, 0, none⟩), .slice none 0 0, .int .i64 0, undef, undef, undef, undef, insV i x0 x1 x2 x3 x4 x5 x6, .bool true, .bool false] ++ Array.replicate 33 undef, []⟩
def put15 (i : Nat) (x0 x1 x2 x3 x4 x5 x6 : Int) (w : World) (e : Ending) (w' : World) : Prop :=
  ∃ v, e = .returned (.tuple #[v, .int .i64 0]) ∧ BytesAt w' v (putB byI i x0 x1 x2 x3 x4 x5 x6) ∧ Below w.heap.size w w'

theorem put_tail (i : Nat) (hi : i < 27) (x0 x1 x2 x3 x4 x5 x6 : Int) (w : World) (hg : Gl w) (w1 : World) (hB : Below (w.alloc (boxO i x0 x1 x2 x3 x4 x5 x6)).heap.size (w.alloc (boxO i x0 x1 x2 x3 x4 x5 x6)) w1) :
    TailOk Tryz.prog (tabF Tryz.prog 100) Tryz.f15.ntmps (sq2 (sq2 bd15)) rs15 (put15 i x0 x1 x2 x3 x4 x5 x6 w) (fr15 i x0 x1 x2 x3 x4 x5 x6 w.heap.size) w1 := by
  obtain ⟨e0, hw⟩ := hg.rel
  obtain ⟨ρ1, hw1, hp1⟩ := box_stp hw i x0 x1 x2 x3 x4 x5 x6
  obtain ⟨b, o, l, c, ex, H', h1, h2, h3⟩ := cellsOut2_ret (of_map (put_runs x0 x1 x2 x3 x4 x5 x6 e0) hi)
  have hw2 := (stp_below hw1 hB).wrel
  refine ⟨by kernel_rfl, rfl, ρ1, _, _, _, H', hw2, enter_tm (args := tm15 i x0 x1 x2 x3 x4 x5 x6) ?_ _, h1, ?_⟩
  · have hptr : VRel ρ1 (.ptr 11 0) (.pointer (some ⟨w.heap.size, 0, none⟩)) := .ptr hp1
    exact .cons (insA_rel _ _ _ _ _ _ _ _ _) (.cons hptr (.cons .nilSlice (.cons (.int _ _) (.cons (.tuple .nil) (.cons (.tuple .nil) (.cons (.tuple .nil) (.cons (.tuple .nil) (.cons (insA_rel _ _ _ _ _ _ _ _ _) (.cons (.bool _) (.cons (.bool _) .nil))))))))))
  · intro ρ' x w' hx hst
    cases hx with
    | tuple hs =>
      cases hs with
      | cons hv hs =>
        cases hs with
        | cons hz hs =>
          cases hz
          cases hs
          rename_i xv
          refine ⟨xv, rfl, bytesAt_of hst.wrel hv h2, ?_⟩
          have hB1 : Below w1.heap.size w1 w' := ⟨hst.os, hst.tape, hst.output, hst.size, fun r hr => hst.frame r hr fun b p _ hp _ => Nat.lt_of_lt_of_le (hw2.lt hp) h3⟩
          have hB0 : Below w.heap.size w (w.alloc (boxO i x0 x1 x2 x3 x4 x5 x6)) := (Below.refl _ _).alloc (Nat.le_refl _) _
          exact step (step hB0 hB) hB1

theorem put_split (i : Nat) (x0 x1 x2 x3 x4 x5 x6 : Int) (w : World) (K : Act → World → Prop)
    (HV : Calls Tryz.prog 39 #[insV i x0 x1 x2 x3 x4 x5 x6] (w.alloc (boxO i x0 x1 x2 x3 x4 x5 x6)) fun e w' => e = .returned (.bool true) ∧ Below (w.alloc (boxO i x0 x1 x2 x3 x4 x5 x6)).heap.size (w.alloc (boxO i x0 x1 x2 x3 x4 x5 x6)) w')
    (HEND : Aside (∀ (a : Act) (w1 : World), Below (w.alloc (boxO i x0 x1 x2 x3 x4 x5 x6)).heap.size (w.alloc (boxO i x0 x1 x2 x3 x4 x5 x6)) w1 → a = fr15 i x0 x1 x2 x3 x4 x5 x6 w.heap.size → K a w1)) :
    wps Tryz.prog K [sq1 bd15, sq1 (sq2 bd15)] { tmps := #[insV i x0 x1 x2 x3 x4 x5 x6] ++ Array.replicate (Tryz.f15.ntmps - (#[insV i x0 x1 x2 x3 x4 x5 x6] : Array Value).size) undef, defers := [] } w := by
  simp only [wps]
  dsimp only [sq1, sq2, bd15, Tryz.f15, Option.getD]
  simp only [List.size_toArray, List.length_cons, List.length_nil, Nat.reduceAdd, Nat.reduceSub, Array.replicate_succ,
     Array.replicate_zero, List.push_toArray, List.append_toArray, List.nil_append, List.cons_append]
  go_wp2_with (go_at_call 39; refine HV.mono ?_; rintro e w1 ⟨rfl, hB⟩)
  exact HEND.out _ _ hB (by kernel_rfl)

theorem put_yes (i : Nat) (hi : i < 27) (x0 x1 x2 x3 x4 x5 x6 : Int) (w : World) (hg : Gl w) (hok : (List.range 7).all (fun j => opOk i j (xAt x0 x1 x2 x3 x4 x5 x6 j)) = true) :
    Calls Tryz.prog 15 #[insV i x0 x1 x2 x3 x4 x5 x6] w (put15 i x0 x1 x2 x3 x4 x5 x6 w) := by
  have HV := valid_yes i hi x0 x1 x2 x3 x4 x5 x6 (w.alloc (boxO i x0 x1 x2 x3 x4 x5 x6)) (hg.alloc _)
  rw [hok] at HV
  exact calls_tail fits (soundF 100) (c := sq2 (sq2 bd15)) [sq1 bd15, sq1 (sq2 bd15)] Tryz.func15 (by kernel_rfl) rs15_eq
    (put_split i x0 x1 x2 x3 x4 x5 x6 w _ HV fun a w1 hB ha => by rw [ha]; exact put_tail i hi x0 x1 x2 x3 x4 x5 x6 w hg w1 hB)
end Go.Proofs.YtblklgcpobbfcaaGreatDoor
