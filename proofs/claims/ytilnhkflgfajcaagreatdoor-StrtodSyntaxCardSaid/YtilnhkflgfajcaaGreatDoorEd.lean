/- The engine, fourth part: the same interpreter written for the kernel's sake; package-level variables. Conditions: none. -/
import Derived.Test.YtilnhkflgfajcaaGreatDoorEc
import Derived.LaidLaws
import Derived.Lib.LaidTab
import Derived.Defers
set_option linter.all false
namespace Go.Eng
set_option linter.unusedSimpArgs false

/-! ### What is taken for granted -/

def extOk (P : Program) (fn : Func) : Bool :=
  fn.body.isSome || (fn.name != "internal/bytealg.IndexByteString" && fn.name != "internal/bytealg.CountString" && fn.name != "internal/abi.NoEscape" && fn.name != "internal/bytealg.MakeNoZero" && fn.name != "internal/bytealg.abigen_runtime_cmpstring") ||
  (fn.origin == "" && (fn.name != "internal/bytealg.MakeNoZero" || (match fn.resultTypes.toList with
    | [t] => match P.underlying t with | some (.slice _) => true | _ => false
    | _ => false)))

def fitB (P : Program) : Bool :=
  P.follows .mixedOrders && P.funcs.toList.all (fun fn => fn.name != "runtime.NumGoroutine" && extOk P fn)

theorem find_name {fn : Func} {name : String} {e : Array Value → Sem Value} (hn : fn.name = name) (h1 : Extern.allGenericRows.lookup name = none) (h2 : Extern.allTypedRows.lookup name = none) (h3 : Extern.allRows.lookup name = some e) :
    Extern.find fn = some e := by
  unfold Extern.find
  simp [hn, h1, h2, h3]

theorem findNext_none {fn : Func} {name : String} (hn : fn.name = name) (ho : fn.origin = "") (h1 : (Extern.allNextRows.lookup name).isNone = true) (h2 : (Extern.allNextRows.lookup "").isNone = true) : Extern.findNext fn = none := by
  unfold Extern.findNext
  simp only [Option.isNone_iff_eq_none] at h1 h2
  simp [hn, ho, h1, h2]

theorem fit_of {P : Program} (h : fitB P = true) : Fit P := by
  unfold fitB at h
  simp only [Bool.and_eq_true, List.all_eq_true] at h
  obtain ⟨hm, hall⟩ := h
  have at' : ∀ (f : Nat) (fn : Func), P.funcs[f]? = some fn → fn.name ≠ "runtime.NumGoroutine" ∧ extOk P fn = true := by
    intro f fn hf
    have := hall fn (by
      have := List.mem_of_getElem? (l := P.funcs.toList) (i := f) (a := fn) (by simpa using hf)
      exact this)
    exact ⟨by simpa using this.1, this.2⟩
  have ext : ∀ (f : Nat) (fn : Func), P.funcs[f]? = some fn → fn.body = none → (fn.name = "internal/bytealg.IndexByteString" ∨ fn.name = "internal/bytealg.CountString" ∨ fn.name = "internal/abi.NoEscape" ∨ fn.name = "internal/bytealg.MakeNoZero" ∨ fn.name = "internal/bytealg.abigen_runtime_cmpstring") →
      fn.origin = "" ∧ (fn.name = "internal/bytealg.MakeNoZero" → ∃ t e, fn.resultTypes = #[t] ∧ P.underlying t = some (.slice e)) := by
    intro f fn hf hb hn
    have := (at' f fn hf).2
    unfold extOk at this
    simp only [hb, Option.isSome_none, Bool.false_or, Bool.or_eq_true, Bool.and_eq_true, bne_iff_ne, ne_eq, beq_iff_eq] at this
    rcases this with ⟨⟨⟨⟨h1, h2⟩, h3⟩, h4⟩, h5⟩ | ⟨h1, h2⟩
    · rcases hn with hn | hn | hn | hn | hn
      · exact absurd hn h1
      · exact absurd hn h2
      · exact absurd hn h3
      · exact absurd hn h4
      · exact absurd hn h5
    · refine ⟨h1, fun hk => ?_⟩
      rcases h2 with h2 | h2
      · exact absurd hk h2
      · split at h2
        · rename_i t ht
          split at h2
          · rename_i e he
            exact ⟨t, e, by rw [← Array.toArray_toList (xs := fn.resultTypes), ht], he⟩
          · cases h2
        · cases h2
  have n1 : (Extern.allNextRows.lookup "internal/bytealg.IndexByteString").isNone = true := by decide +kernel
  have n2 : (Extern.allNextRows.lookup "internal/bytealg.CountString").isNone = true := by decide +kernel
  have n3 : (Extern.allNextRows.lookup "internal/abi.NoEscape").isNone = true := by decide +kernel
  have n4 : (Extern.allNextRows.lookup "internal/bytealg.MakeNoZero").isNone = true := by decide +kernel
  have n5 : (Extern.allNextRows.lookup "internal/bytealg.abigen_runtime_cmpstring").isNone = true := by decide +kernel
  have n0 : (Extern.allNextRows.lookup "").isNone = true := by decide +kernel
  refine ⟨hm, fun f fn hf => (at' f fn hf).1, ?_, ?_, ?_, ?_, ?_⟩
  · intro f fn hf hb hn
    exact ⟨findNext_none hn (ext f fn hf hb (.inl hn)).1 n1 n0, find_name hn rfl rfl rfl⟩
  · intro f fn hf hb hn
    exact ⟨findNext_none hn (ext f fn hf hb (.inr (.inl hn))).1 n2 n0, find_name hn rfl rfl rfl⟩
  · intro f fn hf hb hn
    exact ⟨findNext_none hn (ext f fn hf hb (.inr (.inr (.inl hn)))).1 n3 n0, find_name hn rfl rfl rfl⟩
  · intro f fn hf hb hn
    exact ⟨findNext_none hn (ext f fn hf hb (.inr (.inr (.inr (.inr hn))))).1 n5 n0, find_name hn rfl rfl rfl⟩
  · intro f fn hf hb hn
    obtain ⟨h1, h2⟩ := ext f fn hf hb (.inr (.inr (.inr (.inl hn))))
    refine ⟨findNext_none hn h1 n4 n0, ?_, h2 hn⟩
    unfold Extern.find
    have g1 : Extern.allGenericRows.lookup "internal/bytealg.MakeNoZero" = none := rfl
    have g2 : Extern.allTypedRows.lookup "internal/bytealg.MakeNoZero" = some Extern.BytealgMakeNoZero.makeNoZero := rfl
    simp [hn, g1, g2]

/-! ### Memory as a program finds it: package-level variables alone -/

def globEmb (P : Program) : Emb := fun g => if g < P.globals.size then some ⟨g, 0, 0⟩ else none

/-- The abstract cells of a variable are those of the world. -/
def GlobAt (w : World) (g : Nat) (cs : List AVal) : Prop :=
  ∃ (arr : Array Value) (e : TypeId) (lohi : Nat × Nat), w.heap[g]? = some (.cells arr e lohi) ∧ ∀ (i : Nat) (v : AVal), cs[i]? = some v → ∃ x, arr[i]? = some x ∧ VRel (fun _ => none) v x

theorem wrel_globals {P : Program} {w : World} {H : AHeap} (hn : H.next = P.globals.size)
    (hb : ∀ g blk, g < P.globals.size → H.get g = some blk → ∃ cs e, blk = .cells cs e .sh ∧ ∃ (arr : Array Value) (lohi : Nat × Nat), w.heap[g]? = some (.cells arr e lohi) ∧
      ∀ (i : Nat) (v : AVal), cs[i]? = some v → ∃ x, arr[i]? = some x ∧ VRel (fun _ => none) v x) : WRel P (globEmb P) H w where
  blocks b blk hlt e := by
    rw [hn] at hlt
    obtain ⟨cs, t, rfl, arr, ⟨lo, hi⟩, h1, h2⟩ := hb b blk hlt e
    refine ⟨⟨b, 0, 0⟩, _, by unfold globEmb; rw [if_pos hlt], h1, .cells rfl (fun i v hv => ?_) (fun h => by cases h)⟩
    obtain ⟨x, h3, h4⟩ := h2 i v hv
    exact ⟨x, by simpa using h3, h4.mono fun b p e => by cases e⟩
  inj b c x y p q hb' _ hx _ _ hown _ _ := by
    rw [hn] at hb'
    obtain ⟨cs, t, rfl, _⟩ := hb b x hb' hx
    cases hown
  fresh b hlt := by
    unfold globEmb
    rw [if_neg (by omega)]
  glob g hg := ⟨⟨g, 0, 0⟩, by unfold globEmb; rw [if_pos hg], rfl, rfl⟩

end Go.Eng

namespace Go.Eng
set_option linter.unusedSimpArgs false
noncomputable section

def ik (k : IntKind) : Nat := IntKind.rec (motive := fun _ => Nat) 0 1 2 3 4 5 6 7 k
theorem ik_eq (k k' : IntKind) : Nat.beq (ik k) (ik k') = decide (k = k') := by cases k <;> cases k' <;> rfl

/-- A natural number below this is one of the kind. -/
def kTop (k : IntKind) : Nat := IntKind.rec (motive := fun _ => Nat) 128 32768 2147483648 9223372036854775808 256 65536 4294967296 18446744073709551616 k
/-- So is a negative one, -m - 1, at m below this. -/
def kLow (k : IntKind) : Nat := IntKind.rec (motive := fun _ => Nat) 128 32768 2147483648 9223372036854775808 0 0 0 0 k

def inRN (m : Nat) (k : IntKind) : Bool := Nat.blt m (kTop k)
def inRS (m : Nat) (k : IntKind) : Bool := Nat.blt m (kLow k)
def inR (n : Int) (k : IntKind) : Bool := Int.rec (motive := fun _ => IntKind → Bool) inRN inRS n k
def wrapF (k : IntKind) (n : Int) : Int := Bool.rec (motive := fun _ => Int) (k.wrap n) n (inR n k)

theorem wrap_in {k : IntKind} {n : Int} (h : inR n k = true) : k.wrap n = n := by
  cases n with
  | ofNat m =>
    have h : m < kTop k := blt_iff.1 h
    unfold IntKind.wrap
    simp only [Int.ofNat_eq_natCast]
    cases k <;> simp only [kTop] at h <;> simp [IntKind.bits, IntKind.signed] <;> omega
  | negSucc m =>
    have h : m < kLow k := blt_iff.1 h
    unfold IntKind.wrap
    have e : Int.negSucc m = -(m : Int) - 1 := by omega
    rw [e]
    cases k <;> simp only [kLow] at h <;> first | omega | (simp [IntKind.bits, IntKind.signed]; omega)

theorem wrapF_eq (k : IntKind) (n : Int) : wrapF k n = k.wrap n := by
  unfold wrapF
  cases h : inR n k with
  | false => rfl
  | true => exact (wrap_in h).symm

/-! ### Integers -/

def addN (a : Nat) (y : Int) : Int := Int.rec (motive := fun _ => Int) (fun b => .ofNat (Nat.add a b)) (fun b => Int.add (.ofNat a) (.negSucc b)) y
def addS (a : Nat) (y : Int) : Int := Int.add (.negSucc a) y
def addF (x y : Int) : Int := Int.rec (motive := fun _ => Int → Int) addN addS x y
theorem addF_eq (x y : Int) : addF x y = x + y := by cases x <;> cases y <;> rfl

def subNN (a b : Nat) : Int := Bool.rec (motive := fun _ => Int) (.negSucc (Nat.sub (Nat.sub b a) 1)) (.ofNat (Nat.sub a b)) (Nat.ble b a)
def subN (a : Nat) (y : Int) : Int := Int.rec (motive := fun _ => Int) (fun b => subNN a b) (fun b => Int.sub (.ofNat a) (.negSucc b)) y
def subS (a : Nat) (y : Int) : Int := Int.sub (.negSucc a) y
def subF (x y : Int) : Int := Int.rec (motive := fun _ => Int → Int) subN subS x y
theorem subF_eq (x y : Int) : subF x y = x - y := by
  cases x with
  | negSucc a => rfl
  | ofNat a =>
    cases y with
    | negSucc b => rfl
    | ofNat b =>
      show subNN a b = _
      unfold subNN
      cases h : Nat.ble b a with
      | true =>
        have := ble_iff.1 h
        show ((Nat.sub a b : Nat) : Int) = (a : Int) - b
        have e : Nat.sub a b = a - b := rfl
        rw [e]; omega
      | false =>
        have : ¬ b ≤ a := fun e => by rw [ble_iff.2 e] at h; cases h
        show Int.negSucc (Nat.sub (Nat.sub b a) 1) = (a : Int) - b
        have e : Nat.sub (Nat.sub b a) 1 = b - a - 1 := rfl
        rw [e]; omega

def mulN (a : Nat) (y : Int) : Int := Int.rec (motive := fun _ => Int) (fun b => .ofNat (Nat.mul a b)) (fun b => Int.mul (.ofNat a) (.negSucc b)) y
def mulS (a : Nat) (y : Int) : Int := Int.mul (.negSucc a) y
def mulF (x y : Int) : Int := Int.rec (motive := fun _ => Int → Int) mulN mulS x y
theorem mulF_eq (x y : Int) : mulF x y = x * y := by cases x <;> cases y <;> rfl

def ltN (a : Nat) (y : Int) : Bool := Int.rec (motive := fun _ => Bool) (fun b => Nat.blt a b) (fun _ => false) y
def ltS (a : Nat) (y : Int) : Bool := Int.rec (motive := fun _ => Bool) (fun _ => true) (fun b => Nat.blt b a) y
def ltF (x y : Int) : Bool := Int.rec (motive := fun _ => Int → Bool) ltN ltS x y
theorem ltF_eq (x y : Int) : ltF x y = Int.ltB x y := by cases x <;> cases y <;> rfl

def eqN (a : Nat) (y : Int) : Bool := Int.rec (motive := fun _ => Bool) (fun b => Nat.beq a b) (fun _ => false) y
def eqS (a : Nat) (y : Int) : Bool := Int.rec (motive := fun _ => Bool) (fun _ => false) (fun b => Nat.beq a b) y
def eqF (x y : Int) : Bool := Int.rec (motive := fun _ => Int → Bool) eqN eqS x y
theorem eqF_eq (x y : Int) : eqF x y = Int.eqB x y := by cases x <;> cases y <;> rfl

/-- Two natural numbers of a kind, bit by bit. -/
def bitsF (f : Nat → Nat → Nat) (slow : IntKind → Int → Int → Int) (k : IntKind) (x y : Int) : Int :=
  Int.rec (motive := fun _ => Int)
    (fun a => Int.rec (motive := fun _ => Int)
      (fun b => Bool.rec (motive := fun _ => Int) (slow k (.ofNat a) (.ofNat b)) (Bool.rec (motive := fun _ => Int) (slow k (.ofNat a) (.ofNat b)) (.ofNat (f a b)) (inRN b k)) (inRN a k))
      (fun b => slow k (.ofNat a) (.negSucc b)) y)
    (fun a => slow k (.negSucc a) y) x

def andS (k : IntKind) (x y : Int) : Int := k.wrap (BitVec.ofInt k.bits x &&& BitVec.ofInt k.bits y).toNat
def orS (k : IntKind) (x y : Int) : Int := k.wrap (BitVec.ofInt k.bits x ||| BitVec.ofInt k.bits y).toNat
def xorS (k : IntKind) (x y : Int) : Int := k.wrap (BitVec.ofInt k.bits x ^^^ BitVec.ofInt k.bits y).toNat

theorem kTop_pow (k : IntKind) : ∃ p, kTop k = 2 ^ p ∧ p ≤ k.bits := by
  cases k
  · exact ⟨7, rfl, by decide⟩
  · exact ⟨15, rfl, by decide⟩
  · exact ⟨31, rfl, by decide⟩
  · exact ⟨63, rfl, by decide⟩
  · exact ⟨8, rfl, by decide⟩
  · exact ⟨16, rfl, by decide⟩
  · exact ⟨32, rfl, by decide⟩
  · exact ⟨64, rfl, by decide⟩

theorem ofInt_toNat {k : IntKind} {a : Nat} (h : a < kTop k) : (BitVec.ofInt k.bits (Int.ofNat a)).toNat = a := by
  obtain ⟨p, h1, h2⟩ := kTop_pow k
  have : a < 2 ^ k.bits := Nat.lt_of_lt_of_le (h1 ▸ h) (Nat.pow_le_pow_right (by omega) h2)
  simp only [Int.ofNat_eq_natCast, BitVec.ofInt_natCast, BitVec.toNat_ofNat]
  exact Nat.mod_eq_of_lt this

theorem bitsF_eq {f : Nat → Nat → Nat} {slow : IntKind → Int → Int → Int} (h : ∀ k a b, a < kTop k → b < kTop k → slow k (.ofNat a) (.ofNat b) = .ofNat (f a b)) (k : IntKind) (x y : Int) : bitsF f slow k x y = slow k x y := by
  cases x with
  | negSucc a => rfl
  | ofNat a =>
    cases y with
    | negSucc b => rfl
    | ofNat b =>
      show Bool.rec (motive := fun _ => Int) (slow k (.ofNat a) (.ofNat b)) (Bool.rec (motive := fun _ => Int) (slow k (.ofNat a) (.ofNat b)) (.ofNat (f a b)) (inRN b k)) (inRN a k) = _
      cases ha : inRN a k with
      | false => rfl
      | true =>
        cases hb : inRN b k with
        | false => rfl
        | true => exact (h k a b (blt_iff.1 ha) (blt_iff.1 hb)).symm

theorem and_fast (k : IntKind) (x y : Int) : bitsF Nat.land andS k x y = andS k x y := bitsF_eq (fun k a b ha hb => by
  unfold andS
  rw [BitVec.toNat_and, ofInt_toNat ha, ofInt_toNat hb]
  exact wrap_in (n := .ofNat (a &&& b)) (blt_iff.2 (Nat.lt_of_le_of_lt Nat.and_le_left ha))) k x y
theorem or_fast (k : IntKind) (x y : Int) : bitsF Nat.lor orS k x y = orS k x y := bitsF_eq (fun k a b ha hb => by
  unfold orS
  rw [BitVec.toNat_or, ofInt_toNat ha, ofInt_toNat hb]
  obtain ⟨p, h1, h2⟩ := kTop_pow k
  rw [h1] at ha hb
  exact wrap_in (n := .ofNat (a ||| b)) (blt_iff.2 (by rw [h1]; exact Nat.or_lt_two_pow ha hb))) k x y
theorem xor_fast (k : IntKind) (x y : Int) : bitsF Nat.xor xorS k x y = xorS k x y := bitsF_eq (fun k a b ha hb => by
  unfold xorS
  rw [BitVec.toNat_xor, ofInt_toNat ha, ofInt_toNat hb]
  obtain ⟨p, h1, h2⟩ := kTop_pow k
  rw [h1] at ha hb
  exact wrap_in (n := .ofNat (a ^^^ b)) (blt_iff.2 (by rw [h1]; exact Nat.xor_lt_two_pow ha hb))) k x y

def kBits (k : IntKind) : Nat := IntKind.rec (motive := fun _ => Nat) 8 16 32 64 8 16 32 64 k
theorem kBits_eq (k : IntKind) : kBits k = k.bits := by cases k <;> rfl

def iB (b : Bool) : Option AVal := some (.bool b)
def iAdd (k : IntKind) (x y : Int) : Option AVal := some (.int k (wrapF k (addF x y)))
def iSub (k : IntKind) (x y : Int) : Option AVal := some (.int k (wrapF k (subF x y)))
def iMul (k : IntKind) (x y : Int) : Option AVal := some (.int k (wrapF k (mulF x y)))
def iQuo (k : IntKind) (x y : Int) : Option AVal := intOp .quo k x y
def iRem (k : IntKind) (x y : Int) : Option AVal := intOp .rem k x y
def iAnd (k : IntKind) (x y : Int) : Option AVal := some (.int k (bitsF Nat.land andS k x y))
def iOr (k : IntKind) (x y : Int) : Option AVal := some (.int k (bitsF Nat.lor orS k x y))
def iXor (k : IntKind) (x y : Int) : Option AVal := some (.int k (bitsF Nat.xor xorS k x y))
def iNone (_ : IntKind) (_ _ : Int) : Option AVal := none
def iAndNot (k : IntKind) (x y : Int) : Option AVal := intOp .andNot k x y
def iEql (_ : IntKind) (x y : Int) : Option AVal := iB (eqF x y)
def iNeq (_ : IntKind) (x y : Int) : Option AVal := iB (!eqF x y)
def iLss (_ : IntKind) (x y : Int) : Option AVal := iB (ltF x y)
def iLeq (_ : IntKind) (x y : Int) : Option AVal := iB (!ltF y x)
def iGtr (_ : IntKind) (x y : Int) : Option AVal := iB (ltF y x)
def iGeq (_ : IntKind) (x y : Int) : Option AVal := iB (!ltF x y)

def intOpF (op : BinOp) (k : IntKind) (x y : Int) : Option AVal :=
  BinOp.rec (motive := fun _ => IntKind → Int → Int → Option AVal) iAdd iSub iMul iQuo iRem iAnd iOr iXor iNone iNone iAndNot iEql iNeq iLss iLeq iGtr iGeq op k x y

theorem intOpF_eq (op : BinOp) (k : IntKind) (x y : Int) : intOpF op k x y = intOp op k x y := by
  cases op <;> simp only [intOpF, intOp, iAdd, iSub, iMul, iQuo, iRem, iAnd, iOr, iXor, iNone, iAndNot, iEql, iNeq, iLss, iLeq, iGtr, iGeq, iB, boolA, wrapF_eq, addF_eq, subF_eq, mulF_eq, ltF_eq, eqF_eq, and_fast, or_fast, xor_fast, andS, orS, xorS]

def shlF (k : IntKind) (x y : Int) : Option AVal :=
  Int.rec (motive := fun _ => Option AVal) (fun n => some (.int k (wrapF k (mulF x (.ofNat (Nat.pow 2 (Nat.min n (kBits k)))))))) (fun _ => none) y
def shrN (a m : Nat) : Int := .ofNat (Nat.div a (Nat.pow 2 m))
def shrF (k : IntKind) (x y : Int) : Option AVal :=
  Int.rec (motive := fun _ => Option AVal) (fun n => some (.int k (Int.rec (motive := fun _ => Int) (fun a => shrN a (Nat.min n (kBits k))) (fun a => (Int.negSucc a).fdiv (2 ^ Nat.min n k.bits)) x))) (fun _ => none) y

def shiftOpF (op : BinOp) (k : IntKind) (x y : Int) : Option AVal :=
  BinOp.rec (motive := fun _ => IntKind → Int → Int → Option AVal) iNone iNone iNone iNone iNone iNone iNone iNone shlF shrF iNone iNone iNone iNone iNone iNone iNone op k x y

theorem shiftOpF_eq (op : BinOp) (k : IntKind) (x y : Int) : shiftOpF op k x y = shiftOp op k x y := by
  cases op <;> try rfl
  · cases y with
    | negSucc n => rfl
    | ofNat n =>
      show some (AVal.int k (wrapF k (mulF x (.ofNat (Nat.pow 2 (Nat.min n (kBits k))))))) = some (.int k (k.wrap (x * 2 ^ Nat.min n k.bits)))
      rw [wrapF_eq, mulF_eq, kBits_eq]
      have : (Int.ofNat (Nat.pow 2 (Nat.min n k.bits)) : Int) = 2 ^ Nat.min n k.bits := by
        show ((2 ^ Nat.min n k.bits : Nat) : Int) = _
        simp
      rw [this]
  · cases y with
    | negSucc n => rfl
    | ofNat n =>
      cases x with
      | negSucc a => rfl
      | ofNat a =>
        show some (AVal.int k (shrN a (Nat.min n (kBits k)))) = some (.int k ((Int.ofNat a).fdiv (2 ^ Nat.min n k.bits)))
        rw [kBits_eq]
        have : (2 ^ Nat.min n k.bits : Int) = ((2 ^ Nat.min n k.bits : Nat) : Int) := by simp
        rw [this]
        cases a with
        | zero =>
          show some (AVal.int k (.ofNat (Nat.div 0 (Nat.pow 2 (Nat.min n k.bits))))) = _
          have e : Nat.div 0 (Nat.pow 2 (Nat.min n k.bits)) = 0 := Nat.zero_div _
          rw [e]; rfl
        | succ a => rfl

end
end Go.Eng

namespace Go.Eng
set_option linter.unusedSimpArgs false
noncomputable section

/-! ### Looking at values -/

/-- What to do at an integer, and what else. -/
def onInt {β : Type} (v : AVal) : (IntKind → Int → β) → β → β :=
  AVal.rec (motive_1 := fun _ => (IntKind → Int → β) → β → β) (motive_2 := fun _ => Unit)
    (fun _ _ z => z) (fun k n f _ => f k n) (fun _ _ z => z) (fun _ _ _ z => z) (fun _ z => z) (fun _ _ _ _ _ _ _ z => z) (fun _ z => z) (fun _ z => z) (fun _ _ z => z) (fun _ z => z)
    (fun _ _ _ _ _ _ z => z) (fun _ _ z => z) (fun _ z => z) (fun _ _ _ _ z => z) (fun _ z => z) (fun _ _ _ z => z) (fun _ _ _ z => z) () (fun _ _ _ _ => ()) v

def onPtr {β : Type} (v : AVal) : (Nat → Nat → β) → β → β :=
  AVal.rec (motive_1 := fun _ => (Nat → Nat → β) → β → β) (motive_2 := fun _ => Unit)
    (fun _ _ z => z) (fun _ _ _ z => z) (fun _ _ z => z) (fun b o f _ => f b o) (fun _ z => z) (fun _ _ _ _ _ _ _ z => z) (fun _ z => z) (fun _ z => z) (fun _ _ z => z) (fun _ z => z)
    (fun _ _ _ _ _ _ z => z) (fun _ _ z => z) (fun _ z => z) (fun _ _ _ _ z => z) (fun _ z => z) (fun _ _ _ z => z) (fun _ _ _ z => z) () (fun _ _ _ _ => ()) v

def onTuple {β : Type} (v : AVal) : (List AVal → β) → β → β :=
  AVal.rec (motive_1 := fun _ => (List AVal → β) → β → β) (motive_2 := fun _ => Unit)
    (fun _ _ z => z) (fun _ _ _ z => z) (fun _ _ z => z) (fun _ _ _ z => z) (fun _ z => z) (fun _ _ _ _ _ _ _ z => z) (fun _ z => z) (fun _ z => z) (fun _ _ z => z) (fun _ z => z)
    (fun _ _ _ _ _ _ z => z) (fun _ _ z => z) (fun _ z => z) (fun _ _ _ _ z => z) (fun _ z => z) (fun _ _ _ z => z) (fun vs _ f _ => f vs) () (fun _ _ _ _ => ()) v

def onBool {β : Type} (v : AVal) : β → β → β → β :=
  AVal.rec (motive_1 := fun _ => β → β → β → β) (motive_2 := fun _ => Unit)
    (fun b x y _ => Bool.rec (motive := fun _ => β) y x b) (fun _ _ _ _ z => z) (fun _ _ _ z => z) (fun _ _ _ _ z => z) (fun _ _ z => z) (fun _ _ _ _ _ _ _ _ z => z) (fun _ _ z => z) (fun _ _ z => z) (fun _ _ _ z => z) (fun _ _ z => z)
    (fun _ _ _ _ _ _ _ z => z) (fun _ _ _ z => z) (fun _ _ z => z) (fun _ _ _ _ _ z => z) (fun _ _ z => z) (fun _ _ _ _ z => z) (fun _ _ _ _ z => z) () (fun _ _ _ _ => ()) v

theorem onInt_eq {β : Type} (v : AVal) (f : IntKind → Int → β) (z : β) : onInt v f z = (match v with | .int k n => f k n | _ => z) := by cases v <;> rfl
theorem onPtr_eq {β : Type} (v : AVal) (f : Nat → Nat → β) (z : β) : onPtr v f z = (match v with | .ptr b o => f b o | _ => z) := by cases v <;> rfl
theorem onTuple_eq {β : Type} (v : AVal) (f : List AVal → β) (z : β) : onTuple v f z = (match v with | .tuple vs => f vs | _ => z) := by cases v <;> rfl

def onCells {β : Type} (x : Option ABlk) : (List AVal → TypeId → Wr → β) → β → β :=
  Option.rec (motive := fun _ => (List AVal → TypeId → Wr → β) → β → β) (fun _ z => z)
    (fun y => ABlk.rec (motive := fun _ => (List AVal → TypeId → Wr → β) → β → β) (fun cs e w f _ => f cs e w) (fun _ _ z => z) (fun _ _ _ z => z) (fun _ _ z => z) (fun _ _ z => z) y) x

/-! ### Operations -/

def u2IntF (op : BinOp) (x y : AVal) : Option AVal :=
  onInt x (fun k a => onInt y (fun k' b => Bool.rec (motive := fun _ => Option AVal) none (intOpF op k a b) (Nat.beq (ik k) (ik k'))) none) none
theorem u2IntF_eq (op : BinOp) (x y : AVal) : u2IntF op x y = u2Int op x y := by
  cases x <;> try rfl
  cases y <;> try rfl
  rename_i k a k' b
  show Bool.rec (motive := fun _ => Option AVal) none (intOpF op k a b) (Nat.beq (ik k) (ik k')) = _
  rw [ik_eq, intOpF_eq]
  simp only [u2Int]
  cases decide (k = k') <;> rfl

def u2ShiftF (op : BinOp) (x y : AVal) : Option AVal :=
  onInt x (fun k a => onInt y (fun _ b => shiftOpF op k a b) none) none
theorem u2ShiftF_eq (op : BinOp) (x y : AVal) : u2ShiftF op x y = u2Shift op x y := by
  cases x <;> try rfl
  cases y <;> try rfl
  exact shiftOpF_eq _ _ _ _

def u2F (f : U2) : AVal → AVal → Option AVal :=
  U2.rec (motive := fun _ => AVal → AVal → Option AVal) u2IntF u2ShiftF u2Str u2IdxA u2IdxS u2IdxV1 u2IdxVN u2IdxStr f
theorem u2F_eq (f : U2) (x y : AVal) : u2F f x y = f.run x y := by
  cases f <;> first | exact u2IntF_eq _ _ _ | exact u2ShiftF_eq _ _ _ | rfl

def u1F_id (x : AVal) : Option AVal := some x
def u1F_cvt (k : IntKind) (x : AVal) : Option AVal := onInt x (fun _ n => some (.int k (wrapF k n))) none
def u1F_fld (off : Nat) (x : AVal) : Option AVal := onPtr x (fun b o => some (.ptr b (Nat.add o off))) none
def u1F_ext (i : Nat) (x : AVal) : Option AVal := onTuple x (fun vs => getAt vs i) none
def u1F_iface (t : TypeId) (x : AVal) : Option AVal := some (.iface t x)
def u1F_not (x : AVal) : Option AVal := onBool x (some (.bool false)) (some (.bool true)) none
def u1F_lenC (n : Nat) (_ : AVal) : Option AVal := some (.int .i64 n)

def u1F (f : U1) : AVal → Option AVal :=
  U1.rec (motive := fun _ => AVal → Option AVal) u1F_id u1F_not u1Neg u1Com u1F_cvt u1Chk u1Str u1F_iface u1F_fld u1Part1 u1PartN u1Asrt u1AsrtI u1F_ext u1LenStr u1LenSl u1F_lenC u1CapSl u1Sdata f
theorem u1F_eq (f : U1) (x : AVal) : u1F f x = f.run x := by
  cases f <;> try rfl
  · cases x <;> try rfl
    rename_i b; cases b <;> rfl
  · cases x <;> try rfl
    show some (AVal.int _ (wrapF _ _)) = some (AVal.int _ _)
    rw [wrapF_eq]
  · cases x <;> rfl
  · cases x <;> rfl

def m_u (f : U1) (x : BX) (_ : Program) (tm : Tm) (H : AHeap) : OR := ov (u1F f (x.ev tm)) H
def m_b (f : U2) (x y : BX) (_ : Program) (tm : Tm) (H : AHeap) : OR := ov (u2F f (x.ev tm) (y.ev tm)) H
def m_load1 (a : BX) (_ : Program) (tm : Tm) (H : AHeap) : OR := onPtr (a.ev tm) (fun b o => onCells (H.get b) (fun cs _ _ => ov (getAt cs o) H) .x) .x
def m_loadN (n : Nat) (a : BX) (_ : Program) (tm : Tm) (H : AHeap) : OR :=
  onPtr (a.ev tm) (fun b o => onCells (H.get b) (fun cs _ _ => Option.rec (motive := fun _ => OR) .x (fun r => .v (.agg r) H) (sub? cs o n)) .x) .x
def m_alloc (z : List AVal) (e : TypeId) (_ : Program) (_ : Tm) (H : AHeap) : OR := .v (.ptr H.next 0) (H.new (.cells z e .rw))

def memF (op : BOp) : Program → Tm → AHeap → OR :=
  BOp.rec (motive := fun _ => Program → Tm → AHeap → OR) m_u m_b
    (fun a b c d e P tm H => BOp.mem P (.eq a b c d e) tm H) (fun a b c P tm H => BOp.mem P (.pick a b c) tm H) (fun a b P tm H => BOp.mem P (.build a b) tm H) (fun a b c P tm H => BOp.mem P (.mkFunc a b c) tm H)
    (fun a b c P tm H => BOp.mem P (.subStr a b c) tm H) (fun a b c d P tm H => BOp.mem P (.subSl a b c d) tm H) (fun a b c d e P tm H => BOp.mem P (.subArr a b c d e) tm H) (fun a b c P tm H => BOp.mem P (.minmax a b c) tm H)
    m_alloc (fun a b P tm H => BOp.mem P (.box a b) tm H) (fun a b c d e P tm H => BOp.mem P (.mkArr a b c d e) tm H) (fun P tm H => BOp.mem P .mkMap tm H) (fun a b c d e P tm H => BOp.mem P (.mkSlice a b c d e) tm H)
    (fun a b P tm H => BOp.mem P (.toBytes a b) tm H) (fun a b P tm H => BOp.mem P (.toRunes a b) tm H) (fun a P tm H => BOp.mem P (.rng a) tm H) m_load1 m_loadN
    (fun a b c d e P tm H => BOp.mem P (.look a b c d e) tm H) (fun a P tm H => BOp.mem P (.toStr a) tm H) (fun a P tm H => BOp.mem P (.toUns a) tm H) (fun a b c P tm H => BOp.mem P (.ofUns a b c) tm H) (fun a P tm H => BOp.mem P (.lenMap a) tm H)
    (fun a b c P tm H => BOp.mem P (.store a b c) tm H) (fun a b c d P tm H => BOp.mem P (.upd a b c d) tm H) (fun a P tm H => BOp.mem P (.still a) tm H) (fun a P tm H => BOp.mem P (.nxt a) tm H)
    (fun a b c d e P tm H => BOp.mem P (.append a b c d e) tm H) (fun a b c d e f P tm H => BOp.mem P (.appendZ a b c d e f) tm H) (fun a b c P tm H => BOp.mem P (.copy a b c) tm H) (fun a b P tm H => BOp.mem P (.clear a b) tm H) (fun a b c P tm H => BOp.mem P (.ustr a b c) tm H)
    (fun a b P tm H => BOp.mem P (.call a b) tm H) (fun a b P tm H => BOp.mem P (.callV a b) tm H) (fun a b c P tm H => BOp.mem P (.invoke a b c) tm H) (fun a b P tm H => BOp.mem P (.defer a b) tm H) (fun P tm H => BOp.mem P .recover tm H) (fun a P tm H => BOp.mem P (.panic a) tm H) (fun P tm H => BOp.mem P .bad tm H) op

theorem onCells_eq {β : Type} (x : Option ABlk) (f : List AVal → TypeId → Wr → β) (z : β) : onCells x f z = (match x with | some (.cells cs e w) => f cs e w | _ => z) := by
  cases x with
  | none => rfl
  | some y => cases y <;> rfl

theorem memF_eq (op : BOp) (P : Program) (tm : Tm) (H : AHeap) : memF op P tm H = op.mem P tm H := by
  cases op <;> try rfl
  · show ov (u1F _ _) H = _
    rw [u1F_eq]; rfl
  · show ov (u2F _ _ _) H = _
    rw [u2F_eq]; rfl
  · rename_i a
    show onPtr (a.ev tm) _ _ = load1A H (a.ev tm)
    cases a.ev tm <;> try rfl
    rename_i b o
    show onCells (H.get b) _ _ = ov (H.cellAt b o) H
    rw [onCells_eq]
    unfold AHeap.cellAt
    cases H.get b with
    | none => rfl
    | some y => cases y <;> rfl
  · rename_i n a
    show onPtr (a.ev tm) _ _ = loadNA n H (a.ev tm)
    cases a.ev tm <;> try rfl
    rename_i b o
    show onCells (H.get b) _ _ = (match H.cellsAt b o n with | some cs => OR.v (.agg cs) H | none => OR.x)
    rw [onCells_eq]
    unfold AHeap.cellsAt
    cases H.get b with
    | none => rfl
    | some y =>
      cases y <;> try rfl
      rename_i cs e w
      simp only
      cases sub? cs o n <;> rfl

/-! ### Regions -/

def orF (d : Option (List Bool)) (k : Tab → St → CR) (R : Tab) (st : St) (r : OR) : CR :=
  OR.rec (motive := fun _ => CR) (fun x H => k R ⟨putD d x st.tm, st.defs, st.rcv, st.rnd, H⟩) (fun ch H => .pan ch ⟨st.tm, st.defs, st.rcv, st.rnd, H⟩) .fail r
def erF (d : Option (List Bool)) (k : Tab → St → CR) (R : Tab) (st : St) (r : ER) : CR :=
  ER.rec (motive := fun _ => CR) (fun x H => k R ⟨putD d x st.tm, st.defs, st.rcv, st.rnd, H⟩) (fun ch H => .pan ch ⟨st.tm, st.defs, st.rcv, st.rnd, H⟩) .fail r

abbrev OpF := Program → Option (List Bool) → (Tab → St → CR) → Tab → St → CR

def o_call (f : FuncId) (args : List BX) : OpF := fun _ d k R st => erF d k R st (R.call f (evs args st.tm) st.H)
def o_callV (f : BX) (args : List BX) : OpF := fun P d k R st => erF d k R st (callVA P R st.H (evs args st.tm) (f.ev st.tm))
def o_invoke (r : BX) (name : String) (args : List BX) : OpF := fun P d k R st => erF d k R st (callMethodA P R st.H name (evs args st.tm) (r.ev st.tm))
def o_defer (f : BX) (args : List BX) : OpF := fun _ d k R st => goDefer d (k R) st (deferA (f.ev st.tm) (evs args st.tm))
def o_recover : OpF := fun _ d k R st => goRecover d (k R) st
def o_mem (op : BOp) : OpF := fun P d k R st => orF d k R st (memF op P st.tm st.H)
def o_u (f : U1) (x : BX) : OpF := fun P d k R st => orF d k R st (m_u f x P st.tm st.H)
def o_b (f : U2) (x y : BX) : OpF := fun P d k R st => orF d k R st (m_b f x y P st.tm st.H)
def o_load1 (a : BX) : OpF := fun P d k R st => orF d k R st (m_load1 a P st.tm st.H)

def opF (op : BOp) : OpF :=
  BOp.rec (motive := fun _ => OpF) o_u o_b
    (fun a b c d e => o_mem (.eq a b c d e)) (fun a b c => o_mem (.pick a b c)) (fun a b => o_mem (.build a b)) (fun a b c => o_mem (.mkFunc a b c))
    (fun a b c => o_mem (.subStr a b c)) (fun a b c d => o_mem (.subSl a b c d)) (fun a b c d e => o_mem (.subArr a b c d e)) (fun a b c => o_mem (.minmax a b c))
    (fun a b => o_mem (.alloc a b)) (fun a b => o_mem (.box a b)) (fun a b c d e => o_mem (.mkArr a b c d e)) (o_mem .mkMap) (fun a b c d e => o_mem (.mkSlice a b c d e))
    (fun a b => o_mem (.toBytes a b)) (fun a b => o_mem (.toRunes a b)) (fun a => o_mem (.rng a)) o_load1 (fun a b => o_mem (.loadN a b))
    (fun a b c d e => o_mem (.look a b c d e)) (fun a => o_mem (.toStr a)) (fun a => o_mem (.toUns a)) (fun a b c => o_mem (.ofUns a b c)) (fun a => o_mem (.lenMap a))
    (fun a b c => o_mem (.store a b c)) (fun a b c d => o_mem (.upd a b c d)) (fun a => o_mem (.still a)) (fun a => o_mem (.nxt a))
    (fun a b c d e => o_mem (.append a b c d e)) (fun a b c d e f => o_mem (.appendZ a b c d e f)) (fun a b c => o_mem (.copy a b c)) (fun a b => o_mem (.clear a b)) (fun a b c => o_mem (.ustr a b c))
    o_call o_callV o_invoke o_defer o_recover (fun a => o_mem (.panic a)) (o_mem .bad) op

theorem orF_eq (d : Option (List Bool)) (k : Tab → St → CR) (R : Tab) (st : St) (r : OR) : orF d k R st r = goOn d (k R) st r := by cases r <;> rfl
theorem erF_eq (d : Option (List Bool)) (k : Tab → St → CR) (R : Tab) (st : St) (r : ER) : erF d k R st r = goOnE d (k R) st r := by cases r <;> rfl

theorem opF_eq (op : BOp) (P : Program) (d : Option (List Bool)) (k : Tab → St → CR) (R : Tab) (st : St) : opF op P d k R st = doIns P op d (k R) R st := by
  have key : ∀ op : BOp, o_mem op P d k R st = goOn d (k R) st (op.mem P st.tm st.H) := fun op => by
    unfold o_mem
    rw [orF_eq, memF_eq]
  cases op
  case u f x => exact (key (.u f x))
  case b f x y => exact (key (.b f x y))
  case load1 a => exact (key (.load1 a))
  case call f args => exact erF_eq _ _ _ _ _
  case callV f args => exact erF_eq _ _ _ _ _
  case invoke r name args => exact erF_eq _ _ _ _ _
  case defer f args => rfl
  case recover => rfl
  all_goals exact key _

def insF (o : BIns) : Program → (Tab → St → CR) → Tab → St → CR :=
  BIns.rec (motive := fun _ => Program → (Tab → St → CR) → Tab → St → CR)
    (fun d g op => Option.rec (motive := fun _ => Program → (Tab → St → CR) → Tab → St → CR) (fun P k R st => opF op P d k R st)
      (fun gw P k R st => Bool.rec (motive := fun _ => CR) (k R (st.put d .undef st.H)) (opF op P d k R st) (wantedB (some gw) st.tm)) g) o

theorem insF_eq (o : BIns) (P : Program) (k : Tab → St → CR) (R : Tab) (st : St) : insF o P k R st = stepIns P o (k R) R st := by
  obtain ⟨d, g, op⟩ := o
  cases g with
  | none => exact opF_eq _ _ _ _ _ _
  | some gw =>
    show Bool.rec (motive := fun _ => CR) (k R (st.put d .undef st.H)) (opF op P d k R st) (wantedB (some gw) st.tm) = _
    unfold stepIns
    simp only
    cases wantedB (some gw) st.tm with
    | false => rfl
    | true => exact opF_eq _ _ _ _ _ _

def regF (l : List BIns) : Program → Tab → St → CR :=
  List.rec (motive := fun _ => Program → Tab → St → CR) (fun _ _ st => .norm st) (fun o _ ih P R st => insF o P (ih P) R st) l

theorem regF_eq : ∀ (l : List BIns) (P : Program) (R : Tab) (st : St), regF l P R st = seqOps P l R st
  | [], _, _, _ => rfl
  | o :: os, P, R, st => by
    show insF o P (regF os P) R st = stepIns P o (seqOps P os R) R st
    rw [insF_eq]
    have : regF os P R = seqOps P os R := funext fun st => regF_eq os P R st
    rw [this]

end
end Go.Eng

namespace Go.Eng
set_option linter.unusedSimpArgs false
noncomputable section
variable (P : Program)

def condF (v : AVal) (x y : Tab → St → CR) (R : Tab) (st : St) : CR := onBool v (x R st) (y R st) .fail
theorem condF_eq (v : AVal) (x y : Tab → St → CR) (R : Tab) (st : St) : condF v x y R st = condB v x y R st := by
  cases v <;> rfl

def execF (c : BCode) (R : Tab) (st : St) : CR :=
  BCode.rec (motive := fun _ => Tab → St → CR)
    (fun _ st => .norm st)
    (fun ops R st => regF ops P R st)
    (fun ops R st => drawOps P R st.H.next ops 0 0 [] st)
    (fun _ _ iha ihb R st => thenB (iha R st) ihb R)
    (fun c _ _ iha ihb R st => condF (c.ev st.tm) iha ihb R st)
    (fun id _ ih R st => blockB id (ih R st))
    (fun c ih R st => loopB c (ih R st) R)
    (fun n f params assign body _ _ R st => rangeB n (f.ev st.tm) params assign body R st)
    (fun id _ st => .exit id st)
    (fun _ st => .ret st)
    (fun _ _ => .fail) c R st

theorem execF_eq (c : BCode) : execF P c = execB P c := by
  induction c with
  | reg ops => funext R st; exact regF_eq ops P R st
  | seq a b iha ihb =>
    funext R st
    show thenB (execF P a R st) (execF P b) R = thenB (execB P a R st) (execB P b) R
    rw [iha, ihb]
  | cond c a b iha ihb =>
    funext R st
    show condF (c.ev st.tm) (execF P a) (execF P b) R st = condB (c.ev st.tm) (execB P a) (execB P b) R st
    rw [condF_eq, iha, ihb]
  | block id c ih =>
    funext R st
    show blockB id (execF P c R st) = blockB id (execB P c R st)
    rw [ih]
  | loop c ih =>
    funext R st
    show loopB c (execF P c R st) R = loopB c (execB P c R st) R
    rw [ih]
  | _ => rfl

def callF (f : BEnt) (args : List AVal) (H : AHeap) (R : Tab) : ER :=
  match f with
  | .fn fn => bif Nat.ble args.length fn.ntmps then
      scrub H (leaveCR R fn.results (execF P fn.body R ⟨putFrom args 0 .leaf, [], none, none, ⟨H.tr, H.next, H.next⟩⟩))
    else .fail
  | .ext name e => externA name e args H
  | .bad => .fail

theorem callF_eq (f : BEnt) (args : List AVal) (H : AHeap) (R : Tab) : callF P f args H R = callE P f args H R := by
  cases f with
  | fn fn => simp only [callF, callE, execF_eq]
  | ext name e => rfl
  | bad => rfl

def dcallF (f : BEnt) (args : List AVal) (u : AMode) (H : AHeap) (R : Tab) : DR :=
  match f with
  | .fn fn => bif Nat.ble args.length fn.ntmps then
      dleave fn.results (execF P fn.body R ⟨putFrom args 0 .leaf, [], some u, none, H⟩)
    else .fail
  | _ => .fail

theorem dcallF_eq (f : BEnt) (args : List AVal) (u : AMode) (H : AHeap) (R : Tab) : dcallF P f args u H R = dcallE P f args u H R := by
  cases f with
  | fn fn => simp only [dcallF, dcallE, execF_eq]
  | ext name e => rfl
  | bad => rfl

def beginRoundF (b : Nat) (body : BCode) (R : Tab) : CR → ER
  | .norm st => match st.H.loopAt b with
    | some r => match r.state with
      | .ready => leaveRound b (execF P body R ⟨st.tm, st.defs, st.rcv, st.rnd, st.H.set b (.loop ⟨.busy, r.pending, r.tm, r.params, r.assign, r.body, r.defers, r.n⟩)⟩)
      | _ => .fail
    | none => .fail
  | _ => .fail

def roundF (b : Nat) (args : List AVal) (H : AHeap) (R : Tab) : ER :=
  match H.loopAt b with
  | some r => match putAll r.params args r.tm with
    | some tm => beginRoundF P b r.body R (execF P r.assign R ⟨tm, [], none, some b, H⟩)
    | none => .fail
  | none => .fail

theorem roundF_eq (b : Nat) (args : List AVal) (H : AHeap) (R : Tab) : roundF P b args H R = roundE P b args H R := by
  have h : ∀ (b : Nat) (c : BCode) (R : Tab) (r : CR), beginRoundF P b c R r = beginRoundB P b c R r := by
    intro b c R r
    cases r <;> try rfl
    simp only [beginRoundF, beginRoundB, execF_eq]
    rfl
  simp only [roundF, roundE, execF_eq, h]
  rfl

def tabF (n : Nat) : Tab :=
  Nat.rec (motive := fun _ => Tab) Tab.no (fun _ R =>
    ⟨fun c st => execF P c R st, fun f args H => callF P (cfun P f) args H R, fun f args u H => dcallF P (cfun P f) args u H R, fun b args H => roundF P b args H R⟩) n

theorem tabF_eq : ∀ n, tabF P n = tab P n
  | 0 => rfl
  | n + 1 => by
    have ih := tabF_eq n
    show (⟨fun c st => execF P c (tabF P n) st, fun f args H => callF P (cfun P f) args H (tabF P n), fun f args u H => dcallF P (cfun P f) args u H (tabF P n), fun b args H => roundF P b args H (tabF P n)⟩ : Tab) =
      ⟨fun c st => execB P c (tab P n) st, fun f args H => callE P (cfun P f) args H (tab P n), fun f args u H => dcallE P (cfun P f) args u H (tab P n), fun b args H => roundE P b args H (tab P n)⟩
    rw [ih]
    simp only [execF_eq, callF_eq, dcallF_eq, roundF_eq]

def topF (f : BEnt) (args : List AVal) (H : AHeap) (R : Tab) : ER :=
  match f with
  | .fn fn => bif Nat.ble args.length fn.ntmps then
      (match execF P fn.body R ⟨putFrom args 0 .leaf, [], none, none, ⟨H.tr, H.next, H.next⟩⟩ with
      | .norm st => (match st.defs with | [] => resultA st.tm st.H fn.results | _ => .fail)
      | .ret st => (match st.defs with | [] => resultA st.tm st.H fn.results | _ => .fail)
      | _ => .fail)
    else .fail
  | _ => .fail

theorem topF_eq (f : BEnt) (args : List AVal) (H : AHeap) (R : Tab) : topF P f args H R = topE P f args H R := by
  cases f with
  | fn fn =>
    simp only [topF, topE, execF_eq]
    rfl
  | ext name e => rfl
  | bad => rfl

end
end Go.Eng

namespace Go.Eng
set_option linter.unusedSimpArgs false

section
variable {H : Type} (P : Program)

noncomputable def flatF (fl : TypeId → DataW H → Option (List AVal)) : List Field → List (DataW H) → List AVal → Option (List AVal)
  | f :: fs, d :: ds, acc => bif Nat.beq f.offset acc.length then
      match fl f.type d with
      | some l => bif Nat.beq l.length (P.cellsOf f.type) then flatF fl fs ds (acc ++ l) else none
      | none => none
    else none
  | [], _, acc => some acc
  | _ :: _, [], acc => some acc

noncomputable def flatE (fl : DataW H → Option (List AVal)) (k : Nat) : List (DataW H) → Nat → List AVal → Option (List AVal)
  | d :: ds, i, acc => bif Nat.beq acc.length (i * k) then
      match fl d with
      | some l => bif Nat.beq l.length k then flatE fl k ds (i + 1) (acc ++ l) else none
      | none => none
    else none
  | [], _, acc => some acc

/-- The cells of a datum of integers, bools, strings, and structs and arrays of these. -/
noncomputable def flat : Nat → TypeId → DataW H → Option (List AVal)
  | 0 => fun _ _ => none
  | n + 1 => fun t d =>
    match P.underlying t, d with
    | some .bool, .lit (.bool b) => some [.bool b]
    | some (.int _), .lit (.int k m) => some [.int k m]
    | some .string, .lit (.string s) => some [.str s]
    | some (.struct fs), .agg ds => flatF P (flat n) fs.toList ds []
    | some (.array _ e), .agg ds => flatE (flat n e) (P.cellsOf e) ds 0 []
    | _, _ => none

/-- These cells are what these values stand for. -/
def Rl (avs : List AVal) (cs : List Value) : Prop := ∀ (i : Nat) (v : AVal), avs[i]? = some v → ∃ x, cs[i]? = some x ∧ VRel (fun _ => none) v x

variable {P}

theorem Rl.app {acc l : List AVal} {cs : List Value} {k : Nat} (h : Rl acc cs) (g : Rl l ((cs.drop acc.length).take k)) : Rl (acc ++ l) cs := by
  intro i v hv
  rw [List.getElem?_append] at hv
  split at hv
  · exact h i v hv
  · rename_i hi
    obtain ⟨x, h1, h2⟩ := g _ v hv
    rw [List.getElem?_take] at h1
    split at h1
    · rw [List.getElem?_drop, show acc.length + (i - acc.length) = i by omega] at h1
      exact ⟨x, h1, h2⟩
    · cases h1

theorem flatF_rl {n : Nat} (ih : ∀ {t : TypeId} {d : DataW H} {avs : List AVal} {cs : List Value} {enc : TypeId × Value → H} {w : World} {base : Nat} {sp : Nat → Bool} {held : Bool} {fuel : Nat} {p : List MemPlace},
      DataW.trod enc P w base sp held fuel t cs = some (d, p) → flat P n t d = some avs → Rl avs cs)
    {cs : List Value} {enc : TypeId × Value → H} {w : World} {base : Nat} {sp : Nat → Bool} {held : Bool} {fuel : Nat} :
    ∀ {fs : List Field} {ds : List (DataW H)} {acc avs : List AVal}, (∀ (j : Nat) (d : DataW H) (f : Field), ds[j]? = some d → fs[j]? = some f → ∃ q, DataW.trod enc P w base sp held fuel f.type ((cs.drop f.offset).take (P.cellsOf f.type)) = some (d, q)) →
      Rl acc cs → flatF P (flat P n) fs ds acc = some avs → Rl avs cs
  | [], ds, acc, avs, _, ha, h => by simp only [flatF, Option.some.injEq] at h; subst h; exact ha
  | f :: fs, [], acc, avs, _, ha, h => by simp only [flatF, Option.some.injEq] at h; subst h; exact ha
  | f :: fs, d :: ds, acc, avs, hp, ha, h => by
    simp only [flatF] at h
    cases h1 : Nat.beq f.offset acc.length with
    | false => rw [h1] at h; cases h
    | true =>
      rw [h1] at h
      simp only [cond_true] at h
      have h1 := beq_iff.1 h1
      split at h
      · rename_i l hl
        cases h2 : Nat.beq l.length (P.cellsOf f.type) with
        | false => rw [h2] at h; cases h
        | true =>
          rw [h2] at h
          simp only [cond_true] at h
          obtain ⟨q, hq⟩ := hp 0 d f rfl rfl
          have g := ih hq hl
          rw [h1] at g
          exact flatF_rl ih (fun j d' f' hd hf => hp (j + 1) d' f' (by simpa using hd) (by simpa using hf)) (ha.app g) h
      · cases h

theorem flatE_rl {n : Nat} (ih : ∀ {t : TypeId} {d : DataW H} {avs : List AVal} {cs : List Value} {enc : TypeId × Value → H} {w : World} {base : Nat} {sp : Nat → Bool} {held : Bool} {fuel : Nat} {p : List MemPlace},
      DataW.trod enc P w base sp held fuel t cs = some (d, p) → flat P n t d = some avs → Rl avs cs)
    {cs : List Value} {enc : TypeId × Value → H} {w : World} {base : Nat} {sp : Nat → Bool} {held : Bool} {fuel : Nat} {e : TypeId} {k : Nat} :
    ∀ {ds : List (DataW H)} {i : Nat} {acc avs : List AVal}, (∀ (j : Nat) (d : DataW H), ds[j]? = some d → ∃ q, DataW.trod enc P w base sp held fuel e ((cs.drop ((i + j) * k)).take k) = some (d, q)) →
      Rl acc cs → flatE (flat P n e) k ds i acc = some avs → Rl avs cs
  | [], i, acc, avs, _, ha, h => by simp only [flatE, Option.some.injEq] at h; subst h; exact ha
  | d :: ds, i, acc, avs, hp, ha, h => by
    simp only [flatE] at h
    cases h1 : Nat.beq acc.length (i * k) with
    | false => rw [h1] at h; cases h
    | true =>
      rw [h1] at h
      simp only [cond_true] at h
      have h1 := beq_iff.1 h1
      split at h
      · rename_i l hl
        cases h2 : Nat.beq l.length k with
        | false => rw [h2] at h; cases h
        | true =>
          rw [h2] at h
          simp only [cond_true] at h
          obtain ⟨q, hq⟩ := hp 0 d rfl
          have g := ih hq hl
          rw [Nat.add_zero, ← h1] at g
          exact flatE_rl ih (fun j d' hd => by
            have := hp (j + 1) d' (by simpa using hd)
            rwa [show i + (j + 1) = i + 1 + j by omega] at this) (ha.app g) h
      · cases h

theorem rl_nil (cs : List Value) : Rl [] cs := fun i v h => by simp at h
theorem rl_one {v : AVal} {x : Value} (h : VRel (fun _ => none) v x) : Rl [v] [x] := by
  intro i u hu
  cases i with
  | zero => simp only [List.getElem?_cons_zero, Option.some.injEq] at hu; subst hu; exact ⟨x, rfl, h⟩
  | succ i => simp at hu

theorem flat_rl : ∀ {n : Nat} {t : TypeId} {d : DataW H} {avs : List AVal} {cs : List Value} {enc : TypeId × Value → H} {w : World} {base : Nat} {sp : Nat → Bool} {held : Bool} {fuel : Nat} {p : List MemPlace},
    DataW.trod enc P w base sp held fuel t cs = some (d, p) → flat P n t d = some avs → Rl avs cs
  | 0, _, _, _, _, _, _, _, _, _, _, _, _, h => by simp [flat] at h
  | n + 1, t, d, avs, cs, enc, w, base, sp, held, 0, p, ht, _ => by simp [DataW.trod] at ht
  | n + 1, t, d, avs, cs, enc, w, base, sp, held, fuel + 1, p, ht, h => by
    have ih := fun {t : TypeId} {d : DataW H} {avs : List AVal} {cs : List Value} {enc : TypeId × Value → H} {w : World} {base : Nat} {sp : Nat → Bool} {held : Bool} {fuel : Nat} {p : List MemPlace} =>
      @flat_rl n t d avs cs enc w base sp held fuel p
    simp only [flat] at h
    split at h
    · rename_i b hu
      rcases cs with _ | ⟨c, _ | ⟨c2, r⟩⟩
      · simp [DataW.trod, hu] at ht
      · cases c <;> simp [DataW.trod, hu] at ht
        obtain ⟨rfl, _⟩ := ht
        cases h
        exact rl_one (.bool _)
      · cases c <;> simp [DataW.trod, hu] at ht
    · rename_i k k' m hu
      rcases cs with _ | ⟨c, _ | ⟨c2, r⟩⟩
      · simp [DataW.trod, hu] at ht
      · cases c <;> simp [DataW.trod, hu] at ht
        obtain ⟨⟨rfl, _⟩, ⟨rfl, rfl⟩, _⟩ := ht
        cases h
        exact rl_one (.int _ _)
      · cases c <;> simp [DataW.trod, hu] at ht
    · rename_i s hu
      rcases cs with _ | ⟨c, _ | ⟨c2, r⟩⟩
      · simp [DataW.trod, hu] at ht
      · cases c <;> simp [DataW.trod, hu] at ht
        obtain ⟨_, rfl, _⟩ := ht
        cases h
        exact rl_one (.str _)
      · cases c <;> simp [DataW.trod, hu] at ht
    · rename_i fs ds hu
      simp only [DataW.trod, hu] at ht
      split at ht
      · obtain ⟨xs, hm, hx⟩ := Option.map_eq_some_iff.1 ht
        simp only [Prod.mk.injEq, DataW.agg.injEq] at hx
        obtain ⟨rfl, _⟩ := hx
        refine flatF_rl (enc := enc) (w := w) (base := base) (sp := sp) (held := held) (fuel := fuel) ih (fun j d f hd hf => ?_) (rl_nil cs) h
        obtain ⟨x, hx1, hx2⟩ := Lib.mapM_at hm j f hf
        rw [List.getElem?_map, hx1] at hd
        cases hd
        exact ⟨x.2, hx2⟩
      · cases ht
    · rename_i m e ds hu
      simp only [DataW.trod, hu] at ht
      split at ht
      · obtain ⟨xs, hm, hx⟩ := Option.map_eq_some_iff.1 ht
        simp only [Prod.mk.injEq, DataW.agg.injEq] at hx
        obtain ⟨rfl, _⟩ := hx
        have hl := Lib.mapM_length hm
        refine flatE_rl (enc := enc) (w := w) (base := base) (sp := sp) (held := held) (fuel := fuel) ih (fun j d hd => ?_) (rl_nil cs) h
        have hj : j < m := by
          have := (List.getElem?_eq_some_iff.1 hd).1
          simp at this hl
          omega
        obtain ⟨x, hx1, hx2⟩ := Lib.mapM_at hm j j (by simp [hj])
        rw [List.getElem?_map, hx1] at hd
        cases hd
        rw [Nat.zero_add]
        exact ⟨x.2, hx2⟩
      · cases ht
    · cases h

/-- What a row lists of a variable, is there. -/
theorem laid_at {w : World} : ∀ {laid : List (String × DataW Unit)} {ps : List MemPlace}, DataW.LaidVars P w laid ps → ∀ {name : String} {d : DataW Unit}, (name, d) ∈ laid → ∀ {g : Nat} {t : TypeId} {n : Nat} {avs : List AVal},
    P.globalNamed name = some g → (P.globals[g]?).map (·.type) = some t → flat P n t d = some avs → ∃ (arr : Array Value) (e : TypeId) (lohi : Nat × Nat), w.heap[g]? = some (.cells arr e lohi) ∧ Rl avs arr.toList
  | [], _, _, _, _, hm, _, _, _, _, _, _, _ => by cases hm
  | (n', d') :: r, ps, h, name, d, hm, g, t, n, avs, hg, ht, hf => by
    obtain ⟨g', t', cs, fuel, p, q, h1, h2, h3, h4, h5, _⟩ := h
    cases hm with
    | tail _ hm => exact laid_at h5 hm hg ht hf
    | head =>
      rw [hg] at h1
      cases h1
      rw [ht] at h2
      cases h2
      have hr := flat_rl h4 hf
      unfold World.var? at h3
      rw [hg] at h3
      simp only [Option.bind_some] at h3
      split at h3
      · rename_i c e lohi hw
        cases h3
        exact ⟨_, _, _, hw, hr⟩
      · cases h3

end
end Go.Eng

namespace Go.Eng
set_option linter.unusedSimpArgs false

mutual
/-- A value that names no memory. -/
noncomputable def toVal : AVal → Option Value
  | .bool b => some (.bool b)
  | .int k n => some (.int k n)
  | .str s => some (.string ⟨⟨s⟩⟩)
  | .nilPtr => some (.pointer none)
  | .nilSlice => some (.slice none 0 0)
  | .nilMap => some (.map none)
  | .nilFunc => some .nilFunc
  | .nilIface => some .nilIface
  | .agg cs => match toVals cs with
    | some xs => some (.agg ⟨xs⟩)
    | none => none
  | .tuple cs => match toVals cs with
    | some xs => some (.tuple ⟨xs⟩)
    | none => none
  | _ => none
noncomputable def toVals : List AVal → Option (List Value)
  | [] => some []
  | v :: vs => match toVal v with
    | some x => match toVals vs with
      | some xs => some (x :: xs)
      | none => none
    | none => none
end

section
variable {ρ : Emb}
mutual
theorem VRel.toVal : ∀ {v : AVal} {x y : Value}, VRel ρ v x → Go.Eng.toVal v = some y → x = y
  | _, _, _, .bool b, h => by simpa [Go.Eng.toVal] using h
  | _, _, _, .int k n, h => by simpa [Go.Eng.toVal] using h
  | _, _, _, .str s, h => by simpa [Go.Eng.toVal] using h
  | _, _, _, .ptr _, h => by simp [Go.Eng.toVal] at h
  | _, _, _, .nilPtr, h => by simpa [Go.Eng.toVal] using h
  | _, _, _, .slice _ _ _ _ _, h => by simp [Go.Eng.toVal] at h
  | _, _, _, .nilSlice, h => by simpa [Go.Eng.toVal] using h
  | _, _, _, .emptySlice _ _, h => by simp [Go.Eng.toVal] at h
  | _, _, _, .map _, h => by simp [Go.Eng.toVal] at h
  | _, _, _, .nilMap, h => by simpa [Go.Eng.toVal] using h
  | _, _, _, .func _ _ _, h => by simp [Go.Eng.toVal] at h
  | _, _, _, .yld _, h => by simp [Go.Eng.toVal] at h
  | _, _, _, .nilFunc, h => by simpa [Go.Eng.toVal] using h
  | _, _, _, .iface _ _, h => by simp [Go.Eng.toVal] at h
  | _, _, _, .nilIface, h => by simpa [Go.Eng.toVal] using h
  | _, _, _, .agg hs, h => by
    simp only [Go.Eng.toVal] at h
    split at h
    · rename_i xs hx
      cases h
      rw [VRels.toVals hs hx]
    · cases h
  | _, _, _, .tuple hs, h => by
    simp only [Go.Eng.toVal] at h
    split at h
    · rename_i xs hx
      cases h
      rw [VRels.toVals hs hx]
    · cases h
theorem VRels.toVals : ∀ {vs : List AVal} {xs ys : List Value}, VRels ρ vs xs → Go.Eng.toVals vs = some ys → xs = ys
  | _, _, _, .nil, h => by simpa [Go.Eng.toVals] using h
  | _, _, _, .cons hv hs, h => by
    simp only [Go.Eng.toVals] at h
    split at h
    · rename_i x hx
      split at h
      · rename_i xs hxs
        cases h
        rw [VRel.toVal hv hx, VRels.toVals hs hxs]
      · cases h
    · cases h
end
end

/-- What a run comes to, and whether it leaves the blocks below n. -/
def outOf (n : Nat) : ER → Option (AVal × Bool)
  | .ret v H' => some (v, Nat.ble n H'.low)
  | _ => none

theorem outOf_ret {n : Nat} {r : ER} {v : AVal} (h : outOf n r = some (v, true)) : ∃ H', r = .ret v H' ∧ n ≤ H'.low := by
  cases r <;> simp only [outOf, reduceCtorEq, Option.some.injEq, Prod.mk.injEq] at h
  exact ⟨_, by rw [h.1], Nat.le_of_ble_eq_true h.2⟩

/-- A closed call as a contract. -/
theorem call_plain {P : Program} {ρ : Emb} {H : AHeap} {w : World} (fit : Fit P) {n : Nat} {f : FuncId} {args : List AVal} {args' : Array Value} (hw : WRel P ρ H w) (ha : VRels ρ args args'.toList) {v : AVal} {y : Value}
    (h : outOf H.next (topF P (cfun P f) args H (tabF P n)) = some (v, true)) (hv : toVal v = some y) : Calls P f args' w fun e w' => e = .returned y ∧ RowKit.Below w.heap.size w w' := by
  obtain ⟨H', h1, h2⟩ := outOf_ret h
  rw [topF_eq, tabF_eq] at h1
  exact (top_below fit hw ha h1 h2).mono fun e w' ⟨x, ρ', hx, he, _, hb⟩ => ⟨by rw [he, hx.toVal hv], hb⟩

end Go.Eng

namespace Go.Eng
set_option linter.unusedSimpArgs false
noncomputable section

/-- What is known of calls: what they hand back, and the memory behind them. -/
abbrev Known := FuncId → List AVal → AHeap → Option (AVal × AHeap)

def orElseE (r : ER) (o : Option (AVal × AHeap)) : ER := Option.casesOn o r (fun p => .ret p.1 p.2)

def Tab.know (k : Known) (R : Tab) : Tab := ⟨R.code, fun f args H => orElseE (R.call f args H) (k f args H), R.dcall, R.round⟩

def KnownOK (P : Program) (k : Known) : Prop :=
  ∀ f args H v H', k f args H = some (v, H') → (∃ fn c, P.funcs[f]? = some fn ∧ fn.body = some c) ∧ ∀ (w : World) (ρ : Emb) (args' : Array Value), WRel P ρ H w → VRels ρ args args'.toList →
    Calls P f args' w fun e w' => ∃ x ρ', e = .returned x ∧ VRel ρ' v x ∧ Stp P ρ H w ρ' H' w'

section
variable {P : Program} {ρ : Emb} {H H' : AHeap} {w w' : World} {R : Tab} {k : Known}

theorem stp_below (hw : WRel P ρ H w) (hB : RowKit.Below w.heap.size w w') : Stp P ρ H w ρ H w' where
  wrel := ⟨fun b blk hb hg => by
    obtain ⟨p, o, h1, h2, h3⟩ := hw.blocks b blk hb hg
    exact ⟨p, o, h1, by rw [hB.block _ (Array.getElem?_eq_some_iff.1 h2).1]; exact h2, h3⟩, hw.inj, hw.fresh, hw.glob⟩
  ext := fun _ _ => rfl
  next := Nat.le_refl _
  low := Nat.le_refl _
  lives := fun _ _ h => h
  owns := fun _ _ h => h
  keeps := fun _ _ _ => rfl
  news := fun b p hb e => by rw [hw.fresh b hb] at e; cases e
  tape := hB.tape
  os := hB.os
  output := hB.output
  size := hB.size
  frame := fun r hr _ => hB.block r hr

theorem Sound.know (fit : Fit P) (S : Sound P R) (K : KnownOK P k) : Sound P (R.know k) where
  code := S.code
  round := S.round
  dcall := S.dcall
  call := by
    intro f args H w ρ args' s hw ha hs m F cs hq happ
    show NextOut P ρ H F cs w m (orElseE (R.call f args H) (k f args H))
    cases h : k f args H with
    | none => exact S.call f args H w ρ args' s hw ha hs m F cs hq happ
    | some p =>
      obtain ⟨v, H'⟩ := p
      obtain ⟨⟨fn, c, hf, hb⟩, hk⟩ := K f args H v H' h
      have hstep := apply_enter hq happ (hs.trans (run_callFunc fit hf hb args' w))
      obtain ⟨e, w', fr, ⟨x, ρ', rfl, hx, hB⟩, hc, hfn, hl⟩ := hk w ρ args' hw ha (F :: cs)
      have hc : Steps P (lone (Frame.enter P f args' .normal) (F :: cs) w) (lone fr (F :: cs) w') := hc
      exact ⟨x, ρ', w', hx, hB, .head hstep (hc.trans (.one (step_leave_returned hl)))⟩

end

section
variable (P : Program) (k : Known)

/-- The table, with what is known. -/
def tabK (n : Nat) : Tab :=
  Nat.rec (motive := fun _ => Tab) Tab.no (fun _ R =>
    Tab.know k ⟨fun c st => execF P c R st, fun f args H => callF P (cfun P f) args H R, fun f args u H => dcallF P (cfun P f) args u H R, fun b args H => roundF P b args H R⟩) n

theorem soundK (fit : Fit P) (K : KnownOK P k) : ∀ n, Sound P (tabK P k n)
  | 0 => Sound.no P
  | n + 1 => by
    have ih := soundK fit K n
    have h := Sound.know fit (Sound.next fit ih (draw_ok fit ih)) K
    have e : tabK P k (n + 1) = Tab.know k ⟨fun c st => execB P c (tabK P k n) st, fun f args H => callE P (cfun P f) args H (tabK P k n), fun f args u H => dcallE P (cfun P f) args u H (tabK P k n), fun b args H => roundE P b args H (tabK P k n)⟩ := by
      show Tab.know k ⟨fun c st => execF P c (tabK P k n) st, fun f args H => callF P (cfun P f) args H (tabK P k n), fun f args u H => dcallF P (cfun P f) args u H (tabK P k n), fun b args H => roundF P b args H (tabK P k n)⟩ = _
      simp only [execF_eq, callF_eq, dcallF_eq, roundF_eq]
    rw [e]
    exact h
end

section
variable {P : Program} {ρ : Emb} {H H' : AHeap} {w : World} {R : Tab}

/-- Code at whose end a function is left. -/
def tailE (P : Program) (c : BCode) (rs : List BRes) (tm : Tm) (H : AHeap) (R : Tab) : ER :=
  match execF P c R ⟨tm, [], none, none, ⟨H.tr, H.next, H.next⟩⟩ with
  | .norm st => (match st.defs with | [] => resultA st.tm st.H rs | _ => .fail)
  | .ret st => (match st.defs with | [] => resultA st.tm st.H rs | _ => .fail)
  | _ => .fail

/-- The rest of a function, from a state on. -/
theorem tail_out (fit : Fit P) (S : Sound P R) {f : FuncId} {fn : Func} {c : Code} {rs : List BRes} (hf : P.funcs[f]? = some fn) (hrs : cresults P fn.ntmps fn.results.toList = some rs)
    {b : Frame} (hbf : b.fn = f) (hbk : b.kind = .normal) (hbr : b.roundOf = none) {tm : Tm} {tmps : Array Value} (hw : WRel P ρ H w) (ht : TmRel ρ tm tmps) (hsz0 : tmps.size = fn.ntmps) {cs : List Frame} {v : AVal}
    (h : tailE P (ccode P fn.ntmps c) rs tm H R = .ret v H') :
    ∃ e w' fr, (∃ x ρ', VRel ρ' v x ∧ e = .returned x ∧ Stp P ρ ⟨H.tr, H.next, H.next⟩ w ρ' H' w') ∧ Comes P (lone (Fr b tmps [] [.code c]) cs w) (lone fr cs w') e ∧ fr.fn = f ∧ fr.leaving P w' e := by
  have hw0 : WRel P ρ ⟨H.tr, H.next, H.next⟩ w := hw.congr (fun _ => rfl) rfl
  have f0 : FRel P ρ b cs ⟨tm, [], none, none, ⟨H.tr, H.next, H.next⟩⟩ tmps [] cs w :=
    { wrel := hw0, tm := ht, defs := .nil, cs := rfl, rnd := hbr, kind := hbk, fn := ⟨fn, by rw [hbf]; exact hf⟩ }
  have hex := exec_out S (draw_ok fit S) c (.code c) b cs [] _ _ _ _ _ _ (.inl rfl) f0
  rw [hsz0] at hex
  unfold tailE at h
  rw [execF_eq] at h
  have rcvNone : ∀ {ρ' : Emb} {st' : St} {tmps' : Array Value} {defers' : List Deferred} {cs' : List Frame} {w' : World}, FRel P ρ' b cs st' tmps' defers' cs' w' → st'.rcv = none := by
    intro ρ' st' tmps' defers' cs' w' f'
    have := f'.kind
    cases hr : st'.rcv with
    | none => rfl
    | some u =>
      rw [hr] at this
      exact absurd (show b.kind = .deferred from this) (by rw [hbk]; simp)
  -- how it is left
  have leave : ∀ {ρ' : Emb} {st' : St} {tmps' : Array Value} {defers' : List Deferred} {cs' : List Frame} {w' : World} {fr : Frame}, FRel P ρ' b cs st' tmps' defers' cs' w' → tmps'.size = fn.ntmps →
      fr.tmps = tmps' → fr.defers = defers' → fr.fn = f → fr.kind = .normal → fr.mode = .returning → Stp P ρ ⟨H.tr, H.next, H.next⟩ w ρ' st'.H w' →
      Steps P (lone (Fr b tmps [] [.code c]) cs w) (lone fr cs' w') →
      (match st'.defs with | [] => resultA st'.tm st'.H rs | _ => .fail) = .ret v H' →
      ∃ e w' fr, (∃ x ρ', VRel ρ' v x ∧ e = .returned x ∧ Stp P ρ ⟨H.tr, H.next, H.next⟩ w ρ' H' w') ∧ Comes P (lone (Fr b tmps [] [.code c]) cs w) (lone fr cs w') e ∧ fr.fn = f ∧ fr.leaving P w' e := by
    intro ρ' st' tmps' defers' cs' w' fr f' hsz h1 h2 h3 h4 h5 hst hsteps hres
    have hcs := f'.cs
    rw [rcvNone f'] at hcs
    have hcs : cs' = cs := hcs
    subst hcs
    have hdefs := f'.defs
    cases hd : st'.defs with
    | cons d ds => rw [hd] at hres; cases hres
    | nil =>
      rw [hd] at hres hdefs
      cases hdefs
      simp only [resultA] at hres
      cases hr : resultsA st'.tm st'.H rs with
      | none => rw [hr] at hres; cases hres
      | some vs =>
        rw [hr] at hres
        obtain ⟨x, g1, g2⟩ := run_results f'.wrel f'.tm (by rw [hsz]; exact hrs) hr
        have key : ∀ vs : List AVal, (match vs with | [v] => ER.ret v st'.H | vs => .ret (.tuple vs) st'.H) = .ret v H' → VRel ρ' (match vs with | [v] => v | vs => .tuple vs) x → VRel ρ' v x ∧ H' = st'.H := by
          intro vs h g
          rcases vs with _ | ⟨a, _ | ⟨a', as⟩⟩ <;> (cases h; exact ⟨g, rfl⟩)
        obtain ⟨k1, rfl⟩ := key vs hres g1
        exact ⟨.returned x, w', fr, ⟨x, ρ', k1, rfl, hst⟩, hsteps, h3, h5, h2, h4, fn, by rw [h3]; exact hf, by rw [h1]; exact g2⟩
  revert hex h
  generalize execB P (ccode P fn.ntmps c) R ⟨tm, [], none, none, ⟨H.tr, H.next, H.next⟩⟩ = r
  intro h hex
  cases r with
  | fail => cases h
  | exit id st' => cases h
  | pan ch st' => cases h
  | norm st' =>
    obtain ⟨ρ', tmps', defers', cs', w', fr, h1, h2, h3, rfl, h5⟩ := hex
    exact leave (fr := { Fr b tmps' defers' [] with mode := .returning }) h1 h3 rfl rfl hbf hbk rfl h2 (h5.trans (.one (step_Fr_end hbr))) h
  | ret st' =>
    obtain ⟨ρ', tmps', defers', cs', w', fr, h1, h2, h3, ⟨todo, rfl⟩, h5⟩ := hex
    exact leave (fr := { Fr b tmps' defers' (.code .ret :: todo) with mode := .returning }) h1 h3 rfl rfl hbf hbk rfl h2 (h5.trans (.one (step_Fr_ret hbr))) h

/-- A call from without, over any table that is right. -/
theorem topR_calls (fit : Fit P) (S : Sound P R) {f : FuncId} {args : List AVal} {args' : Array Value} (hw : WRel P ρ H w) (ha : VRels ρ args args'.toList) {v : AVal} (h : topF P (cfun P f) args H R = .ret v H') :
    Calls P f args' w fun e w' => ∃ x ρ', VRel ρ' v x ∧ e = .returned x ∧ Stp P ρ ⟨H.tr, H.next, H.next⟩ w ρ' H' w' := by
  cases hcf : cfun P f with
  | bad => rw [hcf] at h; cases h
  | ext name e => rw [hcf] at h; cases h
  | fn fe =>
    rw [hcf] at h
    obtain ⟨fn, c, rs, hf, hb, hrs, rfl⟩ := cfun_some hcf
    simp only [topF] at h
    cases hle : Nat.ble args.length fn.ntmps with
    | false => rw [hle] at h; cases h
    | true =>
      rw [hle] at h
      have hle := ble_iff.1 hle
      simp only [cond_true] at h
      have hlen := ha.length
      simp only [Array.length_toList] at hlen
      intro cs
      rw [enter_eq (P := P) hf hb args' .normal]
      exact tail_out fit S hf hrs rfl rfl rfl hw (enter_tm ha _) (by simp; omega) h

/-- Codes one behind the other, ahead of the rest. -/
def seqs : List Code → Code → Code
  | [], c => c
  | d :: ds, c => .seq d (seqs ds c)

/-- Codes that are walked, each to its end. -/
def wps (P : Program) (K : Act → World → Prop) : List Code → Act → World → Prop
  | [], a, w => K a w
  | d :: ds, a, w => d.wp P (fun e a w => e = .normal ∧ wps P K ds a w) a w

theorem wps_steps {K : Act → World → Prop} {b : Frame} {cs : List Frame} (hat : ∀ (a : Act) (k : List Item), b.at a k = Fr b a.tmps a.defers k) (c : Code) : ∀ (ds : List Code) (a : Act) (w : World), wps P K ds a w →
    ∃ a' w', K a' w' ∧ Steps P (lone (Fr b a.tmps a.defers [.code (seqs ds c)]) cs w) (lone (Fr b a'.tmps a'.defers [.code c]) cs w')
  | [], a, w, h => ⟨a, w, h, .refl _ _⟩
  | d :: ds, a, w, h => by
    obtain ⟨e, a1, w1, ⟨rfl, h1⟩, harr⟩ := h b [.code (seqs ds c)] cs
    have harr : Steps P _ _ := harr
    rw [hat, hat] at harr
    obtain ⟨a', w', hK, hs⟩ := wps_steps hat c ds a1 w1 h1
    have s1 : step P (lone (Fr b a.tmps a.defers [.code (.seq d (seqs ds c))]) cs w) = .next (lone (Fr b a.tmps a.defers [.code d, .code (seqs ds c)]) cs w) := by
      have := step_seq (P := P) (b := b) (a := a) (k := []) (cs := cs) (w := w) (x := d) (y := seqs ds c)
      rwa [hat, hat] at this
    exact ⟨a', w', hK, .head s1 (harr.trans hs)⟩

/-- From here on the engine runs. -/
def TailOk (P : Program) (R : Tab) (n : Nat) (c : Code) (rs : List BRes) (Rr : Ending → World → Prop) (a : Act) (w1 : World) : Prop :=
  a.tmps.size = n ∧ a.defers = [] ∧ ∃ ρ tm H v H', WRel P ρ H w1 ∧ TmRel ρ tm a.tmps ∧ tailE P (ccode P n c) rs tm H R = .ret v H' ∧
    ∀ ρ' x w', VRel ρ' v x → Stp P ρ ⟨H.tr, H.next, H.next⟩ w1 ρ' H' w' → Rr (.returned x) w'

/-- A function whose beginning is walked, and whose rest is run. -/
theorem calls_tail (fit : Fit P) (S : Sound P R) {f : FuncId} {fn : Func} {c : Code} (ds : List Code) {rs : List BRes} (hf : P.funcs[f]? = some fn) (hb : fn.body = some (seqs ds c)) (hrs : cresults P fn.ntmps fn.results.toList = some rs)
    {args : Array Value} {Rr : Ending → World → Prop}
    (h : wps P (TailOk P R fn.ntmps c rs Rr) ds { tmps := args ++ Array.replicate (fn.ntmps - args.size) undef, defers := [] } w) : Calls P f args w Rr := by
  intro cs
  have he := enter_eq (P := P) hf hb args .normal
  generalize hbb : Frame.enter P f args .normal = b at he
  have hbf : b.fn = f := by rw [← hbb]; rfl
  have hbk : b.kind = .normal := by rw [← hbb]; rfl
  have hbr : b.roundOf = none := by rw [← hbb]; rfl
  have hat : ∀ (a : Act) (k : List Item), b.at a k = Fr b a.tmps a.defers k := by
    intro a k
    simp only [Frame.at, Fr]
    rw [← hbb]
    rfl
  obtain ⟨a', w1, ⟨hsz, hd, ρ, tm, H, v, H', hw, ht, hrun, hR⟩, hs⟩ := wps_steps (cs := cs) hat c ds _ _ h
  rw [hd] at hs
  obtain ⟨e, w', fr, ⟨x, ρ', hx, rfl, hst⟩, hc, h3, h4⟩ := tail_out fit S hf hrs hbf hbk hbr (cs := cs) hw ht hsz hrun
  refine ⟨_, w', fr, hR ρ' x w' hx hst, ?_, h3, h4⟩
  rw [he]
  exact Comes.of_steps hs hc

/-- A call from without that leaves what was there, over any table that is right. -/
theorem topR_below (fit : Fit P) (S : Sound P R) {f : FuncId} {args : List AVal} {args' : Array Value} (hw : WRel P ρ H w) (ha : VRels ρ args args'.toList) {v : AVal} (h : topF P (cfun P f) args H R = .ret v H') (hl : H.next ≤ H'.low) :
    Calls P f args' w fun e w' => ∃ x ρ', VRel ρ' v x ∧ e = .returned x ∧ Stp P ρ ⟨H.tr, H.next, H.next⟩ w ρ' H' w' ∧ RowKit.Below w.heap.size w w' := by
  exact (topR_calls fit S hw ha h).mono fun _ _ ⟨x, ρ', h1, h2, h3⟩ => ⟨x, ρ', h1, h2, h3, h3.os, h3.tape, h3.output, h3.size, fun r hr => h3.frame r hr fun _ _ _ hp _ => Nat.lt_of_lt_of_le (hw.lt hp) hl⟩

end
end
end Go.Eng

namespace Go.Eng
set_option linter.unusedSimpArgs false

section
variable {P : Program} {ρ : Emb} {H : AHeap} {w : World} {R : Tab}

/-- A deferred call that the engine runs to its return, as a contract. -/
theorem dcall_callsD (fit : Fit P) (S : Sound P R) {f : FuncId} {args : List AVal} {args' : Array Value} {u u1 : AMode} {m : FrameMode} {H1 : AHeap} (hw : WRel P ρ H w) (ha : VRels ρ args args'.toList) (hm : MRel ρ u m)
    (h : dcallE P (cfun P f) args u H R = .ret u1 H1) :
    CallsD P f args' m w fun e m' w' => (∃ x, e = .returned x) ∧ ∃ ρ', MRel ρ' u1 m' ∧ Stp P ρ H w ρ' H1 w' := by
  intro c₀ cs hmode
  subst hmode
  have D := draw_ok fit S
  cases hcf : cfun P f with
  | bad => rw [hcf] at h; cases h
  | ext name e => rw [hcf] at h; cases h
  | fn fe =>
    obtain ⟨fn, c, rs, hf, hb, hrs, rfl⟩ := cfun_some hcf
    rw [hcf] at h
    simp only [dcallE] at h
    cases hle : Nat.ble args.length fn.ntmps with
    | false => rw [hle] at h; cases h
    | true =>
      rw [hle] at h
      have hle := ble_iff.1 hle
      simp only [cond_true] at h
      have hlen := ha.length
      simp only [Array.length_toList] at hlen
      let b : Frame := Frame.enter P f args' .deferred
      have hsize : (args' ++ Array.replicate (fn.ntmps - args'.size) undef).size = fn.ntmps := by simp; omega
      have f0 : FRel P ρ b (c₀ :: cs) ⟨putFrom args 0 .leaf, [], some u, none, H⟩ (args' ++ Array.replicate (fn.ntmps - args'.size) undef) [] (c₀ :: cs) w :=
        { wrel := hw, tm := enter_tm ha _, defs := .nil, cs := ⟨c₀, cs, c₀.mode, rfl, rfl, hm⟩, rnd := rfl, kind := rfl, fn := ⟨fn, hf⟩ }
      have hex := exec_out S D c (.code c) b (c₀ :: cs) [] _ _ _ _ _ _ (.inl rfl) f0
      rw [hsize] at hex
      have he := enter_eq (P := P) hf hb args' .deferred
      rw [← he] at hex
      have below : ∀ {ρ' : Emb} {st' : St} {tmps' : Array Value} {defers' : List Deferred} {cs' : List Frame} {w' : World} {u' : AMode}, FRel P ρ' b (c₀ :: cs) st' tmps' defers' cs' w' → st'.rcv = some u' →
          ∃ m', cs' = { c₀ with mode := m' } :: cs ∧ MRel ρ' u' m' := by
        intro ρ' st' tmps' defers' cs' w' u' f' hrcv
        have := f'.cs
        rw [hrcv] at this
        obtain ⟨c1, rest, m', h1, h2, h3⟩ := this
        cases h1
        exact ⟨m', h2, h3⟩
      have nodefs : ∀ {ρ' : Emb} {st' : St} {tmps' : Array Value} {defers' : List Deferred} {cs' : List Frame} {w' : World}, FRel P ρ' b (c₀ :: cs) st' tmps' defers' cs' w' → st'.defs = [] → defers' = [] := by
        intro ρ' st' tmps' defers' cs' w' f' h
        have := f'.defs
        rw [h] at this
        cases this
        rfl
      have back : ∀ {ρ' : Emb} {st' : St} {tmps' : Array Value} {defers' : List Deferred} {cs' : List Frame} {w' : World} {fr : Frame} {u' : AMode} {vs : List AVal}, FRel P ρ' b (c₀ :: cs) st' tmps' defers' cs' w' → tmps'.size = fn.ntmps →
          st'.defs = [] → st'.rcv = some u' → resultsA st'.tm st'.H rs = some vs → fr.tmps = tmps' → fr.defers = defers' → fr.fn = f → fr.kind = .deferred → fr.mode = .returning →
          Stp P ρ H w ρ' st'.H w' → Steps P (lone (Frame.enter P f args' .deferred) (c₀ :: cs) w) (lone fr cs' w') → DR.ret u' st'.H = .ret u1 H1 →
          ∃ e u' w' fr, ((∃ x, e = Ending.returned x) ∧ ∃ ρ', MRel ρ' u1 u' ∧ Stp P ρ H w ρ' H1 w') ∧
            Comes P (lone (Frame.enter P f args' .deferred) (c₀ :: cs) w) (lone fr ({ c₀ with mode := u' } :: cs) w') e ∧ fr.kind = .deferred ∧ fr.going P w' e := by
        intro ρ' st' tmps' defers' cs' w' fr u' vs f' hsz hd hrcv hres h1 h2 h3 h4 h5 hst hsteps heq
        obtain ⟨m', rfl, hm'⟩ := below f' hrcv
        have hdef := nodefs f' hd
        subst h1
        cases heq
        obtain ⟨x, _, hrun⟩ := run_results (P := P) f'.wrel f'.tm (fn := fn) (bs := rs) (by rw [hsz]; exact hrs) hres
        have hgo : fr.going P w' (.returned x) := ⟨h5, by rw [h2, hdef], fn, by rw [h3]; exact hf, hrun⟩
        exact ⟨.returned x, m', w', fr, ⟨⟨x, rfl⟩, ρ', hm', hst⟩, hsteps, h4, hgo⟩
      revert hex h
      generalize execB P (ccode P fn.ntmps c) R ⟨putFrom args 0 .leaf, [], some u, none, H⟩ = r
      intro h hex
      cases r with
      | fail => cases h
      | exit id st' => cases h
      | norm st' =>
        obtain ⟨ρ', tmps', defers', cs', w', fr, h1, h2, h3, rfl, h5⟩ := hex
        simp only [dleave] at h
        split at h
        · rename_i u' vs hd hrcv hres
          exact back (fr := { Fr b tmps' defers' [] with mode := .returning }) h1 h3 hd hrcv hres rfl rfl rfl rfl rfl h2 (h5.trans (.one (step_Fr_end rfl))) h
        · cases h
      | ret st' =>
        obtain ⟨ρ', tmps', defers', cs', w', fr, h1, h2, h3, ⟨todo, rfl⟩, h5⟩ := hex
        simp only [dleave] at h
        split at h
        · rename_i u' vs hd hrcv hres
          exact back (fr := { Fr b tmps' defers' (.code .ret :: todo) with mode := .returning }) h1 h3 hd hrcv hres rfl rfl rfl rfl rfl h2 (h5.trans (.one (step_Fr_ret rfl))) h
        · cases h
      | pan ch st' =>
        obtain ⟨ρ', tmps', defers', cs', w', fr, h1, h2, h3, ⟨todo, xs, hx, rfl⟩, h5⟩ := hex
        simp only [dleave] at h
        split at h <;> cases h

/-- A block that lies there already is taken in as a new one. -/
theorem wrel_add (hw : WRel P ρ H w) {x : ABlk} {o : Obj} {p : Place} {ρ' : Emb} (hρ : ρ' = fun b => if b = H.next then some p else ρ b) (ho : w.heap[p.r]? = some o) (hb : BRel P ρ' p x o)
    (hfree : ∀ b q y, ρ b = some q → H.get b = some y → q.r ≠ p.r) : WRel P ρ' (H.new x) w := by
  have hmono : ∀ b p, ρ b = some p → ρ' b = some p := fun b p e => by
    have := hw.lt e
    rw [hρ]; simp only; rw [if_neg (by omega)]; exact e
  have hself : ρ' H.next = some p := by rw [hρ]; simp
  have hother : ∀ b, b ≠ H.next → ρ' b = ρ b := fun b h => by rw [hρ]; simp [h]
  constructor
  · intro b blk hbn e
    simp only [AHeap.next_new] at hbn
    rw [AHeap.get_new] at e
    by_cases h : b = H.next
    · subst h
      simp only [if_true, Option.some.injEq] at e
      subst e
      exact ⟨_, o, hself, ho, hb⟩
    · rw [if_neg h] at e
      obtain ⟨p, o', hp, ho, hr⟩ := hw.blocks b blk (by omega) e
      exact ⟨p, o', hmono _ _ hp, ho, hr.mono hmono⟩
  · intro b c x' y' p q hbn hcn hb' hc' hne hown hp hq
    simp only [AHeap.next_new] at hbn hcn
    rw [AHeap.get_new] at hb' hc'
    by_cases h1 : b = H.next
    · subst h1
      have h2 : c ≠ H.next := fun e => hne e.symm
      rw [if_neg h2] at hc'
      rw [hself] at hp
      rw [hother _ h2] at hq
      cases hp
      exact fun e => hfree c q y' hq hc' e.symm
    · rw [if_neg h1] at hb'
      rw [hother _ h1] at hp
      by_cases h2 : c = H.next
      · subst h2
        rw [hself] at hq
        cases hq
        exact hfree b p x' hp hb'
      · rw [if_neg h2] at hc'
        rw [hother _ h2] at hq
        exact hw.inj b c x' y' p q (by omega) (by omega) hb' hc' hne hown hp hq
  · intro b hb'
    simp only [AHeap.next_new] at hb'
    rw [hother _ (by omega)]
    exact hw.fresh _ (by omega)
  · intro g hg
    obtain ⟨p, h1, h2⟩ := hw.glob g hg
    exact ⟨p, hmono _ _ h1, h2⟩
end
end Go.Eng

namespace Go.Eng
open RowKit
set_option linter.unusedSimpArgs false
noncomputable section

section
variable {P : Program} {ρ ρ' : Emb} {H H' : AHeap} {w w' : World} {R : Tab} {cs : List Frame}

theorem leaves (S : Sound P R) {fn : Func} {rs : List BRes} {tm : Tm} : ∀ (ds : List ADef) {u : AMode} {H : AHeap} {w : World} {ρ : Emb} {fr : Frame} {es : List Deferred} {v : AVal} {H' : AHeap},
    WRel P ρ H w → TmRel ρ tm fr.tmps → cresults P fr.tmps.size fn.results.toList = some rs → DRels ρ ds es → fr.defers = es → MRel ρ u fr.mode → P.funcs[fr.fn]? = some fn → fr.kind = .normal →
    leaveA R rs tm ds u H = .ret v H' →
    ∃ x ρ' w' fr', VRel ρ' v x ∧ Stp P ρ H w ρ' H' w' ∧ Steps P (lone fr cs w) (lone fr' cs w') ∧ fr'.fn = fr.fn ∧ fr'.leaving P w' (.returned x)
  | [], u, H, w, ρ, fr, es, v, H', hw, ht, hc, hd, he, hm, hf, hk, h => by
    cases hd
    generalize hmode : fr.mode = m at hm
    cases hm with
    | ret =>
      simp only [leaveA, resultA] at h
      cases hr : resultsA tm H rs with
      | none => rw [hr] at h; cases h
      | some vs =>
        rw [hr] at h
        obtain ⟨x, h1, h2⟩ := run_results hw ht hc hr
        have key : ∀ vs : List AVal, (match vs with | [v] => ER.ret v H | vs => .ret (.tuple vs) H) = .ret v H' → VRel ρ (match vs with | [v] => v | vs => .tuple vs) x → VRel ρ v x ∧ H' = H := by
          intro vs h g
          rcases vs with _ | ⟨a, _ | ⟨a', as⟩⟩ <;> (cases h; exact ⟨g, rfl⟩)
        obtain ⟨k1, rfl⟩ := key vs h h1
        exact ⟨x, ρ, w, fr, k1, .refl hw, .refl P _, rfl, hmode, he, hk, fn, hf, h2⟩
    | pan hp => simp only [leaveA, reduceCtorEq] at h
  | .coll bb :: ds, u, H, w, ρ, fr, es, v, H', hw, ht, hc, hd, he, hm, hf, hk, h => by
    cases hd with
    | coll hb hs =>
      rename_i p es
      simp only [leaveA] at h
      cases htk : takenAt H bb with
      | false => rw [htk] at h; cases h
      | true =>
        rw [htk] at h
        simp only [cond_true] at h
        unfold takenAt at htk
        split at htk
        · rename_i hg
          obtain ⟨ob, ho, hr⟩ := hw.blk hg hb
          cases hr
          have hrun : fr.mode ≠ .run := by
            intro e
            rw [e] at hm
            cases hm
          have hstep := step_collect (P := P) (cs := cs) hrun he ho
          have hst : Stp P ρ H w ρ (H.set bb (.defs true)) { w with heap := w.heap.setIfInBounds p.r (.deferred none) } := stp_set hw hg rfl hb .taken rfl rfl rfl rfl
          obtain ⟨x, ρ', w', fr', g1, g2, g3, g4, g5⟩ := leaves S ds (fr := { fr with defers := es }) hst.wrel ht hc hs rfl hm hf hk h
          exact ⟨x, ρ', w', fr', g1, hst.trans g2 hw, .head hstep g3, g4, g5⟩
        · cases htk
  | .fn g args :: ds, u, H, w, ρ, fr, es, v, H', hw, ht, hc, hd, he, hm, hf, hk, h => by
    cases hd with
    | fn _ hv hs =>
      rename_i as cap es
      have hrun : fr.mode ≠ .run := by
        intro e
        rw [e] at hm
        cases hm
      have hd := S.dcall g args u H w ρ (as ++ cap) { fr with defers := es } cs hw hv hm
      simp only [leaveA] at h
      cases hr : R.dcall g args u H with
      | fail => rw [hr] at h; cases h
      | ret u' H1 =>
        rw [hr] at hd h
        obtain ⟨hcall, ρ1, w1, m', h1, h2, h3⟩ := hd
        have hstep := step_defer (P := P) (cs := cs) hrun he rfl (by simpa [invoke] using hcall)
        obtain ⟨x, ρ', w', fr', g1, g2, g3, g4, g5⟩ := leaves S ds (fr := { fr with defers := es, mode := Go.settle m' }) h2.wrel (h2.tmrel hw ht) hc (hs.mono (h2.mono hw)) rfl (PRels.settle h1) hf hk h
        exact ⟨x, ρ', w', fr', g1, h2.trans g2 hw, (Steps.head hstep h3).trans g3, g4, g5⟩
      | pan ch u' H1 =>
        rw [hr] at hd h
        obtain ⟨hcall, ρ1, w1, m', xs, h1, hp, h2, h3⟩ := hd
        have hstep := step_defer (P := P) (cs := cs) hrun he rfl (by simpa [invoke] using hcall)
        obtain ⟨x, ρ', w', fr', g1, g2, g3, g4, g5⟩ := leaves S ds (fr := { fr with defers := es, mode := Go.raised m' xs }) h2.wrel (h2.tmrel hw ht) hc (hs.mono (h2.mono hw)) rfl (PRels.raised h1 hp) hf hk h
        exact ⟨x, ρ', w', fr', g1, h2.trans g2 hw, (Steps.head hstep h3).trans g3, g4, g5⟩

/-- A call from without, deferred calls and all. -/
def topL (P : Program) (f : BEnt) (args : List AVal) (H : AHeap) (R : Tab) : ER :=
  match f with
  | .fn fn => bif Nat.ble args.length fn.ntmps then
      leaveCR R fn.results (execF P fn.body R ⟨putFrom args 0 .leaf, [], none, none, ⟨H.tr, H.next, H.next⟩⟩)
    else .fail
  | _ => .fail

theorem full_calls (fit : Fit P) (S : Sound P R) {f : FuncId} {args : List AVal} {args' : Array Value} (hw : WRel P ρ H w) (ha : VRels ρ args args'.toList) {v : AVal} (h : topL P (cfun P f) args H R = .ret v H') :
    Calls P f args' w fun e w' => ∃ x ρ', VRel ρ' v x ∧ e = .returned x ∧ Stp P ρ ⟨H.tr, H.next, H.next⟩ w ρ' H' w' := by
  cases hcf : cfun P f with
  | bad => rw [hcf] at h; cases h
  | ext name e => rw [hcf] at h; cases h
  | fn fe =>
    rw [hcf] at h
    obtain ⟨fn, c, rs, hf, hb, hrs, rfl⟩ := cfun_some hcf
    simp only [topL, execF_eq] at h
    cases hle : Nat.ble args.length fn.ntmps with
    | false => rw [hle] at h; cases h
    | true =>
      rw [hle] at h
      have hle := ble_iff.1 hle
      simp only [cond_true] at h
      have hlen := ha.length
      simp only [Array.length_toList] at hlen
      intro cs
      have hw0 : WRel P ρ ⟨H.tr, H.next, H.next⟩ w := hw.congr (fun _ => rfl) rfl
      let b : Frame := Frame.enter P f args' .normal
      have hsize : (args' ++ Array.replicate (fn.ntmps - args'.size) undef).size = fn.ntmps := by simp; omega
      have f0 : FRel P ρ b cs ⟨putFrom args 0 .leaf, [], none, none, ⟨H.tr, H.next, H.next⟩⟩ (args' ++ Array.replicate (fn.ntmps - args'.size) undef) [] cs w :=
        { wrel := hw0, tm := enter_tm ha _, defs := .nil, cs := rfl, rnd := rfl, kind := rfl, fn := ⟨fn, hf⟩ }
      have hex := exec_out S (draw_ok fit S) c (.code c) b cs [] _ _ _ _ _ _ (.inl rfl) f0
      rw [hsize] at hex
      have he := enter_eq (P := P) hf hb args' .normal
      rw [he]
      have rcvNone : ∀ {ρ' : Emb} {st' : St} {tmps' : Array Value} {defers' : List Deferred} {cs' : List Frame} {w' : World}, FRel P ρ' b cs st' tmps' defers' cs' w' → st'.rcv = none := by
        intro ρ' st' tmps' defers' cs' w' f'
        have := f'.kind
        cases hr : st'.rcv with
        | none => rfl
        | some u =>
          rw [hr] at this
          exact absurd (show b.kind = .deferred from this) (by simp [b, Frame.enter])
      have leave : ∀ {ρ' : Emb} {st' : St} {tmps' : Array Value} {defers' : List Deferred} {cs' : List Frame} {w' : World} {fr : Frame} {u : AMode}, FRel P ρ' b cs st' tmps' defers' cs' w' → tmps'.size = fn.ntmps →
          fr.tmps = tmps' → fr.defers = defers' → fr.fn = f → fr.kind = .normal → MRel ρ' u fr.mode → Stp P ρ ⟨H.tr, H.next, H.next⟩ w ρ' st'.H w' →
          Steps P (lone (Fr b (args' ++ Array.replicate (fn.ntmps - args'.size) undef) [] [.code c]) cs w) (lone fr cs' w') →
          leaveA R rs st'.tm st'.defs u st'.H = .ret v H' →
          ∃ e w' fr, (∃ x ρ', VRel ρ' v x ∧ e = .returned x ∧ Stp P ρ ⟨H.tr, H.next, H.next⟩ w ρ' H' w') ∧ Comes P (lone (Fr b (args' ++ Array.replicate (fn.ntmps - args'.size) undef) [] [.code c]) cs w) (lone fr cs w') e ∧ fr.fn = f ∧ fr.leaving P w' e := by
        intro ρ' st' tmps' defers' cs' w' fr u f' hsz h1 h2 h3 h4 h5 hst hsteps hres
        have hcs := f'.cs
        rw [rcvNone f'] at hcs
        have hcs : cs' = cs := hcs
        subst hcs
        subst h1
        obtain ⟨x, ρ2, w2, fr2, g1, g2, g3, g4, g5⟩ := leaves S (cs := cs') st'.defs (fr := fr) (fn := fn) (rs := rs) f'.wrel f'.tm (by rw [hsz]; exact hrs) f'.defs h2 h5 (by rw [h3]; exact hf) h4 hres
        exact ⟨.returned x, w2, fr2, ⟨x, ρ2, g1, rfl, hst.trans g2 hw0⟩, hsteps.trans g3, g4.trans h3, g5⟩
      revert hex h
      generalize execB P (ccode P fn.ntmps c) R ⟨putFrom args 0 .leaf, [], none, none, ⟨H.tr, H.next, H.next⟩⟩ = r
      intro h hex
      cases r with
      | fail => cases h
      | exit id st' => cases h
      | pan ch st' =>
        obtain ⟨ρ', tmps', defers', cs', w', fr, h1, h2, h3, ⟨todo, xs, hx, rfl⟩, h5⟩ := hex
        exact leave (fr := { Fr b tmps' defers' todo with mode := .panicking xs }) h1 h3 rfl rfl rfl rfl (.pan hx) h2 h5 h
      | norm st' =>
        obtain ⟨ρ', tmps', defers', cs', w', fr, h1, h2, h3, rfl, h5⟩ := hex
        exact leave (fr := { Fr b tmps' defers' [] with mode := .returning }) h1 h3 rfl rfl rfl rfl .ret h2 (h5.trans (.one (step_Fr_end rfl))) h
      | ret st' =>
        obtain ⟨ρ', tmps', defers', cs', w', fr, h1, h2, h3, ⟨todo, rfl⟩, h5⟩ := hex
        exact leave (fr := { Fr b tmps' defers' (.code .ret :: todo) with mode := .returning }) h1 h3 rfl rfl rfl rfl .ret h2 (h5.trans (.one (step_Fr_ret rfl))) h

theorem full_below (fit : Fit P) (S : Sound P R) {f : FuncId} {args : List AVal} {args' : Array Value} (hw : WRel P ρ H w) (ha : VRels ρ args args'.toList) {v : AVal} (h : topL P (cfun P f) args H R = .ret v H') (hl : H.next ≤ H'.low) :
    Calls P f args' w fun e w' => ∃ x ρ', VRel ρ' v x ∧ e = .returned x ∧ WRel P ρ' H' w' ∧ Below w.heap.size w w' :=
  (full_calls fit S hw ha h).mono fun _ _ ⟨x, ρ', h1, h2, h3⟩ => ⟨x, ρ', h1, h2, h3.wrel, h3.os, h3.tape, h3.output, h3.size, fun r hr => h3.frame r hr fun _ _ _ hp _ => Nat.lt_of_lt_of_le (hw.lt hp) hl⟩

/-- A closed call as a contract, over any sound table. -/
theorem call_plainL (fit : Fit P) (S : Sound P R) {f : FuncId} {args : List AVal} {args' : Array Value} (hw : WRel P ρ H w) (ha : VRels ρ args args'.toList) {v : AVal} {y : Value}
    (h : outOf H.next (topL P (cfun P f) args H R) = some (v, true)) (hv : toVal v = some y) : Calls P f args' w fun e w' => e = .returned y ∧ Below w.heap.size w w' := by
  obtain ⟨H', h1, h2⟩ := outOf_ret h
  exact (full_below fit S hw ha h1 h2).mono fun e w' ⟨x, ρ', hx, he, _, hb⟩ => ⟨by rw [he, hx.toVal hv], hb⟩
end
end
end Go.Eng
