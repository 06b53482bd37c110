/- The engine, first part: an interpreter over abstract values and memory; what its values stand for; each of its operations does what the machine's does. Conditions: none. -/
import GoSem.Step
import Derived.Calls
import Derived.Defers
import Derived.Laws.Cells
import Derived.Laws.IdiomCopy
import Derived.Laws.Strings
import Derived.ChangeKeysEq
import Derived.Laws.StructEq
import Derived.Lib.UnsafeStr
import Derived.Laws.BytesString
set_option linter.all false
namespace Go.Eng
noncomputable section

/-- Abstract values: as the model's, but blocks are numbers of the abstract memory, and a capacity may be a lower bound. -/
inductive AVal where
  | bool (b : Bool)
  | int (k : IntKind) (n : Int)
  | str (s : List UInt8)
  | ptr (b o : Nat)
  | nilPtr
  | slice (b o len cap esz : Nat) (exact : Bool)
  | nilSlice
  | emptySlice
  | map (b : Nat)
  | nilMap
  | func (fn : Fn) (first captured : List AVal)
  | yld (b : Nat)
  | nilFunc
  | iface (t : TypeId) (v : AVal)
  | nilIface
  | agg (cs : List AVal)
  | tuple (vs : List AVal)
  deriving Inhabited

abbrev AVal.undef : AVal := .tuple []

def AVal.cells : AVal → List AVal
  | .agg cs => cs
  | .bool b => [.bool b]
  | .int k n => [.int k n]
  | v => [v]

def AVal.plain : AVal → Bool
  | .agg _ => false
  | .tuple _ => false
  | _ => true

mutual
/-- No block from n on is named. -/
def AVal.under : AVal → Nat → Bool
  | .ptr b _ => fun n => Nat.blt b n
  | .slice b _ _ _ _ _ => fun n => Nat.blt b n
  | .map b => fun n => Nat.blt b n
  | .yld b => fun n => Nat.blt b n
  | .func _ first captured => fun n => AVal.unders first n && AVal.unders captured n
  | .iface _ v => fun n => v.under n
  | .agg cs => fun n => AVal.unders cs n
  | .tuple cs => fun n => AVal.unders cs n
  | _ => fun _ => true
def AVal.unders : List AVal → Nat → Bool
  | [] => fun _ => true
  | v :: vs => fun n => v.under n && AVal.unders vs n
end

mutual
/-- A constant of the code as an abstract value. -/
def ofVal : Value → Option AVal
  | .bool b => some (.bool b)
  | .int k n => some (.int k n)
  | .string s => some (.str s.data.toList)
  | .pointer none => some .nilPtr
  | .slice none 0 0 => some .nilSlice
  | .map none => some .nilMap
  | .nilFunc => some .nilFunc
  | .nilIface => some .nilIface
  | .agg ⟨cs⟩ => (ofVals cs).map .agg
  | .tuple ⟨cs⟩ => (ofVals cs).map .tuple
  | _ => none
def ofVals : List Value → Option (List AVal)
  | [] => some []
  | v :: vs => match ofVal v with
    | some x => match ofVals vs with
      | some xs => some (x :: xs)
      | none => none
    | none => none
end

structure APan where
  v : AVal
  recovered : Bool
  deriving Inhabited

inductive AMode where
  | ret
  | pan (chain : List APan)
  deriving Inhabited

inductive ADef where
  | coll (b : Nat)
  | fn (f : FuncId) (args : List AVal)
  deriving Inhabited

/-! ### Lists -/

/-- Written with the recursor, for the kernel's sake. -/
def getAt {α : Type} (l : List α) (i : Nat) : Option α :=
  List.rec (motive := fun _ => Nat → Option α) (fun _ => none) (fun x _ ih i => Nat.rec (motive := fun _ => Option α) (some x) (fun j _ => ih j) i) l i

def setAt {α : Type} (l : List α) (i : Nat) (a : α) : List α :=
  List.rec (motive := fun _ => Nat → List α) (fun _ => []) (fun x xs ih i => Nat.rec (motive := fun _ => List α) (a :: xs) (fun j _ => x :: ih j) i) l i

/-- n elements from i on, if they are there. -/
def sub? {α : Type} (l : List α) (i n : Nat) : Option (List α) :=
  let r := (l.drop i).take n
  bif Nat.beq r.length n then some r else none

/-- New elements in the place of those from i on. -/
def splice {α : Type} (l : List α) (i : Nat) (new : List α) : List α := l.take i ++ new ++ l.drop (i + new.length)

def eqBytes : List UInt8 → List UInt8 → Bool
  | [], [] => true
  | a :: as, b :: bs => Nat.beq a.toNat b.toNat && eqBytes as bs
  | _, _ => false

def leBytes : List UInt8 → List UInt8 → Bool
  | [], _ => true
  | _ :: _, [] => false
  | a :: as, b :: bs => bif Nat.beq a.toNat b.toNat then leBytes as bs else Nat.ble a.toNat b.toNat

def bytesOf : List AVal → Option (List UInt8)
  | [] => some []
  | .int .u8 n :: vs => match bytesOf vs with
    | some r => some (UInt8.ofNat n.toNat :: r)
    | none => none
  | _ => none

def repeated (zero : List AVal) : Nat → List AVal
  | 0 => []
  | n + 1 => zero ++ repeated zero n

/-! ### Temporaries: a tree by binary digits -/

inductive Tm where
  | leaf
  | node (v : AVal) (l r : Tm)
  deriving Inhabited

/-- The place of number i. -/
def pathOf : Nat → Nat → List Bool
  | 0, _ => []
  | n + 1, i => bif Nat.beq i 0 then [] else bif Nat.beq (Nat.mod i 2) 1 then false :: pathOf n (Nat.div i 2) else true :: pathOf n (Nat.div i 2 - 1)

def path (i : Nat) : List Bool := pathOf (i + 1) i

def Tm.get (p : List Bool) (t : Tm) : AVal :=
  List.rec (motive := fun _ => Tm → AVal) (fun t => Tm.casesOn t .undef (fun v _ _ => v))
    (fun b _ ih t => Tm.casesOn t .undef (fun _ l r => Bool.casesOn b (ih l) (ih r))) p t

def Tm.put (p : List Bool) (x : AVal) (t : Tm) : Tm :=
  List.rec (motive := fun _ => Tm → Tm) (fun t => Tm.casesOn t (.node x .leaf .leaf) (fun _ l r => .node x l r))
    (fun b _ ih t => Tm.casesOn t (Bool.casesOn b (.node .undef (ih .leaf) .leaf) (.node .undef .leaf (ih .leaf)))
      (fun v l r => Bool.casesOn b (.node v (ih l) r) (.node v l (ih r)))) p t

/-! ### The small code -/

inductive BX where
  | t (p : List Bool)
  | c (v : AVal)
  deriving Inhabited

/-- The kinds of keys that maps may have here. -/
inductive KK where
  | int | str | bool

/-- Operations on one value, that neither read nor write memory. -/
inductive U1 where
  | id | not | neg | com
  | cvt (k : IntKind)
  | chk | asStr
  | iface (t : TypeId)
  | fld (off : Nat)
  | part1 (off : Nat) | partN (off n : Nat)
  | asrt (t : TypeId) (ok : Bool) (z : AVal)
  | asrtI (miss : TypeId → Option Bool) (ok : Bool) (z : AVal)
  | ext (i : Nat)
  | lenStr | lenSl | lenC (n : Nat) | capSl
  | sdata

/-- Operations on two values. -/
inductive U2 where
  | int (op : BinOp) | shift (op : BinOp) | str (op : BinOp)
  | idxA (len n : Nat) | idxS (n : Nat)
  | idxV1 (len : Nat) | idxVN (len n : Nat) | idxStr
  deriving Inhabited

inductive BOp where
  | u (f : U1) (x : BX)
  | b (f : U2) (x y : BX)
  | eq (neg nilOk : Bool) (t : TypeId) (x y : BX)
  | pick (c x y : BX)
  | build (z : List AVal) (ps : List (Nat × Nat × BX))
  | mkFunc (fn : Fn) (first captured : List BX)
  | subStr (x : BX) (lo hi : Option BX)
  | subSl (esz : Nat) (x : BX) (lo hi : Option BX)
  | subArr (n esz : Nat) (x : BX) (lo hi : Option BX)
  | minmax (big : Bool) (x : BX) (xs : List BX)
  -- make memory
  | alloc (z : List AVal) (e : TypeId)
  | box (e : TypeId) (x : BX)
  | mkArr (e : TypeId) (esz len : Nat) (z : List AVal) (ps : List (Nat × Nat × BX))
  | mkMap
  | mkSlice (e : TypeId) (esz : Nat) (z : List AVal) (l c : BX)
  | toBytes (e : TypeId) (x : BX)
  | toRunes (e : TypeId) (x : BX)
  | rng (x : BX)
  -- read memory
  | load1 (a : BX)
  | loadN (n : Nat) (a : BX)
  | look (kk : KK) (ok : Bool) (z : AVal) (m k : BX)
  | toStr (x : BX)
  | toUns (x : BX)
  | ofUns (u n : Nat) (x : BX)
  | lenMap (x : BX)
  -- write memory
  | store (n : Nat) (a x : BX)
  | upd (kk : KK) (m k x : BX)
  | still (x : BX)
  | nxt (x : BX)
  | append (e : TypeId) (esz bytes : Nat) (s x : BX)
  | appendZ (e : TypeId) (esz bytes : Nat) (z : List AVal) (s x : BX)
  | copy (esz : Nat) (d s : BX)
  | clear (z : List AVal) (x : BX)
  | ustr (u : TypeId) (p l : BX)
  -- calls
  | call (f : FuncId) (args : List BX)
  | callV (f : BX) (args : List BX)
  | invoke (recv : BX) (name : String) (args : List BX)
  | defer (f : BX) (args : List BX)
  | recover
  | panic (x : BX)
  | bad

/-- An operation of a region: where its value goes, and whether it is done. -/
structure BIns where
  dst : Option (List Bool)
  guard : Option (List Bool × Bool)
  op : BOp

inductive BCode where
  | skip
  | reg (ops : List BIns)
  | draw (ops : List (BIns × Nat))
  | seq (a b : BCode)
  | cond (c : BX) (a b : BCode)
  | block (id : Nat) (c : BCode)
  | loop (c : BCode)
  | rangeF (n : Nat) (f : BX) (params : List (List Bool)) (assign body : BCode)
  | exit (id : Nat)
  | ret
  | bad

/-! ### Memory -/

/-- What a round of a loop over a function leaves to be done. -/
inductive Jump where
  | none | ret | exit (id : Nat)

structure ALoop where
  state : LoopState
  pending : Jump
  tm : Tm
  params : List (List Bool)
  assign : BCode
  body : BCode
  defers : Nat
  n : Nat

/-- Cells that may be written, cells that are frozen, cells that others may share. -/
inductive Wr where
  | rw | ro | sh
  deriving DecidableEq

def Wr.isRw : Wr → Bool
  | .rw => true
  | _ => false

def Wr.own : Wr → Bool
  | .sh => false
  | _ => true

inductive ABlk where
  | cells (cs : List AVal) (elem : TypeId) (wr : Wr)
  | map (es : List (AVal × AVal))
  | siter (s : List UInt8) (pos : Nat)
  | loop (l : ALoop)
  | defs (taken : Bool)

/-- A finite map from numbers: a tree by binary digits. -/
inductive Tr where
  | leaf
  | node (v : Option ABlk) (l r : Tr)

def Tr.get (p : List Bool) (t : Tr) : Option ABlk :=
  List.rec (motive := fun _ => Tr → Option ABlk) (fun t => Tr.casesOn t none (fun v _ _ => v))
    (fun b _ ih t => Tr.casesOn t none (fun _ l r => Bool.casesOn b (ih l) (ih r))) p t

def Tr.put (p : List Bool) (x : Option ABlk) (t : Tr) : Tr :=
  List.rec (motive := fun _ => Tr → Tr) (fun t => Tr.casesOn t (.node x .leaf .leaf) (fun _ l r => .node x l r))
    (fun b _ ih t => Tr.casesOn t (Bool.casesOn b (.node none (ih .leaf) .leaf) (.node none .leaf (ih .leaf)))
      (fun v l r => Bool.casesOn b (.node v (ih l) r) (.node v l (ih r)))) p t

structure AHeap where
  tr : Tr
  next : Nat
  low : Nat

def AHeap.get (H : AHeap) (b : Nat) : Option ABlk := Tr.get (path b) H.tr
def AHeap.new (H : AHeap) (o : ABlk) : AHeap := ⟨Tr.put (path H.next) (some o) H.tr, H.next + 1, H.low⟩
def AHeap.set (H : AHeap) (b : Nat) (o : ABlk) : AHeap := ⟨Tr.put (path b) (some o) H.tr, H.next, bif Nat.ble b H.low then b else H.low⟩
def AHeap.drop (H : AHeap) (b : Nat) : AHeap := ⟨Tr.put (path b) none H.tr, H.next, bif Nat.ble b H.low then b else H.low⟩

/-- The cells of a block; nothing where it is none of cells. -/
def ABlk.cs? : ABlk → Option (List AVal)
  | .cells cs _ _ => some cs
  | _ => none

def AHeap.cellsAt (H : AHeap) (b o n : Nat) : Option (List AVal) :=
  match H.get b with
  | some (.cells cs _ _) => sub? cs o n
  | _ => none

def AHeap.cellAt (H : AHeap) (b o : Nat) : Option AVal :=
  match H.get b with
  | some (.cells cs _ _) => getAt cs o
  | _ => none

/-- A store of cells that are all there. -/
def AHeap.storeAt (H : AHeap) (b o : Nat) (vs : List AVal) : Option AHeap :=
  match H.get b with
  | some (.cells cs e .rw) => bif Nat.ble (o + vs.length) cs.length then some (H.set b (.cells (splice cs o vs) e .rw)) else none
  | _ => none

/-- A store of one cell. -/
def AHeap.store1 (H : AHeap) (b o : Nat) (v : AVal) : Option AHeap :=
  match H.get b with
  | some (.cells cs e .rw) => bif Nat.blt o cs.length then some (H.set b (.cells (setAt cs o v) e .rw)) else none
  | _ => none

/-! ### Operations on values -/

/-- What an operation comes to: a value and the memory, or nothing that the engine knows. -/
inductive OR where
  | v (x : AVal) (H : AHeap)
  | p (chain : List APan) (H : AHeap)
  | x

def ov : Option AVal → AHeap → OR
  | some v => fun H => .v v H
  | none => fun _ => .x

def boolA (b : Bool) : Option AVal := some (.bool b)

def Int.ltB : Int → Int → Bool
  | .ofNat a, .ofNat b => Nat.blt a b
  | .ofNat _, .negSucc _ => false
  | .negSucc _, .ofNat _ => true
  | .negSucc a, .negSucc b => Nat.blt b a

def Int.eqB : Int → Int → Bool
  | .ofNat a, .ofNat b => Nat.beq a b
  | .negSucc a, .negSucc b => Nat.beq a b
  | _, _ => false

/-- The natural number below a bound that an integer is. -/
def Int.below : Int → Nat → Option Nat
  | .ofNat a => fun n => bif Nat.blt a n then some a else none
  | .negSucc _ => fun _ => none

def intOp : BinOp → IntKind → Int → Int → Option AVal
  | .add => fun k x y => some (.int k (k.wrap (x + y)))
  | .sub => fun k x y => some (.int k (k.wrap (x - y)))
  | .mul => fun k x y => some (.int k (k.wrap (x * y)))
  | .quo => fun k x y => bif Int.eqB y 0 then none else some (.int k (k.wrap (x.tdiv y)))
  | .rem => fun k x y => bif Int.eqB y 0 then none else some (.int k (x.tmod y))
  | .and => fun k x y => some (.int k (k.wrap (BitVec.ofInt k.bits x &&& BitVec.ofInt k.bits y).toNat))
  | .or => fun k x y => some (.int k (k.wrap (BitVec.ofInt k.bits x ||| BitVec.ofInt k.bits y).toNat))
  | .xor => fun k x y => some (.int k (k.wrap (BitVec.ofInt k.bits x ^^^ BitVec.ofInt k.bits y).toNat))
  | .andNot => fun k x y => some (.int k (k.wrap (BitVec.ofInt k.bits x &&& ~~~(BitVec.ofInt k.bits y)).toNat))
  | .eql => fun _ x y => boolA (Int.eqB x y)
  | .neq => fun _ x y => boolA (!Int.eqB x y)
  | .lss => fun _ x y => boolA (Int.ltB x y)
  | .leq => fun _ x y => boolA (!Int.ltB y x)
  | .gtr => fun _ x y => boolA (Int.ltB y x)
  | .geq => fun _ x y => boolA (!Int.ltB x y)
  | _ => fun _ _ _ => none

def shiftOp : BinOp → IntKind → Int → Int → Option AVal
  | .shl => fun k x y => match y with
    | .ofNat n => some (.int k (k.wrap (x * 2 ^ Nat.min n k.bits)))
    | .negSucc _ => none
  | .shr => fun k x y => match y with
    | .ofNat n => some (.int k (x.fdiv (2 ^ Nat.min n k.bits)))
    | .negSucc _ => none
  | _ => fun _ _ _ => none

def strOp : BinOp → List UInt8 → List UInt8 → Option AVal
  | .add => fun x y => bif Nat.ble (x.length + y.length) 4611686018427387904 then some (.str (x ++ y)) else none
  | .eql => fun x y => boolA (eqBytes x y)
  | .neq => fun x y => boolA (!eqBytes x y)
  | .lss => fun x y => boolA (!leBytes y x)
  | .leq => fun x y => boolA (leBytes x y)
  | .gtr => fun x y => boolA (!leBytes x y)
  | .geq => fun x y => boolA (leBytes y x)
  | _ => fun _ _ => none

def u2Int (op : BinOp) : AVal → AVal → Option AVal
  | .int k a, .int k' b => bif decide (k = k') then intOp op k a b else none
  | _, _ => none

def u2Shift (op : BinOp) : AVal → AVal → Option AVal
  | .int k a, .int _ b => shiftOp op k a b
  | _, _ => none

def u2Str (op : BinOp) : AVal → AVal → Option AVal
  | .str a, .str b => strOp op a b
  | _, _ => none

def idxPtr (len n : Nat) (b o : Nat) (i : Int) : Option AVal :=
  match Int.below i len with
  | some j => some (.ptr b (o + j * n))
  | none => none

def u2IdxA (len n : Nat) : AVal → AVal → Option AVal
  | .ptr b o, .int _ i => idxPtr len n b o i
  | _, _ => none

def u2IdxS (n : Nat) : AVal → AVal → Option AVal
  | .slice b o len _ _ _, .int _ i => idxPtr len n b o i
  | _, _ => none

def u2IdxV1 (len : Nat) : AVal → AVal → Option AVal
  | .agg cs, .int _ i => match Int.below i len with
    | some j => getAt cs j
    | none => none
  | _, _ => none

def u2IdxVN (len n : Nat) : AVal → AVal → Option AVal
  | .agg cs, .int _ i => match Int.below i len with
    | some j => match sub? cs (j * n) n with
      | some r => some (.agg r)
      | none => none
    | none => none
  | _, _ => none

def u2IdxStr : AVal → AVal → Option AVal
  | .str s, .int _ (.ofNat i) => match getAt s i with
    | some b => some (.int .u8 b.toNat)
    | none => none
  | _, _ => none

def U2.run : U2 → AVal → AVal → Option AVal
  | .int op => fun x y => u2Int op x y
  | .shift op => fun x y => u2Shift op x y
  | .str op => fun x y => u2Str op x y
  | .idxA len n => fun x y => u2IdxA len n x y
  | .idxS n => fun x y => u2IdxS n x y
  | .idxV1 len => fun x y => u2IdxV1 len x y
  | .idxVN len n => fun x y => u2IdxVN len n x y
  | .idxStr => fun x y => u2IdxStr x y

def holds (ok : Bool) (v : AVal) : Option AVal := some (bif ok then .tuple [v, .bool true] else v)
def fails (ok : Bool) (z : AVal) : Option AVal := bif ok then some (.tuple [z, .bool false]) else none

def u1Not : AVal → Option AVal | .bool b => some (.bool (!b)) | _ => none
def u1Neg : AVal → Option AVal | .int k n => some (.int k (k.wrap (0 - n))) | _ => none
def u1Com : AVal → Option AVal
  | .int k n => some (.int k (k.wrap (BitVec.ofInt k.bits (bif k.signed then -1 else k.max) ^^^ BitVec.ofInt k.bits n).toNat))
  | _ => none
def u1Cvt (k : IntKind) : AVal → Option AVal | .int _ n => some (.int k (k.wrap n)) | _ => none
def u1Chk : AVal → Option AVal
  | .ptr b o => some (.ptr b o)
  | .func (.func g) f c => some (.func (.func g) f c)
  | .yld b => some (.yld b)
  | .iface t v => some (.iface t v)
  | _ => none
def u1Str : AVal → Option AVal | .str s => some (.str s) | _ => none
def u1Fld (off : Nat) : AVal → Option AVal | .ptr b o => some (.ptr b (o + off)) | _ => none
def u1Part1 (off : Nat) : AVal → Option AVal | .agg cs => getAt cs off | _ => none
def u1PartN (off n : Nat) : AVal → Option AVal
  | .agg cs => match sub? cs off n with
    | some r => some (.agg r)
    | none => none
  | _ => none
def u1Asrt (t : TypeId) (ok : Bool) (z : AVal) : AVal → Option AVal
  | .iface u v => bif Nat.beq u t then holds ok v else fails ok z
  | .nilIface => fails ok z
  | _ => none
def u1AsrtI (miss : TypeId → Option Bool) (ok : Bool) (z : AVal) : AVal → Option AVal
  | .iface u v => match miss u with
    | some true => fails ok z
    | some false => holds ok (.iface u v)
    | none => none
  | .nilIface => fails ok z
  | _ => none
def u1Ext (i : Nat) : AVal → Option AVal | .tuple vs => getAt vs i | _ => none
def u1LenStr : AVal → Option AVal | .str s => some (.int .i64 s.length) | _ => none
def u1LenSl : AVal → Option AVal
  | .slice _ _ n _ _ _ => some (.int .i64 n)
  | .nilSlice => some (.int .i64 0)
  | .emptySlice => some (.int .i64 0)
  | _ => none
def u1CapSl : AVal → Option AVal
  | .slice _ _ _ c _ true => some (.int .i64 c)
  | .nilSlice => some (.int .i64 0)
  | _ => none
def u1Sdata : AVal → Option AVal
  | .nilSlice => some .nilPtr
  | .slice b o _ c _ _ => bif Nat.beq c 0 then none else some (.ptr b o)
  | _ => none

def U1.run : U1 → AVal → Option AVal
  | .id => fun x => some x
  | .not => fun x => u1Not x
  | .neg => fun x => u1Neg x
  | .com => fun x => u1Com x
  | .cvt k => fun x => u1Cvt k x
  | .chk => fun x => u1Chk x
  | .asStr => fun x => u1Str x
  | .iface t => fun x => some (.iface t x)
  | .fld off => fun x => u1Fld off x
  | .part1 off => fun x => u1Part1 off x
  | .partN off n => fun x => u1PartN off n x
  | .asrt t ok z => fun x => u1Asrt t ok z x
  | .asrtI miss ok z => fun x => u1AsrtI miss ok z x
  | .ext i => fun x => u1Ext i x
  | .lenStr => fun x => u1LenStr x
  | .lenSl => fun x => u1LenSl x
  | .lenC n => fun _ => some (.int .i64 n)
  | .capSl => fun x => u1CapSl x
  | .sdata => fun x => u1Sdata x

def BX.ev : BX → Tm → AVal
  | .t p => fun tm => Tm.get p tm
  | .c v => fun _ => v

def evs : List BX → Tm → List AVal
  | [] => fun _ => []
  | x :: xs => fun tm => x.ev tm :: evs xs tm

/-! ### Equality -/

section
variable (P : Program)

def sizeOf (t : TypeId) : Option Nat := (P.info? t).map (·.size)

def zeroOf (t : TypeId) : Option AVal :=
  match P.info? t with
  | some i => match i.zero with
    | some v => ofVal v
    | none => none
  | none => none

/-- Is it a struct or an array? Nothing where the type is unknown. -/
def aggOf (t : TypeId) : Option Bool :=
  match P.underlying t with
  | some (.struct _) => some true
  | some (.array _ _) => some true
  | some _ => some false
  | none => none

def part (t : TypeId) (cs : List AVal) (off : Nat) : Option AVal :=
  match aggOf P t with
  | some true => match sizeOf P t with
    | some n => match sub? cs off n with
      | some r => some (.agg r)
      | none => none
    | none => none
  | some false => getAt cs off
  | none => none

mutual
def aequal : Nat → TypeId → AVal → AVal → Option Bool
  | 0, _, _, _ => none
  | d + 1, t, x, y =>
    match P.underlying t with
    | some (.bool) => match x, y with | .bool a, .bool b => some (a == b) | _, _ => none
    | some (.int _) => match x, y with | .int k a, .int k' b => bif decide (k = k') then some (Int.eqB a b) else none | _, _ => none
    | some (.string) => match x, y with | .str a, .str b => some (eqBytes a b) | _, _ => none
    | some (.pointer elem) => match x, y with
      | .nilPtr, .nilPtr => some true
      | .nilPtr, .ptr _ _ => some false
      | .ptr _ _, .nilPtr => some false
      | .ptr b o, .ptr b' o' => match sizeOf P elem with
        | some n => bif Nat.beq b b' && !(Nat.beq n 0) then some (Nat.beq o o') else none
        | none => none
      | _, _ => none
    | some (.interface _) => match x, y with
      | .nilIface, .nilIface => some true
      | .nilIface, .iface _ _ => some false
      | .iface _ _, .nilIface => some false
      | .iface tx vx, .iface ty vy =>
        bif Nat.beq tx ty then
          match P.info? tx with
          | some i => bif i.comparable then aequal d tx vx vy else none
          | none => none
        else some false
      | _, _ => none
    | some (.struct fields) => match x, y with
      | .agg xs, .agg ys => bif P.stoodInHeld t then none else aequalFields d fields.toList xs ys
      | _, _ => none
    | some (.array len elem) => match x, y with
      | .agg xs, .agg ys => match sizeOf P elem with
        | some n => aequalElems d elem n xs ys len 0
        | none => none
      | _, _ => none
    | some (.slice _) => match x, y with
      | .nilSlice, .nilSlice => some true
      | .nilSlice, .slice .. => some false
      | .nilSlice, .emptySlice => some false
      | .slice .., .nilSlice => some false
      | .emptySlice, .nilSlice => some false
      | _, _ => none
    | some (.map _ _) => match x, y with
      | .nilMap, .nilMap => some true
      | .nilMap, .map _ => some false
      | .map _, .nilMap => some false
      | _, _ => none
    | some (.func _ _ _) => match x, y with
      | .nilFunc, .nilFunc => some true
      | .nilFunc, .func .. => some false
      | .func .., .nilFunc => some false
      | _, _ => none
    | _ => none
def aequalFields : Nat → List Field → List AVal → List AVal → Option Bool
  | _, [], _, _ => some true
  | 0, _ :: _, _, _ => none
  | d + 1, f :: fs, xs, ys =>
    bif f.name == "_" then aequalFields d fs xs ys else
    match part P f.type xs f.offset with
    | some x => match part P f.type ys f.offset with
      | some y => match aequal d f.type x y with
        | some true => aequalFields d fs xs ys
        | r => r
      | none => none
    | none => none
def aequalElems : Nat → TypeId → Nat → List AVal → List AVal → Nat → Nat → Option Bool
  | _, _, _, _, _, 0, _ => some true
  | 0, _, _, _, _, _ + 1, _ => none
  | d + 1, elem, n, xs, ys, k + 1, i =>
    match part P elem xs (i * n) with
    | some x => match part P elem ys (i * n) with
      | some y => match aequal d elem x y with
        | some true => aequalElems d elem n xs ys k (i + 1)
        | r => r
      | none => none
    | none => none
end

end

/-! ### Operations on memory -/

def boundA : Nat → Option AVal → Nat → Option Nat
  | d, none => fun _ => some d
  | _, some (.int _ (.ofNat i)) => fun top => bif Nat.ble i top then some i else none
  | _, some _ => fun _ => none

def evO : Option BX → Tm → Option AVal
  | none => fun _ => none
  | some x => fun tm => some (x.ev tm)

/-- A slice that begins l elements later, at a capacity of which cap elements are known. -/
def advance (b o len cap esz l : Nat) (ex : Bool) : AVal :=
  bif Nat.beq cap l then (bif ex then .slice b o (len - l) 0 esz true else .emptySlice)
  else .slice b (o + l * esz) (len - l) (cap - l) esz ex

def subStrA : AVal → Option AVal → Option AVal → Option AVal
  | .str s => fun lo hi => match boundA s.length hi s.length with
    | some h => match boundA 0 lo h with
      | some l => some (.str ((s.take h).drop l))
      | none => none
    | none => none
  | _ => fun _ _ => none

def subSlA (esz : Nat) : AVal → Option AVal → Option AVal → Option AVal
  | .slice b o len cap esz' ex => fun lo hi => bif Nat.beq esz esz' then
      match boundA len hi cap with
      | some h => match boundA 0 lo h with
        | some l => some (advance b o h cap esz l ex)
        | none => none
      | none => none
    else none
  | .nilSlice => fun lo hi => match boundA 0 hi 0 with
    | some h => match boundA 0 lo h with
      | some _ => some .nilSlice
      | none => none
    | none => none
  | .emptySlice => fun lo hi => match boundA 0 hi 0 with
    | some h => match boundA 0 lo h with
      | some _ => some .emptySlice
      | none => none
    | none => none
  | _ => fun _ _ => none

def subArrA (n esz : Nat) : AVal → Option AVal → Option AVal → Option AVal
  | .ptr b o => fun lo hi => match boundA n hi n with
    | some h => match boundA 0 lo h with
      | some l => some (advance b o h n esz l true)
      | none => none
    | none => none
  | _ => fun _ _ => none

def foldMM (big : Bool) : AVal → List AVal → Option AVal
  | x, [] => some x
  | .int k a, .int _ b :: rest => foldMM big (.int k (bif big then (bif Int.ltB a b then b else a) else (bif Int.ltB b a then b else a))) rest
  | _, _ => none

def fillA : List AVal → List (Nat × Nat × BX) → Tm → Option (List AVal)
  | cells, [] => fun _ => some cells
  | cells, (off, size, x) :: rest => fun tm =>
    let vs := (x.ev tm).cells
    bif Nat.beq vs.length size && Nat.ble (off + size) cells.length then fillA (splice cells off vs) rest tm else none

def keyEq : KK → AVal → AVal → Option Bool
  | .int, .int k x, .int k' y => bif decide (k = k') then some (Int.eqB x y) else none
  | .str, .str x, .str y => some (eqBytes x y)
  | .bool, .bool x, .bool y => some (x == y)
  | _, _, _ => none

def findA (kk : KK) (k : AVal) : List (AVal × AVal) → Option (Option AVal)
  | [] => some none
  | (a, v) :: es => match keyEq kk k a with
    | some true => some (some v)
    | some false => findA kk k es
    | none => none

def updA (kk : KK) (k v : AVal) : List (AVal × AVal) → Option (List (AVal × AVal))
  | [] => some [(k, v)]
  | (a, u) :: es => match keyEq kk k a with
    | some true => some ((k, v) :: es)
    | some false => match updA kk k v es with
      | some r => some ((a, u) :: r)
      | none => none
    | none => none

def mapEs (H : AHeap) : AVal → Option (List (AVal × AVal))
  | .nilMap => some []
  | .map b => match H.get b with | some (.map es) => some es | _ => none
  | _ => none

def runesA (s : List UInt8) : List AVal := (Conv.runesFrom ⟨⟨s⟩⟩ s.length 0 #[]).toList.filterMap ofVal

/-- The first n elements of what is appended or copied, as cells of the given size. -/
def firstA (H : AHeap) (size n : Nat) : AVal → Option (List AVal)
  | .slice b o _ _ _ _ => bif Nat.beq (n * size) 0 then some [] else H.cellsAt b o (n * size)
  | .nilSlice => bif Nat.beq n 0 then some [] else none
  | .emptySlice => bif Nat.beq n 0 then some [] else none
  | .str s => some ((s.take n).map fun b => .int .u8 b.toNat)
  | _ => none

def lenOfA : AVal → Option Nat
  | .slice _ _ n _ _ _ => some n
  | .nilSlice => some 0
  | .emptySlice => some 0
  | .str s => some s.length
  | _ => none

def lenSlA : AVal → Option Nat
  | .slice _ _ n _ _ _ => some n
  | .nilSlice => some 0
  | .emptySlice => some 0
  | _ => none

/-- `new`: the n elements that are appended. -/
def appendTo (elem : TypeId) (esz bytes n : Nat) (new : List AVal) (H : AHeap) : AVal → OR
  | .nilSlice => bif Nat.beq n 0 then .v .nilSlice H else
      bif Nat.ble ((4 * n + 4096) * bytes) 281474976710656 then .v (.slice H.next 0 n n esz false) (H.new (.cells new elem .rw)) else .x
  | .slice b o len cap esz' ex =>
    bif !(Nat.beq esz esz') then .x else
    bif Nat.ble (len + n) cap then
      bif Nat.beq n 0 then .v (.slice b o len cap esz ex) H else
      match H.get b with
      | some (.cells cs e .rw) =>
        bif Nat.ble (o + len * esz) cs.length && (!ex || Nat.ble (o + (len + n) * esz) cs.length) && new.all AVal.plain then
          .v (.slice b o (len + n) cap esz ex) (H.set b (.cells (splice cs (o + len * esz) new) e .rw))
        else .x
      | _ => .x
    else
    bif Nat.ble ((4 * (len + n) + 4096) * bytes) 281474976710656 then
      match H.get b with
      | some (.cells cs e wr) => match sub? cs o (len * esz) with
        | some old =>
          bif ex then .v (.slice H.next 0 (len + n) (len + n) esz false) (H.new (.cells (old ++ new) elem .rw))
          else bif wr.isRw && Nat.beq o 0 && Nat.beq e elem && new.all AVal.plain then .v (.slice H.next 0 (len + n) (len + n) esz false) ((H.drop b).new (.cells (old ++ new) elem .rw))
          else .x
        | none => .x
      | _ => .x
    else .x
  | _ => .x

def appendA (elem : TypeId) (esz bytes : Nat) (s x : AVal) (H : AHeap) : OR :=
  match lenOfA x with
  | some n => match firstA H esz n x with
    | some new => bif Nat.beq esz 0 || !(Nat.beq new.length (n * esz)) then .x else appendTo elem esz bytes n new H s
    | none => .x
  | none => .x

def appendZA (elem : TypeId) (esz bytes : Nat) (z : List AVal) (s : AVal) (H : AHeap) : AVal → OR
  | .int .i64 (.ofNat n) => bif Nat.ble n 1048576 && Nat.beq z.length esz && !(Nat.beq esz 0) && Nat.ble (n * bytes) 281474976710656 then appendTo elem esz bytes n (repeated z n) H s else .x
  | _ => .x

def copyA (esz : Nat) (dst src : AVal) (H : AHeap) : OR :=
  match lenSlA dst with
  | some dl => match lenOfA src with
    | some sl =>
      let n := Nat.min sl dl
      match firstA H esz n src with
      | some cs => bif Nat.beq cs.length (n * esz) then
          (bif Nat.beq cs.length 0 then .v (.int .i64 n) H else
          match dst with
          | .slice b o _ _ _ _ => bif cs.all AVal.plain then (match H.storeAt b o cs with
            | some H' => .v (.int .i64 n) H'
            | none => .x) else .x
          | _ => .x)
        else .x
      | none => .x
    | none => .x
  | none => .x

def clearA (z : List AVal) (H : AHeap) : AVal → OR
  | .slice b o n _ _ _ => bif (repeated z n).all AVal.plain then (match H.storeAt b o (repeated z n) with
    | some H' => .v (.tuple []) H'
    | none => .x) else .x
  | .nilSlice => .v (.tuple []) H
  | .emptySlice => .v (.tuple []) H
  | _ => .x

def ustrA (u : TypeId) (H : AHeap) : AVal → AVal → OR
  | .ptr b o, .int _ (.ofNat n) => bif Nat.beq n 0 then .v (.str []) H else
      bif Nat.ble n 4611686018427387904 then
        match H.get b with
        | some (.cells cs e wr) => bif Nat.beq e u && wr.own then
            match sub? cs o n with
            | some vs => match bytesOf vs with
              | some s => .v (.str s) (H.set b (.cells cs e .ro))
              | none => .x
            | none => .x
          else .x
        | _ => .x
      else .x
  | .nilPtr, .int _ (.ofNat n) => bif Nat.beq n 0 then .v (.str []) H else .x
  | _, _ => .x

def stillA (H : AHeap) : AVal → OR
  | .slice b o len cap esz ex => match H.get b with
    | some (.cells cs el wr) => bif wr.own then .v (.slice b o len cap esz ex) (H.set b (.cells cs el .ro)) else .x
    | _ => .x
  | _ => .x

def nxtA (H : AHeap) : AVal → OR
  | .ptr b 0 => match H.get b with
    | some (.siter s pos) =>
      bif Nat.blt pos s.length then
        match Utf8.decode ⟨⟨s⟩⟩ pos with
        | (c, width) => .v (.tuple [.bool true, .int .i64 pos, .int .i32 c]) (H.set b (.siter s (pos + width)))
      else .v (.tuple [.bool false]) H
    | _ => .x
  | _ => .x

def storeA (n : Nat) (H : AHeap) (v : AVal) : AVal → OR
  | .ptr b o =>
    bif Nat.beq n 1 then
      match v with
      | .agg [w] => bif w.plain then (match H.store1 b o w with | some H' => .v .undef H' | none => .x) else .x
      | v => bif v.plain then (match H.store1 b o v with | some H' => .v .undef H' | none => .x) else .x
    else match v with
      | .agg cs => bif Nat.beq cs.length n && cs.all AVal.plain then (match H.storeAt b o cs with | some H' => .v .undef H' | none => .x) else .x
      | _ => .x
  | _ => .x

def lookA (kk : KK) (ok : Bool) (z : AVal) (H : AHeap) (m k : AVal) : OR :=
  match mapEs H m with
  | some es => match findA kk k es with
    | some (some v) => ov (holds ok v) H
    | some none => .v (bif ok then .tuple [z, .bool false] else z) H
    | none => .x
  | none => .x

def mupdA (kk : KK) (H : AHeap) (k x : AVal) : AVal → OR
  | .map b => match H.get b with
    | some (.map es) => match updA kk k x es with
      | some es' => .v .undef (H.set b (.map es'))
      | none => .x
    | _ => .x
  | _ => .x

def toStrA (H : AHeap) : AVal → OR
  | .nilSlice => .v (.str []) H
  | .emptySlice => .v (.str []) H
  | .slice b o len _ _ _ => match H.cellsAt b o len with
    | some cs => match bytesOf cs with
      | some s => .v (.str s) H
      | none => .x
    | none => .x
  | _ => .x

def toUnsA (H : AHeap) : AVal → OR
  | .ptr b o => match H.get b with
    | some (.cells cs _ _) => bif Nat.blt o cs.length then .v (.ptr b o) H else .x
    | _ => .x
  | _ => .x

def ofUnsA (u n : Nat) (H : AHeap) : AVal → OR
  | .ptr b o => match H.get b with
    | some (.cells cs e _) => bif Nat.beq e u && Nat.beq o 0 && Nat.ble n cs.length && Nat.blt 0 n then .v (.ptr b o) H else .x
    | _ => .x
  | _ => .x

def lenMapA (H : AHeap) (m : AVal) : OR :=
  match mapEs H m with
  | some es => .v (.int .i64 es.length) H
  | none => .x

def mkSliceA (e : TypeId) (esz : Nat) (z : List AVal) (H : AHeap) : AVal → AVal → OR
  | .int .i64 (.ofNat l), .int .i64 (.ofNat c) =>
    bif Nat.ble l c && Nat.ble c 1048576 then .v (.slice H.next 0 l c esz true) (H.new (.cells (repeated z c) e .rw)) else .x
  | _, _ => .x

def load1A (H : AHeap) : AVal → OR
  | .ptr b o => ov (H.cellAt b o) H
  | _ => .x

def loadNA (n : Nat) (H : AHeap) : AVal → OR
  | .ptr b o => match H.cellsAt b o n with
    | some cs => .v (.agg cs) H
    | none => .x
  | _ => .x

def AVal.isNilIface : AVal → Bool
  | .nilIface => true
  | _ => false

def eqA (P : Program) (neg nilOk : Bool) (t : TypeId) (H : AHeap) (x y : AVal) : OR :=
  bif x.isNilIface && y.isNilIface && !nilOk then .x else
  match aequal P 100 t x y with
  | some b => .v (.bool (bif neg then !b else b)) H
  | none => .x

def pickA (x y : AVal) : AVal → Option AVal
  | .bool b => some (bif b then x else y)
  | _ => none

def minmaxA (big : Bool) (xs : List AVal) : AVal → Option AVal
  | .int k a => foldMM big (.int k a) xs
  | _ => none

def mkArrA (e : TypeId) (esz len : Nat) (H : AHeap) : Option (List AVal) → OR
  | some cs => .v (.slice H.next 0 len len esz true) (H.new (.cells cs e .rw))
  | none => .x

def toBytesA (e : TypeId) (H : AHeap) : AVal → OR
  | .str s => .v (.slice H.next 0 s.length s.length 1 false) (H.new (.cells (s.map fun b => .int .u8 b.toNat) e .rw))
  | _ => .x

def toRunesA (e : TypeId) (H : AHeap) : AVal → OR
  | .str s => .v (.slice H.next 0 (runesA s).length (runesA s).length 1 false) (H.new (.cells (runesA s) e .rw))
  | _ => .x

def rngA (H : AHeap) : AVal → OR
  | .str s => .v (.ptr H.next 0) (H.new (.siter s 0))
  | _ => .x

def panicA (H : AHeap) : AVal → OR
  | .iface t v => .p [⟨.iface t v, false⟩] H
  | _ => .x

/-- The operations that call nothing, defer nothing, recover nothing. -/
def BOp.mem (P : Program) : BOp → Tm → AHeap → OR
  | .u f x => fun tm H => ov (f.run (x.ev tm)) H
  | .b f x y => fun tm H => ov (f.run (x.ev tm) (y.ev tm)) H
  | .eq neg nilOk t x y => fun tm H => eqA P neg nilOk t H (x.ev tm) (y.ev tm)
  | .pick c x y => fun tm H => ov (pickA (x.ev tm) (y.ev tm) (c.ev tm)) H
  | .build z ps => fun tm H => ov ((fillA z ps tm).map .agg) H
  | .mkFunc fn first captured => fun tm H => .v (.func fn (evs first tm) (evs captured tm)) H
  | .subStr x lo hi => fun tm H => ov (subStrA (x.ev tm) (evO lo tm) (evO hi tm)) H
  | .subSl esz x lo hi => fun tm H => ov (subSlA esz (x.ev tm) (evO lo tm) (evO hi tm)) H
  | .subArr n esz x lo hi => fun tm H => ov (subArrA n esz (x.ev tm) (evO lo tm) (evO hi tm)) H
  | .minmax big x xs => fun tm H => ov (minmaxA big (evs xs tm) (x.ev tm)) H
  | .alloc z e => fun _ H => .v (.ptr H.next 0) (H.new (.cells z e .rw))
  | .box e x => fun tm H => let cs := (x.ev tm).cells; bif cs.all AVal.plain then .v (.ptr H.next 0) (H.new (.cells cs e .rw)) else .x
  | .mkArr e esz len z ps => fun tm H => mkArrA e esz len H (fillA z ps tm)
  | .mkMap => fun _ H => .v (.map H.next) (H.new (.map []))
  | .mkSlice e esz z l c => fun tm H => mkSliceA e esz z H (l.ev tm) (c.ev tm)
  | .toBytes e x => fun tm H => toBytesA e H (x.ev tm)
  | .toRunes e x => fun tm H => toRunesA e H (x.ev tm)
  | .rng x => fun tm H => rngA H (x.ev tm)
  | .load1 a => fun tm H => load1A H (a.ev tm)
  | .loadN n a => fun tm H => loadNA n H (a.ev tm)
  | .look kk ok z m k => fun tm H => lookA kk ok z H (m.ev tm) (k.ev tm)
  | .toStr x => fun tm H => toStrA H (x.ev tm)
  | .toUns x => fun tm H => toUnsA H (x.ev tm)
  | .ofUns t n x => fun tm H => ofUnsA t n H (x.ev tm)
  | .lenMap x => fun tm H => lenMapA H (x.ev tm)
  | .store n a x => fun tm H => storeA n H (x.ev tm) (a.ev tm)
  | .upd kk m k x => fun tm H => mupdA kk H (k.ev tm) (x.ev tm) (m.ev tm)
  | .still x => fun tm H => stillA H (x.ev tm)
  | .nxt x => fun tm H => nxtA H (x.ev tm)
  | .append e esz bytes s x => fun tm H => appendA e esz bytes (s.ev tm) (x.ev tm) H
  | .appendZ e esz bytes z s x => fun tm H => appendZA e esz bytes z (s.ev tm) H (x.ev tm)
  | .copy esz d s => fun tm H => copyA esz (d.ev tm) (s.ev tm) H
  | .clear z x => fun tm H => clearA z H (x.ev tm)
  | .ustr t p l => fun tm H => ustrA t H (p.ev tm) (l.ev tm)
  | .panic x => fun tm H => panicA H (x.ev tm)
  | _ => fun _ _ => .x

end
end Go.Eng

namespace Go.Eng
noncomputable section

/-! ### Operands -/

section
variable (P : Program) (n : Nat)

def cx : Operand → Option BX
  | .tmp t => bif Nat.blt t n then some (.t (path t)) else none
  | .const v => match ofVal v with
    | some a => some (.c a)
    | none => none
  | .global g => bif Nat.blt g P.globals.size then some (.c (.ptr g 0)) else none
  | .func f => some (.c (.func (.func f) [] []))

def cxs : List Operand → Option (List BX)
  | [] => some []
  | x :: xs => match cx P n x with
    | some a => match cxs xs with
      | some as => some (a :: as)
      | none => none
    | none => none

def cxo : Option Operand → Option (Option BX)
  | none => some none
  | some x => match cx P n x with
    | some a => some (some a)
    | none => none

def orBad : Option BOp → BOp
  | some o => o
  | none => .bad

def c1 (f : BX → BOp) (x : Operand) : BOp :=
  match cx P n x with
  | some a => f a
  | none => .bad

def c2 (f : BX → BX → BOp) (x y : Operand) : BOp :=
  match cx P n x with
  | some a => match cx P n y with
    | some b => f a b
    | none => .bad
  | none => .bad

def c3 (f : BX → BX → BX → BOp) (x y z : Operand) : BOp :=
  match cx P n x with
  | some a => match cx P n y with
    | some b => match cx P n z with
      | some c => f a b c
      | none => .bad
    | none => .bad
  | none => .bad

def isConst : Operand → Bool
  | .const _ => true
  | _ => false

def keyKind (t : TypeId) : Option KK :=
  match P.underlying t with
  | some (.int _) => some .int
  | some .string => some .str
  | some .bool => some .bool
  | _ => none

/-- Does the model ask nothing but equality at two values of this type? -/
def eqOk (t : TypeId) : Bool :=
  match P.underlying t with
  | some (.interface _) => true
  | some (.struct _) => !(P.eqGuardType P.depth t)
  | some (.array _ _) => !(P.eqGuardType P.depth t)
  | _ => true

def cbin (op : BinOp) (t : TypeId) (x y : Operand) : BOp :=
  match P.underlying t with
  | some (.int _) => match op with
    | .shl => c2 P n (.b (.shift .shl)) x y
    | .shr => c2 P n (.b (.shift .shr)) x y
    | op => c2 P n (.b (.int op)) x y
  | some .string => c2 P n (.b (.str op)) x y
  | some _ => bif eqOk P t then match op with
      | .eql => c2 P n (.eq false (isConst x || isConst y) t) x y
      | .neq => c2 P n (.eq true (isConst x || isConst y) t) x y
      | _ => .bad
    else .bad
  | none => .bad

def cun : UnOp → Operand → BOp
  | .neg => c1 P n (.u .neg)
  | .xor => c1 P n (.u .com)
  | .not => c1 P n (.u .not)
  | .plus => fun _ => .bad

def cplaces : List (Nat × Operand) → (Nat → Option (Nat × Nat)) → Option (List (Nat × Nat × BX))
  | [], _ => some []
  | (i, x) :: ps, place => match place i with
    | some (off, size) => match cx P n x with
      | some a => match cplaces ps place with
        | some r => some ((off, size, a) :: r)
        | none => none
      | none => none
    | none => none

def fieldPlaces : List Field → Option (List (Nat × Nat))
  | [] => some []
  | f :: fs => match sizeOf P f.type with
    | some k => match fieldPlaces fs with
      | some r => some ((f.offset, k) :: r)
      | none => none
    | none => none

def cbuild (t : TypeId) (parts : List (Nat × Operand)) : BOp :=
  match zeroOf P t with
  | some z => match P.underlying t with
    | some (.struct fields) => match fieldPlaces P fields.toList with
      | some pl => match cplaces P n parts (getAt pl) with
        | some ps => .build z.cells ps
        | none => .bad
      | none => .bad
    | some (.array _ elem) => match sizeOf P elem with
      | some k => match cplaces P n parts (fun i => some (i * k, k)) with
        | some ps => .build z.cells ps
        | none => .bad
      | none => .bad
    | _ => .bad
  | none => .bad

/-- Zero cells for so many elements. -/
def zeros (elem : TypeId) (esz len : Nat) : Option (List AVal) :=
  bif Nat.beq (len * esz) 0 then some [] else match zeroOf P elem with
    | some z => bif Nat.beq z.cells.length esz then some (repeated z.cells len) else none
    | none => none

def cbuildSlice (t : TypeId) (len : Nat) (parts : List (Nat × Operand)) : BOp :=
  match P.underlying t with
  | some (.slice elem) => match sizeOf P elem with
    | some esz => bif Nat.ble (len * esz) 16777216 && !(Nat.beq esz 0) then
        match zeros P elem esz len with
        | some z => match cplaces P n parts (fun i => some (i * esz, esz)) with
          | some ps => .mkArr elem esz len z ps
          | none => .bad
        | none => .bad
      else .bad
    | none => .bad
  | _ => .bad

def cmakeSlice (t : TypeId) (l c : Operand) : BOp :=
  match P.underlying t with
  | some (.slice elem) => match P.info? elem with
    | some i => match zeroOf P elem with
      | some z => bif Nat.ble i.bytes 65536 && Nat.beq z.cells.length i.size && !(Nat.beq i.size 0) then c2 P n (.mkSlice elem i.size z.cells) l c else .bad
      | none => .bad
    | none => .bad
  | _ => .bad

def cload (t : TypeId) (a : Operand) : BOp :=
  match aggOf P t with
  | some true => match sizeOf P t with
    | some k => c1 P n (.loadN k) a
    | none => .bad
  | some false => c1 P n .load1 a
  | none => .bad

def cstore (t : TypeId) (a x : Operand) : BOp :=
  match sizeOf P t with
  | some k => c2 P n (.store k) a x
  | none => .bad

def cconvert (src dst : TypeId) (x : Operand) : BOp :=
  match P.underlying dst with
  | some (.int k) => match P.underlying src with
    | some (.int _) => c1 P n (.u (.cvt k)) x
    | _ => .bad
  | some .string => match P.underlying src with
    | some .string => c1 P n (.u .asStr) x
    | some (.slice e) => match P.underlying e with
      | some (.int .u8) => c1 P n .toStr x
      | _ => .bad
    | _ => .bad
  | some (.slice e) => match P.underlying src with
    | some .string => match P.underlying e with
      | some (.int .u8) => c1 P n (.toBytes e) x
      | some (.int .i32) => c1 P n (.toRunes e) x
      | _ => .bad
    | some (.slice _) => match P.underlying e with
      | some (.int .u8) => bif Nat.beq src dst then c1 P n .still x else .bad
      | _ => .bad
    | _ => .bad
  | some .unsafePointer => match P.underlying src with
    | some (.pointer t) => match sizeOf P t with
      | some k => bif Nat.beq k 0 then .bad else c1 P n .toUns x
      | none => .bad
    | _ => .bad
  | some (.pointer u) => match P.underlying src with
    | some .unsafePointer => match sizeOf P u with
      | some k => bif Nat.beq k 0 then .bad else c1 P n (.ofUns u k) x
      | none => .bad
    | _ => .bad
  | _ => .bad

def cslice (t : TypeId) (x : Operand) (lo hi : Option Operand) : BOp :=
  match cx P n x with
  | some a => match cxo P n lo with
    | some l => match cxo P n hi with
      | some h => match P.underlying t with
        | some .string => .subStr a l h
        | some (.slice elem) => match sizeOf P elem with
          | some esz => .subSl esz a l h
          | none => .bad
        | some (.array k elem) => match sizeOf P elem with
          | some esz => .subArr k esz a l h
          | none => .bad
        | some (.pointer arr) => match P.underlying arr with
          | some (.array k elem) => match sizeOf P elem with
            | some esz => .subArr k esz a l h
            | none => .bad
          | _ => .bad
        | _ => .bad
      | none => .bad
    | none => .bad
  | none => .bad

def cfieldAddr (s : TypeId) (x : Operand) (f : Nat) : BOp :=
  match P.underlying s with
  | some (.struct fields) => match fields[f]? with
    | some fd => match sizeOf P fd.type with
      | some k => bif Nat.beq k 0 then .bad else c1 P n (.u (.fld fd.offset)) x
      | none => .bad
    | none => .bad
  | _ => .bad

def cpart (t : TypeId) (off : Nat) (x : Operand) : BOp :=
  match aggOf P t with
  | some true => match sizeOf P t with
    | some k => c1 P n (.u (.partN off k)) x
    | none => .bad
  | some false => c1 P n (.u (.part1 off)) x
  | none => .bad

def cfield (t : TypeId) (x : Operand) (f : Nat) : BOp :=
  match P.underlying t with
  | some (.struct fields) => match fields[f]? with
    | some fd => cpart P n fd.type fd.offset x
    | none => .bad
  | _ => .bad

def cindexAddr (t : TypeId) (x i : Operand) : BOp :=
  match P.underlying t with
  | some (.array len elem) => match sizeOf P elem with
    | some k => c2 P n (.b (.idxA len k)) x i
    | none => .bad
  | some (.slice elem) => match sizeOf P elem with
    | some k => c2 P n (.b (.idxS k)) x i
    | none => .bad
  | _ => .bad

def cindex (t : TypeId) (x i : Operand) : BOp :=
  match P.underlying t with
  | some (.array len elem) => match sizeOf P elem with
    | some k => match aggOf P elem with
      | some true => c2 P n (.b (.idxVN len k)) x i
      | some false => bif Nat.beq k 1 then c2 P n (.b (.idxV1 len)) x i else .bad
      | none => .bad
    | none => .bad
  | some .string => c2 P n (.b .idxStr) x i
  | _ => .bad

def clookup (t : TypeId) (m k : Operand) (ok : Bool) : BOp :=
  match P.underlying t with
  | some (.map kt et) => match keyKind P kt with
    | some kk => match zeroOf P et with
      | some z => c2 P n (.look kk ok z) m k
      | none => .bad
    | none => .bad
  | _ => .bad

def cupdate (t : TypeId) (m k x : Operand) : BOp :=
  match P.underlying t with
  | some (.map kt _) => match keyKind P kt with
    | some kk => c3 P n (.upd kk) m k x
    | none => .bad
  | _ => .bad

def cassert (x : Operand) (asserted : TypeId) (ok : Bool) : BOp :=
  match zeroOf P asserted with
  | some z => match P.underlying asserted with
    | some (.interface want) => c1 P n (.u (.asrtI (fun t => match P.info? t with
        | some i => some (Instr.missingMethod want i.methods).isSome
        | none => none) ok z)) x
    | some _ => c1 P n (.u (.asrt asserted ok z)) x
    | none => .bad
  | none => .bad

def clen (t : TypeId) (x : Operand) : BOp :=
  match P.underlying t with
  | some .string => c1 P n (.u .lenStr) x
  | some (.slice _) => c1 P n (.u .lenSl) x
  | some (.array k _) => c1 P n (.u (.lenC k)) x
  | some (.map _ _) => c1 P n .lenMap x
  | some (.pointer arr) => match P.underlying arr with
    | some (.array k _) => c1 P n (.u (.lenC k)) x
    | _ => .bad
  | _ => .bad

def cappend (t : TypeId) (ts : List TypeId) (s x : Operand) : BOp :=
  match P.underlying t with
  | some (.slice elem) => match P.info? elem with
    | some i => match zeroOf P elem with
      | some z => bif Nat.beq i.bytes 0 || !(Nat.beq z.cells.length i.size) then .bad else match ts with
        | tx :: _ => match P.underlying tx with
          | some (.int _) => c2 P n (.appendZ elem i.size i.bytes z.cells) s x
          | some _ => c2 P n (.append elem i.size i.bytes) s x
          | none => .bad
        | [] => .bad
      | none => .bad
    | none => .bad
  | _ => .bad

def cbuiltin (b : Builtin) (args : List Operand) (types : List TypeId) : BOp :=
  match b, args, types with
  | .len, [x], t :: _ => clen P n t x
  | .cap, [x], t :: _ => match P.underlying t with
    | some (.slice _) => c1 P n (.u .capSl) x
    | _ => .bad
  | .max, x :: xs, _ => match cx P n x with
    | some a => match cxs P n xs with
      | some as => .minmax true a as
      | none => .bad
    | none => .bad
  | .min, x :: xs, _ => match cx P n x with
    | some a => match cxs P n xs with
      | some as => .minmax false a as
      | none => .bad
    | none => .bad
  | .append, [s, x], t :: ts => cappend P n t ts s x
  | .copy, [d, s], t :: _ => match P.underlying t with
    | some (.slice elem) => match sizeOf P elem with
      | some k => c2 P n (.copy k) d s
      | none => .bad
    | _ => .bad
  | .clear, [x], t :: _ => match P.underlying t with
    | some (.slice elem) => match zeroOf P elem with
      | some z => c1 P n (.clear z.cells) x
      | none => .bad
    | _ => .bad
  | .unsafeSliceData, [x], _ => c1 P n (.u .sdata) x
  | .unsafeString, [p, l], t :: _ => match P.underlying t with
    | some (.pointer u) => bif decide (sizeOf P u = some 1) then c2 P n (.ustr u) p l else .bad
    | _ => .bad
  | .recover, [], _ => .recover
  | _, _, _ => .bad

def ccall (c : Call) : BOp :=
  match c.callee with
  | .builtin b => cbuiltin P n b c.args.toList c.argTypes.toList
  | .value f => match cxs P n c.args.toList with
    | some as => match f with
      | .func g => .call g as
      | f => match cx P n f with
        | some x => .callV x as
        | none => .bad
    | none => .bad
  | .invoke r name => match cxs P n c.args.toList with
    | some as => match cx P n r with
      | some x => .invoke x name as
      | none => .bad
    | none => .bad

def cdefer (c : Call) : BOp :=
  match c.callee with
  | .value f => match cxs P n c.args.toList with
    | some as => match cx P n f with
      | some x => .defer x as
      | none => .bad
    | none => .bad
  | _ => .bad

def cmakeFunc (fn : Fn) (first captured : List Operand) : BOp :=
  match fn with
  | .yield _ => .bad
  | fn => match cxs P n first with
    | some f => match cxs P n captured with
      | some c => .mkFunc fn f c
      | none => .bad
    | none => .bad

def cop (op : Op) : BOp :=
  match op with
  | .move x => c1 P n (.u .id) x
  | .assign x => c1 P n (.u .id) x
  | .pick c a b => c3 P n .pick c a b
  | .alloc t => match zeroOf P t with
    | some z => .alloc z.cells t
    | none => .bad
  | .box t x => c1 P n (.box t) x
  | .build t parts => cbuild P n t parts.toList
  | .buildSlice t len parts => cbuildSlice P n t len parts.toList
  | .insert t m k x => cupdate P n t m k x
  | .load t a => cload P n t a
  | .store t a x => cstore P n t a x
  | .nilCheck x => c1 P n (.u .chk) x
  | .binOp op t x y _ => cbin P n op t x y
  | .unOp op _ x => cun P n op x
  | .convert src dst x => cconvert P n src dst x
  | .makeInterface t x => match P.underlying t with
    | some (.interface _) => .bad
    | some _ => c1 P n (.u (.iface t)) x
    | none => .bad
  | .makeFunc fn first captured => cmakeFunc P n fn first.toList captured.toList
  | .makeMap t none => match P.underlying t with
    | some (.map _ _) => .mkMap
    | _ => .bad
  | .makeMap t (some (.const (.int _ _))) => match P.underlying t with
    | some (.map _ _) => .mkMap
    | _ => .bad
  | .makeSlice t l c => cmakeSlice P n t l c
  | .slice t x lo hi none => cslice P n t x lo hi
  | .fieldAddr s x f => cfieldAddr P n s x f
  | .field t x f => cfield P n t x f
  | .indexAddr t x i => cindexAddr P n t x i
  | .index t x i => cindex P n t x i
  | .lookup t m k ok => clookup P n t m k ok
  | .mapUpdate t m k x => cupdate P n t m k x
  | .range t x => match P.underlying t with
    | some .string => c1 P n .rng x
    | _ => .bad
  | .next it true => c1 P n .nxt it
  | .typeAssert x _ asserted ok => cassert P n x asserted ok
  | .extract x i => c1 P n (.u (.ext i)) x
  | .call c => ccall P n c
  | .defer c => cdefer P n c
  | .panic x => c1 P n .panic x
  | _ => .bad

/-! ### Regions and code -/

def cdst : Option Tmp → Option (Option (List Bool))
  | none => some none
  | some d => bif Nat.blt d n then some (some (path d)) else none

/-- The temporary that holds what an operation was guarded by. -/
def cguard (all : List Oper) : Option (Nat × Bool) → Option (Option (List Bool × Bool))
  | none => some none
  | some (j, want) => match getAt all j with
    | some o => match o.dst with
      | some d => bif Nat.blt d n then some (some (path d, want)) else none
      | none => none
    | none => none

def cins (all : List Oper) (o : Oper) : BIns :=
  match cdst n o.dst with
  | some d => match cguard n all o.guard with
    | some g => ⟨d, g, cop P n o.op⟩
    | none => ⟨none, none, .bad⟩
  | none => ⟨none, none, .bad⟩

def ancOf (masks : List Nat) : List Edge → Nat
  | [] => 0
  | e :: es => bif Region.binds .any e then Nat.lor (Nat.lor (2 ^ e.on) ((getAt masks e.on).getD 0)) (ancOf masks es) else ancOf masks es

/-- For each operation the ones that come ahead of it in every order, as bits. -/
def ancs : List Oper → List Nat → List Nat
  | [], masks => masks
  | o :: os, masks => ancs os (masks ++ [ancOf masks o.after.toList])

def zipIns (all : List Oper) : List Oper → List Nat → List (BIns × Nat)
  | o :: os, m :: ms => (cins P n all o, m) :: zipIns all os ms
  | _, _ => []

def insAll (all : List Oper) : List Oper → List BIns
  | [] => []
  | o :: os => cins P n all o :: insAll all os

def namesT : List Operand → List Nat
  | [] => []
  | .tmp t :: xs => t :: namesT xs
  | _ :: xs => namesT xs

/-- The temporaries at which an operation looks, or into which it writes. -/
def looksAt (all : List Oper) (o : Oper) : List Nat :=
  namesT o.op.operands.toList ++ (match o.guard with
    | some (j, _) => match getAt all j with
      | some p => p.dst.toList
      | none => []
    | none => [])

def meets (d : Option Nat) (l : List Nat) : Bool :=
  match d with
  | some d => l.any (fun t => Nat.beq t d)
  | none => false

/-- Does each operation come behind every one ahead of it whose temporaries it shares (unless both only look)? -/
def tmpsOk (all : List Oper) : List (Oper × Nat) → Nat → List Oper → List Nat → Bool
  | _, _, [], _ => true
  | seen, i, o :: os, m :: ms =>
    (seen.all fun (p, j) => Nat.testBit m j || !(meets p.dst (looksAt all o) || meets o.dst (looksAt all p) || meets o.dst p.dst.toList)) &&
    tmpsOk all ((o, i) :: seen) (i + 1) os ms
  | _, _, _ :: _, [] => false

def noSelect : List Oper → Bool
  | [] => true
  | o :: os => (match o.op with | .select .. => false | _ => true) && noSelect os

/-- Does each operation wait for earlier ones alone? -/
def edgesOk : List Oper → Nat → Bool
  | [], _ => true
  | o :: os, i => o.after.toList.all (fun e => !(Region.binds .any e) || Nat.blt e.on i) && edgesOk os (i + 1)

def cregion (ops : List Oper) (draw : Bool) : BCode :=
  bif draw then
    bif tmpsOk ops [] 0 ops (ancs ops []) && noSelect ops && edgesOk ops 0 then .draw (zipIns P n ops ops (ancs ops [])) else .bad
  else .reg (insAll P n ops ops)

def cparams : List Tmp → Option (List (List Bool))
  | [] => some []
  | t :: ts => bif Nat.blt t n then match cparams ts with
      | some r => some (path t :: r)
      | none => none
    else none

def ccode : Code → BCode
  | .skip => .skip
  | .region _ ops draw => cregion P n ops.toList draw
  | .seq a b => .seq (ccode a) (ccode b)
  | .cond c a b => match cx P n c with
    | some x => .cond x (ccode a) (ccode b)
    | none => .bad
  | .block id c => .block id (ccode c)
  | .loop c => .loop (ccode c)
  | .rangeFunc f params assign body => match cx P n f with
    | some x => match cparams n params.toList with
      | some ps => .rangeF n x ps (ccode assign) (ccode body)
      | none => .bad
    | none => .bad
  | .exit id => .exit id
  | .ret => .ret
  | .label _ => .skip
  | .scope c => ccode c
  | _ => .bad

inductive BRes where
  | tm (p : List Bool)
  | c1 (p : List Bool)
  | cN (p : List Bool) (n : Nat)

def cresults : List ResultVar → Option (List BRes)
  | [] => some []
  | r :: rs => match cresults rs with
    | some l => match r with
      | .tmp t => bif Nat.blt t n then some (.tm (path t) :: l) else none
      | .cell a t => bif Nat.blt a n then
          (match aggOf P t with
            | some true => match sizeOf P t with
              | some k => some (.cN (path a) k :: l)
              | none => none
            | some false => some (.c1 (path a) :: l)
            | none => none)
        else none
    | none => none

end

structure BFun where
  ntmps : Nat
  results : List BRes
  body : BCode

inductive BEnt where
  | fn (f : BFun)
  | ext (name : String) (elem : TypeId)
  | bad

/-- The type of the elements, where the first result is a slice. -/
def elemOfRes (P : Program) (fn : Func) : TypeId :=
  match fn.resultTypes[0]? with
  | some t => match P.underlying t with
    | some (.slice e) => e
    | _ => 0
  | none => 0

def cfun (P : Program) (f : FuncId) : BEnt :=
  match P.funcs[f]? with
  | some fn => match fn.body with
    | some c => match cresults P fn.ntmps fn.results.toList with
      | some rs => .fn ⟨fn.ntmps, rs, ccode P fn.ntmps c⟩
      | none => .bad
    | none => .ext fn.name (elemOfRes P fn)
  | none => .bad

end
end Go.Eng

namespace Go.Eng
noncomputable section

structure St where
  tm : Tm
  defs : List ADef
  rcv : Option AMode
  rnd : Option Nat
  H : AHeap

/-- How code is left. -/
inductive CR where
  | norm (st : St)
  | exit (id : Nat) (st : St)
  | ret (st : St)
  | pan (ch : List APan) (st : St)
  | fail

/-- How a call ends. -/
inductive ER where
  | ret (v : AVal) (H : AHeap)
  | pan (ch : List APan) (H : AHeap)
  | fail

/-- How a deferred call ends: what became of the panic of the frame below it. -/
inductive DR where
  | ret (u : AMode) (H : AHeap)
  | pan (ch : List APan) (u : AMode) (H : AHeap)
  | fail

/-- The interpreter's own functions at one depth. -/
structure Tab where
  code : BCode → St → CR
  call : FuncId → List AVal → AHeap → ER
  dcall : FuncId → List AVal → AMode → AHeap → DR
  round : Nat → List AVal → AHeap → ER

def Tab.no : Tab := ⟨fun _ _ => .fail, fun _ _ _ => .fail, fun _ _ _ _ => .fail, fun _ _ _ => .fail⟩

def putD : Option (List Bool) → AVal → Tm → Tm
  | some p => fun v tm => Tm.put p v tm
  | none => fun _ tm => tm

def St.put (d : Option (List Bool)) (v : AVal) (H : AHeap) (st : St) : St := ⟨putD d v st.tm, st.defs, st.rcv, st.rnd, H⟩

def AVal.isB : AVal → Bool → Bool
  | .bool b => fun w => Bool.casesOn b (!w) w
  | _ => fun _ => false

def wantedB : Option (List Bool × Bool) → Tm → Bool
  | none => fun _ => true
  | some (p, w) => fun tm => (Tm.get p tm).isB w

section
variable (P : Program)

/-! ### Methods -/

inductive APlace where
  | val (v : AVal)
  | var (b o : Nat)

def loadVar (H : AHeap) (t : TypeId) (b o : Nat) : Option AVal :=
  match aggOf P t with
  | some true => match sizeOf P t with
    | some n => match H.cellsAt b o n with
      | some cs => some (.agg cs)
      | none => none
    | none => none
  | some false => H.cellAt b o
  | none => none

def APlace.get (H : AHeap) (t : TypeId) : APlace → Option AVal
  | .val v => some v
  | .var b o => loadVar P H t b o

def posSize (t : TypeId) : Bool :=
  match sizeOf P t with
  | some n => !(Nat.beq n 0)
  | none => false

def followA (H : AHeap) : List FieldStep → TypeId → APlace → Option (TypeId × APlace)
  | [], t, x => some (t, x)
  | s :: rest, t, x => match P.underlying s.struct with
    | some (.struct fields) => match fields[s.index]? with
      | some f =>
        bif s.deref then
          match APlace.get P H t x with
          | some (.ptr b o) => bif posSize P f.type then followA H rest f.type (.var b (o + f.offset)) else none
          | _ => none
        else match x with
          | .var b o => bif posSize P f.type then followA H rest f.type (.var b (o + f.offset)) else none
          | .val (.agg cs) => match part P f.type cs f.offset with
            | some v => followA H rest f.type (.val v)
            | none => none
          | .val _ => none
      | none => none
    | _ => none

def receiverA (H : AHeap) (xt : TypeId) (x : APlace) (ptrRecv : Bool) : Option AVal :=
  match P.underlying xt, ptrRecv, x with
  | some (.pointer _), true, x => APlace.get P H xt x
  | some (.pointer elem), false, x => match APlace.get P H xt x with
    | some (.ptr b o) => loadVar P H elem b o
    | _ => none
  | some _, true, .var b o => some (.ptr b o)
  | some _, true, .val _ => none
  | some _, false, x => APlace.get P H xt x
  | none, _, _ => none

def methodA (H : AHeap) : Nat → TypeId → AVal → String → Option (FuncId × AVal)
  | 0, _, _, _ => none
  | fuel + 1, t, v, name => match P.info? t with
    | some i => match i.methods.find? (·.name == name) with
      | some m => match followA P H m.path.toList t (.val v) with
        | some (xt, x) => match m.func with
          | none => match APlace.get P H xt x with
            | some (.iface t' v') => methodA H fuel t' v' name
            | _ => none
          | some (f, ptrRecv) => match receiverA P H xt x ptrRecv with
            | some r => some (f, r)
            | none => none
        | none => none
      | none => none
    | none => none

/-! ### Calls -/

def callMethodA (R : Tab) (H : AHeap) (name : String) (args : List AVal) : AVal → ER
  | .iface t v => match methodA P H 50 t v name with
    | some (f, r) => R.call f (r :: args) H
    | none => .fail
  | _ => .fail

def viaA (R : Tab) (H : AHeap) (t : TypeId) (path : List FieldStep) (f : FuncId) (ptrRecv : Bool) : List AVal → ER
  | x :: rest => match followA P H path t (.val x) with
    | some (xt, y) => match receiverA P H xt y ptrRecv with
      | some r => R.call f (r :: rest) H
      | none => .fail
    | none => .fail
  | [] => .fail

def methodOfA (R : Tab) (H : AHeap) (t : TypeId) (name : String) : List AVal → ER
  | x :: rest => match P.underlying t with
    | some (.interface _) => callMethodA P R H name rest x
    | some _ => callMethodA P R H name rest (.iface t x)
    | none => .fail
  | [] => .fail

def methodNA (R : Tab) (H : AHeap) (name : String) : List AVal → ER
  | recv :: rest => callMethodA P R H name rest recv
  | [] => .fail

def invokeA (R : Tab) (H : AHeap) (captured args : List AVal) : Fn → ER
  | .func g => R.call g (args ++ captured) H
  | .method name => methodNA P R H name args
  | .methodOf t name => methodOfA P R H t name args
  | .via t path f ptrRecv => viaA P R H t path.toList f ptrRecv args
  | .yield _ => .fail

def callVA (R : Tab) (H : AHeap) (as : List AVal) : AVal → ER
  | .func fn first captured => invokeA P R H captured (first ++ as) fn
  | .yld b => R.round b as H
  | _ => .fail

/-- An operation that calls. -/
def BOp.callB : BOp → Tab → Tm → AHeap → ER
  | .call f args => fun R tm H => R.call f (evs args tm) H
  | .callV f args => fun R tm H => callVA P R H (evs args tm) (f.ev tm)
  | .invoke r name args => fun R tm H => callMethodA P R H name (evs args tm) (r.ev tm)
  | _ => fun _ _ _ => .fail

def BOp.isCall : BOp → Bool
  | .call _ _ => true
  | .callV _ _ => true
  | .invoke _ _ _ => true
  | _ => false

def deferA : AVal → List AVal → Option ADef
  | .func (.func g) first captured => fun as => some (.fn g (first ++ as ++ captured))
  | _ => fun _ => none

/-! ### Regions -/

def goOn (d : Option (List Bool)) (k : St → CR) (st : St) : OR → CR
  | .v x H => k (st.put d x H)
  | .p ch H => .pan ch ⟨st.tm, st.defs, st.rcv, st.rnd, H⟩
  | .x => .fail

def goOnE (d : Option (List Bool)) (k : St → CR) (st : St) : ER → CR
  | .ret x H => k (st.put d x H)
  | .pan ch H => .pan ch ⟨st.tm, st.defs, st.rcv, st.rnd, H⟩
  | .fail => .fail

def goDefer (d : Option (List Bool)) (k : St → CR) (st : St) : Option ADef → CR
  | some a => match st.rnd with
    | none => k ⟨putD d .undef st.tm, a :: st.defs, st.rcv, none, st.H⟩
    | some _ => .fail
  | none => .fail

def goRecover (d : Option (List Bool)) (k : St → CR) (st : St) : CR :=
  match st.rnd with
  | some _ => .fail
  | none => match st.rcv with
    | some (.pan (⟨v, false⟩ :: older)) => k ⟨putD d v st.tm, st.defs, some (.pan (⟨v, true⟩ :: older)), none, st.H⟩
    | _ => k ⟨putD d .nilIface st.tm, st.defs, st.rcv, none, st.H⟩

def doIns : BOp → Option (List Bool) → (St → CR) → Tab → St → CR
  | .call f args => fun d k R st => goOnE d k st (R.call f (evs args st.tm) st.H)
  | .callV f args => fun d k R st => goOnE d k st (callVA P R st.H (evs args st.tm) (f.ev st.tm))
  | .invoke r name args => fun d k R st => goOnE d k st (callMethodA P R st.H name (evs args st.tm) (r.ev st.tm))
  | .defer f args => fun d k _ st => goDefer d k st (deferA (f.ev st.tm) (evs args st.tm))
  | .recover => fun d k _ st => goRecover d k st
  | op => fun d k _ st => goOn d k st (op.mem P st.tm st.H)

def stepIns (o : BIns) (k : St → CR) (R : Tab) (st : St) : CR :=
  bif wantedB o.guard st.tm then doIns P o.op o.dst k R st else k (st.put o.dst .undef st.H)

def seqOps (l : List BIns) (R : Tab) (st : St) : CR :=
  List.rec (motive := fun _ => Tab → St → CR) (fun _ st => .norm st) (fun o _ ih R st => stepIns P o (ih R) R st) l R st

/-! ### Regions that draw their order -/

/-- An operation that looks at memory: its number, whether it changes what was there, and the blocks at which it looks, if they are known. -/
structure Loud where
  op : Nat
  wr : Bool
  blk : Option (List Nat)

def memN (b : Nat) : List Nat → Bool
  | [] => false
  | c :: cs => Nat.beq b c || memN b cs

/-- No number lies in both. -/
def apartL : List Nat → List Nat → Bool
  | [], _ => true
  | b :: bs, l => !memN b l && apartL bs l

/-- May an operation (does it change what was there? at which block does it look?) stand in any order with these, those apart that come ahead of it in every order? -/
def freeOf (anc : Nat) (wr : Bool) (blk : Option (List Nat)) : List Loud → Bool
  | [] => true
  | l :: ls =>
    (Nat.testBit anc l.op || (!wr && !l.wr) || (match blk, l.blk with | some b, some c => apartL b c | _, _ => false)) && freeOf anc wr blk ls

inductive Kind where
  | pure | read | write | other
  deriving DecidableEq

def BOp.kind : BOp → Kind
  | .load1 _ => .read
  | .loadN _ _ => .read
  | .look _ _ _ _ _ => .read
  | .toStr _ => .read
  | .toUns _ => .read
  | .ofUns _ _ _ => .read
  | .lenMap _ => .read
  | .store _ _ _ => .write
  | .upd _ _ _ _ => .write
  | .still _ => .write
  | .nxt _ => .write
  | .append _ _ _ _ _ => .write
  | .appendZ _ _ _ _ _ _ => .write
  | .copy _ _ _ => .write
  | .clear _ _ => .write
  | .ustr _ _ _ => .write
  | .call _ _ => .other
  | .callV _ _ => .other
  | .invoke _ _ _ => .other
  | .defer _ _ => .other
  | .recover => .other
  | .panic _ => .other
  | .bad => .other
  | _ => .pure

def AVal.blk : AVal → Option (List Nat)
  | .ptr b _ => some [b]
  | .map b => some [b]
  | _ => none

def AVal.sblk : AVal → Option (List Nat)
  | .slice b _ _ _ _ _ => some [b]
  | .nilSlice => some []
  | .emptySlice => some []
  | .str _ => some []
  | _ => none

def bothL : Option (List Nat) → Option (List Nat) → Option (List Nat)
  | some a, some b => some (a ++ b)
  | _, _ => none

/-- The blocks at which a simple operation looks. -/
def BOp.blk : BOp → Tm → Option (List Nat)
  | .load1 a => fun tm => (a.ev tm).blk
  | .loadN _ a => fun tm => (a.ev tm).blk
  | .store _ a _ => fun tm => (a.ev tm).blk
  | .look _ _ _ m _ => fun tm => (m.ev tm).blk
  | .append _ _ _ s x => fun tm => bothL (s.ev tm).sblk (x.ev tm).sblk
  | _ => fun _ => none

def within (a b : Nat) : Bool := Nat.beq (Nat.land a b) a

inductive DrawOut where
  | pure (v : AVal) (H : AHeap)
  | loud (v : AVal) (H : AHeap) (wr : Bool) (blk : Option (List Nat))
  | pan (chain : List APan) (H : AHeap)
  | fail

def drawPure : OR → DrawOut
  | .v x H => .pure x H
  | _ => .fail

def drawLoud (wr : Bool) (blk : Option (List Nat)) : OR → DrawOut
  | .v x H => .loud x H wr blk
  | _ => .fail

def allB : List Nat → Nat → Bool
  | [] => fun _ => true
  | b :: bs => fun n => Nat.blt b n && allB bs n

def Option.belowO : Option (List Nat) → Nat → Bool
  | some bs => fun n => allB bs n
  | none => fun _ => false

/-- So many blocks from b on, put into a tree. -/
def adoptN (H1 : AHeap) : Nat → Nat → Tr → Tr
  | 0, _, t => t
  | k + 1, b, t => adoptN H1 k (b + 1) (Tr.put (path b) (H1.get b) t)

/-- What was made is taken over; the rest is as it was. -/
def adopt (H H1 : AHeap) : AHeap := ⟨adoptN H1 (H1.next - H.next) H.next H.tr, H1.next, H.low⟩

/-- `made`: the operations so far that have made memory, as bits; `ls`: those that have looked at memory; `anc`: those that come ahead of this one in every order; `base`: the first block that the region makes. -/
def drawOp (R : Tab) (tm : Tm) (op : BOp) (H : AHeap) (base made : Nat) (ls : List Loud) (anc : Nat) : DrawOut :=
  match op.kind with
  | .pure => drawPure (op.mem P tm H)
  | .read =>
    let blk := op.blk tm
    bif (within made anc || Option.belowO blk base) && freeOf anc false blk ls then drawLoud false blk (op.mem P tm H) else .fail
  | .write =>
    let blk := op.blk tm
    bif (within made anc || Option.belowO blk base) && freeOf anc true blk ls then drawLoud true blk (op.mem P tm H) else .fail
  | .other => bif op.isCall && within made anc then
      match op.callB P R tm ⟨H.tr, H.next, H.next⟩ with
      | .ret v H' =>
        bif !(Nat.ble H.next H'.next) then .fail else
        bif Nat.ble H.next H'.low then (bif freeOf anc false none ls then .loud v (adopt H H') false none else .fail)
        else bif freeOf anc true none ls then .loud v ⟨H'.tr, H'.next, Nat.min H.low H'.low⟩ true none else .fail
      | .pan ch H' => bif freeOf anc true none ls then .pan ch ⟨H'.tr, H'.next, Nat.min H.low H'.low⟩ else .fail
      | .fail => .fail
    else .fail

/-- Does each of these operations wait for number i? -/
def allWait (i : Nat) : List (BIns × Nat) → Bool
  | [] => true
  | (_, m) :: ms => Nat.testBit m i && allWait i ms

def drawOps (R : Tab) (base : Nat) : List (BIns × Nat) → Nat → Nat → List Loud → St → CR
  | [], _, _, _, st => .norm st
  | (o, m) :: os, i, made, ls, st =>
    bif wantedB o.guard st.tm then
      match drawOp P R st.tm o.op st.H base made ls m with
      | .pure v H' => drawOps R base os (i + 1) (bif Nat.beq st.H.next H'.next then made else Nat.lor made (2 ^ i)) ls (st.put o.dst v H')
      | .loud v H' wr blk => drawOps R base os (i + 1) (bif Nat.beq st.H.next H'.next then made else Nat.lor made (2 ^ i)) (⟨i, wr, blk⟩ :: ls) (st.put o.dst v H')
      | .pan ch H' => bif allWait i os && within (2 ^ i - 1) m then .pan ch ⟨st.tm, st.defs, st.rcv, st.rnd, H'⟩ else .fail
      | .fail => .fail
    else drawOps R base os (i + 1) made ls (st.put o.dst .undef st.H)

/-! ### Code -/

def thenB : CR → (Tab → St → CR) → Tab → CR
  | .norm st => fun k R => k R st
  | .exit id st => fun _ _ => .exit id st
  | .ret st => fun _ _ => .ret st
  | .pan ch st => fun _ _ => .pan ch st
  | .fail => fun _ _ => .fail

def condB : AVal → (Tab → St → CR) → (Tab → St → CR) → Tab → St → CR
  | .bool b => fun x y R st => Bool.casesOn b (y R st) (x R st)
  | _ => fun _ _ _ _ => .fail

def blockB (id : Nat) : CR → CR
  | .norm st => .norm st
  | .exit id' st => bif Nat.beq id' id then .norm st else .exit id' st
  | .ret st => .ret st
  | .pan ch st => .pan ch st
  | .fail => .fail

def loopB (c : BCode) : CR → Tab → CR
  | .norm st => fun R => R.code (.loop c) st
  | .exit id st => fun _ => .exit id st
  | .ret st => fun _ => .ret st
  | .pan ch st => fun _ => .pan ch st
  | .fail => fun _ => .fail

def AHeap.loopAt (H : AHeap) (b : Nat) : Option ALoop :=
  match H.get b with
  | some (.loop l) => some l
  | _ => none

/-- Behind the call of the function that is ranged over. -/
def endLoopB (l : Nat) (st : St) (defs : List ADef) : ER → CR
  | .ret _ H => match H.loopAt l with
    | some r => match r.state with
      | .busy => .fail
      | _ =>
        let st' : St := ⟨st.tm, defs, st.rcv, st.rnd, H.set l (.loop ⟨.exhausted, r.pending, r.tm, r.params, r.assign, r.body, r.defers, r.n⟩)⟩
        match r.pending with
        | .none => .norm st'
        | .ret => .ret st'
        | .exit id => .exit id st'
    | none => .fail
  | .pan ch H => .pan ch ⟨st.tm, defs, st.rcv, st.rnd, H⟩
  | .fail => .fail

def rangeGo (n : Nat) (f : AVal) (params : List (List Bool)) (assign body : BCode) (R : Tab) (st : St) (H : AHeap) (d : Nat) (defs : List ADef) : CR :=
  match f with
  | .func (.func g) first captured =>
    endLoopB H.next st defs (R.call g (first ++ [.yld H.next] ++ captured) (H.new (.loop ⟨.ready, .none, st.tm, params, assign, body, d, n⟩)))
  | _ => .fail

def rangeB (n : Nat) (f : AVal) (params : List (List Bool)) (assign body : BCode) (R : Tab) (st : St) : CR :=
  match st.rnd with
  | none => rangeGo n f params assign body R st (st.H.new (.defs false)) st.H.next (.coll st.H.next :: st.defs)
  | some l => match st.H.loopAt l with
    | some r => rangeGo n f params assign body R st st.H r.defers st.defs
    | none => .fail

def execB (c : BCode) (R : Tab) (st : St) : CR :=
  BCode.rec (motive := fun _ => Tab → St → CR)
    (fun _ st => .norm st)
    (fun ops R st => seqOps P ops R st)
    (fun ops R st => drawOps P R st.H.next ops 0 0 [] st)
    (fun _ _ iha ihb R st => thenB (iha R st) ihb R)
    (fun c _ _ iha ihb R st => condB (c.ev st.tm) iha ihb R st)
    (fun id _ ih R st => blockB id (ih R st))
    (fun c ih R st => loopB c (ih R st) R)
    (fun n f params assign body _ _ R st => rangeB n (f.ev st.tm) params assign body R st)
    (fun id _ st => .exit id st)
    (fun _ st => .ret st)
    (fun _ _ => .fail) c R st

/-! ### Calls and what is deferred -/

def settleA : AMode → AMode
  | .pan (⟨_, true⟩ :: _) => .ret
  | m => m

def raisedA (chain : List APan) : AMode → AMode
  | .pan old => .pan (chain ++ old)
  | .ret => .pan chain

def ptrLoad1 (H : AHeap) : AVal → Option AVal
  | .ptr b o => H.cellAt b o
  | _ => none

def ptrLoadN (n : Nat) (H : AHeap) : AVal → Option AVal
  | .ptr b o => match H.cellsAt b o n with
    | some cs => some (.agg cs)
    | none => none
  | _ => none

def BRes.get (H : AHeap) (tm : Tm) : BRes → Option AVal
  | .tm p => some (Tm.get p tm)
  | .c1 p => ptrLoad1 H (Tm.get p tm)
  | .cN p n => ptrLoadN n H (Tm.get p tm)

def resultsA (tm : Tm) (H : AHeap) : List BRes → Option (List AVal)
  | [] => some []
  | r :: rs => match r.get H tm with
    | some v => match resultsA tm H rs with
      | some vs => some (v :: vs)
      | none => none
    | none => none

def resultA (tm : Tm) (H : AHeap) (rs : List BRes) : ER :=
  match resultsA tm H rs with
  | some vs => match vs with
    | [v] => .ret v H
    | vs => .ret (.tuple vs) H
  | none => .fail

def takenAt (H : AHeap) (b : Nat) : Bool :=
  match H.get b with
  | some (.defs false) => true
  | _ => false

def afterD : DR → (AMode → AHeap → ER) → ER
  | .ret u H => fun k => k (settleA u) H
  | .pan ch u H => fun k => k (raisedA ch u) H
  | .fail => fun _ => .fail

def leaveA (R : Tab) (rs : List BRes) (tm : Tm) : List ADef → AMode → AHeap → ER
  | [], .ret, H => resultA tm H rs
  | [], .pan ch, H => .pan ch H
  | .coll b :: ds, u, H => bif takenAt H b then leaveA R rs tm ds u (H.set b (.defs true)) else .fail
  | .fn f args :: ds, u, H => afterD (R.dcall f args u H) (fun u H => leaveA R rs tm ds u H)

def undersP : List APan → Nat → Bool
  | [] => fun _ => true
  | e :: es => fun n => e.v.under n && undersP es n

/-- Memory behind a call: what was made is forgotten where nothing can name it. -/
def scrub (H : AHeap) : ER → ER
  | .ret v H' => bif Nat.ble H.next H'.low && v.under H.next then .ret v H else .ret v ⟨H'.tr, H'.next, Nat.min H.low H'.low⟩
  | .pan ch H' => bif Nat.ble H.next H'.low && undersP ch H.next then .pan ch H else .pan ch ⟨H'.tr, H'.next, Nat.min H.low H'.low⟩
  | .fail => .fail

def putFrom : List AVal → Nat → Tm → Tm
  | [] => fun _ tm => tm
  | v :: vs => fun i tm => putFrom vs (i + 1) (Tm.put (path i) v tm)

def findByte (c : Nat) : List UInt8 → Nat → Option Nat
  | [], _ => none
  | b :: bs, i => bif Nat.beq b.toNat c then some i else findByte c bs (i + 1)

def countByte (c : Nat) : List UInt8 → Nat
  | [] => 0
  | b :: bs => bif Nat.beq b.toNat c then countByte c bs + 1 else countByte c bs

def idxOf : Option Nat → Int
  | some i => .ofNat i
  | none => -1

def cmpA : List UInt8 → List UInt8 → Int
  | [] => fun l => match l with | [] => .ofNat 0 | _ :: _ => .negSucc 0
  | a :: as => fun l => match l with | [] => .ofNat 1 | b :: bs => bif Nat.blt a.toNat b.toNat then .negSucc 0 else bif Nat.blt b.toNat a.toNat then .ofNat 1 else cmpA as bs

def externA (name : String) (elem : TypeId) (args : List AVal) (H : AHeap) : ER :=
  match args with
  | [.str s, .int .u8 (.ofNat c)] =>
    bif !(Nat.blt c 256) then .fail else bif name == "internal/bytealg.IndexByteString" then .ret (.int .i64 (idxOf (findByte c s 0))) H
    else bif name == "internal/bytealg.CountString" then .ret (.int .i64 (countByte c s)) H
    else .fail
  | [.str s, .str t] => bif name == "internal/bytealg.abigen_runtime_cmpstring" then .ret (.int .i64 (cmpA s t)) H else .fail
  | [.ptr b o] => bif name == "internal/abi.NoEscape" then .ret (.ptr b o) H else .fail
  | [.int .i64 (.ofNat n)] =>
    bif name == "internal/bytealg.MakeNoZero" && Nat.ble n 1048576 then .ret (.slice H.next 0 n n 1 false) (H.new (.cells [] elem .rw)) else .fail
  | _ => .fail

def leaveCR (R : Tab) (rs : List BRes) : CR → ER
  | .norm st => leaveA R rs st.tm st.defs .ret st.H
  | .ret st => leaveA R rs st.tm st.defs .ret st.H
  | .pan ch st => leaveA R rs st.tm st.defs (.pan ch) st.H
  | _ => .fail

def callE (f : BEnt) (args : List AVal) (H : AHeap) (R : Tab) : ER :=
  match f with
  | .fn fn => bif Nat.ble args.length fn.ntmps then
      scrub H (leaveCR R fn.results (execB P fn.body R ⟨putFrom args 0 .leaf, [], none, none, ⟨H.tr, H.next, H.next⟩⟩))
    else .fail
  | .ext name e => externA name e args H
  | .bad => .fail

def dleave (rs : List BRes) : CR → DR
  | .norm st => match st.defs, st.rcv, resultsA st.tm st.H rs with
    | [], some u, some _ => .ret u st.H
    | _, _, _ => .fail
  | .ret st => match st.defs, st.rcv, resultsA st.tm st.H rs with
    | [], some u, some _ => .ret u st.H
    | _, _, _ => .fail
  | .pan ch st => match st.defs, st.rcv with
    | [], some u => .pan ch u st.H
    | _, _ => .fail
  | _ => .fail

def dcallE (f : BEnt) (args : List AVal) (u : AMode) (H : AHeap) (R : Tab) : DR :=
  match f with
  | .fn fn => bif Nat.ble args.length fn.ntmps then
      dleave fn.results (execB P fn.body R ⟨putFrom args 0 .leaf, [], some u, none, H⟩)
    else .fail
  | _ => .fail

def putAll : List (List Bool) → List AVal → Tm → Option Tm
  | [], [], tm => some tm
  | p :: ps, v :: vs, tm => putAll ps vs (Tm.put p v tm)
  | _, _, _ => none

def endRoundB (b : Nat) (j : Jump) (st : St) : ER :=
  match st.defs with
  | [] => match st.H.loopAt b with
    | some r => match j with
      | .none => .ret (.bool true) (st.H.set b (.loop ⟨.ready, .none, r.tm, r.params, r.assign, r.body, r.defers, r.n⟩))
      | j => .ret (.bool false) (st.H.set b (.loop ⟨.done, j, r.tm, r.params, r.assign, r.body, r.defers, r.n⟩))
    | none => .fail
  | _ => .fail

def leaveRound (b : Nat) : CR → ER
  | .norm st => endRoundB b .none st
  | .ret st => endRoundB b .ret st
  | .exit id st => endRoundB b (.exit id) st
  | .pan ch st => match st.defs with
    | [] => .pan ch st.H
    | _ => .fail
  | .fail => .fail

/-- Behind the assignment to the loop's variables. -/
def beginRoundB (b : Nat) (body : BCode) (R : Tab) : CR → ER
  | .norm st => match st.H.loopAt b with
    | some r => match r.state with
      | .ready => leaveRound b (execB P body R ⟨st.tm, st.defs, st.rcv, st.rnd, st.H.set b (.loop ⟨.busy, r.pending, r.tm, r.params, r.assign, r.body, r.defers, r.n⟩)⟩)
      | _ => .fail
    | none => .fail
  | _ => .fail

def roundE (b : Nat) (args : List AVal) (H : AHeap) (R : Tab) : ER :=
  match H.loopAt b with
  | some r => match putAll r.params args r.tm with
    | some tm => beginRoundB P b r.body R (execB P r.assign R ⟨tm, [], none, some b, H⟩)
    | none => .fail
  | none => .fail

def tab (n : Nat) : Tab :=
  Nat.rec (motive := fun _ => Tab) Tab.no (fun _ R =>
    ⟨fun c st => execB P c R st, fun f args H => callE P (cfun P f) args H R, fun f args u H => dcallE P (cfun P f) args u H R, fun b args H => roundE P b args H R⟩) n

end
end
end Go.Eng

namespace Go.Eng

theorem ble_iff {a b : Nat} : Nat.ble a b = true ↔ a ≤ b := by rw [Nat.ble_eq]
theorem blt_iff {a b : Nat} : Nat.blt a b = true ↔ a < b := by unfold Nat.blt; rw [Nat.ble_eq]; omega
theorem beq_iff {a b : Nat} : Nat.beq a b = true ↔ a = b := by rw [Nat.beq_eq]

/-! ### Lists and trees -/

@[simp] theorem getAt_nil {α : Type} (i : Nat) : getAt ([] : List α) i = none := rfl
@[simp] theorem getAt_zero {α : Type} (x : α) (xs : List α) : getAt (x :: xs) 0 = some x := rfl
@[simp] theorem getAt_succ {α : Type} (x : α) (xs : List α) (i : Nat) : getAt (x :: xs) (i + 1) = getAt xs i := rfl
@[simp] theorem setAt_nil {α : Type} (i : Nat) (a : α) : setAt ([] : List α) i a = [] := rfl
@[simp] theorem setAt_zero {α : Type} (x : α) (xs : List α) (a : α) : setAt (x :: xs) 0 a = a :: xs := rfl
@[simp] theorem setAt_succ {α : Type} (x : α) (xs : List α) (i : Nat) (a : α) : setAt (x :: xs) (i + 1) a = x :: setAt xs i a := rfl

theorem getAt_eq {α : Type} (l : List α) : ∀ i, getAt l i = l[i]? := by
  induction l with
  | nil => intro i; simp
  | cons x xs ih => intro i; cases i <;> simp [ih]

theorem setAt_eq {α : Type} (l : List α) : ∀ (i : Nat) (a : α), setAt l i a = l.set i a := by
  induction l with
  | nil => intro i a; simp
  | cons x xs ih => intro i a; cases i <;> simp [ih]

theorem sub?_eq {α : Type} {l r : List α} {i n : Nat} (h : sub? l i n = some r) : r = (l.drop i).take n ∧ r.length = n := by
  unfold sub? at h
  dsimp only at h
  cases hb : Nat.beq ((l.drop i).take n).length n <;> rw [hb] at h
  · cases h
  · simp only [cond_true, Option.some.injEq] at h
    exact ⟨h.symm, by rw [← h]; exact beq_iff.1 hb⟩

def num : List Bool → Nat
  | [] => 0
  | false :: p => 2 * num p + 1
  | true :: p => 2 * num p + 2

theorem num_pathOf : ∀ n i, i < n → num (pathOf n i) = i := by
  intro n
  induction n with
  | zero => intro i h; omega
  | succ n ih =>
    intro i h
    unfold pathOf
    cases h0 : Nat.beq i 0
    · have hi : i ≠ 0 := Nat.ne_of_beq_eq_false h0
      simp only [cond_false]
      have hm : Nat.mod i 2 = i % 2 := rfl
      have hd : Nat.div i 2 = i / 2 := rfl
      rw [hm, hd]
      cases h1 : Nat.beq (i % 2) 1
      · have := Nat.ne_of_beq_eq_false h1
        simp only [cond_false, num]
        rw [ih _ (by omega)]
        omega
      · have := Nat.eq_of_beq_eq_true h1
        simp only [cond_true, num]
        rw [ih _ (by omega)]
        omega
    · have := Nat.eq_of_beq_eq_true h0
      subst this
      rfl

theorem num_path (i : Nat) : num (path i) = i := num_pathOf _ _ (by omega)

theorem path_inj {i j : Nat} (h : path i = path j) : i = j := by
  rw [← num_path i, h, num_path]

theorem path_ne {i j : Nat} (h : i ≠ j) : path i ≠ path j := fun e => h (path_inj e)

@[simp] theorem Tm.get_nil_leaf : Tm.get [] .leaf = .undef := rfl
@[simp] theorem Tm.get_nil_node (v : AVal) (l r : Tm) : Tm.get [] (.node v l r) = v := rfl
@[simp] theorem Tm.get_cons_leaf (b : Bool) (p : List Bool) : Tm.get (b :: p) .leaf = .undef := rfl
@[simp] theorem Tm.get_false (p : List Bool) (v : AVal) (l r : Tm) : Tm.get (false :: p) (.node v l r) = Tm.get p l := rfl
@[simp] theorem Tm.get_true (p : List Bool) (v : AVal) (l r : Tm) : Tm.get (true :: p) (.node v l r) = Tm.get p r := rfl
@[simp] theorem Tm.put_nil_leaf (x : AVal) : Tm.put [] x .leaf = .node x .leaf .leaf := rfl
@[simp] theorem Tm.put_nil_node (x v : AVal) (l r : Tm) : Tm.put [] x (.node v l r) = .node x l r := rfl
@[simp] theorem Tm.put_false_leaf (p : List Bool) (x : AVal) : Tm.put (false :: p) x .leaf = .node .undef (Tm.put p x .leaf) .leaf := rfl
@[simp] theorem Tm.put_true_leaf (p : List Bool) (x : AVal) : Tm.put (true :: p) x .leaf = .node .undef .leaf (Tm.put p x .leaf) := rfl
@[simp] theorem Tm.put_false (p : List Bool) (x v : AVal) (l r : Tm) : Tm.put (false :: p) x (.node v l r) = .node v (Tm.put p x l) r := rfl
@[simp] theorem Tm.put_true (p : List Bool) (x v : AVal) (l r : Tm) : Tm.put (true :: p) x (.node v l r) = .node v l (Tm.put p x r) := rfl
theorem Tm.get_leaf (p : List Bool) : Tm.get p .leaf = .undef := by cases p <;> rfl

theorem Tm.get_put_self : ∀ (p : List Bool) (x : AVal) (t : Tm), Tm.get p (Tm.put p x t) = x := by
  intro p
  induction p with
  | nil => intro x t; cases t <;> simp
  | cons b p ih => intro x t; cases b <;> cases t <;> simp [ih]

theorem Tm.get_put_ne : ∀ (p q : List Bool) (x : AVal) (t : Tm), p ≠ q → Tm.get p (Tm.put q x t) = Tm.get p t := by
  intro p
  induction p with
  | nil =>
    intro q x t h
    cases q with
    | nil => exact absurd rfl h
    | cons b q => cases b <;> cases t <;> simp
  | cons b p ih =>
    intro q x t h
    cases q with
    | nil => cases t <;> cases b <;> simp [Tm.get_leaf]
    | cons c q =>
      cases b <;> cases c <;> cases t <;> simp [Tm.get_leaf] <;>
        (rw [ih _ _ _ (fun e => h (by rw [e]))]; try rw [Tm.get_leaf])

@[simp] theorem Tr.get_nil_leaf : Tr.get [] .leaf = none := rfl
@[simp] theorem Tr.get_nil_node (v : Option ABlk) (l r : Tr) : Tr.get [] (.node v l r) = v := rfl
@[simp] theorem Tr.get_cons_leaf (b : Bool) (p : List Bool) : Tr.get (b :: p) .leaf = none := rfl
@[simp] theorem Tr.get_false (p : List Bool) (v : Option ABlk) (l r : Tr) : Tr.get (false :: p) (.node v l r) = Tr.get p l := rfl
@[simp] theorem Tr.get_true (p : List Bool) (v : Option ABlk) (l r : Tr) : Tr.get (true :: p) (.node v l r) = Tr.get p r := rfl
@[simp] theorem Tr.put_nil_leaf (x : Option ABlk) : Tr.put [] x .leaf = .node x .leaf .leaf := rfl
@[simp] theorem Tr.put_nil_node (x v : Option ABlk) (l r : Tr) : Tr.put [] x (.node v l r) = .node x l r := rfl
@[simp] theorem Tr.put_false_leaf (p : List Bool) (x : Option ABlk) : Tr.put (false :: p) x .leaf = .node none (Tr.put p x .leaf) .leaf := rfl
@[simp] theorem Tr.put_true_leaf (p : List Bool) (x : Option ABlk) : Tr.put (true :: p) x .leaf = .node none .leaf (Tr.put p x .leaf) := rfl
@[simp] theorem Tr.put_false (p : List Bool) (x v : Option ABlk) (l r : Tr) : Tr.put (false :: p) x (.node v l r) = .node v (Tr.put p x l) r := rfl
@[simp] theorem Tr.put_true (p : List Bool) (x v : Option ABlk) (l r : Tr) : Tr.put (true :: p) x (.node v l r) = .node v l (Tr.put p x r) := rfl
theorem Tr.get_leaf (p : List Bool) : Tr.get p .leaf = none := by cases p <;> rfl

theorem Tr.get_put_self : ∀ (p : List Bool) (x : Option ABlk) (t : Tr), Tr.get p (Tr.put p x t) = x := by
  intro p
  induction p with
  | nil => intro x t; cases t <;> simp
  | cons b p ih => intro x t; cases b <;> cases t <;> simp [ih]

theorem Tr.get_put_ne : ∀ (p q : List Bool) (x : Option ABlk) (t : Tr), p ≠ q → Tr.get p (Tr.put q x t) = Tr.get p t := by
  intro p
  induction p with
  | nil =>
    intro q x t h
    cases q with
    | nil => exact absurd rfl h
    | cons b q => cases b <;> cases t <;> simp
  | cons b p ih =>
    intro q x t h
    cases q with
    | nil => cases t <;> cases b <;> simp [Tr.get_leaf]
    | cons c q =>
      cases b <;> cases c <;> cases t <;> simp [Tr.get_leaf] <;>
        (rw [ih _ _ _ (fun e => h (by rw [e]))]; try rw [Tr.get_leaf])

/-! ### Abstract memory -/

theorem AHeap.get_new (H : AHeap) (o : ABlk) (b : Nat) : (H.new o).get b = if b = H.next then some o else H.get b := by
  unfold AHeap.get AHeap.new
  by_cases h : b = H.next
  · subst h; simp [Tr.get_put_self]
  · simp [h, Tr.get_put_ne _ _ _ _ (path_ne h)]

theorem AHeap.get_set (H : AHeap) (c : Nat) (o : ABlk) (b : Nat) : (H.set c o).get b = if b = c then some o else H.get b := by
  unfold AHeap.get AHeap.set
  by_cases h : b = c
  · subst h; simp [Tr.get_put_self]
  · simp [h, Tr.get_put_ne _ _ _ _ (path_ne h)]

theorem AHeap.get_drop (H : AHeap) (c : Nat) (b : Nat) : (H.drop c).get b = if b = c then none else H.get b := by
  unfold AHeap.get AHeap.drop
  by_cases h : b = c
  · subst h; simp [Tr.get_put_self]
  · simp [h, Tr.get_put_ne _ _ _ _ (path_ne h)]

@[simp] theorem AHeap.next_new (H : AHeap) (o : ABlk) : (H.new o).next = H.next + 1 := rfl
@[simp] theorem AHeap.low_new (H : AHeap) (o : ABlk) : (H.new o).low = H.low := rfl
@[simp] theorem AHeap.next_set (H : AHeap) (c : Nat) (o : ABlk) : (H.set c o).next = H.next := rfl
@[simp] theorem AHeap.next_drop (H : AHeap) (c : Nat) : (H.drop c).next = H.next := rfl
theorem min_low (b c : Nat) : (bif Nat.ble b c then b else c) = min b c := by
  cases h : Nat.ble b c
  · have : ¬ b ≤ c := fun hh => by rw [ble_iff.2 hh] at h; cases h
    simp; omega
  · have : b ≤ c := ble_iff.1 h
    simp; omega
@[simp] theorem AHeap.low_set (H : AHeap) (c : Nat) (o : ABlk) : (H.set c o).low = min c H.low := min_low _ _
@[simp] theorem AHeap.low_drop (H : AHeap) (c : Nat) : (H.drop c).low = min c H.low := min_low _ _

/-! ### What values stand for -/

/-- Where a block of the abstract memory lies: a block of the world, the cell at which it begins, and how many cells from there on are its own. -/
structure Place where
  r : Nat
  d : Nat
  room : Nat

abbrev Emb := Nat → Option Place

mutual
inductive VRel (ρ : Emb) : AVal → Value → Prop
  | bool (b : Bool) : VRel ρ (.bool b) (.bool b)
  | int (k : IntKind) (n : Int) : VRel ρ (.int k n) (.int k n)
  | str (s : List UInt8) : VRel ρ (.str s) (.string ⟨⟨s⟩⟩)
  | ptr {b o : Nat} {p : Place} (h : ρ b = some p) : VRel ρ (.ptr b o) (.pointer (some ⟨p.r, p.d + o, none⟩))
  | nilPtr : VRel ρ .nilPtr (.pointer none)
  | slice {b o len cap esz cap' : Nat} {ex : Bool} {p : Place} (h : ρ b = some p) (hl : len ≤ cap) (hc : cap ≤ cap') (he : ex = true → cap' = cap)
      (hr : ex = false → o + cap' * esz = p.room) : VRel ρ (.slice b o len cap esz ex) (.slice (some ⟨p.r, p.d + o, none⟩) len cap')
  | nilSlice : VRel ρ .nilSlice (.slice none 0 0)
  | emptySlice (a : Addr) (c : Nat) : VRel ρ .emptySlice (.slice (some a) 0 c)
  | map {b : Nat} {p : Place} (h : ρ b = some p) : VRel ρ (.map b) (.map (some p.r))
  | nilMap : VRel ρ .nilMap (.map none)
  | func (fn : Fn) {f c : List AVal} {f' c' : List Value} (hf : VRels ρ f f') (hc : VRels ρ c c') : VRel ρ (.func fn f c) (.func fn ⟨f'⟩ ⟨c'⟩)
  | yld {b : Nat} {p : Place} (h : ρ b = some p) : VRel ρ (.yld b) (.func (.yield p.r) #[] #[])
  | nilFunc : VRel ρ .nilFunc .nilFunc
  | iface (t : TypeId) {v : AVal} {x : Value} (h : VRel ρ v x) : VRel ρ (.iface t v) (.iface t x)
  | nilIface : VRel ρ .nilIface .nilIface
  | agg {cs : List AVal} {xs : List Value} (h : VRels ρ cs xs) : VRel ρ (.agg cs) (.agg ⟨xs⟩)
  | tuple {cs : List AVal} {xs : List Value} (h : VRels ρ cs xs) : VRel ρ (.tuple cs) (.tuple ⟨xs⟩)
inductive VRels (ρ : Emb) : List AVal → List Value → Prop
  | nil : VRels ρ [] []
  | cons {v : AVal} {x : Value} {vs : List AVal} {xs : List Value} (h : VRel ρ v x) (hs : VRels ρ vs xs) : VRels ρ (v :: vs) (x :: xs)
end

section
variable {ρ ρ' : Emb}

mutual
theorem VRel.mono (h : ∀ b p, ρ b = some p → ρ' b = some p) : ∀ {v : AVal} {x : Value}, VRel ρ v x → VRel ρ' v x
  | _, _, .bool b => .bool b
  | _, _, .int k n => .int k n
  | _, _, .str s => .str s
  | _, _, .ptr e => .ptr (h _ _ e)
  | _, _, .nilPtr => .nilPtr
  | _, _, .slice e h0 h1 h2 h3 => .slice (h _ _ e) h0 h1 h2 h3
  | _, _, .nilSlice => .nilSlice
  | _, _, .emptySlice a c => .emptySlice a c
  | _, _, .map e => .map (h _ _ e)
  | _, _, .nilMap => .nilMap
  | _, _, .func fn hf hc => .func fn (VRels.mono h hf) (VRels.mono h hc)
  | _, _, .yld e => .yld (h _ _ e)
  | _, _, .nilFunc => .nilFunc
  | _, _, .iface t hv => .iface t (VRel.mono h hv)
  | _, _, .nilIface => .nilIface
  | _, _, .agg hs => .agg (VRels.mono h hs)
  | _, _, .tuple hs => .tuple (VRels.mono h hs)
theorem VRels.mono (h : ∀ b p, ρ b = some p → ρ' b = some p) : ∀ {vs : List AVal} {xs : List Value}, VRels ρ vs xs → VRels ρ' vs xs
  | _, _, .nil => .nil
  | _, _, .cons hv hs => .cons (VRel.mono h hv) (VRels.mono h hs)
end

mutual
theorem VRel.down {n : Nat} (h : ∀ b, b < n → ρ' b = ρ b) : ∀ {v : AVal} {x : Value}, VRel ρ' v x → v.under n = true → VRel ρ v x
  | _, _, .bool b, _ => .bool b
  | _, _, .int k n, _ => .int k n
  | _, _, .str s, _ => .str s
  | _, _, .ptr e, u => .ptr (by rw [← h _ (blt_iff.1 u)]; exact e)
  | _, _, .nilPtr, _ => .nilPtr
  | _, _, .slice e h0 h1 h2 h3, u => .slice (by rw [← h _ (blt_iff.1 u)]; exact e) h0 h1 h2 h3
  | _, _, .nilSlice, _ => .nilSlice
  | _, _, .emptySlice a c, _ => .emptySlice a c
  | _, _, .map e, u => .map (by rw [← h _ (blt_iff.1 u)]; exact e)
  | _, _, .nilMap, _ => .nilMap
  | _, _, .func fn hf hc, u => by
    simp only [AVal.under, Bool.and_eq_true] at u
    exact .func fn (VRels.down h hf u.1) (VRels.down h hc u.2)
  | _, _, .yld e, u => .yld (by rw [← h _ (blt_iff.1 u)]; exact e)
  | _, _, .nilFunc, _ => .nilFunc
  | _, _, .iface t hv, u => .iface t (VRel.down h hv (by simpa [AVal.under] using u))
  | _, _, .nilIface, _ => .nilIface
  | _, _, .agg hs, u => .agg (VRels.down h hs (by simpa [AVal.under] using u))
  | _, _, .tuple hs, u => .tuple (VRels.down h hs (by simpa [AVal.under] using u))
theorem VRels.down {n : Nat} (h : ∀ b, b < n → ρ' b = ρ b) : ∀ {vs : List AVal} {xs : List Value}, VRels ρ' vs xs → AVal.unders vs n = true → VRels ρ vs xs
  | _, _, .nil, _ => .nil
  | _, _, .cons hv hs, u => by
    simp only [AVal.unders, Bool.and_eq_true] at u
    exact .cons (VRel.down h hv u.1) (VRels.down h hs u.2)
end

theorem VRel.undef : VRel ρ .undef undef := .tuple .nil

theorem VRels.length : ∀ {vs : List AVal} {xs : List Value}, VRels ρ vs xs → vs.length = xs.length
  | _, _, .nil => rfl
  | _, _, .cons _ hs => by simp [VRels.length hs]

theorem VRels.get {vs : List AVal} {xs : List Value} (h : VRels ρ vs xs) : ∀ (i : Nat) (v : AVal), vs[i]? = some v → ∃ x, xs[i]? = some x ∧ VRel ρ v x := by
  induction vs generalizing xs with
  | nil => intro i v hv; simp at hv
  | cons a as ih =>
    intro i v hv
    cases h with
    | cons h hs =>
      cases i with
      | zero => simp at hv; subst hv; exact ⟨_, by simp, h⟩
      | succ i => simp at hv; simpa using ih hs i v hv

theorem VRels.append {vs us : List AVal} {xs ys : List Value} (h : VRels ρ vs xs) (k : VRels ρ us ys) : VRels ρ (vs ++ us) (xs ++ ys) := by
  induction vs generalizing xs with
  | nil => cases h; exact k
  | cons a as ih => cases h with | cons h hs => exact .cons h (ih hs)

theorem VRels.take {vs : List AVal} {xs : List Value} (h : VRels ρ vs xs) : ∀ n, VRels ρ (vs.take n) (xs.take n) := by
  induction vs generalizing xs with
  | nil => intro n; cases h; simp; exact .nil
  | cons a as ih =>
    intro n
    cases h with
    | cons h hs => cases n <;> simp <;> first | exact .nil | exact .cons h (ih hs _)

theorem VRels.drop {vs : List AVal} {xs : List Value} (h : VRels ρ vs xs) : ∀ n, VRels ρ (vs.drop n) (xs.drop n) := by
  induction vs generalizing xs with
  | nil => intro n; cases h; simp; exact .nil
  | cons a as ih =>
    intro n
    cases h with
    | cons h hs => cases n <;> simp <;> first | exact .cons h hs | exact ih hs _

theorem VRels.splice {vs us : List AVal} {xs ys : List Value} (h : VRels ρ vs xs) (k : VRels ρ us ys) (i : Nat) :
    VRels ρ (Eng.splice vs i us) (xs.take i ++ ys ++ xs.drop (i + us.length)) :=
  ((h.take i).append k).append (h.drop _)

theorem VRels.replicate {v : AVal} {x : Value} (h : VRel ρ v x) (n : Nat) : VRels ρ (List.replicate n v) (List.replicate n x) := by
  induction n with
  | zero => exact .nil
  | succ n ih => exact .cons h ih

theorem VRel.cells {v : AVal} {x : Value} (h : VRel ρ v x) : VRels ρ v.cells x.cells.toList := by
  cases h <;> simp only [AVal.cells, Value.cells] <;> first | assumption | exact .cons (by first | exact .bool _ | exact .int _ _ | exact .str _ | exact .ptr ‹_› | exact .nilPtr | exact .slice ‹_› ‹_› ‹_› ‹_› ‹_› | exact .nilSlice | exact .emptySlice _ _ | exact .map ‹_› | exact .nilMap | exact .func _ ‹_› ‹_› | exact .yld ‹_› | exact .nilFunc | exact .iface _ ‹_› | exact .nilIface | exact .tuple ‹_›) .nil

mutual
theorem ofVal_rel : ∀ {x : Value} {v : AVal}, ofVal x = some v → VRel ρ v x
  | .bool b, v, h => by simp only [ofVal, Option.some.injEq] at h; subst h; exact .bool b
  | .int k n, v, h => by simp only [ofVal, Option.some.injEq] at h; subst h; exact .int k n
  | .float _ _, v, h => by simp [ofVal] at h
  | .complex _ _ _, v, h => by simp [ofVal] at h
  | .string s, v, h => by simp only [ofVal, Option.some.injEq] at h; subst h; exact .str _
  | .pointer none, v, h => by simp only [ofVal, Option.some.injEq] at h; subst h; exact .nilPtr
  | .pointer (some _), v, h => by simp [ofVal] at h
  | .slice none 0 0, v, h => by simp only [ofVal, Option.some.injEq] at h; subst h; exact .nilSlice
  | .slice none (_ + 1) _, v, h => by simp [ofVal] at h
  | .slice none 0 (_ + 1), v, h => by simp [ofVal] at h
  | .slice (some _) _ _, v, h => by simp [ofVal] at h
  | .map none, v, h => by simp only [ofVal, Option.some.injEq] at h; subst h; exact .nilMap
  | .map (some _), v, h => by simp [ofVal] at h
  | .chan _, v, h => by simp [ofVal] at h
  | .func _ _ _, v, h => by simp [ofVal] at h
  | .nilFunc, v, h => by simp only [ofVal, Option.some.injEq] at h; subst h; exact .nilFunc
  | .iface _ _, v, h => by simp [ofVal] at h
  | .nilIface, v, h => by simp only [ofVal, Option.some.injEq] at h; subst h; exact .nilIface
  | .agg ⟨cs⟩, v, h => by
    simp only [ofVal, Option.map_eq_some_iff] at h
    obtain ⟨as, h, rfl⟩ := h
    exact .agg (ofVals_rel h)
  | .tuple ⟨cs⟩, v, h => by
    simp only [ofVal, Option.map_eq_some_iff] at h
    obtain ⟨as, h, rfl⟩ := h
    exact .tuple (ofVals_rel h)
theorem ofVals_rel : ∀ {xs : List Value} {vs : List AVal}, ofVals xs = some vs → VRels ρ vs xs
  | [], vs, h => by simp only [ofVals, Option.some.injEq] at h; subst h; exact .nil
  | x :: xs, vs, h => by
    simp only [ofVals] at h
    split at h
    · rename_i a ha
      split at h
      · rename_i as has
        simp only [Option.some.injEq] at h
        subst h
        exact .cons (ofVal_rel ha) (ofVals_rel has)
      · cases h
    · cases h
end

end

end Go.Eng

namespace Go.Eng

/-- Temporaries: each one that the frame has stands for its value. -/
def TmRel (ρ : Emb) (tm : Tm) (tmps : Array Value) : Prop := ∀ (i : Nat) (x : Value), tmps[i]? = some x → VRel ρ (Tm.get (path i) tm) x

inductive JRel : Jump → Option Code → Prop
  | none : JRel .none none
  | ret : JRel .ret (some .ret)
  | exit (id : Nat) : JRel (.exit id) (some (.exit id))

structure LRel (P : Program) (ρ : Emb) (l : ALoop) (r : Loop) : Prop where
  state : r.state = l.state
  pending : JRel l.pending r.pending
  tm : TmRel ρ l.tm r.tmps
  params : cparams r.tmps.size r.params.toList = some l.params
  assign : l.assign = ccode P r.tmps.size r.assign
  body : l.body = ccode P r.tmps.size r.body
  defers : ∃ p, ρ l.defers = some p ∧ r.defers = p.r
  fn : ∃ f, P.funcs[r.fn]? = some f
  size : r.tmps.size = l.n

inductive ERel (ρ : Emb) : List (AVal × AVal) → List MapEntry → Prop
  | nil : ERel ρ [] []
  | cons {k v : AVal} {e : MapEntry} {es : List (AVal × AVal)} {fs : List MapEntry} (hk : VRel ρ k e.key) (hv : VRel ρ v e.val) (hs : ERel ρ es fs) :
      ERel ρ ((k, v) :: es) (e :: fs)

inductive BRel (P : Program) (ρ : Emb) (p : Place) : ABlk → Obj → Prop
  | cells {cs : List AVal} {e : TypeId} {wr : Wr} {arr : Array Value} {lo hi : Nat} (hd : p.d = 0)
      (h : ∀ (i : Nat) (v : AVal), cs[i]? = some v → ∃ x, arr[p.d + i]? = some x ∧ VRel ρ v x)
      (hw : wr = .rw → cs.length ≤ p.room ∧ p.d + p.room ≤ arr.size ∧ ∀ i, i < p.room → ¬ (lo ≤ p.d + i ∧ p.d + i < hi)) :
      BRel P ρ p (.cells cs e wr) (.cells arr e (lo, hi))
  | map {es : List (AVal × AVal)} {fs : Array MapEntry} {clock : Nat} (h : ERel ρ es fs.toList) : BRel P ρ p (.map es) (.map fs clock)
  | siter (hd : p.d = 0) (s : List UInt8) (pos : Nat) : BRel P ρ p (.siter s pos) (.stringIter ⟨⟨s⟩⟩ pos)
  | loop {l : ALoop} {r : Loop} (h : LRel P ρ l r) : BRel P ρ p (.loop l) (.loop r)
  | defs : BRel P ρ p (.defs false) (.deferred (some []))
  | taken : BRel P ρ p (.defs true) (.deferred none)

/-- Blocks that nothing else may share. -/
def ABlk.owned : ABlk → Bool
  | .cells _ _ wr => wr.own
  | _ => true

def AHeap.Own (H : AHeap) (b : Nat) : Prop := ∃ x, H.get b = some x ∧ x.owned = true

structure WRel (P : Program) (ρ : Emb) (H : AHeap) (w : World) : Prop where
  blocks : ∀ b blk, b < H.next → H.get b = some blk → ∃ p o, ρ b = some p ∧ w.heap[p.r]? = some o ∧ BRel P ρ p blk o
  inj : ∀ b c x y p q, b < H.next → c < H.next → H.get b = some x → H.get c = some y → b ≠ c → x.owned = true → ρ b = some p → ρ c = some q → p.r ≠ q.r
  fresh : ∀ b, H.next ≤ b → ρ b = none
  glob : ∀ g, g < P.globals.size → ∃ p, ρ g = some p ∧ p.r = g ∧ p.d = 0

/-- From one state of both memories to another. -/
structure Stp (P : Program) (ρ : Emb) (H : AHeap) (w : World) (ρ' : Emb) (H' : AHeap) (w' : World) : Prop where
  wrel : WRel P ρ' H' w'
  ext : ∀ b, b < H.next → ρ' b = ρ b
  next : H.next ≤ H'.next
  low : H'.low ≤ H.low
  lives : ∀ b, b < H.next → H'.get b ≠ none → H.get b ≠ none
  owns : ∀ b, b < H.next → H'.Own b → H.Own b
  keeps : ∀ b, b < H.next → b < H'.low → H'.get b = H.get b
  news : ∀ b p, H.next ≤ b → ρ' b = some p → w.heap.size ≤ p.r ∨ ∃ c q, H.Own c ∧ ρ c = some q ∧ q.r = p.r ∧ H'.low ≤ c
  tape : w'.tape = w.tape
  os : w'.os = w.os
  output : w'.output = w.output
  size : w.heap.size ≤ w'.heap.size
  frame : ∀ r, r < w.heap.size → (∀ b p, H.Own b → ρ b = some p → p.r = r → b < H'.low) → w'.heap[r]? = w.heap[r]?

section
variable {P : Program} {ρ ρ' ρ₁ ρ₂ : Emb} {H H' H₁ H₂ : AHeap} {w w' w₁ w₂ : World}

mutual
theorem VRel.live (hf : ∀ b, H.next ≤ b → ρ b = none) : ∀ {v : AVal} {x : Value}, VRel ρ v x → v.under H.next = true
  | _, _, .bool b => rfl
  | _, _, .int k n => rfl
  | _, _, .str s => rfl
  | _, _, .ptr e => blt_iff.2 (Nat.lt_of_not_le fun h => by rw [hf _ h] at e; cases e)
  | _, _, .nilPtr => rfl
  | _, _, .slice e h0 h1 h2 h3 => blt_iff.2 (Nat.lt_of_not_le fun h => by rw [hf _ h] at e; cases e)
  | _, _, .nilSlice => rfl
  | _, _, .emptySlice a c => rfl
  | _, _, .map e => blt_iff.2 (Nat.lt_of_not_le fun h => by rw [hf _ h] at e; cases e)
  | _, _, .nilMap => rfl
  | _, _, .func fn h1 h2 => by simp only [AVal.under, VRels.live hf h1, VRels.live hf h2, Bool.and_self]
  | _, _, .yld e => blt_iff.2 (Nat.lt_of_not_le fun h => by rw [hf _ h] at e; cases e)
  | _, _, .nilFunc => rfl
  | _, _, .iface t hv => by simp only [AVal.under, VRel.live hf hv]
  | _, _, .nilIface => rfl
  | _, _, .agg hs => by simp only [AVal.under, VRels.live hf hs]
  | _, _, .tuple hs => by simp only [AVal.under, VRels.live hf hs]
theorem VRels.live (hf : ∀ b, H.next ≤ b → ρ b = none) : ∀ {vs : List AVal} {xs : List Value}, VRels ρ vs xs → AVal.unders vs H.next = true
  | _, _, .nil => rfl
  | _, _, .cons hv hs => by simp only [AVal.unders, VRel.live hf hv, VRels.live hf hs, Bool.and_self]
end

theorem WRel.lt (h : WRel P ρ H w) {b : Nat} {p : Place} (e : ρ b = some p) : b < H.next :=
  Nat.lt_of_not_le fun hle => by rw [h.fresh _ hle] at e; cases e

theorem WRel.blk (h : WRel P ρ H w) {b : Nat} {x : ABlk} {p : Place} (e : H.get b = some x) (hp : ρ b = some p) : ∃ o, w.heap[p.r]? = some o ∧ BRel P ρ p x o := by
  obtain ⟨q, o, hq, ho, hr⟩ := h.blocks _ _ (h.lt hp) e
  rw [hp] at hq; cases hq
  exact ⟨o, ho, hr⟩

theorem WRel.heap_lt (h : WRel P ρ H w) {b : Nat} {x : ABlk} {p : Place} (e : H.get b = some x) (hp : ρ b = some p) : p.r < w.heap.size := by
  obtain ⟨o, ho, _⟩ := h.blk e hp
  exact (Array.getElem?_eq_some_iff.1 ho).1

theorem Stp.mono (s : Stp P ρ H w ρ' H' w') (hw : WRel P ρ H w) : ∀ b p, ρ b = some p → ρ' b = some p := fun b p e => by
  rw [s.ext b (hw.lt e)]; exact e

theorem Stp.val (s : Stp P ρ H w ρ' H' w') (hw : WRel P ρ H w) {v : AVal} {x : Value} (h : VRel ρ v x) : VRel ρ' v x := h.mono (s.mono hw)
theorem Stp.vals (s : Stp P ρ H w ρ' H' w') (hw : WRel P ρ H w) {v : List AVal} {x : List Value} (h : VRels ρ v x) : VRels ρ' v x := h.mono (s.mono hw)
theorem Stp.tmrel (s : Stp P ρ H w ρ' H' w') (hw : WRel P ρ H w) {tm : Tm} {tmps : Array Value} (h : TmRel ρ tm tmps) : TmRel ρ' tm tmps :=
  fun i x hx => s.val hw (h i x hx)

theorem Stp.refl (h : WRel P ρ H w) : Stp P ρ H w ρ H w where
  wrel := h
  ext _ _ := rfl
  next := Nat.le_refl _
  low := Nat.le_refl _
  lives _ _ h := h
  owns _ _ h := h
  keeps _ _ _ := rfl
  news b p hb e := by rw [h.fresh _ hb] at e; cases e
  tape := rfl
  os := rfl
  output := rfl
  size := Nat.le_refl _
  frame _ _ _ := rfl

theorem Stp.trans (s : Stp P ρ H w ρ₁ H₁ w₁) (t : Stp P ρ₁ H₁ w₁ ρ₂ H₂ w₂) (hw : WRel P ρ H w) : Stp P ρ H w ρ₂ H₂ w₂ where
  wrel := t.wrel
  ext b hb := (t.ext b (Nat.lt_of_lt_of_le hb s.next)).trans (s.ext b hb)
  next := Nat.le_trans s.next t.next
  low := Nat.le_trans t.low s.low
  lives b hb h := s.lives b hb (t.lives b (Nat.lt_of_lt_of_le hb s.next) h)
  owns b hb h := s.owns b hb (t.owns b (Nat.lt_of_lt_of_le hb s.next) h)
  keeps b hb hl := (t.keeps b (Nat.lt_of_lt_of_le hb s.next) hl).trans (s.keeps b hb (Nat.lt_of_lt_of_le hl t.low))
  news b p hb e := by
    rcases Nat.lt_or_ge b H₁.next with hlt | hge
    · rw [t.ext b hlt] at e
      rcases s.news b p hb e with h | ⟨c, q, h1, h2, h3, h4⟩
      · exact .inl h
      · exact .inr ⟨c, q, h1, h2, h3, Nat.le_trans t.low h4⟩
    · rcases t.news b p hge e with h | ⟨c, q, h1, h2, h3, h4⟩
      · exact .inl (Nat.le_trans s.size h)
      · rcases Nat.lt_or_ge c H.next with hc | hc
        · exact .inr ⟨c, q, s.owns c hc h1, by rw [← s.ext c hc]; exact h2, h3, h4⟩
        · rcases s.news c q hc h2 with h | ⟨c', q', g1, g2, g3, g4⟩
          · exact .inl (h3 ▸ h)
          · exact .inr ⟨c', q', g1, g2, g3.trans h3, Nat.le_trans t.low g4⟩
  tape := t.tape.trans s.tape
  os := t.os.trans s.os
  output := t.output.trans s.output
  size := Nat.le_trans s.size t.size
  frame r hr hb := by
    rw [t.frame r (Nat.lt_of_lt_of_le hr s.size) ?_]
    · exact s.frame r hr fun b p h1 h2 h3 => Nat.lt_of_lt_of_le (hb b p h1 h2 h3) t.low
    · intro b p h1 h2 h3
      rcases Nat.lt_or_ge b H.next with hlt | hge
      · exact hb b p (s.owns b hlt h1) (by rw [← s.ext b hlt]; exact h2) h3
      · rcases s.news b p hge h2 with h | ⟨c, q, g1, g2, g3, g4⟩
        · omega
        · have := hb c q g1 g2 (g3.trans h3)
          have := t.low
          omega

/-- The memories may be written otherwise. -/
theorem WRel.congr (h : WRel P ρ H w) (hg : ∀ b, H'.get b = H.get b) (hn : H'.next = H.next) : WRel P ρ H' w where
  blocks b blk hb e := h.blocks b blk (hn ▸ hb) (by rw [← hg]; exact e)
  inj b c x y p q hb hc e f := h.inj b c x y p q (hn ▸ hb) (hn ▸ hc) (by rw [← hg]; exact e) (by rw [← hg]; exact f)
  fresh b hb := h.fresh b (by rw [← hn]; exact hb)
  glob := h.glob

theorem AHeap.Own.congr (hg : ∀ b, H'.get b = H.get b) {b : Nat} (h : H'.Own b) : H.Own b := by
  obtain ⟨x, h1, h2⟩ := h
  exact ⟨x, by rw [← hg]; exact h1, h2⟩

theorem Stp.congr (s : Stp P ρ H w ρ' H' w') (hg : ∀ b, H₁.get b = H'.get b) (hn : H₁.next = H'.next) (hl : H₁.low = H'.low) : Stp P ρ H w ρ' H₁ w' where
  wrel := s.wrel.congr hg hn
  ext := s.ext
  next := hn ▸ s.next
  low := hl ▸ s.low
  lives b hb h := s.lives b hb (by rw [← hg]; exact h)
  owns b hb h := s.owns b hb (h.congr hg)
  keeps b hb h := (hg b).trans (s.keeps b hb (hl ▸ h))
  news b p hb e := by rw [hl]; exact s.news b p hb e
  tape := s.tape
  os := s.os
  output := s.output
  size := s.size
  frame r hr h := s.frame r hr (by rw [← hl]; exact h)

/-- A lesser low mark says less. -/
theorem Stp.lower (s : Stp P ρ H w ρ' H' w') {l : Nat} (hl : l ≤ H'.low) : Stp P ρ H w ρ' ⟨H'.tr, H'.next, l⟩ w' where
  wrel := s.wrel.congr (fun _ => rfl) rfl
  ext := s.ext
  next := s.next
  low := Nat.le_trans hl s.low
  lives := s.lives
  owns := s.owns
  keeps b hb h := s.keeps b hb (Nat.lt_of_lt_of_le h hl)
  news b p hb e := by
    rcases s.news b p hb e with h | ⟨c, q, h1, h2, h3, h4⟩
    · exact .inl h
    · exact .inr ⟨c, q, h1, h2, h3, Nat.le_trans hl h4⟩
  tape := s.tape
  os := s.os
  output := s.output
  size := s.size
  frame r hr h := s.frame r hr fun b p h1 h2 h3 => Nat.lt_of_lt_of_le (h b p h1 h2 h3) hl

/-- Begun with another low mark. -/
theorem Stp.relow (s : Stp P ρ H w ρ' H' w') {l : Nat} (hg : ∀ b, H₁.get b = H.get b) (hn : H₁.next = H.next) (hl : H₁.low = l) (h : H'.low ≤ l) : Stp P ρ H₁ w ρ' H' w' where
  wrel := s.wrel
  ext b hb := s.ext b (hn ▸ hb)
  next := hn ▸ s.next
  low := hl ▸ h
  lives b hb h := by rw [hg]; exact s.lives b (hn ▸ hb) h
  owns b hb h := (s.owns b (hn ▸ hb) h).congr fun b => (hg b).symm
  keeps b hb h := (s.keeps b (hn ▸ hb) h).trans (hg b).symm
  news b p hb e := by
    rcases s.news b p (hn ▸ hb) e with h | ⟨c, q, h1, h2, h3, h4⟩
    · exact .inl h
    · exact .inr ⟨c, q, h1.congr fun b => (hg b).symm, h2, h3, h4⟩
  tape := s.tape
  os := s.os
  output := s.output
  size := s.size
  frame r hr h := s.frame r hr fun b p h1 h2 h3 => h b p (h1.congr fun b => (hg b).symm) h2 h3

/-- What was made is forgotten. -/
theorem Stp.forget (s : Stp P ρ H w ρ' H' w') (hw : WRel P ρ H w) (h : H.next ≤ H'.low) : Stp P ρ H w ρ H w' where
  wrel := {
    blocks := fun b blk hb e => by
      obtain ⟨p, o, hp, ho, hr⟩ := hw.blocks b blk hb e
      refine ⟨p, o, hp, ?_, hr⟩
      rw [s.frame p.r (Array.getElem?_eq_some_iff.1 ho).1 fun c q hc hq _ => Nat.lt_of_lt_of_le (hw.lt hq) h]
      exact ho
    inj := hw.inj
    fresh := hw.fresh
    glob := hw.glob }
  ext _ _ := rfl
  next := Nat.le_refl _
  low := Nat.le_refl _
  lives _ _ h := h
  owns _ _ h := h
  keeps _ _ _ := rfl
  news b p hb e := by rw [hw.fresh _ hb] at e; cases e
  tape := s.tape
  os := s.os
  output := s.output
  size := s.size
  frame r hr _ := s.frame r hr fun b p h1 h2 _ => Nat.lt_of_lt_of_le (hw.lt h2) h

/-! ### Steps -/

theorem ERel.mono (h : ∀ b p, ρ b = some p → ρ' b = some p) {es : List (AVal × AVal)} {fs : List MapEntry} (e : ERel ρ es fs) : ERel ρ' es fs := by
  induction e with
  | nil => exact .nil
  | cons hk hv _ ih => exact .cons (hk.mono h) (hv.mono h) ih

theorem LRel.mono (h : ∀ b p, ρ b = some p → ρ' b = some p) {l : ALoop} {r : Loop} (e : LRel P ρ l r) : LRel P ρ' l r where
  state := e.state
  pending := e.pending
  tm i x hx := (e.tm i x hx).mono h
  params := e.params
  assign := e.assign
  body := e.body
  defers := let ⟨p, h1, h2⟩ := e.defers; ⟨p, h _ _ h1, h2⟩
  fn := e.fn
  size := e.size

theorem BRel.mono (h : ∀ b p, ρ b = some p → ρ' b = some p) {p : Place} {x : ABlk} {o : Obj} (e : BRel P ρ p x o) : BRel P ρ' p x o := by
  cases e with
  | cells hd h1 h2 => exact .cells hd (fun i v hv => let ⟨x, h3, h4⟩ := h1 i v hv; ⟨x, h3, h4.mono h⟩) h2
  | map e => exact .map (e.mono h)
  | siter hd s pos => exact .siter hd s pos
  | loop e => exact .loop (e.mono h)
  | defs => exact .defs
  | taken => exact .taken

/-- A new block. -/
theorem stp_new (hw : WRel P ρ H w) {x : ABlk} {o : Obj} {room : Nat} {ρ' : Emb}
    (hρ : ρ' = fun b => if b = H.next then some ⟨w.heap.size, 0, room⟩ else ρ b) (hb : BRel P ρ' ⟨w.heap.size, 0, room⟩ x o) (hw' : w' = { w with heap := w.heap.push o }) :
    Stp P ρ H w ρ' (H.new x) w' := by
  have hmono : ∀ b p, ρ b = some p → ρ' b = some p := fun b p e => by
    have := hw.lt e
    rw [hρ]; simp only; rw [if_neg (by omega)]; exact e
  have hself : ρ' H.next = some ⟨w.heap.size, 0, room⟩ := by rw [hρ]; simp
  have hother : ∀ b, b ≠ H.next → ρ' b = ρ b := fun b h => by rw [hρ]; simp [h]
  subst hw'
  constructor
  · constructor
    · intro b blk hbn e
      simp only [AHeap.next_new] at hbn
      rw [AHeap.get_new] at e
      by_cases h : b = H.next
      · subst h
        simp only [if_true, Option.some.injEq] at e
        subst e
        exact ⟨_, o, hself, by simp, hb⟩
      · rw [if_neg h] at e
        obtain ⟨p, o', hp, ho, hr⟩ := hw.blocks b blk (by omega) e
        have hlt := (Array.getElem?_eq_some_iff.1 ho).1
        refine ⟨p, o', hmono _ _ hp, ?_, hr.mono hmono⟩
        show (w.heap.push o)[p.r]? = _
        rw [Array.getElem?_push, if_neg (by omega)]
        exact ho
    · intro b c x' y' p q hbn hcn hb' hc' hne hown hp hq
      simp only [AHeap.next_new] at hbn hcn
      rw [AHeap.get_new] at hb' hc'
      by_cases h1 : b = H.next
      · subst h1
        have h2 : c ≠ H.next := fun e => hne e.symm
        rw [if_neg h2] at hc'
        rw [hself] at hp
        rw [hother _ h2] at hq
        have := hw.heap_lt hc' hq
        cases hp
        simp; omega
      · rw [if_neg h1] at hb'
        rw [hother _ h1] at hp
        by_cases h2 : c = H.next
        · subst h2
          rw [hself] at hq
          have := hw.heap_lt hb' hp
          cases hq
          simp; omega
        · rw [if_neg h2] at hc'
          rw [hother _ h2] at hq
          exact hw.inj b c x' y' p q (by omega) (by omega) hb' hc' hne hown hp hq
    · intro b hb'
      simp only [AHeap.next_new] at hb'
      rw [hother _ (by omega)]
      exact hw.fresh _ (by omega)
    · intro g hg
      obtain ⟨p, h1, h2⟩ := hw.glob g hg
      exact ⟨p, hmono _ _ h1, h2⟩
  · intro b hb'; exact hother _ (by omega)
  · simp
  · simp
  · intro b hb' h
    rw [AHeap.get_new, if_neg (by omega)] at h
    exact h
  · intro b hb' h
    obtain ⟨x, h1, h2⟩ := h
    rw [AHeap.get_new, if_neg (by omega)] at h1
    exact ⟨x, h1, h2⟩
  · intro b hb' _
    rw [AHeap.get_new, if_neg (by omega)]
  · intro b p hb' e
    by_cases h : b = H.next
    · subst h; rw [hself] at e; cases e; exact .inl (Nat.le_refl _)
    · rw [hother _ h, hw.fresh _ hb'] at e; cases e
  · rfl
  · rfl
  · rfl
  · simp
  · intro r hr _
    show (w.heap.push o)[r]? = _
    rw [Array.getElem?_push, if_neg (by omega)]

/-- A block of its own is turned. -/
theorem stp_set (hw : WRel P ρ H w) {b : Nat} {x y : ABlk} {o : Obj} {p : Place} (hb : H.get b = some x) (hx : x.owned = true) (hp : ρ b = some p)
    (hr : BRel P ρ p y o) (hh : w'.heap = w.heap.setIfInBounds p.r o) (ht : w'.tape = w.tape) (hos : w'.os = w.os) (hout : w'.output = w.output) :
    Stp P ρ H w ρ (H.set b y) w' := by
  have hlt := hw.heap_lt hb hp
  constructor
  · constructor
    · intro c blk hcn e
      rw [AHeap.get_set] at e
      by_cases h : c = b
      · subst h
        simp only [if_true, Option.some.injEq] at e
        subst e
        exact ⟨p, o, hp, by rw [hh]; simp [hlt], hr⟩
      · rw [if_neg h] at e
        obtain ⟨q, o', hq, ho, hr'⟩ := hw.blocks c blk hcn e
        have hne := hw.inj b c x blk p q (hw.lt hp) hcn hb e (fun e => h e.symm) hx hp hq
        exact ⟨q, o', hq, by rw [hh, Array.getElem?_setIfInBounds_ne hne]; exact ho, hr'⟩
    · intro c d x' y' q q' hcn hdn hc hd hne hown hq hq'
      rw [AHeap.get_set] at hc hd
      by_cases h1 : c = b
      · subst h1
        rw [if_neg (fun e => hne e.symm)] at hd
        exact hw.inj c d x y' q q' hcn hdn hb hd hne hx hq hq'
      · rw [if_neg h1] at hc
        by_cases h2 : d = b
        · subst h2
          exact hw.inj c d x' x q q' hcn hdn hc hb hne hown hq hq'
        · rw [if_neg h2] at hd
          exact hw.inj c d x' y' q q' hcn hdn hc hd hne hown hq hq'
    · exact hw.fresh
    · exact hw.glob
  · intro _ _; rfl
  · exact Nat.le_refl _
  · simp; omega
  · intro c hc h
    rw [AHeap.get_set] at h
    by_cases h1 : c = b
    · subst h1; rw [hb]; simp
    · rw [if_neg h1] at h; exact h
  · intro c hc h
    obtain ⟨z, h1, h2⟩ := h
    rw [AHeap.get_set] at h1
    by_cases h3 : c = b
    · subst h3; exact ⟨x, hb, hx⟩
    · rw [if_neg h3] at h1; exact ⟨z, h1, h2⟩
  · intro c hc h
    rw [AHeap.low_set] at h
    rw [AHeap.get_set, if_neg (by omega)]
  · intro c q hc e
    rw [hw.fresh _ hc] at e; cases e
  · exact ht
  · exact hos
  · exact hout
  · rw [hh]; simp
  · intro r hr' h
    rw [hh]
    by_cases hpr : p.r = r
    · have := h b p ⟨x, hb, hx⟩ hp hpr
      rw [AHeap.low_set] at this
      omega
    · rw [Array.getElem?_setIfInBounds_ne hpr]

/-- A draw. -/
theorem stp_draw (hw : WRel P ρ H w) (n : Nat) : Stp P ρ H w ρ H { w with drawn := n } where
  wrel := ⟨hw.blocks, hw.inj, hw.fresh, hw.glob⟩
  ext _ _ := rfl
  next := Nat.le_refl _
  low := Nat.le_refl _
  lives _ _ h := h
  owns _ _ h := h
  keeps _ _ _ := rfl
  news b p hb e := by rw [hw.fresh _ hb] at e; cases e
  tape := rfl
  os := rfl
  output := rfl
  size := Nat.le_refl _
  frame _ _ _ := rfl

end
end Go.Eng

namespace Go.Eng
set_option linter.unusedSimpArgs false

/-- The operation comes to a value, from world to world as from memory to memory. -/
def OpV (P : Program) (o : Oper) (a : Act) (ρ : Emb) (H : AHeap) (w : World) (v : AVal) (H' : AHeap) : Prop :=
  ∃ x w' ρ', ((execOp a.eval o).run P w = .ok (.value x) w' ∨ ((execOp a.eval o).run P w = .ok .skip w' ∧ x = undef)) ∧ VRel ρ' v x ∧ Stp P ρ H w ρ' H' w'

section
variable {P : Program} {o : Oper} {a : Act} {ρ : Emb} {H H' : AHeap} {w w' : World} {v : AVal} {tm : Tm}

theorem OpV.pure (hw : WRel P ρ H w) {x : Value} (h : (execOp a.eval o).run P w = .ok (.value x) w) (hv : VRel ρ v x) : OpV P o a ρ H w v H :=
  ⟨x, w, ρ, .inl h, hv, .refl hw⟩

theorem ov_eq {r : Option AVal} {H H' : AHeap} {v : AVal} (h : ov r H = .v v H') : r = some v ∧ H' = H := by
  cases r with
  | none => cases h
  | some u => cases h; exact ⟨rfl, rfl⟩

theorem ov_ne {r : Option AVal} {H H' : AHeap} {ch : List APan} (h : ov r H = .p ch H') : False := by
  cases r <;> cases h

/-! ### Operands -/

theorem cx_rel (hw : WRel P ρ H w) (ht : TmRel ρ tm a.tmps) {x : Operand} {b : BX} (h : cx P a.tmps.size x = some b) : VRel ρ (b.ev tm) (a.eval x) := by
  cases x with
  | tmp t =>
    simp only [cx] at h
    cases hb : Nat.blt t a.tmps.size <;> rw [hb] at h
    · cases h
    · simp only [cond_true, Option.some.injEq] at h
      subst h
      have hlt := blt_iff.1 hb
      have := ht t a.tmps[t] (by simp [hlt])
      simpa [BX.ev, Act.eval, Array.getD, hlt] using this
  | const c =>
    simp only [cx] at h
    split at h
    · rename_i u hu
      simp only [Option.some.injEq] at h
      subst h
      exact ofVal_rel hu
    · cases h
  | global g =>
    simp only [cx] at h
    cases hb : Nat.blt g P.globals.size <;> rw [hb] at h
    · cases h
    · simp only [cond_true, Option.some.injEq] at h
      subst h
      obtain ⟨p, hp, hr, hd⟩ := hw.glob g (blt_iff.1 hb)
      have := VRel.ptr (o := 0) hp
      rw [hr, hd] at this
      simpa [BX.ev, Act.eval] using this
  | func f =>
    simp only [cx, Option.some.injEq] at h
    subst h
    exact .func _ .nil .nil

theorem cxs_rel (hw : WRel P ρ H w) (ht : TmRel ρ tm a.tmps) : ∀ {xs : List Operand} {bs : List BX}, cxs P a.tmps.size xs = some bs → VRels ρ (evs bs tm) (xs.map a.eval)
  | [], bs, h => by simp only [cxs, Option.some.injEq] at h; subst h; exact .nil
  | x :: xs, bs, h => by
    simp only [cxs] at h
    split at h
    · rename_i b hb
      split at h
      · rename_i cs hcs
        simp only [Option.some.injEq] at h
        subst h
        exact .cons (cx_rel hw ht hb) (cxs_rel hw ht hcs)
      · cases h
    · cases h

theorem cxs_rel' (hw : WRel P ρ H w) (ht : TmRel ρ tm a.tmps) {xs : Array Operand} {bs : List BX} (h : cxs P a.tmps.size xs.toList = some bs) : VRels ρ (evs bs tm) (xs.map a.eval).toList := by
  have := cxs_rel hw ht h
  simpa using this

theorem c1_some {n : Nat} {f : BX → BOp} {x : Operand} {op : BOp} (h : c1 P n f x = op) (hb : op ≠ .bad) : ∃ b, cx P n x = some b ∧ op = f b := by
  unfold c1 at h
  split at h
  · exact ⟨_, ‹_›, h.symm⟩
  · exact absurd h.symm hb

theorem c2_some {n : Nat} {f : BX → BX → BOp} {x y : Operand} {op : BOp} (h : c2 P n f x y = op) (hb : op ≠ .bad) : ∃ b c, cx P n x = some b ∧ cx P n y = some c ∧ op = f b c := by
  unfold c2 at h
  split at h
  · split at h
    · exact ⟨_, _, ‹_›, ‹_›, h.symm⟩
    · exact absurd h.symm hb
  · exact absurd h.symm hb

theorem c3_some {n : Nat} {f : BX → BX → BX → BOp} {x y z : Operand} {op : BOp} (h : c3 P n f x y z = op) (hb : op ≠ .bad) :
    ∃ b c d, cx P n x = some b ∧ cx P n y = some c ∧ cx P n z = some d ∧ op = f b c d := by
  unfold c3 at h
  split at h
  · split at h
    · split at h
      · exact ⟨_, _, _, ‹_›, ‹_›, ‹_›, h.symm⟩
      · exact absurd h.symm hb
    · exact absurd h.symm hb
  · exact absurd h.symm hb

theorem mem_bad {tm : Tm} {H : AHeap} : BOp.mem P .bad tm H = .x := rfl
theorem mem_u {f : U1} {x : BX} : BOp.mem P (.u f x) tm H = ov (f.run (x.ev tm)) H := rfl
theorem mem_b {f : U2} {x y : BX} : BOp.mem P (.b f x y) tm H = ov (f.run (x.ev tm) (y.ev tm)) H := rfl
theorem mem_eq {neg nilOk : Bool} {t : TypeId} {x y : BX} : BOp.mem P (.eq neg nilOk t x y) tm H = eqA P neg nilOk t H (x.ev tm) (y.ev tm) := rfl
theorem mem_pick {c x y : BX} : BOp.mem P (.pick c x y) tm H = ov (pickA (x.ev tm) (y.ev tm) (c.ev tm)) H := rfl

/-! ### Facts on the program's tables -/

theorem run_under {t : TypeId} {d : TypeDesc} (h : P.underlying t = some d) (w : World) : (underlying t).run P w = .ok d w := by
  simp [underlying, h]

theorem sizeOf_info {t : TypeId} {n : Nat} (h : Eng.sizeOf P t = some n) : ∃ i, P.info? t = some i ∧ i.size = n := by
  simp only [Eng.sizeOf, Option.map_eq_some_iff] at h
  exact h

theorem run_size {t : TypeId} {n : Nat} (h : Eng.sizeOf P t = some n) (w : World) : (Go.sizeOf t).run P w = .ok n w := by
  obtain ⟨i, h1, h2⟩ := sizeOf_info h
  simp [Go.sizeOf, typeInfo, h1, h2]

theorem run_aggOf {t : TypeId} {r : Bool} (h : aggOf P t = some r) (w : World) : (Go.isAgg t).run P w = .ok r w := by
  unfold aggOf at h
  split at h <;> simp only [Option.some.injEq, reduceCtorEq] at h <;> subst h
  · rename_i hu; simp [Go.isAgg, run_under hu]
  · rename_i hu; simp [Go.isAgg, run_under hu]
  · rename_i d h1 h2 hu
    simp only [Go.isAgg, Sem.run_bind, run_under hu, Result.andThen_ok]
    cases d <;> first | rfl | (exact absurd rfl (h1 _)) | (exact absurd rfl (h2 _ _))

theorem zeroOf_info {t : TypeId} {z : AVal} (h : zeroOf P t = some z) : ∃ i x, P.info? t = some i ∧ i.zero = some x ∧ ofVal x = some z := by
  unfold zeroOf at h
  split at h
  · rename_i i hi
    split at h
    · rename_i x hx
      exact ⟨i, x, hi, hx, h⟩
    · cases h
  · cases h

theorem run_zero {t : TypeId} {z : AVal} (h : zeroOf P t = some z) : ∃ x, VRel ρ z x ∧ ∀ w, (zeroValue t).run P w = .ok x w := by
  obtain ⟨i, x, h1, h2, h3⟩ := zeroOf_info h
  exact ⟨x, ofVal_rel h3, fun w => by simp [zeroValue, typeInfo, h1, h2]⟩

/-! ### Lists of cells -/

theorem VRels.sub {cs r : List AVal} {xs : List Value} (h : VRels ρ cs xs) {i n : Nat} (hs : sub? cs i n = some r) :
    VRels ρ r ((xs.drop i).take n) ∧ ((xs.drop i).take n).length = n := by
  obtain ⟨rfl, hl⟩ := sub?_eq hs
  have := (h.drop i).take n
  exact ⟨this, by rw [← this.length]; exact hl⟩

theorem extract_toList (xs : List Value) (i n : Nat) : ((⟨xs⟩ : Array Value).extract i (i + n)) = ⟨(xs.drop i).take n⟩ := by
  apply Array.ext'
  simp [Array.toList_extract, List.extract_eq_take_drop]

theorem run_part {t : TypeId} {cs : List AVal} {xs : List Value} (h : VRels ρ cs xs) {off : Nat} {v : AVal} (hp : part P t cs off = some v) :
    ∃ x, VRel ρ v x ∧ ∀ w, (Go.part t ⟨xs⟩ off).run P w = .ok x w := by
  unfold part at hp
  split at hp
  · rename_i ha
    split at hp
    · rename_i n hn
      split at hp
      · rename_i r hr
        cases hp
        obtain ⟨h1, h2⟩ := h.sub hr
        exact ⟨_, .agg h1, fun w => by simp [Go.part, run_aggOf ha, run_size hn, extract_toList]⟩
      · cases hp
    · cases hp
  · rename_i ha
    rw [getAt_eq] at hp
    obtain ⟨x, hx, hv⟩ := h.get _ _ hp
    exact ⟨x, hv, fun w => by simp [Go.part, run_aggOf ha, hx]⟩
  · cases hp

end
end Go.Eng

namespace Go.Eng
set_option linter.unusedSimpArgs false

section
variable {P : Program} {o : Oper} {a : Act} {ρ : Emb} {H H' : AHeap} {w w' : World} {v : AVal} {tm : Tm} {b : BOp}

theorem not_bad (hm : b.mem P tm H = .v v H') : b ≠ .bad := fun e => by rw [e] at hm; cases hm

theorem op_move (hw : WRel P ρ H w) (ht : TmRel ρ tm a.tmps) {x : Operand} (ho : o.op = .move x ∨ o.op = .assign x)
    (hc : c1 P a.tmps.size (.u .id) x = b) (hm : b.mem P tm H = .v v H') : OpV P o a ρ H w v H' := by
  obtain ⟨c, hb, rfl⟩ := c1_some hc (not_bad hm)
  rw [mem_u] at hm
  obtain ⟨hr, rfl⟩ := ov_eq hm
  simp only [U1.run, Option.some.injEq] at hr
  subst hr
  refine .pure hw ?_ (cx_rel hw ht hb)
  rcases ho with ho | ho <;> simp [execOp, ho]

theorem op_pick (hw : WRel P ρ H w) (ht : TmRel ρ tm a.tmps) {c x y : Operand} (ho : o.op = .pick c x y)
    (hc : c3 P a.tmps.size .pick c x y = b) (hm : b.mem P tm H = .v v H') : OpV P o a ρ H w v H' := by
  obtain ⟨b1, b2, b3, h1, h2, h3, rfl⟩ := c3_some hc (not_bad hm)
  rw [mem_pick] at hm
  obtain ⟨hr, rfl⟩ := ov_eq hm
  have r1 := cx_rel hw ht h1
  have r2 := cx_rel hw ht h2
  have r3 := cx_rel hw ht h3
  revert r1 hr
  generalize hcv : b1.ev tm = cv
  generalize hcx : a.eval c = cx
  intro hr r1
  cases r1 <;> simp only [pickA, Option.some.injEq, reduceCtorEq] at hr
  rename_i t
  subst hr
  cases t
  · exact .pure hw (by simp [execOp, ho, hcx, asBool]) r3
  · exact .pure hw (by simp [execOp, ho, hcx, asBool]) r2

theorem op_nilCheck (hw : WRel P ρ H w) (ht : TmRel ρ tm a.tmps) {x : Operand} (ho : o.op = .nilCheck x)
    (hc : c1 P a.tmps.size (.u .chk) x = b) (hm : b.mem P tm H = .v v H') : OpV P o a ρ H w v H' := by
  obtain ⟨c, hb, rfl⟩ := c1_some hc (not_bad hm)
  rw [mem_u] at hm
  obtain ⟨hr, rfl⟩ := ov_eq hm
  have r := cx_rel hw ht hb
  simp only [U1.run] at hr
  revert r hr
  generalize hcv : c.ev tm = cv
  generalize hcx : a.eval x = cx
  intro hr r
  cases r <;> simp only [u1Chk, Option.some.injEq, reduceCtorEq] at hr
  case ptr p h => subst hr; exact .pure hw (by simp [execOp, ho, hcx]) (.ptr h)
  case func fn f c f' c' hf hcc =>
    cases fn <;> simp only [u1Chk, Option.some.injEq, reduceCtorEq] at hr
    subst hr
    exact .pure hw (by simp [execOp, ho, hcx]) (.func _ hf hcc)
  case yld p h => subst hr; exact .pure hw (by simp [execOp, ho, hcx]) (.yld h)
  case iface t v x h => subst hr; exact .pure hw (by simp [execOp, ho, hcx]) (.iface t h)

theorem Int.eqB_eq (x y : Int) : Eng.Int.eqB x y = (x == y) := by
  rw [Bool.eq_iff_iff, beq_iff_eq]
  cases x <;> cases y <;> simp only [Eng.Int.eqB, beq_iff] <;> first | (simp; done) | (simp; omega)

theorem Int.ltB_eq (x y : Int) : Eng.Int.ltB x y = decide (x < y) := by
  rw [Bool.eq_iff_iff, decide_eq_true_eq]
  cases x <;> cases y <;> simp only [Eng.Int.ltB, blt_iff] <;> first | (simp; done) | (simp; omega) | omega

theorem eqBytes_eq : ∀ (x y : List UInt8), eqBytes x y = decide (x = y)
  | [], [] => by simp [eqBytes]
  | [], _ :: _ => by simp [eqBytes]
  | _ :: _, [] => by simp [eqBytes]
  | a :: x, b :: y => by
    rw [eqBytes, eqBytes_eq x y, Bool.eq_iff_iff]
    simp [beq_iff, UInt8.toNat_inj]

theorem leBytes_eq : ∀ (x y : List UInt8), leBytes x y = !(Op.bytesLess y x)
  | [], y => by cases y <;> simp [leBytes, Op.bytesLess]
  | _ :: _, [] => by simp [leBytes, Op.bytesLess]
  | a :: x, b :: y => by
    rw [leBytes, leBytes_eq x y]
    simp only [Op.bytesLess]
    cases h : Nat.beq a.toNat b.toNat
    · have hne : a.toNat ≠ b.toNat := fun e => by rw [beq_iff.2 e] at h; cases h
      have hne' : ¬ (b = a) := fun e => hne (by rw [e])
      simp only [cond_false]
      rw [Bool.eq_iff_iff]
      simp [ble_iff, hne', UInt8.lt_iff_toNat_lt]
    · have he : a = b := UInt8.toNat_inj.1 (beq_iff.1 h)
      subst he
      simp

theorem bytesLess_total : ∀ (x y : List UInt8), Op.bytesLess x y = true → Op.bytesLess y x = false
  | x, [], h => by cases x <;> simp [Op.bytesLess] at h
  | [], _ :: _, _ => by simp [Op.bytesLess]
  | a :: x, b :: y, h => by
    simp only [Op.bytesLess, Bool.or_eq_true, decide_eq_true_eq, Bool.and_eq_true, beq_iff_eq, UInt8.lt_iff_toNat_lt] at h
    rw [Bool.eq_false_iff]
    intro k
    simp only [Op.bytesLess, Bool.or_eq_true, decide_eq_true_eq, Bool.and_eq_true, beq_iff_eq, UInt8.lt_iff_toNat_lt] at k
    rcases h with h | ⟨rfl, h⟩
    · rcases k with k | ⟨rfl, _⟩ <;> omega
    · rcases k with k | ⟨_, k⟩
      · omega
      · rw [bytesLess_total x y h] at k; cases k

theorem bytesLess_tri : ∀ (x y : List UInt8), Op.bytesLess x y = false → Op.bytesLess y x = false → x = y
  | [], [], _, _ => rfl
  | x :: xs, [], _, h => by simp [Op.bytesLess] at h
  | [], y :: ys, h, _ => by simp [Op.bytesLess] at h
  | a :: x, b :: y, h, k => by
    simp only [Op.bytesLess, Bool.or_eq_false_iff, decide_eq_false_iff_not, Bool.and_eq_false_iff, UInt8.lt_iff_toNat_lt] at h k
    have he : a = b := UInt8.toNat_inj.1 (by omega)
    subst he
    simp at h k
    rw [bytesLess_tri x y h k]

theorem bytesLess_irrefl (x : List UInt8) : Op.bytesLess x x = false := by
  cases h : Op.bytesLess x x
  · rfl
  · have := bytesLess_total x x h; rw [h] at this; cases this

/-- Not greater is less or equal. -/
theorem le_or (x y : List UInt8) : (!(Op.bytesLess y x)) = (Op.bytesLess x y || decide (x = y)) := by
  cases h : Op.bytesLess x y
  · cases k : Op.bytesLess y x
    · have := bytesLess_tri x y h k; simp [this]
    · have : x ≠ y := fun e => by subst e; rw [h] at k; cases k
      simp [this]
  · simp [bytesLess_total x y h]

theorem data_toList (s : List UInt8) : (ByteArray.mk ⟨s⟩).toList = s := by
  rw [ByteArray.toList_eq]

theorem run_int {op : BinOp} {k : IntKind} {x y : Int} (h : intOp op k x y = some v) (t : TypeId) :
    ∃ u, VRel ρ v u ∧ ∀ w, (Go.binOp op t (.int k x) (.int k y)).run P w = .ok u w := by
  cases op <;> simp only [intOp, boolA, Option.some.injEq, reduceCtorEq, Int.eqB_eq, Int.ltB_eq] at h
  case add => subst h; exact ⟨_, .int _ _, fun w => by simp [Go.binOp, Op.intArith]⟩
  case sub => subst h; exact ⟨_, .int _ _, fun w => by simp [Go.binOp, Op.intArith]⟩
  case mul => subst h; exact ⟨_, .int _ _, fun w => by simp [Go.binOp, Op.intArith]⟩
  case quo =>
    cases h0 : (y == 0) <;> rw [h0] at h
    · simp only [cond_false, Option.some.injEq] at h
      subst h
      have : y ≠ 0 := by simpa using h0
      exact ⟨_, .int _ _, fun w => by simp [Go.binOp, Op.intDiv, this]⟩
    · cases h
  case rem =>
    cases h0 : (y == 0) <;> rw [h0] at h
    · simp only [cond_false, Option.some.injEq] at h
      subst h
      have : y ≠ 0 := by simpa using h0
      exact ⟨_, .int _ _, fun w => by simp [Go.binOp, Op.intDiv, this]⟩
    · cases h
  case and => subst h; exact ⟨_, .int _ _, fun w => by simp [Go.binOp, Op.intBits]⟩
  case or => subst h; exact ⟨_, .int _ _, fun w => by simp [Go.binOp, Op.intBits]⟩
  case xor => subst h; exact ⟨_, .int _ _, fun w => by simp [Go.binOp, Op.intBits]⟩
  case andNot => subst h; exact ⟨_, .int _ _, fun w => by simp [Go.binOp, Op.intBits]⟩
  case eql => subst h; exact ⟨_, .bool _, fun w => by simp [Go.binOp, Op.intCmp]⟩
  case neq => subst h; exact ⟨_, .bool _, fun w => by simp [Go.binOp, Op.intCmp, bne]⟩
  case lss => subst h; exact ⟨_, .bool _, fun w => by simp [Go.binOp, Op.intCmp]⟩
  case leq => subst h; exact ⟨_, .bool _, fun w => by simp [Go.binOp, Op.intCmp, ← decide_not, Int.not_lt]⟩
  case gtr => subst h; exact ⟨_, .bool _, fun w => by simp [Go.binOp, Op.intCmp]⟩
  case geq => subst h; exact ⟨_, .bool _, fun w => by simp [Go.binOp, Op.intCmp, ← decide_not, Int.not_lt]⟩

theorem run_shift {op : BinOp} {k : IntKind} {x y : Int} (h : shiftOp op k x y = some v) (t : TypeId) :
    ∃ u, VRel ρ v u ∧ ∀ k' w, (Go.binOp op t (.int k x) (.int k' y)).run P w = .ok u w := by
  cases op <;> simp only [shiftOp, reduceCtorEq] at h <;> split at h <;> simp only [Option.some.injEq, reduceCtorEq] at h
  · subst h; exact ⟨_, .int _ _, fun k' w => by simp only [Go.binOp, Op.shift]; rw [if_neg (by simp)]; rfl⟩
  · subst h; exact ⟨_, .int _ _, fun k' w => by simp only [Go.binOp, Op.shift]; rw [if_neg (by simp)]; rfl⟩

theorem run_str {op : BinOp} {x y : List UInt8} (h : strOp op x y = some v) (t : TypeId) :
    ∃ u, VRel ρ v u ∧ ∀ w, (Go.binOp op t (.string ⟨⟨x⟩⟩) (.string ⟨⟨y⟩⟩)).run P w = .ok u w := by
  cases op <;> simp only [strOp, boolA, Option.some.injEq, reduceCtorEq, eqBytes_eq, leBytes_eq] at h
  case add =>
    cases h0 : Nat.ble (x.length + y.length) 4611686018427387904 <;> rw [h0] at h
    · cases h
    · simp only [cond_true, Option.some.injEq] at h
      subst h
      have hle := ble_iff.1 h0
      refine ⟨_, .str _, fun w => ?_⟩
      have hs : ¬ (((ByteArray.size ⟨⟨x⟩⟩ + ByteArray.size ⟨⟨y⟩⟩ : Nat) : Int) > IntKind.i64.max) := by
        simp [ByteArray.size, IntKind.max, IntKind.bits, IntKind.signed]; omega
      have e : (ByteArray.mk ⟨x⟩ ++ ByteArray.mk ⟨y⟩) = ⟨⟨x ++ y⟩⟩ := by
        apply ByteArray.ext
        simp
      simp only [Go.binOp, Op.stringOp]
      rw [if_neg hs, e]
      rfl
  case eql => subst h; exact ⟨_, .bool _, fun w => by simp [Go.binOp, Op.stringOp, data_toList, Bool.beq_eq_decide_eq]⟩
  case neq => subst h; exact ⟨_, .bool _, fun w => by simp [Go.binOp, Op.stringOp, data_toList, Bool.beq_eq_decide_eq]⟩
  case lss => subst h; exact ⟨_, .bool _, fun w => by simp [Go.binOp, Op.stringOp, data_toList]⟩
  case leq => subst h; exact ⟨_, .bool _, fun w => by simp only [Go.binOp, Op.stringOp, data_toList, le_or]; simp [Bool.beq_eq_decide_eq]⟩
  case gtr => subst h; exact ⟨_, .bool _, fun w => by simp only [Go.binOp, Op.stringOp, data_toList, le_or]; simp [Bool.beq_eq_decide_eq]⟩
  case geq => subst h; exact ⟨_, .bool _, fun w => by simp [Go.binOp, Op.stringOp, data_toList]⟩

/-! ### Equality -/

theorem aequal_under {d : Nat} {t : TypeId} {x y : AVal} {r : Bool} (h : aequal P d t x y = some r) : ∃ e, P.underlying t = some e := by
  cases d with
  | zero => simp [aequal] at h
  | succ d =>
    cases hu : P.underlying t with
    | some e => exact ⟨e, rfl⟩
    | none => simp [aequal, hu] at h

/-- Equality at three depths. -/
def EqOK (P : Program) (d : Nat) : Prop :=
  (∀ (ρ : Emb) (t : TypeId) (x y : AVal) (r : Bool) (x' y' : Value), aequal P d t x y = some r → VRel ρ x x' → VRel ρ y y' → ∀ D, d ≤ D → ∀ w, (Op.equalIn D t x' y').run P w = .ok r w) ∧
  (∀ (ρ : Emb) (fs : List Field) (xs ys : List AVal) (r : Bool) (xs' ys' : List Value), aequalFields P d fs xs ys = some r → VRels ρ xs xs' → VRels ρ ys ys' →
    ∀ D, d ≤ D → ∀ w, (Op.eqFields D ⟨xs'⟩ ⟨ys'⟩ fs).run P w = .ok r w) ∧
  (∀ (ρ : Emb) (e : TypeId) (n k i : Nat) (xs ys : List AVal) (r : Bool) (xs' ys' : List Value), aequalElems P d e n xs ys k i = some r → VRels ρ xs xs' → VRels ρ ys ys' →
    ∀ D, d ≤ D → ∀ w, (Op.eqItems D e n ⟨xs'⟩ ⟨ys'⟩ (List.range' i k)).run P w = .ok r w)

set_option maxHeartbeats 2000000 in
theorem eq_ok : ∀ d, EqOK P d := by
  intro d
  induction d with
  | zero =>
    refine ⟨fun ρ t x y r x' y' h => ?_, fun ρ fs xs ys r xs' ys' h _ _ D _ w => ?_, fun ρ e n k i xs ys r xs' ys' h _ _ D _ w => ?_⟩
    · simp [aequal] at h
    · cases fs with
      | nil => simp only [aequalFields, Option.some.injEq] at h; subst h; simp [Op.eqFields]
      | cons f fs => simp [aequalFields] at h
    · cases k with
      | zero => simp only [aequalElems, Option.some.injEq] at h; subst h; simp [Op.eqItems]
      | succ k => simp [aequalElems] at h
  | succ d ih =>
    obtain ⟨ih1, ih2, ih3⟩ := ih
    refine ⟨fun ρ t x y r x' y' h hx hy D hD w => ?_, fun ρ fs xs ys r xs' ys' h hx hy D hD w => ?_, fun ρ e n k i xs ys r xs' ys' h hx hy D hD w => ?_⟩
    · obtain ⟨D, rfl⟩ : ∃ m, D = m + 1 := ⟨D - 1, by omega⟩
      have hD' : d ≤ D := by omega
      simp only [aequal] at h
      cases hu : P.underlying t with
      | none => rw [hu] at h; cases h
      | some e =>
        rw [hu] at h
        cases e <;> simp only [reduceCtorEq] at h
        case bool =>
          split at h <;> try simp only [Option.some.injEq, reduceCtorEq] at h
          subst h; cases hx; cases hy
          simp [Op.equalIn, run_under hu]
        case int kk =>
          split at h <;> try simp only [reduceCtorEq] at h
          rename_i k a k' b
          cases hk : decide (k = k') <;> rw [hk] at h <;> simp only [cond_true, cond_false, Option.some.injEq, reduceCtorEq] at h
          have hk' := of_decide_eq_true hk
          subst hk'; subst h; cases hx; cases hy
          simp [Op.equalIn, run_under hu, Int.eqB_eq]
        case string =>
          split at h <;> try simp only [Option.some.injEq, reduceCtorEq] at h
          subst h; cases hx; cases hy
          simp [Op.equalIn, run_under hu, eqBytes_eq, beq_toListBytes, data_toList, Bool.beq_eq_decide_eq]
        case pointer el =>
          split at h <;> try simp only [Option.some.injEq, reduceCtorEq] at h
          · subst h; cases hx; cases hy; simp [Op.equalIn, run_under hu]
          · subst h; cases hx; cases hy; simp [Op.equalIn, run_under hu]
          · subst h; cases hx; cases hy; simp [Op.equalIn, run_under hu]
          · rename_i b o b' o'
            split at h
            · rename_i n hn
              cases hb : (Nat.beq b b' && !(Nat.beq n 0)) <;> rw [hb] at h <;> simp only [cond_true, cond_false, Option.some.injEq, reduceCtorEq] at h
              simp only [Bool.and_eq_true, Bool.not_eq_true'] at hb
              obtain ⟨hb1, hb2⟩ := hb
              have hb1 := beq_iff.1 hb1
              have hn0 : n ≠ 0 := fun e => by rw [beq_iff.2 e] at hb2; cases hb2
              subst hb1; subst h
              cases hx with
              | ptr e1 =>
                cases hy with
                | ptr e2 =>
                  rw [e1] at e2; cases e2
                  simp only [Op.equalIn, Sem.run_bind, run_under hu, Result.andThen_ok, run_size hn, Sem.run_ite]
                  rw [if_pos hn0]
                  simp only [sameAddr, beq_self_eq_true, if_true, Sem.run_pure]
                  congr 1
                  rw [Bool.eq_iff_iff, beq_iff]
                  simp
            · cases h
        case interface ms =>
          split at h <;> try simp only [Option.some.injEq, reduceCtorEq] at h
          · subst h; cases hx; cases hy; simp [Op.equalIn, run_under hu]
          · subst h; cases hx; cases hy; simp [Op.equalIn, run_under hu]
          · subst h; cases hx; cases hy; simp [Op.equalIn, run_under hu]
          · rename_i tx vx ty vy
            cases hx with
            | iface _ hvx =>
              cases hy with
              | iface _ hvy =>
                cases hb : Nat.beq tx ty <;> rw [hb] at h
                · simp only [cond_false, Option.some.injEq] at h
                  subst h
                  have : tx ≠ ty := fun e => by rw [beq_iff.2 e] at hb; cases hb
                  simp [Op.equalIn, run_under hu, this]
                · simp only [cond_true] at h
                  have := beq_iff.1 hb
                  subst this
                  split at h
                  · rename_i i hi
                    cases hc : i.comparable <;> rw [hc] at h <;> simp only [cond_true, cond_false, reduceCtorEq] at h
                    simp [Op.equalIn, run_under hu, typeInfo, hi, hc, ih1 ρ _ _ _ _ _ _ h hvx hvy D hD' w]
                  · cases h
        case struct fields =>
          split at h <;> try simp only [reduceCtorEq] at h
          rename_i xs ys
          cases hs : P.stoodInHeld t <;> rw [hs] at h <;> simp only [cond_true, cond_false, reduceCtorEq] at h
          cases hx with
          | agg hxs =>
            cases hy with
            | agg hys =>
              have hf : P.fieldsOf t = fields := by simp [Program.fieldsOf, hu]
              rw [run_equalIn_struct w D t _ _ (by rw [hf]; exact hu) hs, hf]
              exact ih2 ρ _ _ _ _ _ _ h hxs hys D hD' w
        case array len el =>
          split at h <;> try simp only [reduceCtorEq] at h
          rename_i xs ys
          split at h
          · rename_i n hn
            obtain ⟨i, hi, hin⟩ := sizeOf_info hn
            cases hx with
            | agg hxs =>
              cases hy with
              | agg hys =>
                have hc : P.cellsOf el = n := by simp [Program.cellsOf, hi, hin]
                rw [run_equalIn_array w D _ _ hu hi, hc, List.range_eq_range']
                exact ih3 ρ _ _ _ _ _ _ _ _ _ h hxs hys D hD' w
          · cases h
        case slice el =>
          split at h <;> simp only [Option.some.injEq, reduceCtorEq] at h <;> subst h <;> cases hx <;> cases hy <;> simp [Op.equalIn, run_under hu]
        case map k el =>
          split at h <;> simp only [Option.some.injEq, reduceCtorEq] at h <;> subst h <;> cases hx <;> cases hy <;> simp [Op.equalIn, run_under hu]
        case func ps rs va =>
          split at h <;> simp only [Option.some.injEq, reduceCtorEq] at h <;> subst h <;> cases hx <;> cases hy <;> simp [Op.equalIn, run_under hu]
    · cases fs with
      | nil => simp only [aequalFields, Option.some.injEq] at h; subst h; simp [Op.eqFields]
      | cons f fs =>
        simp only [aequalFields] at h
        cases hn : (f.name == "_") <;> rw [hn] at h
        · simp only [cond_false] at h
          have hne : f.name ≠ "_" := by simpa using hn
          split at h
          · rename_i x hpx
            split at h
            · rename_i y hpy
              cases ha : aequal P d f.type x y with
              | none => rw [ha] at h; simp at h
              | some b =>
                obtain ⟨x', hx', rx⟩ := run_part hx hpx
                obtain ⟨y', hy', ry⟩ := run_part hy hpy
                have he := ih1 ρ _ _ _ _ _ _ ha hx' hy' D (by omega) w
                simp only [Op.eqFields, hne, ne_eq, not_false_eq_true, if_true, Sem.run_bind, rx, ry, he, Result.andThen_ok]
                rw [ha] at h
                cases b
                · simp at h; subst h; simp
                · simp only at h
                  simpa using ih2 ρ _ _ _ _ _ _ h hx hy D (by omega) w
            · cases h
          · cases h
        · simp only [cond_true] at h
          have heq : f.name = "_" := by simpa using hn
          simp only [Op.eqFields, heq, ne_eq, not_true_eq_false, if_false]
          exact ih2 ρ _ _ _ _ _ _ h hx hy D (by omega) w
    · cases k with
      | zero => simp only [aequalElems, Option.some.injEq] at h; subst h; simp [Op.eqItems]
      | succ k =>
        simp only [aequalElems] at h
        split at h
        · rename_i x hpx
          split at h
          · rename_i y hpy
            cases ha : aequal P d e x y with
            | none => rw [ha] at h; simp at h
            | some b =>
              obtain ⟨x', hx', rx⟩ := run_part hx hpx
              obtain ⟨y', hy', ry⟩ := run_part hy hpy
              have he := ih1 ρ _ _ _ _ _ _ ha hx' hy' D (by omega) w
              simp only [List.range'_succ, Op.eqItems, Sem.run_bind, rx, ry, he, Result.andThen_ok]
              rw [ha] at h
              cases b
              · simp at h; subst h; simp
              · simp only at h
                simpa using ih3 ρ _ _ _ _ _ _ _ _ _ h hx hy D (by omega) w
          · cases h
        · cases h

end
end Go.Eng

namespace Go.Eng
set_option linter.unusedSimpArgs false

section
variable {P : Program} {o : Oper} {a : Act} {ρ : Emb} {H H' : AHeap} {w w' : World} {v : AVal} {tm : Tm} {b : BOp}

theorem run_guard {op : BinOp} {t : TypeId} {x y : Operand} {u u' : Value} (h1 : u = .nilIface → u' = .nilIface → isConst x = true ∨ isConst y = true)
    (h2 : ∀ cs ds, u = .agg cs → u' = .agg ds → P.eqGuardType P.depth t = false) (w : World) : (eqGuard op t x y u u').run P w = .ok () w := by
  unfold eqGuard
  cases hop : (!(op matches .eql | .neq))
  · simp only [Bool.false_eq_true, if_false]
    split
    · rcases h1 rfl rfl with h | h
      · cases x <;> simp [isConst] at h
        simp
      · cases y <;> simp [isConst] at h
        simp
    · rename_i cs ds
      have := h2 cs ds rfl rfl
      simp [this]
    · rfl
  · simp

theorem guard_int (op : BinOp) (t : TypeId) (x y : Operand) (k : IntKind) (n : Int) (u' : Value) (w : World) : (eqGuard op t x y (.int k n) u').run P w = .ok () w :=
  run_guard (fun e => by cases e) (fun _ _ e => by cases e) w
theorem guard_str (op : BinOp) (t : TypeId) (x y : Operand) (s : ByteArray) (u' : Value) (w : World) : (eqGuard op t x y (.string s) u').run P w = .ok () w :=
  run_guard (fun e => by cases e) (fun _ _ e => by cases e) w

theorem binOp_eql {t : TypeId} {u u' : Value} (hu : ∀ k n, u ≠ .int k n) (hf : ∀ k n, u ≠ .float k n) (hc : ∀ k n m, u ≠ .complex k n m) (hs : ∀ s, u ≠ .string s) :
    Go.binOp .eql t u u' = (do pure (.bool (← Op.equal t u u'))) ∧ Go.binOp .neq t u u' = (do pure (.bool (!(← Op.equal t u u')))) := by
  cases u with
  | int k n => exact absurd rfl (hu k n)
  | float k n => exact absurd rfl (hf k n)
  | complex k n m => exact absurd rfl (hc k n m)
  | string s => exact absurd rfl (hs s)
  | _ => cases u' <;> exact ⟨rfl, rfl⟩

/-- Values that equality compares, other than numbers and strings. -/
theorem aequal_not {d : Nat} {t : TypeId} {x y : AVal} {r : Bool} {e : TypeDesc} (hu : P.underlying t = some e) (hi : ∀ k, e ≠ .int k) (hs : e ≠ .string) (h : aequal P d t x y = some r) :
    (∀ k n, x ≠ .int k n) ∧ (∀ s, x ≠ .str s) := by
  cases d with
  | zero => simp [aequal] at h
  | succ d =>
    simp only [aequal, hu] at h
    constructor
    · rintro k n rfl
      cases e <;> simp at h
      exact hi _ rfl
    · rintro s rfl
      cases e <;> simp at h
      exact hs rfl

theorem op_bin (hw : WRel P ρ H w) (ht : TmRel ρ tm a.tmps) {op : BinOp} {t ty : TypeId} {x y : Operand} (ho : o.op = .binOp op t x y ty)
    (hc : cbin P a.tmps.size op t x y = b) (hm : b.mem P tm H = .v v H') : OpV P o a ρ H w v H' := by
  have hbad := not_bad hm
  unfold cbin at hc
  split at hc
  · -- integers
    split at hc
    · obtain ⟨c, d, h1, h2, rfl⟩ := c2_some hc hbad
      rw [mem_b] at hm
      obtain ⟨hr, rfl⟩ := ov_eq hm
      have r1 := cx_rel hw ht h1
      have r2 := cx_rel hw ht h2
      simp only [U2.run] at hr
      revert hr r1 r2
      generalize c.ev tm = cv; generalize d.ev tm = dv; generalize hcx : a.eval x = cx; generalize hdx : a.eval y = dx
      intro hr r1 r2
      cases r1 <;> try (simp only [u2Shift, reduceCtorEq] at hr; done)
      cases r2 <;> simp only [u2Shift, reduceCtorEq] at hr
      obtain ⟨u, hu, hrun⟩ := run_shift (P := P) (ρ := ρ) hr t
      exact .pure hw (by simp [execOp, ho, hcx, hdx, guard_int, guard_str, hrun]) hu
    · obtain ⟨c, d, h1, h2, rfl⟩ := c2_some hc hbad
      rw [mem_b] at hm
      obtain ⟨hr, rfl⟩ := ov_eq hm
      have r1 := cx_rel hw ht h1
      have r2 := cx_rel hw ht h2
      simp only [U2.run] at hr
      revert hr r1 r2
      generalize c.ev tm = cv; generalize d.ev tm = dv; generalize hcx : a.eval x = cx; generalize hdx : a.eval y = dx
      intro hr r1 r2
      cases r1 <;> try (simp only [u2Shift, reduceCtorEq] at hr; done)
      cases r2 <;> simp only [u2Shift, reduceCtorEq] at hr
      obtain ⟨u, hu, hrun⟩ := run_shift (P := P) (ρ := ρ) hr t
      exact .pure hw (by simp [execOp, ho, hcx, hdx, guard_int, guard_str, hrun]) hu
    · obtain ⟨c, d, h1, h2, rfl⟩ := c2_some hc hbad
      rw [mem_b] at hm
      obtain ⟨hr, rfl⟩ := ov_eq hm
      have r1 := cx_rel hw ht h1
      have r2 := cx_rel hw ht h2
      simp only [U2.run] at hr
      revert hr r1 r2
      generalize c.ev tm = cv; generalize d.ev tm = dv; generalize hcx : a.eval x = cx; generalize hdx : a.eval y = dx
      intro hr r1 r2
      cases r1 <;> try (simp only [u2Int, reduceCtorEq] at hr; done)
      cases r2 <;> simp only [u2Int, reduceCtorEq] at hr
      rename_i k m k' m'
      cases hk : decide (k = k') <;> rw [hk] at hr <;> simp only [cond_true, cond_false, reduceCtorEq] at hr
      have hk' := of_decide_eq_true hk
      subst hk'
      obtain ⟨u, hu, hrun⟩ := run_int (P := P) (ρ := ρ) hr t
      exact .pure hw (by simp [execOp, ho, hcx, hdx, guard_int, guard_str, hrun]) hu
  · -- strings
    obtain ⟨c, d, h1, h2, rfl⟩ := c2_some hc hbad
    rw [mem_b] at hm
    obtain ⟨hr, rfl⟩ := ov_eq hm
    have r1 := cx_rel hw ht h1
    have r2 := cx_rel hw ht h2
    simp only [U2.run] at hr
    revert hr r1 r2
    generalize c.ev tm = cv; generalize d.ev tm = dv; generalize hcx : a.eval x = cx; generalize hdx : a.eval y = dx
    intro hr r1 r2
    cases r1 <;> try (simp only [u2Str, reduceCtorEq] at hr; done)
    cases r2 <;> simp only [u2Str, reduceCtorEq] at hr
    obtain ⟨u, hu, hrun⟩ := run_str (P := P) (ρ := ρ) hr t
    exact .pure hw (by simp [execOp, ho, hcx, hdx, guard_int, guard_str, hrun]) hu
  · rename_i e hni hns hu
    have hni' : ∀ k, e ≠ .int k := fun k he => hni k he
    have hns' : e ≠ .string := fun he => hns he
    cases hok : eqOk P t <;> rw [hok] at hc
    · exact absurd hc.symm hbad
    · simp only [cond_true] at hc
      have key : ∀ (neg : Bool), b = BOp.bad ∨ True → c2 P a.tmps.size (.eq neg (isConst x || isConst y) t) x y = b → op = (if neg then .neq else .eql) → OpV P o a ρ H w v H' := by
        intro neg _ hc hop
        obtain ⟨c, d, h1, h2, rfl⟩ := c2_some hc hbad
        rw [mem_eq] at hm
        have r1 := cx_rel hw ht h1
        have r2 := cx_rel hw ht h2
        revert hm r1 r2
        generalize c.ev tm = cv; generalize d.ev tm = dv; generalize hcx : a.eval x = cx; generalize hdx : a.eval y = dx
        intro hm r1 r2
        unfold eqA at hm
        cases hn : (cv.isNilIface && dv.isNilIface && !(isConst x || isConst y)) <;> rw [hn] at hm
        · simp only [cond_false] at hm
          split at hm
          · rename_i r hr
            cases hm
            obtain ⟨hn1, hn2⟩ := aequal_not hu hni' hns' hr
            have he := fun w => (eq_ok (P := P) 100).1 ρ t cv dv r cx dx hr r1 r2 10000 (by omega) w
            have hb := binOp_eql (t := t) (u := cx) (u' := dx)
              (fun k n e => by subst e; cases r1; exact hn1 _ _ rfl) (fun k n e => by subst e; cases r1) (fun k n m e => by subst e; cases r1) (fun s e => by subst e; cases r1; exact hn2 _ rfl)
            have hg : ∀ w, (eqGuard op t x y cx dx).run P w = .ok () w := fun w => run_guard
              (fun e1 e2 => by
                subst e1; subst e2
                cases r1; cases r2
                cases hx : isConst x
                · right; simpa [AVal.isNilIface, hx] using hn
                · exact .inl rfl)
              (fun cs ds e1 e2 => by
                subst e1; subst e2
                have : P.eqGuardType P.depth t = false := by
                  unfold eqOk at hok
                  rw [hu] at hok
                  cases r1; cases r2
                  cases e <;> simp only [Bool.not_eq_true'] at hok <;> first | exact hok | (simp [aequal, hu] at hr; done)
                exact this) w
            cases neg
            · simp at hop; subst hop
              exact .pure hw (by simp [execOp, ho, hcx, hdx, hg, hb.1, Op.equal, Op.maxDepth, he]) (.bool _)
            · simp at hop; subst hop
              exact .pure hw (by simp [execOp, ho, hcx, hdx, hg, hb.2, Op.equal, Op.maxDepth, he]) (.bool _)
          · cases hm
        · cases hm
      split at hc
      · exact key false (.inr trivial) hc rfl
      · exact key true (.inr trivial) hc rfl
      · exact absurd hc.symm hbad
  · exact absurd hc.symm hbad

theorem op_un (hw : WRel P ρ H w) (ht : TmRel ρ tm a.tmps) {op : UnOp} {t : TypeId} {x : Operand} (ho : o.op = .unOp op t x)
    (hc : cun P a.tmps.size op x = b) (hm : b.mem P tm H = .v v H') : OpV P o a ρ H w v H' := by
  have hbad := not_bad hm
  cases op <;> simp only [cun] at hc
  case plus => exact absurd hc.symm hbad
  all_goals
    obtain ⟨c, hb, rfl⟩ := c1_some hc hbad
    rw [mem_u] at hm
    obtain ⟨hr, rfl⟩ := ov_eq hm
    have r := cx_rel hw ht hb
    simp only [U1.run] at hr
    revert hr r
    generalize c.ev tm = cv; generalize hcx : a.eval x = cx
    intro hr r
    cases r <;> simp only [u1Neg, u1Com, u1Not, Option.some.injEq, reduceCtorEq] at hr
    subst hr
  · exact .pure hw (by simp [execOp, ho, hcx, Op.unary, Op.intArith]) (.int _ _)
  · refine .pure hw ?_ (.int _ _)
    simp only [execOp, ho, hcx, Op.unary, Op.intBits]
    rename_i k n
    cases hk : k.signed <;> simp [hk]
  · exact .pure hw (by simp [execOp, ho, hcx, Op.unary]) (.bool _)

end
end Go.Eng

namespace Go.Eng
set_option linter.unusedSimpArgs false

@[simp] theorem add_none (r o n : Nat) : (⟨r, o, none⟩ : Addr).add n = ⟨r, o + n, none⟩ := by
  unfold Addr.add
  split
  · subst_vars; rfl
  · rfl

section
variable {P : Program} {o : Oper} {a : Act} {ρ : Emb} {H H' : AHeap} {w w' : World} {v : AVal} {tm : Tm} {b : BOp}

/-! ### Bounds -/

inductive ORel (ρ : Emb) : Option AVal → Option Value → Prop
  | none : ORel ρ none none
  | some {v : AVal} {x : Value} (h : VRel ρ v x) : ORel ρ (some v) (some x)

theorem run_bound {d top n : Nat} {v : AVal} {x : Value} (h : boundA d (some v) top = some n) (hv : VRel ρ v x) {top' : Nat} (ht : top ≤ top') (code : BoundsCode) (w : World) :
    (Instr.sliceBound x top' code).run P w = .ok n w ∧ n ≤ top := by
  cases hv <;> simp only [boundA, reduceCtorEq] at h
  rename_i k i
  cases i with
  | negSucc i => simp [boundA] at h
  | ofNat i =>
    simp only [boundA] at h
    cases hb : Nat.ble i top <;> rw [hb] at h <;> simp only [cond_true, cond_false, Option.some.injEq, reduceCtorEq] at h
    subst h
    have hle := ble_iff.1 hb
    refine ⟨?_, hle⟩
    have : (0 : Int) ≤ Int.ofNat i ∧ Int.ofNat i ≤ (top' : Int) := by constructor <;> simp <;> omega
    simp only [Instr.sliceBound, asIntOf, Sem.run_bind, Sem.run_pure, Result.andThen_ok, Sem.run_ite]
    rw [if_pos this]
    simp

theorem run_bounds {len cap l h : Nat} {lo hi : Option AVal} {lo' hi' : Option Value} (hh : boundA len hi cap = some h) (hl : boundA 0 lo h = some l) (rl : ORel ρ lo lo') (rh : ORel ρ hi hi')
    {cap' : Nat} (hc : cap ≤ cap') (hlen : len ≤ cap) (isS : Bool) (w : World) : (Instr.sliceBounds isS len cap' lo' hi' none).run P w = .ok (l, h, cap') w ∧ l ≤ h ∧ h ≤ cap := by
  unfold Instr.sliceBounds
  cases rh with
  | none =>
    simp only [boundA, Option.some.injEq] at hh
    subst hh
    cases rl with
    | none =>
      simp only [boundA, Option.some.injEq] at hl
      subst hl
      exact ⟨by simp, Nat.zero_le _, hlen⟩
    | some hv =>
      obtain ⟨h1, h2⟩ := run_bound (P := P) hl hv (Nat.le_refl _) .sliceB w
      exact ⟨by simp [h1], h2, hlen⟩
  | some hv =>
    obtain ⟨h1, h2⟩ := run_bound (P := P) hh hv hc (if isS then .sliceAcap else .sliceAlen) w
    cases rl with
    | none =>
      simp only [boundA, Option.some.injEq] at hl
      subst hl
      exact ⟨by simp [h1], Nat.zero_le _, h2⟩
    | some hv' =>
      obtain ⟨h3, h4⟩ := run_bound (P := P) hl hv' (Nat.le_refl _) .sliceB w
      exact ⟨by simp [h1, h3], h4, h2⟩

theorem cxo_rel (hw : WRel P ρ H w) (ht : TmRel ρ tm a.tmps) {x : Option Operand} {c : Option BX} (h : cxo P a.tmps.size x = some c) : ORel ρ (evO c tm) (x.map a.eval) := by
  cases x with
  | none => simp only [cxo, Option.some.injEq] at h; subst h; exact .none
  | some x =>
    simp only [cxo] at h
    split at h
    · simp only [Option.some.injEq] at h; subst h; exact .some (cx_rel hw ht ‹_›)
    · cases h

theorem mem_subStr {x : BX} {lo hi : Option BX} : BOp.mem P (.subStr x lo hi) tm H = ov (subStrA (x.ev tm) (evO lo tm) (evO hi tm)) H := rfl
theorem mem_subSl {n : Nat} {x : BX} {lo hi : Option BX} : BOp.mem P (.subSl n x lo hi) tm H = ov (subSlA n (x.ev tm) (evO lo tm) (evO hi tm)) H := rfl
theorem mem_subArr {n m : Nat} {x : BX} {lo hi : Option BX} : BOp.mem P (.subArr n m x lo hi) tm H = ov (subArrA n m (x.ev tm) (evO lo tm) (evO hi tm)) H := rfl

/-- A slice that begins later. -/
theorem advance_rel {bb oo h cap esz l cap' : Nat} {ex : Bool} {p : Place} (hp : ρ bb = some p) (hc : cap ≤ cap') (he : ex = true → cap' = cap) (hr : ex = false → oo + cap' * esz = p.room)
    (h1 : l ≤ h) (h2 : h ≤ cap) :
    VRel ρ (advance bb oo h cap esz l ex) (.slice (if cap' = l then some ⟨p.r, p.d + oo, none⟩ else some ⟨p.r, p.d + oo + l * esz, none⟩) (h - l) (cap' - l)) := by
  unfold advance
  cases hb : Nat.beq cap l
  · have hne : cap ≠ l := fun e => by rw [beq_iff.2 e] at hb; cases hb
    simp only [cond_false]
    rw [if_neg (by omega), Nat.add_assoc]
    refine .slice hp (by omega) (by omega) (fun e => by rw [he e]) (fun e => ?_)
    have h3 := hr e
    have : l * esz + (cap' - l) * esz = cap' * esz := by rw [← Nat.add_mul]; congr 1; omega
    omega
  · have heq := beq_iff.1 hb
    simp only [cond_true]
    cases ex
    · simp only [cond_false]
      have : h - l = 0 := by omega
      rw [this]
      split <;> exact .emptySlice _ _
    · simp only [cond_true]
      have := he rfl
      rw [if_pos (by omega), show cap' - l = 0 by omega]
      exact .slice hp (by omega) (by omega) (fun _ => rfl) (fun e => by cases e)

theorem op_slice (hw : WRel P ρ H w) (ht : TmRel ρ tm a.tmps) {t : TypeId} {x : Operand} {lo hi : Option Operand} (ho : o.op = .slice t x lo hi none)
    (hc : cslice P a.tmps.size t x lo hi = b) (hm : b.mem P tm H = .v v H') : OpV P o a ρ H w v H' := by
  have hbad := not_bad hm
  unfold cslice at hc
  split at hc
  · rename_i c hcx
    split at hc
    · rename_i l hl
      split at hc
      · rename_i h hh
        have rx := cx_rel hw ht hcx
        have rl := cxo_rel hw ht hl
        have rh := cxo_rel hw ht hh
        split at hc
        · -- a string
          rename_i hu
          subst hc
          rw [mem_subStr] at hm
          obtain ⟨hr, rfl⟩ := ov_eq hm
          revert hr rx
          generalize c.ev tm = cv; generalize hcx' : a.eval x = cx
          intro rx hr
          cases rx <;> simp only [subStrA, reduceCtorEq] at hr
          rename_i s
          split at hr
          · rename_i hv hhv
            split at hr
            · rename_i lv hlv
              cases hr
              obtain ⟨hrun, _, _⟩ := run_bounds (P := P) hhv hlv rl rh (Nat.le_refl _) (Nat.le_refl _) false w
              refine .pure hw (x := .string ⟨⟨(s.take hv).drop lv⟩⟩) ?_ (.str _)
              have e : (ByteArray.mk ⟨s⟩).extract lv hv = ⟨⟨(s.take hv).drop lv⟩⟩ := by
                apply ByteArray.ext
                rw [ByteArray.data_extract]
                apply Array.ext'
                simp [Array.toList_extract, List.extract_eq_take_drop, List.drop_take]
              have hsz : (ByteArray.mk ⟨s⟩).size = s.length := rfl
              simp [execOp, ho, hcx', Instr.sliceAt, Instr.slice, run_under hu, hsz, hrun, e]
            · cases hr
          · cases hr
        · -- a slice
          rename_i elem hu
          split at hc
          · rename_i esz hsz
            subst hc
            rw [mem_subSl] at hm
            obtain ⟨hr, rfl⟩ := ov_eq hm
            revert hr rx
            generalize c.ev tm = cv; generalize hcx' : a.eval x = cx
            intro rx hr
            cases rx <;> simp only [subSlA, reduceCtorEq] at hr
            case slice bb oo len cap esz' cap' ex p hp hlen hcap hex hroom =>
              cases hb : Nat.beq esz esz' <;> rw [hb] at hr <;> simp only [cond_true, cond_false, reduceCtorEq] at hr
              have := beq_iff.1 hb
              subst this
              split at hr
              · rename_i hv hhv
                split at hr
                · rename_i lv hlv
                  cases hr
                  obtain ⟨hrun, h1, h2⟩ := run_bounds (P := P) hhv hlv rl rh hcap hlen true w
                  refine .pure hw ?_ (advance_rel hp hcap hex hroom h1 h2)
                  simp [execOp, ho, hcx', Instr.sliceAt, Instr.slice, run_under hu, hrun, run_size hsz]
                · cases hr
              · cases hr
            case nilSlice =>
              split at hr
              · rename_i hv hhv
                split at hr
                · rename_i lv hlv
                  cases hr
                  obtain ⟨hrun, h1, h2⟩ := run_bounds (P := P) hhv hlv rl rh (Nat.le_refl _) (Nat.le_refl _) true w
                  have hv0 : hv = 0 := by omega
                  have lv0 : lv = 0 := by omega
                  subst hv0; subst lv0
                  refine .pure hw ?_ .nilSlice
                  simp [execOp, ho, hcx', Instr.sliceAt, Instr.slice, run_under hu, hrun, run_size hsz]
                · cases hr
              · cases hr
            case emptySlice ad cap' =>
              split at hr
              · rename_i hv hhv
                split at hr
                · rename_i lv hlv
                  cases hr
                  obtain ⟨hrun, h1, h2⟩ := run_bounds (P := P) hhv hlv rl rh (Nat.zero_le cap') (Nat.le_refl _) true w
                  have hv0 : hv = 0 := by omega
                  have lv0 : lv = 0 := by omega
                  subst hv0; subst lv0
                  refine .pure hw ?_ (.emptySlice (if cap' = 0 then ad else ad.add (0 * esz)) cap')
                  by_cases hc0 : cap' = 0
                  · subst hc0; simp [execOp, ho, hcx', Instr.sliceAt, Instr.slice, run_under hu, hrun, run_size hsz]
                  · simp [execOp, ho, hcx', Instr.sliceAt, Instr.slice, run_under hu, hrun, run_size hsz, hc0]
                · cases hr
              · cases hr
          · exact absurd hc.symm hbad
        · -- an array behind a pointer
          rename_i k elem hu
          split at hc
          · rename_i esz hsz
            subst hc
            rw [mem_subArr] at hm
            obtain ⟨hr, rfl⟩ := ov_eq hm
            revert hr rx
            generalize c.ev tm = cv; generalize hcx' : a.eval x = cx
            intro rx hr
            cases rx <;> simp only [subArrA, reduceCtorEq] at hr
            rename_i bb oo p hp
            split at hr
            · rename_i hv hhv
              split at hr
              · rename_i lv hlv
                cases hr
                obtain ⟨hrun, h1, h2⟩ := run_bounds (P := P) hhv hlv rl rh (Nat.le_refl _) (Nat.le_refl _) false w
                refine .pure hw ?_ (advance_rel hp (Nat.le_refl _) (fun _ => rfl) (fun e => by cases e) h1 h2)
                by_cases hkl : k = lv
                · subst hkl; simp [execOp, ho, hcx', Instr.sliceAt, Instr.sureAddr, run_under hu, hrun, run_size hsz]
                · simp [execOp, ho, hcx', Instr.sliceAt, Instr.sureAddr, run_under hu, hrun, run_size hsz, hkl]
              · cases hr
            · cases hr
          · exact absurd hc.symm hbad
        · rename_i arr hu
          split at hc
          · rename_i k elem hu2
            split at hc
            · rename_i esz hsz
              subst hc
              rw [mem_subArr] at hm
              obtain ⟨hr, rfl⟩ := ov_eq hm
              revert hr rx
              generalize c.ev tm = cv; generalize hcx' : a.eval x = cx
              intro rx hr
              cases rx <;> simp only [subArrA, reduceCtorEq] at hr
              rename_i bb oo p hp
              split at hr
              · rename_i hv hhv
                split at hr
                · rename_i lv hlv
                  cases hr
                  obtain ⟨hrun, h1, h2⟩ := run_bounds (P := P) hhv hlv rl rh (Nat.le_refl _) (Nat.le_refl _) false w
                  refine .pure hw ?_ (advance_rel hp (Nat.le_refl _) (fun _ => rfl) (fun e => by cases e) h1 h2)
                  by_cases hkl : k = lv
                  · subst hkl; simp [execOp, ho, hcx', Instr.sliceAt, Instr.slice, asAddr, run_under hu, run_under hu2, hrun, run_size hsz]
                  · simp [execOp, ho, hcx', Instr.sliceAt, Instr.slice, asAddr, run_under hu, run_under hu2, hrun, run_size hsz, hkl]
                · cases hr
              · cases hr
            · exact absurd hc.symm hbad
          · exact absurd hc.symm hbad
        · exact absurd hc.symm hbad
      · exact absurd hc.symm hbad
    · exact absurd hc.symm hbad
  · exact absurd hc.symm hbad

end
end Go.Eng

namespace Go.Eng
set_option linter.unusedSimpArgs false

section
variable {P : Program} {o : Oper} {a : Act} {ρ : Emb} {H H' : AHeap} {w w' : World} {v : AVal} {tm : Tm} {b : BOp}

theorem size_ne {n : Nat} (h : Nat.beq n 0 = false) : n ≠ 0 := fun e => by rw [beq_iff.2 e] at h; cases h

theorem op_fieldAddr (hw : WRel P ρ H w) (ht : TmRel ρ tm a.tmps) {s : TypeId} {x : Operand} {f : Nat} (ho : o.op = .fieldAddr s x f)
    (hc : cfieldAddr P a.tmps.size s x f = b) (hm : b.mem P tm H = .v v H') : OpV P o a ρ H w v H' := by
  have hbad := not_bad hm
  unfold cfieldAddr at hc
  split at hc
  · rename_i fields hu
    split at hc
    · rename_i fd hf
      split at hc
      · rename_i k hk
        cases hb : Nat.beq k 0 <;> rw [hb] at hc
        · simp only [cond_false] at hc
          obtain ⟨c, hcx, rfl⟩ := c1_some hc hbad
          rw [mem_u] at hm
          obtain ⟨hr, rfl⟩ := ov_eq hm
          have r := cx_rel hw ht hcx
          simp only [U1.run] at hr
          revert hr r
          generalize c.ev tm = cv; generalize hcx' : a.eval x = cx
          intro hr r
          cases r <;> simp only [u1Fld, Option.some.injEq, reduceCtorEq] at hr
          rename_i bb oo p hp
          subst hr
          refine .pure hw (x := .pointer (some ⟨p.r, p.d + (oo + fd.offset), none⟩)) ?_ (.ptr hp)
          simp [execOp, ho, hcx', Instr.fieldAt, run_under hu, hf, Instr.sureAddr, fieldPlace, run_size hk, size_ne hb, Nat.add_assoc]
        · exact absurd hc.symm hbad
      · exact absurd hc.symm hbad
    · exact absurd hc.symm hbad
  · exact absurd hc.symm hbad

theorem cpart_some {n : Nat} {t : TypeId} {off : Nat} {x : Operand} (hc : cpart P n t off x = b) (hm : b.mem P tm H = .v v H') :
    ∃ c cs, cx P n x = some c ∧ H' = H ∧ c.ev tm = .agg cs ∧ part P t cs off = some v := by
  have hbad := not_bad hm
  unfold cpart at hc
  split at hc
  · rename_i ha
    split at hc
    · rename_i k hk
      obtain ⟨c, hcx, rfl⟩ := c1_some hc hbad
      rw [mem_u] at hm
      obtain ⟨hr, rfl⟩ := ov_eq hm
      simp only [U1.run] at hr
      revert hr
      generalize hcv : c.ev tm = cv
      intro hr
      cases cv <;> simp only [u1PartN, reduceCtorEq] at hr
      exact ⟨c, _, hcx, rfl, hcv, by unfold part; rw [ha, hk]; exact hr⟩
    · exact absurd hc.symm hbad
  · rename_i ha
    obtain ⟨c, hcx, rfl⟩ := c1_some hc hbad
    rw [mem_u] at hm
    obtain ⟨hr, rfl⟩ := ov_eq hm
    simp only [U1.run] at hr
    revert hr
    generalize hcv : c.ev tm = cv
    intro hr
    cases cv <;> simp only [u1Part1, reduceCtorEq] at hr
    exact ⟨c, _, hcx, rfl, hcv, by unfold part; rw [ha]; exact hr⟩
  · exact absurd hc.symm hbad

theorem op_field (hw : WRel P ρ H w) (ht : TmRel ρ tm a.tmps) {t : TypeId} {x : Operand} {f : Nat} (ho : o.op = .field t x f)
    (hc : cfield P a.tmps.size t x f = b) (hm : b.mem P tm H = .v v H') : OpV P o a ρ H w v H' := by
  have hbad := not_bad hm
  unfold cfield at hc
  split at hc
  · rename_i fields hu
    split at hc
    · rename_i fd hf
      obtain ⟨c, cs, hcx, rfl, hcv, hp⟩ := cpart_some hc hm
      have r := cx_rel hw ht hcx
      rw [hcv] at r
      revert r
      generalize hcx' : a.eval x = cx
      intro r
      cases r with
      | agg hs =>
        obtain ⟨y, hy, hrun⟩ := run_part (P := P) hs hp
        exact .pure hw (by simp [execOp, ho, hcx', Instr.field, run_under hu, hf, asAgg, hrun]) hy
    · exact absurd hc.symm hbad
  · exact absurd hc.symm hbad

theorem below_some {i : Int} {n j : Nat} (h : Eng.Int.below i n = some j) : i = (j : Int) ∧ j < n := by
  cases i with
  | ofNat m =>
    simp only [Eng.Int.below] at h
    cases hb : Nat.blt m n <;> rw [hb] at h <;> simp only [cond_true, cond_false, Option.some.injEq, reduceCtorEq] at h
    subst h
    exact ⟨rfl, blt_iff.1 hb⟩
  | negSucc m => simp [Eng.Int.below] at h

theorem op_indexAddr (hw : WRel P ρ H w) (ht : TmRel ρ tm a.tmps) {t : TypeId} {x i : Operand} (ho : o.op = .indexAddr t x i)
    (hc : cindexAddr P a.tmps.size t x i = b) (hm : b.mem P tm H = .v v H') : OpV P o a ρ H w v H' := by
  have hbad := not_bad hm
  unfold cindexAddr at hc
  split at hc
  · rename_i len elem hu
    split at hc
    · rename_i k hk
      obtain ⟨c, d, h1, h2, rfl⟩ := c2_some hc hbad
      rw [mem_b] at hm
      obtain ⟨hr, rfl⟩ := ov_eq hm
      have r1 := cx_rel hw ht h1
      have r2 := cx_rel hw ht h2
      simp only [U2.run] at hr
      revert hr r1 r2
      generalize c.ev tm = cv; generalize d.ev tm = dv; generalize hcx : a.eval x = cx; generalize hdx : a.eval i = dx
      intro hr r1 r2
      cases r1 <;> try (simp only [u2IdxA, reduceCtorEq] at hr; done)
      rename_i bb oo p hp
      cases r2 <;> simp only [u2IdxA, idxPtr, reduceCtorEq] at hr
      rename_i kk m
      split at hr
      · rename_i j hj
        obtain ⟨rfl, hlt⟩ := below_some hj
        cases hr
        refine .pure hw (x := .pointer (some ⟨p.r, p.d + (oo + j * k), none⟩)) ?_ (.ptr hp)
        simp [execOp, ho, hcx, hdx, Instr.indexAt, asIntOf, run_under hu, Instr.sureAddr, hlt, run_size hk, Nat.add_assoc]
      · cases hr
    · exact absurd hc.symm hbad
  · rename_i elem hu
    split at hc
    · rename_i k hk
      obtain ⟨c, d, h1, h2, rfl⟩ := c2_some hc hbad
      rw [mem_b] at hm
      obtain ⟨hr, rfl⟩ := ov_eq hm
      have r1 := cx_rel hw ht h1
      have r2 := cx_rel hw ht h2
      simp only [U2.run] at hr
      revert hr r1 r2
      generalize c.ev tm = cv; generalize d.ev tm = dv; generalize hcx : a.eval x = cx; generalize hdx : a.eval i = dx
      intro hr r1 r2
      cases r1 <;> try (simp only [u2IdxS, reduceCtorEq] at hr; done)
      rename_i bb oo len cap esz cap' ex p hp hl hcp he hrr
      cases r2 <;> simp only [u2IdxS, idxPtr, reduceCtorEq] at hr
      rename_i kk m
      split at hr
      · rename_i j hj
        obtain ⟨rfl, hlt⟩ := below_some hj
        cases hr
        refine .pure hw (x := .pointer (some ⟨p.r, p.d + (oo + j * k), none⟩)) ?_ (.ptr hp)
        simp [execOp, ho, hcx, hdx, Instr.indexAt, asIntOf, run_under hu, hlt, run_size hk, Nat.add_assoc]
      · cases hr
    · exact absurd hc.symm hbad
  · exact absurd hc.symm hbad

theorem op_index (hw : WRel P ρ H w) (ht : TmRel ρ tm a.tmps) {t : TypeId} {x i : Operand} (ho : o.op = .index t x i)
    (hc : cindex P a.tmps.size t x i = b) (hm : b.mem P tm H = .v v H') : OpV P o a ρ H w v H' := by
  have hbad := not_bad hm
  unfold cindex at hc
  split at hc
  · rename_i len elem hu
    split at hc
    · rename_i k hk
      split at hc
      · rename_i hagg
        obtain ⟨c, d, h1, h2, rfl⟩ := c2_some hc hbad
        rw [mem_b] at hm
        obtain ⟨hr, rfl⟩ := ov_eq hm
        have r1 := cx_rel hw ht h1
        have r2 := cx_rel hw ht h2
        simp only [U2.run] at hr
        revert hr r1 r2
        generalize c.ev tm = cv; generalize d.ev tm = dv; generalize hcx : a.eval x = cx; generalize hdx : a.eval i = dx
        intro hr r1 r2
        cases r1 <;> try (simp only [u2IdxVN, reduceCtorEq] at hr; done)
        rename_i cs xs hs
        cases r2 <;> simp only [u2IdxVN, reduceCtorEq] at hr
        rename_i kk m
        split at hr
        · rename_i j hj
          obtain ⟨rfl, hlt⟩ := below_some hj
          obtain ⟨y, hy, hrun⟩ := run_part (P := P) (t := elem) hs (off := j * k) (v := v) (by unfold part; rw [hagg, hk]; exact hr)
          exact .pure hw (by simp [execOp, ho, hcx, hdx, Instr.index, asIntOf, run_under hu, hlt, run_size hk, hrun]) hy
        · cases hr
      · rename_i hagg
        cases hk1 : Nat.beq k 1 <;> rw [hk1] at hc <;> simp only [cond_true, cond_false] at hc
        · exact absurd hc.symm hbad
        have hk1 := beq_iff.1 hk1
        subst hk1
        obtain ⟨c, d, h1, h2, rfl⟩ := c2_some hc hbad
        rw [mem_b] at hm
        obtain ⟨hr, rfl⟩ := ov_eq hm
        have r1 := cx_rel hw ht h1
        have r2 := cx_rel hw ht h2
        simp only [U2.run] at hr
        revert hr r1 r2
        generalize c.ev tm = cv; generalize d.ev tm = dv; generalize hcx : a.eval x = cx; generalize hdx : a.eval i = dx
        intro hr r1 r2
        cases r1 <;> try (simp only [u2IdxV1, reduceCtorEq] at hr; done)
        rename_i cs xs hs
        cases r2 <;> simp only [u2IdxV1, reduceCtorEq] at hr
        rename_i kk m
        split at hr
        · rename_i j hj
          obtain ⟨rfl, hlt⟩ := below_some hj
          obtain ⟨y, hy, hrun⟩ := run_part (P := P) (t := elem) hs (off := j) (v := v) (by unfold part; rw [hagg]; exact hr)
          exact .pure hw (by simp [execOp, ho, hcx, hdx, Instr.index, asIntOf, run_under hu, hlt, run_size hk, hrun]) hy
        · cases hr
      · exact absurd hc.symm hbad
    · exact absurd hc.symm hbad
  · rename_i hu
    obtain ⟨c, d, h1, h2, rfl⟩ := c2_some hc hbad
    rw [mem_b] at hm
    obtain ⟨hr, rfl⟩ := ov_eq hm
    have r1 := cx_rel hw ht h1
    have r2 := cx_rel hw ht h2
    simp only [U2.run] at hr
    revert hr r1 r2
    generalize c.ev tm = cv; generalize d.ev tm = dv; generalize hcx : a.eval x = cx; generalize hdx : a.eval i = dx
    intro hr r1 r2
    cases r1 <;> try (simp only [u2IdxStr, reduceCtorEq] at hr; done)
    rename_i s
    cases r2 <;> try (simp only [u2IdxStr, reduceCtorEq] at hr; done)
    rename_i kk m
    cases m with
    | negSucc m => simp [u2IdxStr] at hr
    | ofNat m =>
      simp only [u2IdxStr, getAt_eq] at hr
      split at hr
      · rename_i c hcs
        cases hr
        refine .pure hw (x := .int .u8 c.toNat) ?_ (.int _ _)
        have e : (ByteArray.mk ⟨s⟩)[m]? = some c := by
          obtain ⟨hlt, he⟩ := List.getElem?_eq_some_iff.1 hcs
          have hlt' : m < (ByteArray.mk ⟨s⟩).size := hlt
          rw [getElem?_pos _ m hlt']
          exact congrArg some he
        simp [execOp, ho, hcx, hdx, Instr.index, asIntOf, run_under hu, e]
      · cases hr
  · exact absurd hc.symm hbad

theorem op_iface (hw : WRel P ρ H w) (ht : TmRel ρ tm a.tmps) {t : TypeId} {x : Operand} (ho : o.op = .makeInterface t x)
    (hc : (match P.underlying t with
      | some (.interface _) => BOp.bad
      | some _ => c1 P a.tmps.size (.u (.iface t)) x
      | none => .bad) = b) (hm : b.mem P tm H = .v v H') : OpV P o a ρ H w v H' := by
  have hbad := not_bad hm
  split at hc
  · exact absurd hc.symm hbad
  · rename_i d hni hu
    obtain ⟨c, hcx, rfl⟩ := c1_some hc hbad
    rw [mem_u] at hm
    obtain ⟨hr, rfl⟩ := ov_eq hm
    simp only [U1.run, Option.some.injEq] at hr
    subst hr
    refine .pure hw ?_ (.iface t (cx_rel hw ht hcx))
    simp only [execOp, ho, Instr.makeInterface, Sem.run_bind, run_under hu, Result.andThen_ok]
    cases d <;> first | (exact absurd rfl (hni _)) | simp
  · exact absurd hc.symm hbad

theorem mem_mkFunc {fn : Fn} {f c : List BX} : BOp.mem P (.mkFunc fn f c) tm H = .v (.func fn (evs f tm) (evs c tm)) H := rfl

theorem op_makeFunc (hw : WRel P ρ H w) (ht : TmRel ρ tm a.tmps) {fn : Fn} {first captured : Array Operand} (ho : o.op = .makeFunc fn first captured)
    (hc : cmakeFunc P a.tmps.size fn first.toList captured.toList = b) (hm : b.mem P tm H = .v v H') : OpV P o a ρ H w v H' := by
  have hbad := not_bad hm
  unfold cmakeFunc at hc
  split at hc
  · exact absurd hc.symm hbad
  · split at hc
    · rename_i f hf
      split at hc
      · rename_i c hcc
        subst hc
        rw [mem_mkFunc] at hm
        cases hm
        exact .pure hw (x := .func fn ⟨(first.map a.eval).toList⟩ ⟨(captured.map a.eval).toList⟩) (by show (execOp a.eval o).run P w = .ok (.value (.func fn (first.map a.eval) (captured.map a.eval))) w; simp [execOp, ho, Instr.makeFunc]) (.func fn (cxs_rel' hw ht hf) (cxs_rel' hw ht hcc))
      · exact absurd hc.symm hbad
    · exact absurd hc.symm hbad

theorem op_extract (hw : WRel P ρ H w) (ht : TmRel ρ tm a.tmps) {x : Operand} {i : Nat} (ho : o.op = .extract x i)
    (hc : c1 P a.tmps.size (.u (.ext i)) x = b) (hm : b.mem P tm H = .v v H') : OpV P o a ρ H w v H' := by
  obtain ⟨c, hb, rfl⟩ := c1_some hc (not_bad hm)
  rw [mem_u] at hm
  obtain ⟨hr, rfl⟩ := ov_eq hm
  have r := cx_rel hw ht hb
  simp only [U1.run] at hr
  revert hr r
  generalize c.ev tm = cv; generalize hcx : a.eval x = cx
  intro hr r
  cases r <;> simp only [u1Ext, reduceCtorEq] at hr
  rename_i cs xs hs
  rw [getAt_eq] at hr
  obtain ⟨y, hy, hv⟩ := hs.get _ _ hr
  exact .pure hw (by simp [execOp, ho, hcx, Instr.extract, hy]) hv

theorem holds_rel {ok : Bool} {u : AVal} {x : Value} (h : holds ok u = some v) (hu : VRel ρ u x) : VRel ρ v (if ok then .tuple #[x, .bool true] else x) := by
  cases ok <;> simp [holds] at h <;> subst h
  · exact hu
  · exact .tuple (.cons hu (.cons (.bool _) .nil))

theorem fails_rel {ok : Bool} {z : AVal} {x : Value} (h : fails ok z = some v) (hu : VRel ρ z x) : ok = true ∧ VRel ρ v (.tuple #[x, .bool false]) := by
  cases ok <;> simp [fails] at h
  subst h
  exact ⟨rfl, .tuple (.cons hu (.cons (.bool _) .nil))⟩

theorem op_assert (hw : WRel P ρ H w) (ht : TmRel ρ tm a.tmps) {x : Operand} {xt t : TypeId} {ok : Bool} (ho : o.op = .typeAssert x xt t ok)
    (hc : cassert P a.tmps.size x t ok = b) (hm : b.mem P tm H = .v v H') : OpV P o a ρ H w v H' := by
  have hbad := not_bad hm
  unfold cassert at hc
  split at hc
  · rename_i z hz
    obtain ⟨zx, hzr, hzrun⟩ := run_zero (P := P) (ρ := ρ) hz
    split at hc
    · rename_i want hu
      obtain ⟨c, hb, rfl⟩ := c1_some hc hbad
      rw [mem_u] at hm
      obtain ⟨hr, rfl⟩ := ov_eq hm
      have r := cx_rel hw ht hb
      simp only [U1.run] at hr
      revert hr r
      generalize c.ev tm = cv; generalize hcx : a.eval x = cx
      intro hr r
      cases r <;> simp only [u1AsrtI, reduceCtorEq] at hr
      case iface ty u y hy =>
        cases hi : P.info? ty with
        | none => rw [hi] at hr; cases hr
        | some i =>
          rw [hi] at hr
          dsimp only at hr
          cases hmiss : Instr.missingMethod want i.methods with
          | none =>
            rw [hmiss] at hr
            exact .pure hw (by simp [execOp, ho, hcx, Instr.typeAssert, run_under hu, typeInfo, hi, hmiss]) (holds_rel hr (.iface ty hy))
          | some m =>
            rw [hmiss] at hr
            obtain ⟨rfl, hv⟩ := fails_rel hr hzr
            exact .pure hw (by simp [execOp, ho, hcx, Instr.typeAssert, run_under hu, typeInfo, hi, hmiss, hzrun]) hv
      case nilIface =>
        obtain ⟨rfl, hv⟩ := fails_rel hr hzr
        exact .pure hw (by simp [execOp, ho, hcx, Instr.typeAssert, run_under hu, hzrun]) hv
    · rename_i d hni hu
      have hni' : ∀ ms, d ≠ .interface ms := fun ms e => hni ms e
      obtain ⟨c, hb, rfl⟩ := c1_some hc hbad
      rw [mem_u] at hm
      obtain ⟨hr, rfl⟩ := ov_eq hm
      have r := cx_rel hw ht hb
      simp only [U1.run] at hr
      revert hr r
      generalize c.ev tm = cv; generalize hcx : a.eval x = cx
      intro hr r
      cases r <;> simp only [u1Asrt, reduceCtorEq] at hr
      case iface ty u y hy =>
        cases hb : Nat.beq ty t <;> rw [hb] at hr <;> simp only [cond_true, cond_false] at hr
        · obtain ⟨rfl, hv⟩ := fails_rel hr hzr
          have hne : ty ≠ t := fun e => by rw [beq_iff.2 e] at hb; cases hb
          refine .pure hw ?_ hv
          simp only [execOp, ho, hcx, Instr.typeAssert, Sem.run_bind, run_under hu, Result.andThen_ok]
          cases d <;> first | (exact absurd rfl (hni' _)) | simp [hne, hzrun]
        · have heq := beq_iff.1 hb
          subst heq
          refine .pure hw ?_ (holds_rel hr hy)
          simp only [execOp, ho, hcx, Instr.typeAssert, Sem.run_bind, run_under hu, Result.andThen_ok]
          cases d <;> first | (exact absurd rfl (hni' _)) | simp
      case nilIface =>
        obtain ⟨rfl, hv⟩ := fails_rel hr hzr
        refine .pure hw ?_ hv
        simp only [execOp, ho, hcx, Instr.typeAssert, Sem.run_bind, run_under hu, Result.andThen_ok]
        cases d <;> first | (exact absurd rfl (hni' _)) | simp [hzrun]
    · exact absurd hc.symm hbad
  · exact absurd hc.symm hbad

end
end Go.Eng

namespace Go.Eng
set_option linter.unusedSimpArgs false

/-! ### Cells put into cells -/

theorem splice_cons {α : Type} (l : List α) (i : Nat) (x : α) (xs : List α) (h : i < l.length) : splice (l.set i x) (i + 1) xs = splice l i (x :: xs) := by
  unfold splice
  rw [List.drop_set_of_lt (by omega)]
  have e1 : (l.set i x).take (i + 1) = l.take i ++ [x] := by
    rw [List.take_succ_eq_append_getElem (by simpa using h)]
    simp [List.take_set_of_le]
  rw [e1]
  simp [Nat.add_assoc, Nat.add_comm 1]

theorem foldl_splice (off : Nat) : ∀ (l : List Value) (k : Nat) (cells : Array Value), off + k + l.length ≤ cells.size →
    ((l.zipIdx k).foldl (fun cs (p : Value × Nat) => cs.setIfInBounds (off + p.2) p.1) cells).toList = splice cells.toList (off + k) l
  | [], k, cells, _ => by simp [splice]
  | x :: xs, k, cells, h => by
    simp only [List.length_cons] at h
    rw [List.zipIdx_cons, List.foldl_cons, foldl_splice off xs (k + 1) _ (by simp; omega)]
    simp only [Array.toList_setIfInBounds]
    rw [← Nat.add_assoc, splice_cons _ _ _ _ (by simp; omega)]

theorem foldl_cells (off : Nat) (v cells : Array Value) (h : off + v.size ≤ cells.size) :
    (v.zipIdx.foldl (fun cs (p : Value × Nat) => cs.setIfInBounds (off + p.2) p.1) cells).toList = splice cells.toList off v.toList := by
  have := foldl_splice off v.toList 0 cells (by simpa using h)
  rw [← Array.foldl_toList, Array.toList_zipIdx]
  simpa using this

theorem splice_length {α : Type} (l : List α) (i : Nat) (new : List α) (h : i + new.length ≤ l.length) : (splice l i new).length = l.length := by
  unfold splice
  simp
  omega

section
variable {P : Program} {o : Oper} {a : Act} {ρ : Emb} {H H' : AHeap} {w w' : World} {v : AVal} {tm : Tm} {b : BOp}

theorem run_fill (hw : WRel P ρ H w) (ht : TmRel ρ tm a.tmps) {place place' : Nat → Option (Nat × Nat)} (hpl : ∀ i, place i = place' i) :
    ∀ {parts : List (Nat × Operand)} {ps : List (Nat × Nat × BX)} {cells cells' : List AVal} {xs : Array Value}, cplaces P a.tmps.size parts place = some ps →
      VRels ρ cells xs.toList → fillA cells ps tm = some cells' → ∃ ys : Array Value, Instr.fill place' xs (parts.map fun (i, x) => (i, a.eval x)) = some ys ∧ VRels ρ cells' ys.toList
  | [], ps, cells, cells', xs, hc, hr, hf => by
    simp only [cplaces, Option.some.injEq] at hc
    subst hc
    simp only [fillA, Option.some.injEq] at hf
    subst hf
    exact ⟨xs, rfl, hr⟩
  | (i, x) :: parts, ps, cells, cells', xs, hc, hr, hf => by
    simp only [cplaces] at hc
    split at hc
    · rename_i off size hp
      split at hc
      · rename_i c hcx
        split at hc
        · rename_i r hcr
          simp only [Option.some.injEq] at hc
          subst hc
          simp only [fillA] at hf
          cases hb : (Nat.beq (c.ev tm).cells.length size && Nat.ble (off + size) cells.length) <;> rw [hb] at hf
          · cases hf
          · simp only [cond_true] at hf
            simp only [Bool.and_eq_true, beq_iff, ble_iff] at hb
            have hv := (cx_rel hw ht hcx).cells
            have hl := hv.length
            have hlc := hr.length
            simp only [Array.length_toList] at hl hlc
            have hsz : (a.eval x).cells.size = size := by omega
            obtain ⟨ys, hy, hyr⟩ := run_fill hw ht hpl (xs := (a.eval x).cells.zipIdx.foldl (fun cs (p : Value × Nat) => cs.setIfInBounds (off + p.2) p.1) xs) hcr
              (by rw [foldl_cells _ _ _ (by omega)]; have := hr.splice hv off; rw [hv.length] at this; exact this) hf
            refine ⟨ys, ?_, hyr⟩
            simp only [List.map_cons, Instr.fill, ← hpl, hp]
            rw [if_neg (by rw [hsz]; simp; omega)]
            exact hy
        · cases hc
      · cases hc
    · cases hc

theorem run_fieldPlaces : ∀ {fs : List Field} {pl : List (Nat × Nat)}, fieldPlaces P fs = some pl →
    ∀ w, (fs.mapM fun (f : Field) => (do pure (f.offset, ← Go.sizeOf f.type) : Sem (Nat × Nat))).run P w = .ok pl w
  | [], pl, h, w => by simp only [fieldPlaces, Option.some.injEq] at h; subst h; rfl
  | f :: fs, pl, h, w => by
    simp only [fieldPlaces] at h
    split at h
    · rename_i k hk
      split at h
      · rename_i r hr
        simp only [Option.some.injEq] at h
        subst h
        simp only [List.mapM_cons, Sem.run_bind, run_size hk, Result.andThen_ok, Sem.run_pure, run_fieldPlaces hr]
      · cases h
    · cases h

theorem mem_build {z : List AVal} {ps : List (Nat × Nat × BX)} : BOp.mem P (.build z ps) tm H = ov ((fillA z ps tm).map .agg) H := rfl

theorem op_build (hw : WRel P ρ H w) (ht : TmRel ρ tm a.tmps) {t : TypeId} {parts : Array (Nat × Operand)} (ho : o.op = .build t parts)
    (hc : cbuild P a.tmps.size t parts.toList = b) (hm : b.mem P tm H = .v v H') : OpV P o a ρ H w v H' := by
  have hbad := not_bad hm
  unfold cbuild at hc
  split at hc
  · rename_i z hz
    obtain ⟨zx, hzr, hzrun⟩ := run_zero (P := P) (ρ := ρ) hz
    split at hc
    · rename_i fields hu
      split at hc
      · rename_i pl hpl
        split at hc
        · rename_i ps hps
          subst hc
          rw [mem_build] at hm
          obtain ⟨hr, rfl⟩ := ov_eq hm
          simp only [Option.map_eq_some_iff] at hr
          obtain ⟨cells', hf, rfl⟩ := hr
          obtain ⟨ys, hy, hyr⟩ := run_fill hw ht (place' := fun i => (⟨pl⟩ : Array (Nat × Nat))[i]?) (fun i => by rw [getAt_eq]; simp) hps hzr.cells hf
          have h1 := run_fieldPlaces hpl w
          have h2 : (fields.mapM fun (f : Field) => (do pure (f.offset, ← Go.sizeOf f.type) : Sem (Nat × Nat))).run P w = .ok ⟨pl⟩ w := by
            rw [Array.mapM_eq_mapM_toList, Sem.run_map, h1]
            rfl
          refine .pure hw (x := .agg ys) ?_ (.agg hyr)
          simp only [execOp, ho, Instr.build, Sem.run_bind, hzrun, Result.andThen_ok, run_under hu, h2, Array.toList_map, hy, Sem.run_pure]
        · exact absurd hc.symm hbad
      · exact absurd hc.symm hbad
    · rename_i len elem hu
      split at hc
      · rename_i k hk
        split at hc
        · rename_i ps hps
          subst hc
          rw [mem_build] at hm
          obtain ⟨hr, rfl⟩ := ov_eq hm
          simp only [Option.map_eq_some_iff] at hr
          obtain ⟨cells', hf, rfl⟩ := hr
          obtain ⟨ys, hy, hyr⟩ := run_fill hw ht (place' := fun i => some (i * k, k)) (fun i => rfl) hps hzr.cells hf
          refine .pure hw (x := .agg ys) ?_ (.agg hyr)
          simp only [execOp, ho, Instr.build, Sem.run_bind, hzrun, Result.andThen_ok, run_under hu, run_size hk, Array.toList_map, hy, Sem.run_pure]
        · exact absurd hc.symm hbad
      · exact absurd hc.symm hbad
    · exact absurd hc.symm hbad
  · exact absurd hc.symm hbad

end
end Go.Eng

namespace Go.Eng
set_option linter.unusedSimpArgs false

section
variable {P : Program} {o : Oper} {a : Act} {ρ : Emb} {H H' : AHeap} {w w' : World} {v : AVal} {tm : Tm} {b : BOp}

theorem arr1 {α : Type} {xs : Array α} {x : α} (h : xs.toList = [x]) : xs = #[x] := Array.ext' h
theorem arr2 {α : Type} {xs : Array α} {x y : α} (h : xs.toList = [x, y]) : xs = #[x, y] := Array.ext' h
theorem arr_head {α : Type} {xs : Array α} {x : α} {r : List α} (h : xs.toList = x :: r) : xs[0]? = some x := by
  rw [← Array.getElem?_toList, h]; rfl

/-- A call of a builtin. -/
theorem exec_builtin {c : Call} {bi : Builtin} (ho : o.op = .call c) (hb : c.callee = .builtin bi) :
    ∃ cs, (execOp a.eval o).run P w = (builtin bi c.argTypes o.type cs (c.args.map a.eval)).run P w := by
  refine ⟨c.args.map fun | .const _ => true | _ => false, ?_⟩
  simp [execOp, ho, resolve, hb, invoke]
  rfl

theorem sliceData_none (ts : Array TypeId) (t : TypeId) (n c : Nat) : Builtin.unsafeSliceData_ ts t #[.slice none n c] = pure (.pointer none) := rfl
theorem sliceData_some (ts : Array TypeId) (t : TypeId) (d : Addr) (n c : Nat) (h : c ≠ 0) : Builtin.unsafeSliceData_ ts t #[.slice (some d) n c] = pure (.pointer (some d)) := by
  show (if c ≠ 0 then _ else _) = _
  rw [if_pos h]

theorem op_len (hw : WRel P ρ H w) (ht : TmRel ρ tm a.tmps) {c : Call} {x : Operand} {t : TypeId} {ts : List TypeId} (ho : o.op = .call c) (hb : c.callee = .builtin .len)
    (ha : c.args.toList = [x]) (hty : c.argTypes.toList = t :: ts) (hc : clen P a.tmps.size t x = b) (hnm : ∀ y, b ≠ .lenMap y) (hm : b.mem P tm H = .v v H') : OpV P o a ρ H w v H' := by
  have hbad := not_bad hm
  have ha' := arr1 ha
  have ht' := arr_head hty
  unfold clen at hc
  split at hc
  · rename_i hu
    obtain ⟨d, hcx, rfl⟩ := c1_some hc hbad
    rw [mem_u] at hm
    obtain ⟨hr, rfl⟩ := ov_eq hm
    have r := cx_rel hw ht hcx
    simp only [U1.run] at hr
    revert hr r
    generalize d.ev tm = cv; generalize hcx' : a.eval x = cx
    intro hr r
    cases r <;> simp only [u1LenStr, Option.some.injEq, reduceCtorEq] at hr
    subst hr
    refine .pure hw ?_ (.int _ _)
    obtain ⟨cs', hx'⟩ := exec_builtin (P := P) (a := a) (w := w) ho hb
    rw [hx']
    simp [builtin, Builtin.len_, ha', ht', hcx', run_under hu, goInt]
    rfl
  · rename_i e hu
    obtain ⟨d, hcx, rfl⟩ := c1_some hc hbad
    rw [mem_u] at hm
    obtain ⟨hr, rfl⟩ := ov_eq hm
    have r := cx_rel hw ht hcx
    simp only [U1.run] at hr
    revert hr r
    generalize d.ev tm = cv; generalize hcx' : a.eval x = cx
    intro hr r
    cases r <;> simp only [u1LenSl, Option.some.injEq, reduceCtorEq] at hr <;> subst hr <;>
    (refine .pure hw ?_ (.int _ _)
     obtain ⟨cs', hx'⟩ := exec_builtin (P := P) (a := a) (w := w) ho hb
     rw [hx']
     simp [builtin, Builtin.len_, ha', ht', hcx', run_under hu, goInt])
  · rename_i k e hu
    obtain ⟨d, hcx, rfl⟩ := c1_some hc hbad
    rw [mem_u] at hm
    obtain ⟨hr, rfl⟩ := ov_eq hm
    simp only [U1.run, Option.some.injEq] at hr
    subst hr
    refine .pure hw ?_ (.int _ _)
    obtain ⟨cs', hx'⟩ := exec_builtin (P := P) (a := a) (w := w) ho hb
    rw [hx']
    simp [builtin, Builtin.len_, ha', ht', run_under hu, goInt]
  · obtain ⟨d, hcx, rfl⟩ := c1_some hc hbad
    exact absurd rfl (hnm d)
  · rename_i arr hu
    split at hc
    · rename_i k e hu'
      obtain ⟨d, hcx, rfl⟩ := c1_some hc hbad
      rw [mem_u] at hm
      obtain ⟨hr, rfl⟩ := ov_eq hm
      simp only [U1.run, Option.some.injEq] at hr
      subst hr
      refine .pure hw ?_ (.int _ _)
      obtain ⟨cs', hx'⟩ := exec_builtin (P := P) (a := a) (w := w) ho hb
      rw [hx']
      simp [builtin, Builtin.len_, ha', ht', run_under hu, run_under hu', goInt]
    · exact absurd hc.symm hbad
  · exact absurd hc.symm hbad

theorem op_cap (hw : WRel P ρ H w) (ht : TmRel ρ tm a.tmps) {c : Call} {x : Operand} {t : TypeId} {ts : List TypeId} (ho : o.op = .call c) (hb : c.callee = .builtin .cap)
    (ha : c.args.toList = [x]) (hty : c.argTypes.toList = t :: ts) (hc : (match P.underlying t with
      | some (.slice _) => c1 P a.tmps.size (.u .capSl) x
      | _ => .bad) = b) (hm : b.mem P tm H = .v v H') : OpV P o a ρ H w v H' := by
  have hbad := not_bad hm
  have ha' := arr1 ha
  have ht' := arr_head hty
  split at hc
  · rename_i e hu
    obtain ⟨d, hcx, rfl⟩ := c1_some hc hbad
    rw [mem_u] at hm
    obtain ⟨hr, rfl⟩ := ov_eq hm
    have r := cx_rel hw ht hcx
    simp only [U1.run] at hr
    revert hr r
    generalize d.ev tm = cv; generalize hcx' : a.eval x = cx
    intro hr r
    cases r <;> try (simp only [u1CapSl, reduceCtorEq] at hr; done)
    case slice bb oo len cap esz cap' ex p hp hl hcp he hrr =>
      cases ex <;> simp only [u1CapSl, Option.some.injEq, reduceCtorEq] at hr
      subst hr
      have := he rfl
      subst this
      refine .pure hw ?_ (.int _ _)
      obtain ⟨cs', hx'⟩ := exec_builtin (P := P) (a := a) (w := w) ho hb
      rw [hx']
      simp [builtin, Builtin.cap_, ha', ht', hcx', run_under hu, goInt]
    case nilSlice =>
      simp only [u1CapSl, Option.some.injEq] at hr
      subst hr
      refine .pure hw ?_ (.int _ _)
      obtain ⟨cs', hx'⟩ := exec_builtin (P := P) (a := a) (w := w) ho hb
      rw [hx']
      simp [builtin, Builtin.cap_, ha', ht', hcx', run_under hu, goInt]
  · exact absurd hc.symm hbad

theorem op_sdata (hw : WRel P ρ H w) (ht : TmRel ρ tm a.tmps) {c : Call} {x : Operand} (ho : o.op = .call c) (hb : c.callee = .builtin .unsafeSliceData)
    (ha : c.args.toList = [x]) (hc : c1 P a.tmps.size (.u .sdata) x = b) (hm : b.mem P tm H = .v v H') : OpV P o a ρ H w v H' := by
  have hbad := not_bad hm
  have ha' := arr1 ha
  obtain ⟨d, hcx, rfl⟩ := c1_some hc hbad
  rw [mem_u] at hm
  obtain ⟨hr, rfl⟩ := ov_eq hm
  have r := cx_rel hw ht hcx
  simp only [U1.run] at hr
  revert hr r
  generalize d.ev tm = cv; generalize hcx' : a.eval x = cx
  intro hr r
  cases r <;> try (simp only [u1Sdata, reduceCtorEq] at hr; done)
  case slice bb oo len cap esz cap' ex p hp hl hcp he hrr =>
    simp only [u1Sdata] at hr
    cases hz : Nat.beq cap 0 <;> rw [hz] at hr <;> simp only [cond_true, cond_false, Option.some.injEq, reduceCtorEq] at hr
    subst hr
    have := size_ne hz
    refine .pure hw ?_ (.ptr hp)
    obtain ⟨cs', hx'⟩ := exec_builtin (P := P) (a := a) (w := w) ho hb
    rw [hx']
    have hne : cap' ≠ 0 := by omega
    simp [builtin, ha', hcx', sliceData_some _ _ _ _ _ hne]
  case nilSlice =>
    simp only [u1Sdata, Option.some.injEq] at hr
    subst hr
    refine .pure hw ?_ .nilPtr
    obtain ⟨cs', hx'⟩ := exec_builtin (P := P) (a := a) (w := w) ho hb
    rw [hx']
    simp [builtin, ha', hcx', sliceData_none]

theorem Int.ltB_bif (a c : Int) (x y : Int) : (bif Eng.Int.ltB a c then x else y) = if a < c then x else y := by
  have := Int.ltB_eq a c
  rw [this]
  by_cases h : a < c <;> simp [h]

theorem run_max : ∀ {xs : List AVal} {ys : List Value} {k : IntKind} {n : Int}, VRels ρ xs ys → foldMM true (.int k n) xs = some v →
    ∃ x, (ys.foldlM Builtin.max2 (.int k n)).run P w = .ok x w ∧ VRel ρ v x
  | [], ys, k, n, r, h => by
    cases r
    simp only [foldMM, Option.some.injEq] at h
    subst h
    exact ⟨_, rfl, .int _ _⟩
  | u :: us, ys, k, n, r, h => by
    cases r with
    | cons h1 h2 =>
      cases h1 <;> simp only [foldMM, reduceCtorEq] at h
      obtain ⟨x, hx, hv⟩ := run_max h2 h
      refine ⟨x, ?_, hv⟩
      simp only [cond_true, Int.ltB_bif] at hx
      simpa [List.foldlM_cons, Builtin.max2] using hx

theorem run_min : ∀ {xs : List AVal} {ys : List Value} {k : IntKind} {n : Int}, VRels ρ xs ys → foldMM false (.int k n) xs = some v →
    ∃ x, (ys.foldlM Builtin.min2 (.int k n)).run P w = .ok x w ∧ VRel ρ v x
  | [], ys, k, n, r, h => by
    cases r
    simp only [foldMM, Option.some.injEq] at h
    subst h
    exact ⟨_, rfl, .int _ _⟩
  | u :: us, ys, k, n, r, h => by
    cases r with
    | cons h1 h2 =>
      cases h1 <;> simp only [foldMM, reduceCtorEq] at h
      obtain ⟨x, hx, hv⟩ := run_min h2 h
      refine ⟨x, ?_, hv⟩
      simp only [cond_false, Int.ltB_bif] at hx
      simpa [List.foldlM_cons, Builtin.min2] using hx

theorem mem_minmax {big : Bool} {x : BX} {xs : List BX} : BOp.mem P (.minmax big x xs) tm H = ov (minmaxA big (evs xs tm) (x.ev tm)) H := rfl

theorem op_max (hw : WRel P ρ H w) (ht : TmRel ρ tm a.tmps) {c : Call} {x : Operand} {xs : List Operand} (ho : o.op = .call c) (hb : c.callee = .builtin .max)
    (ha : c.args.toList = x :: xs) (hc : (match cx P a.tmps.size x with
      | some a' => match cxs P a.tmps.size xs with
        | some as => BOp.minmax true a' as
        | none => .bad
      | none => .bad) = b) (hm : b.mem P tm H = .v v H') : OpV P o a ρ H w v H' := by
  have hbad := not_bad hm
  split at hc
  · rename_i d hd
    split at hc
    · rename_i ds hds
      subst hc
      rw [mem_minmax] at hm
      obtain ⟨hr, rfl⟩ := ov_eq hm
      have r := cx_rel hw ht hd
      have rs := cxs_rel hw ht hds
      revert hr r
      generalize d.ev tm = cv; generalize hcx' : a.eval x = cx
      intro hr r
      cases r <;> simp only [minmaxA, reduceCtorEq] at hr
      obtain ⟨y, hy, hv⟩ := run_max (P := P) (w := w) rs hr
      refine .pure hw ?_ hv
      obtain ⟨cs', hx'⟩ := exec_builtin (P := P) (a := a) (w := w) ho hb
      rw [hx']
      simp only [builtin, Builtin.max_, Array.toList_map, ha, List.map_cons, hcx', Sem.run_bind, hy, Result.andThen_ok, Sem.run_pure]
    · exact absurd hc.symm hbad
  · exact absurd hc.symm hbad

theorem op_min (hw : WRel P ρ H w) (ht : TmRel ρ tm a.tmps) {c : Call} {x : Operand} {xs : List Operand} (ho : o.op = .call c) (hb : c.callee = .builtin .min)
    (ha : c.args.toList = x :: xs) (hc : (match cx P a.tmps.size x with
      | some a' => match cxs P a.tmps.size xs with
        | some as => BOp.minmax false a' as
        | none => .bad
      | none => .bad) = b) (hm : b.mem P tm H = .v v H') : OpV P o a ρ H w v H' := by
  have hbad := not_bad hm
  split at hc
  · rename_i d hd
    split at hc
    · rename_i ds hds
      subst hc
      rw [mem_minmax] at hm
      obtain ⟨hr, rfl⟩ := ov_eq hm
      have r := cx_rel hw ht hd
      have rs := cxs_rel hw ht hds
      revert hr r
      generalize d.ev tm = cv; generalize hcx' : a.eval x = cx
      intro hr r
      cases r <;> simp only [minmaxA, reduceCtorEq] at hr
      obtain ⟨y, hy, hv⟩ := run_min (P := P) (w := w) rs hr
      refine .pure hw ?_ hv
      obtain ⟨cs', hx'⟩ := exec_builtin (P := P) (a := a) (w := w) ho hb
      rw [hx']
      simp only [builtin, Builtin.min_, Array.toList_map, ha, List.map_cons, hcx', Sem.run_bind, hy, Result.andThen_ok, Sem.run_pure]
    · exact absurd hc.symm hbad
  · exact absurd hc.symm hbad

theorem op_cvt (hw : WRel P ρ H w) (ht : TmRel ρ tm a.tmps) {src dst : TypeId} {x : Operand} {k k' : IntKind} (ho : o.op = .convert src dst x)
    (hd : P.underlying dst = some (.int k)) (hs : P.underlying src = some (.int k')) (hc : c1 P a.tmps.size (.u (.cvt k)) x = b) (hm : b.mem P tm H = .v v H') : OpV P o a ρ H w v H' := by
  obtain ⟨d, hcx, rfl⟩ := c1_some hc (not_bad hm)
  rw [mem_u] at hm
  obtain ⟨hr, rfl⟩ := ov_eq hm
  have r := cx_rel hw ht hcx
  simp only [U1.run] at hr
  revert hr r
  generalize d.ev tm = cv; generalize hcx' : a.eval x = cx
  intro hr r
  cases r <;> simp only [u1Cvt, Option.some.injEq, reduceCtorEq] at hr
  subst hr
  exact .pure hw (by simp [execOp, ho, hcx', convert, run_under hd, run_under hs, Conv.intToInt]) (.int _ _)

theorem op_asStr (hw : WRel P ρ H w) (ht : TmRel ρ tm a.tmps) {src dst : TypeId} {x : Operand} (ho : o.op = .convert src dst x)
    (hd : P.underlying dst = some .string) (hs : P.underlying src = some .string) (hc : c1 P a.tmps.size (.u .asStr) x = b) (hm : b.mem P tm H = .v v H') : OpV P o a ρ H w v H' := by
  obtain ⟨d, hcx, rfl⟩ := c1_some hc (not_bad hm)
  rw [mem_u] at hm
  obtain ⟨hr, rfl⟩ := ov_eq hm
  have r := cx_rel hw ht hcx
  simp only [U1.run] at hr
  revert hr r
  generalize d.ev tm = cv; generalize hcx' : a.eval x = cx
  intro hr r
  cases r <;> simp only [u1Str, Option.some.injEq, reduceCtorEq] at hr
  subst hr
  exact .pure hw (by simp [execOp, ho, hcx', convert, run_under hd, run_under hs]) (.str _)

end
end Go.Eng

namespace Go.Eng
set_option linter.unusedSimpArgs false

section
variable {P : Program} {o : Oper} {a : Act} {ρ : Emb} {H H' : AHeap} {w w' : World} {v : AVal} {tm : Tm} {b : BOp}

/-! ### Reading -/

theorem WRel.cells (hw : WRel P ρ H w) {c : Nat} {cs : List AVal} {e : TypeId} {wr : Wr} {p : Place} (hg : H.get c = some (.cells cs e wr)) (hp : ρ c = some p) :
    ∃ arr lo hi, w.heap[p.r]? = some (.cells arr e (lo, hi)) ∧ p.d = 0 ∧ (∀ (i : Nat) (v : AVal), cs[i]? = some v → ∃ x, arr[i]? = some x ∧ VRel ρ v x) ∧
      (wr = .rw → cs.length ≤ p.room ∧ p.room ≤ arr.size ∧ ∀ i, i < p.room → ¬ (lo ≤ i ∧ i < hi)) := by
  obtain ⟨obj, ho, hr⟩ := hw.blk hg hp
  cases hr with
  | cells hd h1 h2 =>
    refine ⟨_, _, _, ho, hd, ?_, ?_⟩
    · intro i v hv
      have := h1 i v hv
      rwa [hd, Nat.zero_add] at this
    · intro hwr
      have := h2 hwr
      simp only [hd, Nat.zero_add] at this
      exact this

theorem cell_of (hw : WRel P ρ H w) {c oo : Nat} {cs : List AVal} {e : TypeId} {wr : Wr} {p : Place} (hg : H.get c = some (.cells cs e wr)) (hp : ρ c = some p)
    {u : AVal} (hu : cs[oo]? = some u) : ∃ x, w.cell? ⟨p.r, p.d + oo, none⟩ = some x ∧ VRel ρ u x := by
  obtain ⟨arr, lo, hi, h1, h2, h3, h4⟩ := hw.cells hg hp
  obtain ⟨x, hx, hr⟩ := h3 _ _ hu
  exact ⟨x, by simp [World.cell?, h1, h2, hx], hr⟩

theorem cells_of (hw : WRel P ρ H w) {c oo n : Nat} {cs r : List AVal} {e : TypeId} {wr : Wr} {p : Place} (hg : H.get c = some (.cells cs e wr)) (hp : ρ c = some p)
    (hs : sub? cs oo n = some r) : ∃ xs : List Value, xs.length = n ∧ VRels ρ r xs ∧ ∀ j x, xs[j]? = some x → w.cell? ⟨p.r, p.d + oo + j, none⟩ = some x := by
  obtain ⟨arr, lo, hi, h1, h2, h3, h4⟩ := hw.cells hg hp
  obtain ⟨hr, hl⟩ := sub?_eq hs
  have hget : ∀ j u, r[j]? = some u → ∃ x, arr[oo + j]? = some x ∧ VRel ρ u x := by
    intro j u hu
    rw [hr, List.getElem?_take] at hu
    split at hu
    · rw [List.getElem?_drop] at hu
      exact h3 _ _ hu
    · cases hu
  refine ⟨(arr.toList.drop oo).take n, ?_, ?_, ?_⟩
  · by_cases hn : n = 0
    · simp [hn]
    · have hlast : n - 1 < r.length := by omega
      obtain ⟨x, hx, _⟩ := hget (n - 1) _ (List.getElem?_eq_getElem hlast)
      have := (Array.getElem?_eq_some_iff.1 hx).1
      simp
      omega
  · have : ∀ (r : List AVal) (k : Nat), (∀ j u, r[j]? = some u → ∃ x, arr[k + j]? = some x ∧ VRel ρ u x) → VRels ρ r ((arr.toList.drop k).take r.length) := by
      intro r
      induction r with
      | nil => intro k _; simpa using VRels.nil
      | cons u us ih =>
        intro k hk
        obtain ⟨x, hx, hrel⟩ := hk 0 u (by simp)
        have hlt := (Array.getElem?_eq_some_iff.1 hx).1
        simp only [Nat.add_zero] at hlt hx
        rw [List.drop_eq_getElem_cons (by simpa using hlt)]
        simp only [List.length_cons, List.take_succ_cons]
        have hxe : arr.toList[k] = x := by
          have := (Array.getElem?_eq_some_iff.1 hx).2
          simpa using this
        rw [hxe]
        exact .cons hrel (ih (k + 1) fun j u hu => by
          have := hk (j + 1) u (by simpa using hu)
          rwa [show k + (j + 1) = k + 1 + j by omega] at this)
    have := this r oo hget
    rwa [hl] at this
  · intro j x hx
    rw [List.getElem?_take] at hx
    split at hx
    · rw [List.getElem?_drop] at hx
      simp only [Array.getElem?_toList] at hx
      simp [World.cell?, h1, h2, hx]
    · cases hx

theorem run_cells (hw : WRel P ρ H w) {c oo n : Nat} {cs r : List AVal} {e : TypeId} {wr : Wr} {p : Place} (hg : H.get c = some (.cells cs e wr)) (hp : ρ c = some p)
    (hs : sub? cs oo n = some r) : ∃ xs : List Value, xs.length = n ∧ VRels ρ r xs ∧ (loadCells ⟨p.r, p.d + oo, none⟩ n).run P w = .ok xs.toArray w := by
  obtain ⟨xs, h1, h2, h3⟩ := cells_of hw hg hp hs
  refine ⟨xs, h1, h2, ?_⟩
  subst h1
  exact run_loadCells_list w _ xs fun j v hv => by rw [add_none]; exact h3 j v hv

theorem cellsAt_some {c oo n : Nat} {r : List AVal} (h : H.cellsAt c oo n = some r) : ∃ cs e wr, H.get c = some (.cells cs e wr) ∧ sub? cs oo n = some r := by
  unfold AHeap.cellsAt at h
  split at h
  · exact ⟨_, _, _, ‹_›, h⟩
  · cases h

theorem cellAt_some {c oo : Nat} {r : AVal} (h : H.cellAt c oo = some r) : ∃ cs e wr, H.get c = some (.cells cs e wr) ∧ cs[oo]? = some r := by
  unfold AHeap.cellAt at h
  split at h
  · exact ⟨_, _, _, ‹_›, by rw [← getAt_eq]; exact h⟩
  · cases h

/-- Everything that has an address in a value lies in memory: where a block is none of ρ's there is no such value. -/
theorem run_load1 (hw : WRel P ρ H w) {c oo : Nat} {u : AVal} {p : Place} (h : H.cellAt c oo = some u) (hp : ρ c = some p) :
    ∃ x, VRel ρ u x ∧ (load ⟨p.r, p.d + oo, none⟩).run P w = .ok x w := by
  obtain ⟨cs, e, wr, hg, hu⟩ := cellAt_some h
  obtain ⟨x, hx, hr⟩ := cell_of hw hg hp hu
  exact ⟨x, hr, by simp [hx]⟩

theorem run_loadN (hw : WRel P ρ H w) {c oo n : Nat} {r : List AVal} {p : Place} (h : H.cellsAt c oo n = some r) (hp : ρ c = some p) :
    ∃ xs : List Value, xs.length = n ∧ VRels ρ r xs ∧ (loadCells ⟨p.r, p.d + oo, none⟩ n).run P w = .ok xs.toArray w := by
  obtain ⟨cs, e, wr, hg, hs⟩ := cellsAt_some h
  exact run_cells hw hg hp hs

/-! ### Writing -/

theorem setCells_heap (r : Nat) (e : TypeId) (fr : Nat × Nat) : ∀ (vs : List Value) (off : Nat) (w : World) (arr : Array Value), w.heap[r]? = some (.cells arr e fr) →
    ∃ arr' : Array Value, (w.setCells r off vs).heap = w.heap.setIfInBounds r (.cells arr' e fr) ∧ arr'.size = arr.size ∧
      (∀ i, i < off ∨ off + vs.length ≤ i → arr'[i]? = arr[i]?) ∧ (∀ i x, vs[i]? = some x → off + i < arr.size → arr'[off + i]? = some x) ∧
      (w.setCells r off vs).tape = w.tape ∧ (w.setCells r off vs).os = w.os ∧ (w.setCells r off vs).output = w.output
  | [], off, w, arr, h => by
    refine ⟨arr, ?_, rfl, fun _ _ => rfl, fun i x hx => by simp at hx, rfl, rfl, rfl⟩
    show w.heap = _
    apply Array.ext_getElem?
    intro i
    by_cases hi : r = i
    · subst hi; obtain ⟨h1, h2⟩ := Array.getElem?_eq_some_iff.1 h; simp [h1, h2]
    · rw [Array.getElem?_setIfInBounds_ne hi]
  | v :: vs, off, w, arr, h => by
    obtain ⟨hlt, hat⟩ := Array.getElem?_eq_some_iff.1 h
    have h1 : (w.setCell ⟨r, off, none⟩ v).heap = w.heap.setIfInBounds r (.cells (arr.setIfInBounds off v) e fr) := by
      unfold World.setCell
      apply Array.ext_getElem?
      intro i
      rw [Array.getElem?_modify]
      by_cases hi : r = i
      · subst hi; simp [hlt, hat]
      · rw [Array.getElem?_setIfInBounds_ne hi, if_neg hi]
    obtain ⟨arr', g1, g2, g3, g4, g5, g6, g7⟩ := setCells_heap r e fr vs (off + 1) (w.setCell ⟨r, off, none⟩ v) (arr.setIfInBounds off v) (by rw [h1]; simp [hlt])
    refine ⟨arr', ?_, by simpa using g2, ?_, ?_, g5, g6, g7⟩
    · rw [World.setCells, g1, h1]
      apply Array.ext_getElem?
      intro i
      by_cases hi : r = i
      · subst hi; simp [hlt]
      · simp [Array.getElem?_setIfInBounds_ne hi]
    · intro i hi
      simp only [List.length_cons] at hi
      rw [g3 i (by omega), Array.getElem?_setIfInBounds_ne (by omega)]
    · intro i x hx hlt'
      cases i with
      | zero =>
        simp only [List.getElem?_cons_zero, Option.some.injEq] at hx
        subst hx
        rw [g3 _ (by omega)]
        simp only [Nat.add_zero] at hlt' ⊢
        simp [hlt']
      | succ i =>
        simp only [List.getElem?_cons_succ] at hx
        have := g4 i x hx (by simpa using (by omega : off + 1 + i < arr.size))
        rwa [show off + 1 + i = off + (i + 1) by omega] at this

theorem splice_get {α : Type} (l : List α) (i : Nat) (new : List α) (h : i ≤ l.length) (j : Nat) (x : α) (hx : (splice l i new)[j]? = some x) :
    (j < i ∧ l[j]? = some x) ∨ (∃ k, j = i + k ∧ new[k]? = some x) ∨ (i + new.length ≤ j ∧ l[j]? = some x) := by
  unfold splice at hx
  rw [List.append_assoc, List.getElem?_append] at hx
  split at hx
  · rename_i hj
    simp only [List.length_take] at hj
    rw [List.getElem?_take, if_pos (by omega)] at hx
    exact .inl ⟨by omega, hx⟩
  · rename_i hj
    simp only [List.length_take] at hj hx
    rw [List.getElem?_append] at hx
    split at hx
    · exact .inr (.inl ⟨j - min i l.length, by omega, hx⟩)
    · rename_i hj2
      rw [List.getElem?_drop] at hx
      refine .inr (.inr ⟨by omega, ?_⟩)
      rwa [show i + new.length + (j - min i l.length - new.length) = j by omega] at hx

theorem VRel.plain {u : AVal} {x : Value} (h : VRel ρ u x) (hp : u.plain = true) : x.oneCell' = true := by
  cases h <;> first | rfl | (simp [AVal.plain] at hp; done)

theorem VRels.plain : ∀ {us : List AVal} {xs : List Value}, VRels ρ us xs → us.all AVal.plain = true → ∀ x ∈ xs, x.oneCell' = true
  | _, _, .nil, _, x, hx => by cases hx
  | _, _, .cons h hs, hp, x, hx => by
    simp only [List.all_cons, Bool.and_eq_true] at hp
    cases hx with
    | head => exact h.plain hp.1
    | tail _ hx => exact hs.plain hp.2 x hx

theorem run_put (hw : WRel P ρ H w) {c oo : Nat} {cs vs : List AVal} {xs : List Value} {e : TypeId} {p : Place} (hg : H.get c = some (.cells cs e .rw)) (hp : ρ c = some p)
    (hv : VRels ρ vs xs) (hpl : vs.all AVal.plain = true) (h1 : oo ≤ cs.length) (h2 : oo + vs.length ≤ p.room) :
    ∃ w', (storeCells ⟨p.r, p.d + oo, none⟩ xs 0).run P w = .ok () w' ∧ Stp P ρ H w ρ (H.set c (.cells (splice cs oo vs) e .rw)) w' := by
  obtain ⟨arr, lo, hi, g1, g2, g3, g4⟩ := hw.cells hg hp
  obtain ⟨g5, g6, g7⟩ := g4 rfl
  have hl := hv.length
  obtain ⟨arr', k1, k2, k3, k4, k5, k6, k7⟩ := setCells_heap p.r e (lo, hi) xs oo w arr g1
  refine ⟨w.setCells p.r oo xs, ?_, ?_⟩
  · rw [run_storeCells_cells p.r (p.d + oo) xs 0 w ?_ ?_ (hv.plain hpl)]
    · simp [g2]
    · intro j hj
      have : oo + j < arr.size := by omega
      simp [World.cell?, g1, g2, this]
    · intro j hj
      have := g7 (oo + j) (by omega)
      simp only [World.frozen?, g1, g2, Nat.zero_add, Nat.add_zero]
      simp
      omega
  · refine stp_set hw hg rfl hp (.cells g2 ?_ ?_) k1 k5 k6 k7
    · intro i u hu
      rw [g2, Nat.zero_add]
      rcases splice_get cs oo vs h1 i u hu with ⟨hlt, hu'⟩ | ⟨k, rfl, hu'⟩ | ⟨hge, hu'⟩
      · obtain ⟨x, hx, hr⟩ := g3 _ _ hu'
        exact ⟨x, by rw [k3 _ (by omega)]; exact hx, hr⟩
      · obtain ⟨x, hx, hr⟩ := hv.get _ _ hu'
        have := (List.getElem?_eq_some_iff.1 hx).1
        exact ⟨x, k4 _ _ hx (by omega), hr⟩
      · obtain ⟨x, hx, hr⟩ := g3 _ _ hu'
        exact ⟨x, by rw [k3 _ (by omega)]; exact hx, hr⟩
    · intro _
      refine ⟨?_, by rw [g2, k2]; omega, fun i hi => by rw [g2, Nat.zero_add]; exact g7 i hi⟩
      unfold splice
      simp
      omega

theorem storeAt_some {c oo : Nat} {vs : List AVal} (h : H.storeAt c oo vs = some H') :
    ∃ cs e, H.get c = some (.cells cs e .rw) ∧ oo + vs.length ≤ cs.length ∧ H' = H.set c (.cells (splice cs oo vs) e .rw) := by
  unfold AHeap.storeAt at h
  split at h
  · rename_i cs e hg
    cases hb : Nat.ble (oo + vs.length) cs.length <;> rw [hb] at h <;> simp only [cond_true, cond_false, Option.some.injEq, reduceCtorEq] at h
    exact ⟨cs, e, hg, ble_iff.1 hb, h.symm⟩
  · cases h

theorem splice_one {α : Type} : ∀ (l : List α) (i : Nat) (x : α), i < l.length → splice l i [x] = setAt l i x := by
  intro l i x h
  rw [setAt_eq]
  unfold splice
  rw [List.set_eq_take_append_cons_drop, if_pos h]
  simp

theorem store1_some {c oo : Nat} {u : AVal} (h : H.store1 c oo u = some H') :
    ∃ cs e, H.get c = some (.cells cs e .rw) ∧ oo + 1 ≤ cs.length ∧ H' = H.set c (.cells (splice cs oo [u]) e .rw) := by
  unfold AHeap.store1 at h
  split at h
  · rename_i cs e hg
    cases hb : Nat.blt oo cs.length <;> rw [hb] at h <;> simp only [cond_true, cond_false, Option.some.injEq, reduceCtorEq] at h
    exact ⟨cs, e, hg, blt_iff.1 hb, by rw [splice_one _ _ _ (blt_iff.1 hb)]; exact h.symm⟩
  · cases h

theorem run_putAt (hw : WRel P ρ H w) {c oo : Nat} {cs vs : List AVal} {xs : List Value} {e : TypeId} {p : Place} (hg : H.get c = some (.cells cs e .rw)) (hp : ρ c = some p)
    (hv : VRels ρ vs xs) (hpl : vs.all AVal.plain = true) (h1 : oo + vs.length ≤ cs.length) :
    ∃ w', (storeCells ⟨p.r, p.d + oo, none⟩ xs 0).run P w = .ok () w' ∧ Stp P ρ H w ρ (H.set c (.cells (splice cs oo vs) e .rw)) w' := by
  obtain ⟨arr, lo, hi, g1, g2, g3, g4⟩ := hw.cells hg hp
  exact run_put hw hg hp hv hpl (by omega) (by have := (g4 rfl).1; omega)

/-- Cells are frozen: nobody writes them by their block any more. -/
theorem stp_freeze (hw : WRel P ρ H w) {c : Nat} {cs : List AVal} {e : TypeId} {wr : Wr} {p : Place} (hg : H.get c = some (.cells cs e wr)) (hown : wr.own = true) (hp : ρ c = some p) (off n : Nat) :
    Stp P ρ H w ρ (H.set c (.cells cs e .ro)) (w.freeze ⟨p.r, off, none⟩ n) := by
  obtain ⟨arr, lo, hi, g1, g2, g3, g4⟩ := hw.cells hg hp
  obtain ⟨hlt, hat⟩ := Array.getElem?_eq_some_iff.1 g1
  obtain ⟨fr, hfr⟩ : ∃ fr, (w.freeze ⟨p.r, off, none⟩ n).heap = w.heap.setIfInBounds p.r (.cells arr e fr) := by
    unfold World.freeze
    by_cases hn : n = 0
    · refine ⟨(lo, hi), ?_⟩
      rw [if_pos hn]
      apply Array.ext_getElem?
      intro i
      by_cases hi : p.r = i
      · subst hi; simp [hlt, hat]
      · rw [Array.getElem?_setIfInBounds_ne hi]
    · refine ⟨if lo == hi then (off, off + n) else (min lo off, max hi (off + n)), ?_⟩
      rw [if_neg hn]
      apply Array.ext_getElem?
      intro i
      show (w.heap.modify p.r _)[i]? = _
      rw [Array.getElem?_modify]
      by_cases hi : p.r = i
      · subst hi; simp [hlt, hat]
      · rw [Array.getElem?_setIfInBounds_ne hi, if_neg hi]
  obtain ⟨lo', hi'⟩ := fr
  refine stp_set hw hg hown hp (.cells g2 (fun i u hu => by rw [g2, Nat.zero_add]; exact g3 i u hu) (fun h => by cases h)) hfr ?_ ?_ ?_
  · unfold World.freeze; split <;> rfl
  · unfold World.freeze; split <;> rfl
  · unfold World.freeze; split <;> rfl

/-! ### Making -/

/-- A new block of cells. -/
theorem stp_row (hw : WRel P ρ H w) {cs : List AVal} {xs : List Value} {e : TypeId} (hv : VRels ρ cs xs) :
    ∃ ρ', ρ' H.next = some ⟨w.heap.size, 0, cs.length⟩ ∧ Stp P ρ H w ρ' (H.new (.cells cs e .rw)) { w with heap := w.heap.push (.cells ⟨xs⟩ e) } := by
  refine ⟨fun b => if b = H.next then some ⟨w.heap.size, 0, cs.length⟩ else ρ b, by simp, stp_new hw rfl (.cells rfl ?_ ?_) rfl⟩
  · intro i u hu
    obtain ⟨x, hx, hr⟩ := hv.get i u hu
    refine ⟨x, by simpa using hx, hr.mono fun b p e => ?_⟩
    have := hw.lt e
    show (if b = H.next then _ else ρ b) = _
    rw [if_neg (by omega)]
    exact e
  · intro _
    have := hv.length
    exact ⟨Nat.le_refl _, by simp [this], fun i _ h => by omega⟩

/-- A new block of cells, of which the last ones are not known, with cells behind them frozen. -/
theorem stp_rows (hw : WRel P ρ H w) {cs : List AVal} {xs : List Value} {ys : Array Value} {room : Nat} {e : TypeId} (hv : VRels ρ cs xs) (hy : ∀ (i : Nat) (x : Value), xs[i]? = some x → ys[i]? = some x)
    (hs : ys.size = room) (hl : cs.length ≤ room) (lo hi : Nat) (hf : room ≤ lo ∨ hi ≤ lo) :
    ∃ ρ', ρ' H.next = some ⟨w.heap.size, 0, room⟩ ∧ Stp P ρ H w ρ' (H.new (.cells cs e .rw)) { w with heap := w.heap.push (.cells ys e (lo, hi)) } := by
  refine ⟨fun b => if b = H.next then some ⟨w.heap.size, 0, room⟩ else ρ b, by simp, stp_new hw rfl (.cells rfl ?_ ?_) rfl⟩
  · intro i u hu
    obtain ⟨x, hx, hr⟩ := hv.get i u hu
    refine ⟨x, by rw [Nat.zero_add]; exact hy i x hx, hr.mono fun b p e => ?_⟩
    have := hw.lt e
    show (if b = H.next then _ else ρ b) = _
    rw [if_neg (by omega)]
    exact e
  · intro _
    exact ⟨hl, by simp [hs], fun i hlt h => by
      have h1 : i < room := hlt
      have h2 : lo ≤ 0 + i ∧ 0 + i < hi := h
      omega⟩

end
end Go.Eng

namespace Go.Eng
set_option linter.unusedSimpArgs false

section
variable {P : Program} {o : Oper} {a : Act} {ρ : Emb} {H H' : AHeap} {w w' : World} {v : AVal} {tm : Tm} {b : BOp}

theorem VRel.cells_arr {u : AVal} {x : Value} (h : VRel ρ u x) : VRels ρ u.cells x.cells.toList := h.cells

/-! ### Making -/

theorem mem_alloc {z : List AVal} {e : TypeId} : BOp.mem P (.alloc z e) tm H = .v (.ptr H.next 0) (H.new (.cells z e .rw)) := rfl

theorem opv_row (hw : WRel P ρ H w) {cs : List AVal} {xs : Array Value} {e : TypeId} (hv : VRels ρ cs xs.toList)
    (h : (execOp a.eval o).run P w = .ok (.value (.pointer (some ⟨w.heap.size, 0, none⟩))) { w with heap := w.heap.push (.cells xs e) }) :
    OpV P o a ρ H w (.ptr H.next 0) (H.new (.cells cs e .rw)) := by
  obtain ⟨ρ', h1, h2⟩ := stp_row (e := e) hw hv
  exact ⟨_, _, ρ', .inl h, .ptr (o := 0) h1, h2⟩

theorem op_alloc (hw : WRel P ρ H w) {t : TypeId} (ho : o.op = .alloc t) (hc : (match zeroOf P t with
      | some z => BOp.alloc z.cells t
      | none => .bad) = b) (hm : b.mem P tm H = .v v H') : OpV P o a ρ H w v H' := by
  have hbad := not_bad hm
  split at hc
  · rename_i z hz
    obtain ⟨zx, hzr, hzrun⟩ := run_zero (P := P) (ρ := ρ) hz
    subst hc
    rw [mem_alloc] at hm
    cases hm
    exact opv_row hw hzr.cells (by simp [execOp, ho, Instr.alloc, hzrun, newVar, newRow])
  · exact absurd hc.symm hbad

theorem mem_box {e : TypeId} {x : BX} : BOp.mem P (.box e x) tm H = (bif (x.ev tm).cells.all AVal.plain then .v (.ptr H.next 0) (H.new (.cells (x.ev tm).cells e .rw)) else .x) := rfl

theorem op_box (hw : WRel P ρ H w) (ht : TmRel ρ tm a.tmps) {t : TypeId} {x : Operand} (ho : o.op = .box t x) (hc : c1 P a.tmps.size (.box t) x = b)
    (hm : b.mem P tm H = .v v H') : OpV P o a ρ H w v H' := by
  obtain ⟨c, hcx, rfl⟩ := c1_some hc (not_bad hm)
  rw [mem_box] at hm
  have r := cx_rel hw ht hcx
  cases hb : (c.ev tm).cells.all AVal.plain <;> rw [hb] at hm
  · cases hm
  · simp only [cond_true] at hm
    cases hm
    exact opv_row hw r.cells (by simp [execOp, ho, Instr.box, newVar, newRow])

theorem mem_mkMap : BOp.mem P .mkMap tm H = .v (.map H.next) (H.new (.map [])) := rfl

theorem opv_map (hw : WRel P ρ H w) (h : (execOp a.eval o).run P w = .ok (.value (.map (some w.heap.size))) { w with heap := w.heap.push (.map #[] 0) }) :
    OpV P o a ρ H w (.map H.next) (H.new (.map [])) :=
  ⟨_, _, fun b => if b = H.next then some ⟨w.heap.size, 0, 0⟩ else ρ b, .inl h, VRel.map (p := ⟨w.heap.size, 0, 0⟩) (by simp), stp_new hw rfl (.map .nil) rfl⟩

theorem op_mkMap (hw : WRel P ρ H w) {t : TypeId} (ho : o.op = .makeMap t none) (hc : (match P.underlying t with
      | some (.map _ _) => BOp.mkMap
      | _ => .bad) = b) (hm : b.mem P tm H = .v v H') : OpV P o a ρ H w v H' := by
  have hbad := not_bad hm
  split at hc
  · subst hc
    rw [mem_mkMap] at hm
    cases hm
    exact opv_map hw (by simp [execOp, ho, Instr.makeMap])
  · exact absurd hc.symm hbad

theorem op_mkMap' (hw : WRel P ρ H w) {t : TypeId} {k : IntKind} {n : Int} (ho : o.op = .makeMap t (some (.const (.int k n)))) (hc : (match P.underlying t with
      | some (.map _ _) => BOp.mkMap
      | _ => .bad) = b) (hm : b.mem P tm H = .v v H') : OpV P o a ρ H w v H' := by
  have hbad := not_bad hm
  split at hc
  · rename_i hu
    subst hc
    rw [mem_mkMap] at hm
    cases hm
    exact opv_map hw (by simp [execOp, ho, Instr.makeMap, run_under hu, Act.eval, asInt, asIntOf])
  · exact absurd hc.symm hbad

theorem mem_rng {x : BX} : BOp.mem P (.rng x) tm H = rngA H (x.ev tm) := rfl

theorem op_range (hw : WRel P ρ H w) (ht : TmRel ρ tm a.tmps) {t : TypeId} {x : Operand} (ho : o.op = .range t x) (hc : (match P.underlying t with
      | some .string => c1 P a.tmps.size .rng x
      | _ => .bad) = b) (hm : b.mem P tm H = .v v H') : OpV P o a ρ H w v H' := by
  have hbad := not_bad hm
  split at hc
  · rename_i hu
    obtain ⟨c, hcx, rfl⟩ := c1_some hc hbad
    rw [mem_rng] at hm
    have r := cx_rel hw ht hcx
    revert hm r
    generalize c.ev tm = cv; generalize hcx' : a.eval x = cx
    intro hm r
    cases r <;> simp only [rngA, reduceCtorEq] at hm
    cases hm
    exact ⟨_, _, fun b => if b = H.next then some ⟨w.heap.size, 0, 0⟩ else ρ b, .inl (by simp [execOp, ho, hcx', Instr.range, run_under hu]), VRel.ptr (o := 0) (p := ⟨w.heap.size, 0, 0⟩) (by simp), stp_new hw rfl (.siter rfl _ _) rfl⟩
  · exact absurd hc.symm hbad

/-! ### Zero cells in a row -/

theorem range_mod (xs : Array Value) : ∀ n, ((List.range (n * xs.size)).map (fun i => xs[i % xs.size]!)) = (List.replicate n xs.toList).flatten
  | 0 => by simp
  | n + 1 => by
    rw [Nat.succ_mul, Nat.add_comm, List.range_add, List.map_append, List.replicate_succ, List.flatten_cons, ← range_mod xs n]
    congr 1
    · apply List.ext_getElem?
      intro i
      by_cases hi : i < xs.size
      · simp [hi, Nat.mod_eq_of_lt hi]
      · simp [hi, List.getElem?_eq_none (by simp; omega : xs.toList.length ≤ i)]
    · simp [List.map_map, Function.comp_def, Nat.add_mod_left]

theorem VRels.repeated {z : List AVal} {xs : List Value} (h : VRels ρ z xs) : ∀ n, VRels ρ (Eng.repeated z n) (List.replicate n xs).flatten
  | 0 => .nil
  | n + 1 => by
    rw [List.replicate_succ, List.flatten_cons]
    exact h.append (h.repeated n)

theorem zeroCells_rel {z : List AVal} {xs : Array Value} (h : VRels ρ z xs.toList) (n : Nat) : VRels ρ (Eng.repeated z n) ((Array.range (n * xs.size)).map (fun i => xs[i % xs.size]!)).toList := by
  have := h.repeated n
  rw [← range_mod] at this
  simpa using this

theorem zeroCells_rel' {z : List AVal} {xs : Array Value} (h : VRels ρ z xs.toList) (n : Nat) : VRels ρ (Eng.repeated z n) (Builtin.zeroCells xs n).toList := zeroCells_rel h n

theorem wrap_small {n : Nat} (h : n ≤ 1048576) : IntKind.i64.wrap (n : Int) = n := by
  simp only [IntKind.wrap, IntKind.bits, IntKind.signed]
  simp
  omega

theorem mem_mkSlice {e : TypeId} {esz : Nat} {z : List AVal} {l c : BX} : BOp.mem P (.mkSlice e esz z l c) tm H = mkSliceA e esz z H (l.ev tm) (c.ev tm) := rfl

theorem op_makeSlice (hw : WRel P ρ H w) (ht : TmRel ρ tm a.tmps) {t : TypeId} {l c : Operand} (ho : o.op = .makeSlice t l c)
    (hc : cmakeSlice P a.tmps.size t l c = b) (hm : b.mem P tm H = .v v H') : OpV P o a ρ H w v H' := by
  have hbad := not_bad hm
  unfold cmakeSlice at hc
  split at hc
  · rename_i elem hu
    split at hc
    · rename_i i hi
      split at hc
      · rename_i z hz
        obtain ⟨zx, hzr, hzrun⟩ := run_zero (P := P) (ρ := ρ) hz
        cases hb : (Nat.ble i.bytes 65536 && Nat.beq z.cells.length i.size && !(Nat.beq i.size 0)) <;> rw [hb] at hc
        · exact absurd hc.symm hbad
        · simp only [cond_true] at hc
          simp only [Bool.and_eq_true, ble_iff, beq_iff, Bool.not_eq_true'] at hb
          obtain ⟨⟨hb1, hb2⟩, hb3⟩ := hb
          have hb3 := size_ne hb3
          obtain ⟨d, f, h1, h2, rfl⟩ := c2_some hc hbad
          rw [mem_mkSlice] at hm
          have r1 := cx_rel hw ht h1
          have r2 := cx_rel hw ht h2
          revert hm r1 r2
          generalize d.ev tm = dv; generalize f.ev tm = fv; generalize hdx : a.eval l = dx; generalize hfx : a.eval c = fx
          intro hm r1 r2
          cases r1 <;> try (simp only [mkSliceA, reduceCtorEq] at hm; done)
          rename_i kl nl
          cases r2 <;> try (cases kl <;> cases nl <;> simp only [mkSliceA, reduceCtorEq] at hm; done)
          rename_i kc nc
          cases kl <;> try (simp only [mkSliceA, reduceCtorEq] at hm; done)
          cases nl <;> try (simp only [mkSliceA, reduceCtorEq] at hm; done)
          cases kc <;> try (simp only [mkSliceA, reduceCtorEq] at hm; done)
          cases nc <;> try (simp only [mkSliceA, reduceCtorEq] at hm; done)
          rename_i nl nc
          simp only [mkSliceA] at hm
          cases hk : (Nat.ble nl nc && Nat.ble nc 1048576) <;> rw [hk] at hm
          · cases hm
          · simp only [cond_true] at hm
            cases hm
            simp only [Bool.and_eq_true, ble_iff] at hk
            obtain ⟨hk1, hk2⟩ := hk
            have hzl := hzr.cells.length
            simp only [Array.length_toList] at hzl
            have hsz : zx.cells.size = i.size := by omega
            obtain ⟨ρ', g1, g2⟩ := stp_row (e := elem) hw (zeroCells_rel hzr.cells nc)
            have w1 : IntKind.i64.wrap (nl : Int) = nl := wrap_small (by omega)
            have w2 : IntKind.i64.wrap (nc : Int) = nc := wrap_small hk2
            have hrep : (repeated z.cells nc).length = nc * i.size := by
              have := (zeroCells_rel hzr.cells nc).length
              simpa [hsz] using this
            refine ⟨.slice (some ⟨w.heap.size, 0, none⟩) nl nc, _, ρ', .inl ?_, .slice (o := 0) g1 hk1 (Nat.le_refl _) (fun _ => rfl) (fun h => by cases h), g2⟩
            have hle : i.bytes * nc ≤ 65536 * 1048576 := Nat.mul_le_mul hb1 hk2
            have hbig : ¬ ((2 : Int) ^ 48 < (i.bytes : Int) * (nc : Int)) := by
              have : ((i.bytes : Int) * (nc : Int)) = ((i.bytes * nc : Nat) : Int) := by simp
              rw [this]
              omega
            have hsize : Eng.sizeOf P elem = some i.size := by simp [Eng.sizeOf, hi]
            have hnc : ¬ (nc : Int) < 0 := by omega
            have hnl : ¬ (nl : Int) < 0 := by omega
            have hlc : ¬ (nc : Int) < (nl : Int) := by omega
            simp only [execOp, ho, hdx, hfx, Instr.makeSlice, Sem.run_bind, run_under hu, Result.andThen_ok, asInt, asIntOf, Sem.run_pure, typeInfo, run_program, hi, Int.ofNat_eq_natCast, w1, w2, hbig, hnc, hnl, hlc]
            simp only [decide_false, Bool.or_false, Bool.false_eq_true, if_false, Sem.run_bind, Sem.run_ite, run_askRoom, Result.andThen_ok, run_size hsize, Sem.run_pure, Int.toNat_natCast, newRow, run_newObj]
            by_cases hnz : nc * i.size = 0
            · have hc0 : nc = 0 := by rcases Nat.mul_eq_zero.1 hnz with h | h <;> omega
              subst hc0
              simp [newRow]
              congr 2
              apply Array.ext'
              simp
            · simp only [hnz, if_false, Sem.run_bind, hzrun, Result.andThen_ok, Sem.run_pure, run_newObj]
              rw [← hsz]
      · exact absurd hc.symm hbad
    · exact absurd hc.symm hbad
  · exact absurd hc.symm hbad

end
end Go.Eng
