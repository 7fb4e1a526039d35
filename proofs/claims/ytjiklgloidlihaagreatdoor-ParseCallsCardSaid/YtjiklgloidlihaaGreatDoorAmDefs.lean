/-
The abstract machine: a closed call is run over an abstract heap, in which each new block has a number of its own, appends never share, and a region that draws its order is run once and held against every order. Written for the kernel: small functions, closed alternatives.
-/
import Derived.Calls
import Derived.Below
namespace Go.Am

/-- A trie keyed by numbers. -/
inductive Tr (α : Type) where
  | leaf
  | node (l : Tr α) (v : Option α) (r : Tr α)

/-- a list's recursor's twin without a dependent motive -/
noncomputable def ob {α β : Type} (x : Option α) (f : α → Option β) : Option β := Option.rec (motive := fun _ => Option β) none f x

namespace Tr
variable {α : Type}
noncomputable def get (t : Tr α) : Nat → Option α :=
  Tr.rec (motive := fun _ => Nat → Option α) (fun _ => none)
    (fun _ v _ gl gr n => Bool.rec (motive := fun _ => Option α) (Bool.rec (motive := fun _ => Option α) (gr (Nat.pred (Nat.div n (nat_lit 2)))) (gl (Nat.div n (nat_lit 2))) (Nat.beq (Nat.mod n (nat_lit 2)) (nat_lit 1))) v (Nat.beq n (nat_lit 0))) t
noncomputable def mk (f : Nat) : Nat → α → Tr α :=
  Nat.rec (motive := fun _ => Nat → α → Tr α) (fun _ _ => leaf)
    (fun _ g n v => Bool.rec (motive := fun _ => Tr α) (Bool.rec (motive := fun _ => Tr α) (node leaf none (g (Nat.pred (Nat.div n (nat_lit 2))) v)) (node (g (Nat.div n (nat_lit 2)) v) none leaf) (Nat.beq (Nat.mod n (nat_lit 2)) (nat_lit 1))) (node leaf (some v) leaf) (Nat.beq n (nat_lit 0))) f
noncomputable def set (t : Tr α) : Nat → α → Tr α :=
  Tr.rec (motive := fun _ => Nat → α → Tr α) (fun n v => mk (Nat.succ n) n v)
    (fun l x r gl gr n v => Bool.rec (motive := fun _ => Tr α) (Bool.rec (motive := fun _ => Tr α) (node l x (gr (Nat.pred (Nat.div n (nat_lit 2))) v)) (node (gl (Nat.div n (nat_lit 2)) v) x r) (Nat.beq (Nat.mod n (nat_lit 2)) (nat_lit 1))) (node l (some v) r) (Nat.beq n (nat_lit 0))) t
noncomputable def del (t : Tr α) : Nat → Tr α :=
  Tr.rec (motive := fun _ => Nat → Tr α) (fun _ => leaf)
    (fun l x r gl gr n => Bool.rec (motive := fun _ => Tr α) (Bool.rec (motive := fun _ => Tr α) (node l x (gr (Nat.pred (Nat.div n (nat_lit 2))))) (node (gl (Nat.div n (nat_lit 2))) x r) (Nat.beq (Nat.mod n (nat_lit 2)) (nat_lit 1))) (node l none r) (Nat.beq n (nat_lit 0))) t
/-- n elements from place i on -/
noncomputable def many (t : Tr α) (n : Nat) : Nat → Option (List α) :=
  Nat.rec (motive := fun _ => Nat → Option (List α)) (fun _ => some [])
    (fun _ g i => ob (t.get i) fun v => ob (g (i + 1)) fun l => some (v :: l)) n
noncomputable def setMany (l : List α) : Tr α → Nat → Tr α :=
  List.rec (motive := fun _ => Tr α → Nat → Tr α) (fun t _ => t) (fun v _ g t i => g (t.set i v) (i + 1)) l
noncomputable def ofList (l : List α) : Tr α := setMany l leaf 0
end Tr

/- lists, for the kernel -/
noncomputable def lget {α : Type} (l : List α) : Nat → Option α :=
  List.rec (motive := fun _ => Nat → Option α) (fun _ => none) (fun a _ g n => Bool.rec (motive := fun _ => Option α) (g (Nat.pred n)) (some a) (Nat.beq n (nat_lit 0))) l
noncomputable def ldrop {α : Type} (l : List α) : Nat → List α :=
  List.rec (motive := fun _ => Nat → List α) (fun _ => []) (fun a l g n => bif Nat.beq n 0 then a :: l else g (n - 1)) l
noncomputable def ltake {α : Type} (l : List α) : Nat → List α :=
  List.rec (motive := fun _ => Nat → List α) (fun _ => []) (fun a _ g n => bif Nat.beq n 0 then [] else a :: g (n - 1)) l
noncomputable def llen {α : Type} (l : List α) : Nat := List.rec (motive := fun _ => Nat) 0 (fun _ _ n => n + 1) l
noncomputable def lapp {α : Type} (l m : List α) : List α := List.rec (motive := fun _ => List α) m (fun a _ g => a :: g) l
noncomputable def lall {α : Type} (p : α → Bool) (l : List α) : Bool := List.rec (motive := fun _ => Bool) true (fun a _ g => bif p a then g else false) l
noncomputable def lmapM {α β : Type} (f : α → Option β) (l : List α) : Option (List β) :=
  List.rec (motive := fun _ => Option (List β)) (some []) (fun a _ g => ob (f a) fun b => ob g fun r => some (b :: r)) l
noncomputable def eqStr (a : List Nat) : List Nat → Bool :=
  List.rec (motive := fun _ => List Nat → Bool) (fun b => b.isEmpty) (fun x _ g b => List.rec (motive := fun _ => Bool) false (fun y b _ => bif Nat.beq x y then g b else false) b) a

/- small tests -/
noncomputable def kIdx : IntKind → Nat
  | .i8 => 0 | .i16 => 1 | .i32 => 2 | .i64 => 3 | .u8 => 4 | .u16 => 5 | .u32 => 6 | .u64 => 7
noncomputable def kEq (a b : IntKind) : Bool := Nat.beq (kIdx a) (kIdx b)
noncomputable def bEq : Bool → Bool → Bool
  | true, b => b
  | false, b => !b
noncomputable def iEq : Int → Int → Bool
  | .ofNat a, .ofNat b => Nat.beq a b
  | .negSucc a, .negSucc b => Nat.beq a b
  | _, _ => false
noncomputable def iLe : Int → Int → Bool
  | .ofNat a, .ofNat b => Nat.ble a b
  | .ofNat _, .negSucc _ => false
  | .negSucc _, .ofNat _ => true
  | .negSucc a, .negSucc b => Nat.ble b a
noncomputable def iLt : Int → Int → Bool
  | .ofNat a, .ofNat b => Nat.blt a b
  | .ofNat _, .negSucc _ => false
  | .negSucc _, .ofNat _ => true
  | .negSucc a, .negSucc b => Nat.blt b a
noncomputable def kHi : IntKind → Nat
  | .i8 => 128 | .i16 => 32768 | .i32 => 2147483648 | .i64 => 9223372036854775808 | .u8 => 256 | .u16 => 65536 | .u32 => 4294967296 | .u64 => 18446744073709551616
noncomputable def kLo : IntKind → Nat
  | .i8 => 128 | .i16 => 32768 | .i32 => 2147483648 | .i64 => 9223372036854775808 | _ => 0
/-- the wrap, at once where nothing wraps -/
noncomputable def wrapF (k : IntKind) : Int → Int
  | .ofNat n => bif Nat.blt n (kHi k) then .ofNat n else k.wrap (.ofNat n)
  | .negSucc n => bif Nat.blt n (kLo k) then .negSucc n else k.wrap (.negSucc n)

inductive AFn where
  | func (f : Nat)
  | yld (l : Nat)

inductive AVal where
  | bool (b : Bool)
  | int (k : IntKind) (n : Int)
  | str (l : List Nat)
  | nilptr
  | ptr (b off : Nat)
  | nilslice
  | slice (b off len cap : Nat)
  | nilmap
  | map (b : Nat)
  | func (fn : AFn) (first captured : List AVal)
  | nilfunc
  | iface (t : Nat) (v : AVal)
  | niliface
  | agg (l : List AVal)
  | tup (l : List AVal)

/-- a frame's slots: the first 'k' in a trie, the others in a list, the latest first -/
structure Tm where
  k : Nat
  v : Tr AVal
  t : List (Nat × AVal)
noncomputable def assoc (i : Nat) (l : List (Nat × AVal)) : Option AVal :=
  List.rec (motive := fun _ => Option AVal) none (fun a _ g => Bool.rec (motive := fun _ => Option AVal) g (some a.2) (Nat.beq i a.1)) l
noncomputable def Tm.get (t : Tm) (i : Nat) : Option AVal := Bool.rec (motive := fun _ => Option AVal) (assoc i t.t) (t.v.get i) (Nat.blt i t.k)
noncomputable def Tm.set (t : Tm) (i : Nat) (x : AVal) : Tm := Bool.rec (motive := fun _ => Tm) ⟨t.k, t.v, (i, x) :: t.t⟩ ⟨t.k, t.v.set i x, t.t⟩ (Nat.blt i t.k)
/-- what is forgotten at a region's head -/
noncomputable def Tm.cut (t : Tm) : Tm := ⟨t.k, t.v, []⟩
structure ADef where
  fn : Option AFn
  r : Nat
  args : List AVal

structure ALoop where
  state : LoopState
  pending : Option Code
  fn : Nat
  n : Nat
  tm : Tm
  params : List Nat
  assign : Code
  body : Code
  defers : Nat

inductive ABlk where
  | cells (c : Tr AVal) (n : Nat) (loose : Option Nat)
  | map (l : List (AVal × AVal))
  | loop (l : ALoop)
  | deferred (l : Option (List ADef))
  | siter (s : List Nat) (pos : Nat)

structure AHeap where
  next : Nat
  t : Tr ABlk

inductive ADesc where
  | bool | int (k : IntKind) | string
  | ptr (e : Nat) | slice (e : Nat) | arr (n e : Nat) | map (k e : Nat)
  | struct (fs : List (Nat × Nat × Nat))
  | func | iface | other

structure ATy where
  desc : ADesc
  size : Nat
  bytes : Nat
  zero : List AVal
  eqOk : Bool

structure Stage where
  heavy : Nat
  lights : List Nat
  again : List Nat

structure Plan where
  first : List Nat
  stages : List Stage
  olds : List (Nat × List Nat)

structure Ctx where
  fns : Tr Func
  ks : Tr Nat
  tys : Tr ATy
  plans : Tr (Tr Plan)
  prims : Tr (List AVal → AHeap → Option AVal)
  base : Nat
  root : Nat

inductive AItem where
  | code (c : Code)
  | inBlock (id : Nat)
  | inLoop (c : Code)
  | inScope (c : Code)
  | ops (all : Array Oper) (rest : List Oper)
  | reg (all : Array Oper) (old : Tm) (olds : List (Nat × List Nat)) (stages : List Stage)
  | inRange (l : Nat)
  | endRange (l : Nat)
  | beginRound

structure APanic where
  v : AVal
  recovered : Bool

inductive AMode where
  | run | returning
  | panicking (chain : List APanic)

/-- what an operation leaves as it was -/
structure FRest where
  fn : Nat
  n : Nat
  defers : List ADef
  mode : AMode
  deferred : Bool
  roundOf : Option Nat

structure AFrame where
  todo : List AItem
  tm : Tm
  R : FRest

structure AState where
  fr : AFrame
  cs : List AFrame
  H : AHeap

inductive AOut where
  | next (s : AState)
  | done (v : AVal) (H : AHeap)
  | fail (why : Nat)

/- looks into values, with closed alternatives -/
noncomputable def AVal.asBool : AVal → Option Bool | .bool b => some b | _ => none
noncomputable def AVal.asInt : AVal → Option Int | .int _ n => some n | _ => none
noncomputable def AVal.asIntK : AVal → Option (IntKind × Int) | .int k n => some (k, n) | _ => none
noncomputable def AVal.asStr : AVal → Option (List Nat) | .str l => some l | _ => none
noncomputable def AVal.asPtr : AVal → Option (Nat × Nat) | .ptr b o => some (b, o) | _ => none
noncomputable def AVal.asSlice : AVal → Option (Nat × Nat × Nat × Nat) | .slice b o l c => some (b, o, l, c) | _ => none
noncomputable def AVal.asMap : AVal → Option Nat | .map b => some b | _ => none
noncomputable def AVal.asAgg : AVal → Option (List AVal) | .agg l => some l | _ => none
noncomputable def AVal.asTup : AVal → Option (List AVal) | .tup l => some l | _ => none
noncomputable def AVal.asFunc : AVal → Option (AFn × List AVal × List AVal) | .func f a b => some (f, a, b) | _ => none
noncomputable def AVal.asIface : AVal → Option (Nat × AVal) | .iface t v => some (t, v) | _ => none
/-- which constructor -/
noncomputable def AVal.tag : AVal → Nat
  | .bool _ => 0 | .int _ _ => 1 | .str _ => 2 | .nilptr => 3 | .ptr _ _ => 4 | .nilslice => 5 | .slice _ _ _ _ => 6 | .nilmap => 7 | .map _ => 8
  | .func _ _ _ => 9 | .nilfunc => 10 | .iface _ _ => 11 | .niliface => 12 | .agg _ => 13 | .tup _ => 14
/-- a natural number, of whatever kind -/
noncomputable def natOf : Int → Option Nat | .ofNat n => some n | .negSucc _ => none
noncomputable def AVal.asNat (v : AVal) : Option Nat := ob v.asInt natOf
noncomputable def AVal.cells (v : AVal) : List AVal :=
  match v.asAgg with
  | some l => l
  | none => [v]
noncomputable def AVal.one (v : AVal) : Bool := Nat.blt v.tag 13

noncomputable def ADesc.asInt : ADesc → Option IntKind | .int k => some k | _ => none
noncomputable def ADesc.asSlice : ADesc → Option Nat | .slice e => some e | _ => none
noncomputable def ADesc.asArr : ADesc → Option (Nat × Nat) | .arr n e => some (n, e) | _ => none
noncomputable def ADesc.asMap : ADesc → Option (Nat × Nat) | .map k e => some (k, e) | _ => none
noncomputable def ADesc.asStruct : ADesc → Option (List (Nat × Nat × Nat)) | .struct fs => some fs | _ => none
noncomputable def ADesc.tag : ADesc → Nat
  | .bool => 0 | .int _ => 1 | .string => 2 | .ptr _ => 3 | .slice _ => 4 | .arr _ _ => 5 | .map _ _ => 6 | .struct _ => 7 | .func => 8 | .iface => 9 | .other => 10
noncomputable def ADesc.isAgg (d : ADesc) : Bool := bif Nat.beq d.tag 5 then true else Nat.beq d.tag 7
noncomputable def ADesc.isString (d : ADesc) : Bool := Nat.beq d.tag 2

noncomputable def ABlk.asCells : ABlk → Option (Tr AVal × Nat × Option Nat) | .cells c n l => some (c, n, l) | _ => none
noncomputable def ABlk.asMap : ABlk → Option (List (AVal × AVal)) | .map l => some l | _ => none
noncomputable def ABlk.asLoop : ABlk → Option ALoop | .loop l => some l | _ => none
noncomputable def ABlk.asDeferred : ABlk → Option (Option (List ADef)) | .deferred l => some l | _ => none
noncomputable def ABlk.asIter : ABlk → Option (List Nat × Nat) | .siter s p => some (s, p) | _ => none

noncomputable def guardO {α : Type} (b : Bool) (x : Option α) : Option α := Bool.rec (motive := fun _ => Option α) none x b

noncomputable def undefA : AVal := .tup []
noncomputable def bytesN (s : ByteArray) : List Nat := s.data.toList.map UInt8.toNat
noncomputable def ofScalar : Value → Option AVal
  | .bool b => some (.bool b)
  | .int k n => some (.int k n)
  | .string s => some (.str (bytesN s))
  | .pointer none => some .nilptr
  | .slice none 0 0 => some .nilslice
  | .map none => some .nilmap
  | .nilFunc => some .nilfunc
  | .nilIface => some .niliface
  | _ => none
noncomputable def asAggV : Value → Option (Array Value)
  | .agg cs => some cs
  | _ => none
noncomputable def ofConst (v : Value) : Option AVal :=
  match asAggV v with
  | some cs => ob (lmapM ofScalar cs.toList) fun l => some (.agg l)
  | none => ofScalar v

/- OPERANDS -/
/-- What an operation's operands are read from: the slots; in a region that draws, the operation's own slots alone, some of them as they were before it. -/
inductive Env where
  | now (tm : Tm)
  | mixed (tm old : Tm) (olds names : List Nat)

noncomputable def memNat (i : Nat) (l : List Nat) : Bool := List.rec (motive := fun _ => Bool) false (fun j _ g => bif Nat.beq i j then true else g) l
noncomputable def xTmp (t : Nat) (e : Env) : Option AVal :=
  match e with
  | .now tm => tm.get t
  | .mixed tm old olds names => bif memNat t names then Tm.get (bif memNat t olds then old else tm) t else none
noncomputable def xConst (v : Value) (_ : Env) : Option AVal := ofConst v
noncomputable def xGlobal (g : Nat) (_ : Env) : Option AVal := bif Nat.blt g 256 then some (.ptr g 0) else none
noncomputable def xFunc (f : Nat) (_ : Env) : Option AVal := some (.func (.func f) [] [])
structure EB where f : Env → Option AVal
/-- (in a box of its own: the kernel looks a closed box up) -/
noncomputable def evB : Operand → EB
  | .tmp t => ⟨xTmp t⟩
  | .const v => ⟨xConst v⟩
  | .global g => ⟨xGlobal g⟩
  | .func f => ⟨xFunc f⟩
noncomputable def ev (x : Operand) (e : Env) : Option AVal := (evB x).f e
noncomputable def evs (l : List Operand) (e : Env) : Option (List AVal) := lmapM (fun x => ev x e) l
noncomputable def evo (x : Option Operand) (e : Env) : Option (Option AVal) :=
  match x with
  | none => some none
  | some x => ob (ev x e) fun v => some (some v)
noncomputable def evp (l : List (Nat × Operand)) (e : Env) : Option (List (Nat × AVal)) := lmapM (fun x => ob (ev x.2 e) fun v => some (x.1, v)) l

noncomputable def blkCells (H : AHeap) (b : Nat) : Option (Tr AVal × Nat × Option Nat) := ob (H.t.get b) ABlk.asCells
noncomputable def blkMap (H : AHeap) (b : Nat) : Option (List (AVal × AVal)) := ob (H.t.get b) ABlk.asMap

noncomputable def loadA (ty : ATy) (c : Tr AVal) (off : Nat) : Option AVal :=
  bif ty.desc.isAgg then ob (c.many ty.size off) fun l => some (.agg l) else c.get off
noncomputable def partA (C : Ctx) (t : Nat) (l : List AVal) (off : Nat) : Option AVal :=
  ob (C.tys.get t) fun ty => bif ty.desc.isAgg then some (.agg (ltake (ldrop l off) ty.size)) else lget l off
noncomputable def zeroA (ty : ATy) : AVal :=
  bif ty.desc.isAgg then .agg ty.zero else match ty.zero with
    | v :: _ => v
    | [] => undefA

noncomputable def lessStr (a : List Nat) : List Nat → Bool :=
  List.rec (motive := fun _ => List Nat → Bool) (fun b => !b.isEmpty)
    (fun x _ g b => List.rec (motive := fun _ => Bool) false (fun y b _ => bif Nat.blt x y then true else bif Nat.beq x y then g b else false) b) a

/- equality, by the type -/
noncomputable def eqBool (a b : AVal) : Option Bool := ob a.asBool fun x => ob b.asBool fun y => some (bEq x y)
noncomputable def eqInt (a b : AVal) : Option Bool := ob a.asIntK fun x => ob b.asIntK fun y => guardO (kEq x.1 y.1) (some (iEq x.2 y.2))
noncomputable def eqString (a b : AVal) : Option Bool := ob a.asStr fun x => ob b.asStr fun y => some (eqStr x y)
/-- one of two kinds of constructors: nil and not nil; both not nil: not told -/
noncomputable def eqNil (n m : Nat) (a b : AVal) : Option Bool :=
  bif Nat.beq a.tag n then (bif Nat.beq b.tag n then some true else guardO (Nat.beq b.tag m) (some false))
  else guardO (Nat.beq a.tag m && Nat.beq b.tag n) (some false)
noncomputable def eqNone (_ _ : AVal) : Option Bool := none
noncomputable def eqBase : ADesc → AVal → AVal → Option Bool
  | .bool => eqBool
  | .int _ => eqInt
  | .string => eqString
  | .ptr _ => eqNil 3 4
  | .iface => eqNil 12 11
  | .slice _ => eqNil 5 6
  | .map _ _ => eqNil 7 8
  | .func => eqNil 10 9
  | .arr _ _ => eqNone
  | .struct _ => eqNone
  | .other => eqNone
noncomputable def aeqFs (C : Ctx) (eq : Nat → AVal → AVal → Option Bool) (xs ys : List AVal) : List (Nat × Nat × Nat) → Option Bool
  | [] => some true
  | f :: fs => ob (partA C f.2.1 xs f.1) fun a => ob (partA C f.2.1 ys f.1) fun b => ob (eq f.2.1 a b) fun r => bif r then aeqFs C eq xs ys fs else some false
noncomputable def aeq (C : Ctx) : Nat → Nat → AVal → AVal → Option Bool
  | 0, _, _, _ => none
  | d + 1, t, x, y => ob (C.tys.get t) fun ty =>
    match ty.desc.asStruct with
    | some fs => guardO ty.eqOk (ob x.asAgg fun xs => ob y.asAgg fun ys => aeqFs C (aeq C d) xs ys fs)
    | none => eqBase ty.desc x y

noncomputable def someV (v : AVal) : Option AVal := some v
noncomputable def iAdd (k : IntKind) (a b : Int) : Option AVal := some (.int k (wrapF k (a + b)))
noncomputable def iSub (k : IntKind) (a b : Int) : Option AVal := some (.int k (wrapF k (a - b)))
noncomputable def iMul (k : IntKind) (a b : Int) : Option AVal := some (.int k (wrapF k (a * b)))
noncomputable def iQuo (k : IntKind) (a b : Int) : Option AVal := bif iEq b 0 then none else some (.int k (wrapF k (a.tdiv b)))
noncomputable def iRem (k : IntKind) (a b : Int) : Option AVal := bif iEq b 0 then none else some (.int k (a.tmod b))
noncomputable def iBits (f : Nat → Nat → Nat) (k : IntKind) (a b : Int) : Option AVal := ob (natOf a) fun x => ob (natOf b) fun y => guardO (Nat.blt x (kHi k) && Nat.blt y (kHi k)) (some (.int k (.ofNat (f x y))))
noncomputable def iEql (_ : IntKind) (a b : Int) : Option AVal := some (.bool (iEq a b))
noncomputable def iNeq (_ : IntKind) (a b : Int) : Option AVal := some (.bool (!iEq a b))
noncomputable def iLss (_ : IntKind) (a b : Int) : Option AVal := some (.bool (iLt a b))
noncomputable def iLeq (_ : IntKind) (a b : Int) : Option AVal := some (.bool (iLe a b))
noncomputable def iGtr (_ : IntKind) (a b : Int) : Option AVal := some (.bool (iLt b a))
noncomputable def iGeq (_ : IntKind) (a b : Int) : Option AVal := some (.bool (iLe b a))
noncomputable def iNone (_ : IntKind) (_ _ : Int) : Option AVal := none
structure IB where f : IntKind → Int → Int → Option AVal
noncomputable def binInt : BinOp → IB
  | .add => ⟨iAdd⟩ | .sub => ⟨iSub⟩ | .mul => ⟨iMul⟩ | .quo => ⟨iQuo⟩ | .rem => ⟨iRem⟩
  | .and => ⟨iBits Nat.land⟩ | .or => ⟨iBits Nat.lor⟩ | .xor => ⟨iBits Nat.xor⟩
  | .eql => ⟨iEql⟩ | .neq => ⟨iNeq⟩ | .lss => ⟨iLss⟩ | .leq => ⟨iLeq⟩ | .gtr => ⟨iGtr⟩ | .geq => ⟨iGeq⟩
  | _ => ⟨iNone⟩
noncomputable def sAdd (a b : List Nat) : Option AVal := guardO (Nat.blt (llen a + llen b) 4611686018427387904) (some (.str (lapp a b)))
noncomputable def sEql (a b : List Nat) : Option AVal := some (.bool (eqStr a b))
noncomputable def sNeq (a b : List Nat) : Option AVal := some (.bool (!eqStr a b))
noncomputable def sLss (a b : List Nat) : Option AVal := some (.bool (lessStr a b))
noncomputable def sNone (_ _ : List Nat) : Option AVal := none
structure SB where f : List Nat → List Nat → Option AVal
noncomputable def binStr : BinOp → SB
  | .add => ⟨sAdd⟩ | .eql => ⟨sEql⟩ | .neq => ⟨sNeq⟩ | .lss => ⟨sLss⟩
  | _ => ⟨sNone⟩
noncomputable def isConstO : Operand → Bool
  | .const _ => true
  | _ => false
noncomputable def shiftN (k : IntKind) (b : Int) : Option Nat := ob (natOf b) fun n => some (min n k.bits)
noncomputable def iShl (k : IntKind) (a b : Int) : Option AVal := ob (shiftN k b) fun n => some (.int k (wrapF k (a * .ofNat (2 ^ n))))
noncomputable def iShr (k : IntKind) (a b : Int) : Option AVal := ob (shiftN k b) fun n => some (.int k (a.fdiv (.ofNat (2 ^ n))))
noncomputable def binShift (f : IntKind → Int → Int → Option AVal) (a b : AVal) : Option AVal := ob a.asIntK fun x => ob b.asInt fun y => f x.1 x.2 y
noncomputable def eqlGuard (x y : Operand) (a b : AVal) : Bool :=
  bif Nat.beq a.tag 12 && Nat.beq b.tag 12 then isConstO x || isConstO y else true
noncomputable def binOther (neg : Bool) (C : Ctx) (t : Nat) (x y : Operand) (a b : AVal) : Option AVal :=
  guardO (eqlGuard x y a b) (ob (aeq C 20 t a b) fun r => some (.bool (bif neg then !r else r)))
noncomputable def binNo (_ : Ctx) (_ : Nat) (_ _ : Operand) (_ _ : AVal) : Option AVal := none
structure BB where f : Ctx → Nat → Operand → Operand → AVal → AVal → Option AVal
noncomputable def binRest : BinOp → BB
  | .eql => ⟨binOther false⟩
  | .neq => ⟨binOther true⟩
  | _ => ⟨binNo⟩
noncomputable def binPlain (op : BinOp) (C : Ctx) (t : Nat) (x y : Operand) (a b : AVal) : Option AVal :=
  match a.asIntK with
  | some i => ob b.asIntK fun j => guardO (kEq i.1 j.1) ((binInt op).f i.1 i.2 j.2)
  | none => match a.asStr with
    | some s => ob b.asStr fun u => (binStr op).f s u
    | none => (binRest op).f C t x y a b
noncomputable def binShl (_ : Ctx) (_ : Nat) (_ _ : Operand) (a b : AVal) : Option AVal := binShift iShl a b
noncomputable def binShr (_ : Ctx) (_ : Nat) (_ _ : Operand) (a b : AVal) : Option AVal := binShift iShr a b
noncomputable def binA : BinOp → BB
  | .shl => ⟨binShl⟩
  | .shr => ⟨binShr⟩
  | op => ⟨binPlain op⟩

noncomputable def unNeg (a : AVal) : Option AVal := ob a.asIntK fun x => some (.int x.1 (wrapF x.1 (0 - x.2)))
noncomputable def unNot (a : AVal) : Option AVal := ob a.asBool fun b => some (.bool (!b))
noncomputable def unNone (_ : AVal) : Option AVal := none
structure UB where f : AVal → Option AVal
noncomputable def unA : UnOp → UB
  | .neg => ⟨unNeg⟩
  | .not => ⟨unNot⟩
  | _ => ⟨unNone⟩

noncomputable def byteOfA (v : AVal) : Option Nat := ob v.asIntK fun x => guardO (kEq x.1 .u8) (ob (natOf x.2) fun n => guardO (Nat.blt n 256) (some n))
/-- conversions that make no memory -/
noncomputable def convBytes (H : AHeap) (a : AVal) : Option AVal :=
  match a.asSlice with
  | some x => ob (blkCells H x.1) fun c => ob (c.1.many x.2.2.1 x.2.1) fun l => ob (lmapM byteOfA l) fun r => some (.str r)
  | none => guardO (Nat.beq a.tag 5) (some (.str []))
noncomputable def convA (C : Ctx) (s d : ATy) (a : AVal) (H : AHeap) : Option AVal :=
  match d.desc.asInt with
  | some k => ob a.asInt fun n => some (.int k (wrapF k n))
  | none => guardO d.desc.isString (bif Nat.beq a.tag 2 then some a else
      ob s.desc.asSlice fun e => ob (C.tys.get e) fun et => ob et.desc.asInt fun k => guardO (kEq k .u8) (convBytes H a))

noncomputable def boundA (y : Nat) (v : AVal) : Option Nat := ob v.asNat fun n => guardO (Nat.ble n y) (some n)
noncomputable def boundO (y dflt : Nat) (v : Option AVal) : Option Nat :=
  match v with
  | some v => boundA y v
  | none => some dflt
/-- low, high -/
noncomputable def boundsA (len cap : Nat) (lo hi : Option AVal) : Option (Nat × Nat) :=
  ob (boundO cap len hi) fun h => ob (boundO h 0 lo) fun l => some (l, h)
/-- may a slice of the block be cut there? a loose block: by its own elements, not at the end -/
noncomputable def sliceFits (H : AHeap) (b size cap l : Nat) (arr : Bool) : Bool :=
  match blkCells H b with
  | some c => match c.2.2 with
    | none => true
    | some es => !arr && Nat.beq es size && (!Nat.beq cap l || Nat.beq l 0)
  | none => false
noncomputable def sliceRow (C : Ctx) (H : AHeap) (arr : Bool) (e b off len cap : Nat) (lo hi : Option AVal) : Option AVal :=
  ob (C.tys.get e) fun et => ob (boundsA len cap lo hi) fun x =>
    guardO (Nat.ble x.2 cap && sliceFits H b et.size cap x.1 arr) (some (.slice b (bif Nat.beq cap x.1 then off else off + x.1 * et.size) (x.2 - x.1) (cap - x.1)))
noncomputable def sliceStr (s : List Nat) (lo hi : Option AVal) : Option AVal :=
  let n := llen s
  ob (boundsA n n lo hi) fun x => some (.str (ldrop (ltake s x.2) x.1))
noncomputable def sliceA (C : Ctx) (H : AHeap) (ty : ATy) (x : AVal) (lo hi : Option AVal) : Option AVal :=
  match x.asStr with
  | some s => guardO ty.desc.isString (sliceStr s lo hi)
  | none => match x.asSlice with
    | some r => ob ty.desc.asSlice fun e => sliceRow C H false e r.1 r.2.1 r.2.2.1 r.2.2.2 lo hi
    | none => match x.asPtr with
      | some p => ob ty.desc.asArr fun a => sliceRow C H true a.2 p.1 p.2 a.1 a.1 lo hi
      | none => guardO (Nat.beq x.tag 5) (ob ty.desc.asSlice fun e => ob (C.tys.get e) fun _ => ob (boundsA 0 0 lo hi) fun _ => some .nilslice)

noncomputable def fillOne (cells : List AVal) (off size : Nat) (v : AVal) : Option (List AVal) :=
  let vc := v.cells
  let n := llen vc
  guardO (Nat.beq n size && Nat.ble (off + n) (llen cells)) (some (lapp (ltake cells off) (lapp vc (ldrop cells (off + n)))))
noncomputable def fillA (place : Nat → Option (Nat × Nat)) : List (Nat × AVal) → List AVal → Option (List AVal)
  | [], cells => some cells
  | p :: rest, cells => ob (place p.1) fun q => ob (fillOne cells q.1 q.2 p.2) fun cells => fillA place rest cells

noncomputable def isKeyDesc (d : ADesc) : Bool := Nat.ble d.tag 2
/-- does the key fit the map's key type? -/
noncomputable def keyTag (v : AVal) : Nat := v.tag
noncomputable def keyFit (d : ADesc) (v : AVal) : Bool := Nat.beq d.tag (keyTag v)
noncomputable def keyEq (a b : AVal) : Option Bool :=
  match a.asIntK with
  | some x => ob b.asIntK fun y => guardO (kEq x.1 y.1) (some (iEq x.2 y.2))
  | none => match a.asStr with
    | some x => ob b.asStr fun y => some (eqStr x y)
    | none => eqBool a b
noncomputable def findA (k : AVal) : List (AVal × AVal) → Option (Option AVal)
  | [] => some none
  | e :: l => ob (keyEq k e.1) fun r => bif r then some (some e.2) else findA k l
noncomputable def setMapA (k v : AVal) : List (AVal × AVal) → Option (List (AVal × AVal))
  | [] => some [(k, v)]
  | e :: l => ob (keyEq k e.1) fun r => bif r then some ((k, v) :: l) else ob (setMapA k v l) fun l => some (e :: l)

/- THE OPERATIONS THAT CHANGE NO MEMORY -/
abbrev LOp := Ctx → Env → AHeap → Option AVal
noncomputable def lNone : LOp := fun _ _ _ => none
noncomputable def lMove (x : Operand) : LOp := fun _ e _ => ev x e
noncomputable def lPick (c a b : Operand) : LOp := fun _ e _ => ob (ev c e) fun c => ob c.asBool fun c => bif c then ev a e else ev b e
noncomputable def lLoad (t : Nat) (a : Operand) : LOp := fun C e H => ob (ev a e) fun v => ob v.asPtr fun p => ob (C.tys.get t) fun ty => ob (blkCells H p.1) fun c => loadA ty c.1 p.2
noncomputable def lNil (x : Operand) : LOp := fun _ e _ => ob (ev x e) fun v => guardO (Nat.beq v.tag 4 || Nat.beq v.tag 9) (some v)
noncomputable def lBin (op : BinOp) (t : Nat) (x y : Operand) : LOp := fun C e _ => ob (ev x e) fun a => ob (ev y e) fun b => (binA op).f C t x y a b
noncomputable def lUn (op : UnOp) (x : Operand) : LOp := fun _ e _ => ob (ev x e) fun a => (unA op).f a
noncomputable def lConv (s d : Nat) (x : Operand) : LOp := fun C e H => ob (ev x e) fun a => ob (C.tys.get s) fun s => ob (C.tys.get d) fun d => convA C s d a H
noncomputable def lIface (t : Nat) (x : Operand) : LOp := fun C e _ => ob (C.tys.get t) fun ty => guardO (Nat.blt ty.desc.tag 9) (ob (ev x e) fun v => some (.iface t v))
noncomputable def lFunc (f : Nat) (a b : Array Operand) : LOp := fun _ e _ => ob (evs a.toList e) fun a => ob (evs b.toList e) fun b => some (.func (.func f) a b)
structure LB where f : LOp
noncomputable def lFuncOf (fn : Fn) (a b : Array Operand) : LB :=
  match fn with
  | .func f => ⟨lFunc f a b⟩
  | _ => ⟨lNone⟩
noncomputable def lSlice (t : Nat) (x : Operand) (lo hi : Option Operand) : LOp := fun C e H =>
  ob (ev x e) fun a => ob (evo lo e) fun l => ob (evo hi e) fun h => ob (C.tys.get t) fun ty => sliceA C H ty a l h
noncomputable def lSliceOf (t : Nat) (x : Operand) (lo hi mx : Option Operand) : LB :=
  match mx with
  | none => ⟨lSlice t x lo hi⟩
  | some _ => ⟨lNone⟩
noncomputable def lFieldAddr (s : Nat) (x : Operand) (f : Nat) : LOp := fun C e _ =>
  ob (C.tys.get s) fun ty => ob ty.desc.asStruct fun fs => ob (lget fs f) fun fd => guardO (!Nat.beq fd.2.2 0) (ob (ev x e) fun v => ob v.asPtr fun p => some (.ptr p.1 (p.2 + fd.1)))
noncomputable def lField (t : Nat) (x : Operand) (f : Nat) : LOp := fun C e _ =>
  ob (C.tys.get t) fun ty => ob ty.desc.asStruct fun fs => ob (lget fs f) fun fd => ob (ev x e) fun v => ob v.asAgg fun l => partA C fd.2.1 l fd.1
noncomputable def lIndexAddr (t : Nat) (x i : Operand) : LOp := fun C e _ =>
  ob (C.tys.get t) fun ty => ob (ev x e) fun v => ob (ev i e) fun i => ob i.asNat fun i =>
    match v.asSlice with
    | some s => ob ty.desc.asSlice fun el => ob (C.tys.get el) fun et => guardO (Nat.blt i s.2.2.1) (some (.ptr s.1 (s.2.1 + i * et.size)))
    | none => ob v.asPtr fun p => ob ty.desc.asArr fun a => ob (C.tys.get a.2) fun et => guardO (Nat.blt i a.1) (some (.ptr p.1 (p.2 + i * et.size)))
noncomputable def lIndex (t : Nat) (x i : Operand) : LOp := fun C e _ =>
  ob (C.tys.get t) fun ty => ob (ev x e) fun v => ob (ev i e) fun i => ob i.asNat fun i =>
    match v.asStr with
    | some s => guardO ty.desc.isString (ob (lget s i) fun b => some (.int .u8 (.ofNat b)))
    | none => ob v.asAgg fun l => ob ty.desc.asArr fun a => ob (C.tys.get a.2) fun et => guardO (Nat.blt i a.1) (partA C a.2 l (i * et.size))
noncomputable def lExtract (t : Operand) (i : Nat) : LOp := fun _ e _ => ob (ev t e) fun v => ob v.asTup fun l => lget l i
noncomputable def lBuild (t : Nat) (parts : Array (Nat × Operand)) : LOp := fun C e _ =>
  ob (C.tys.get t) fun ty => ob (evp parts.toList e) fun ps =>
    match ty.desc.asStruct with
    | some fs => ob (fillA (fun i => ob (lget fs i) fun x => some (x.1, x.2.2)) ps ty.zero) fun l => some (.agg l)
    | none => ob ty.desc.asArr fun a => ob (C.tys.get a.2) fun et => ob (fillA (fun i => some (i * et.size, et.size)) ps ty.zero) fun l => some (.agg l)
noncomputable def lAssert (x : Operand) (asserted : Nat) (ok : Bool) : LOp := fun C e _ =>
  ob (C.tys.get asserted) fun ty => guardO (Nat.blt ty.desc.tag 9) (ob (ev x e) fun v =>
    match v.asIface with
    | some p => bif Nat.beq p.1 asserted then some (bif ok then .tup [p.2, .bool true] else p.2) else guardO ok (some (.tup [zeroA ty, .bool false]))
    | none => guardO (Nat.beq v.tag 12 && ok) (some (.tup [zeroA ty, .bool false])))
noncomputable def mapOf (H : AHeap) (v : AVal) : Option (List (AVal × AVal)) :=
  match v.asMap with
  | some b => blkMap H b
  | none => guardO (Nat.beq v.tag 7) (some [])
noncomputable def lLookup (t : Nat) (x i : Operand) (ok : Bool) : LOp := fun C e H =>
  ob (C.tys.get t) fun ty => ob ty.desc.asMap fun ke => ob (C.tys.get ke.1) fun kty => guardO (isKeyDesc kty.desc) (ob (C.tys.get ke.2) fun ety =>
    ob (ev x e) fun m => ob (mapOf H m) fun es => ob (ev i e) fun k => guardO (keyFit kty.desc k) (ob (findA k es) fun r =>
      match r with
      | some v => some (bif ok then .tup [v, .bool true] else v)
      | none => some (bif ok then .tup [zeroA ety, .bool false] else zeroA ety)))
noncomputable def lenA (H : AHeap) (ty : ATy) (v : AVal) : Option Nat :=
  match v.asStr with
  | some s => guardO ty.desc.isString (some (llen s))
  | none => match v.asSlice with
    | some s => guardO (Nat.beq ty.desc.tag 4) (some s.2.2.1)
    | none => match ty.desc.asArr with
      | some a => some a.1
      | none => match v.asMap with
        | some b => guardO (Nat.beq ty.desc.tag 6) (ob (blkMap H b) fun l => some (llen l))
        | none => guardO ((Nat.beq ty.desc.tag 4 && Nat.beq v.tag 5) || (Nat.beq ty.desc.tag 6 && Nat.beq v.tag 7)) (some 0)
noncomputable def lLen (c : Call) : LOp := fun C e H =>
  ob (lget c.argTypes.toList 0) fun t => ob (lget c.args.toList 0) fun x => ob (C.tys.get t) fun ty => ob (ev x e) fun v => ob (lenA H ty v) fun n => some (.int .i64 (.ofNat n))
noncomputable def two (c : Call) (e : Env) : Option (AVal × AVal) :=
  match c.args.toList with
  | [x, y] => ob (ev x e) fun a => ob (ev y e) fun b => some (a, b)
  | _ => none
noncomputable def lMax (c : Call) : LOp := fun _ e _ => ob (two c e) fun p => ob p.1.asIntK fun x => ob p.2.asIntK fun y => some (.int x.1 (bif iLt x.2 y.2 then y.2 else x.2))
noncomputable def lMin (c : Call) : LOp := fun _ e _ => ob (two c e) fun p => ob p.1.asIntK fun x => ob p.2.asIntK fun y => some (.int x.1 (bif iLt y.2 x.2 then y.2 else x.2))
noncomputable def lBuiltin (c : Call) : Builtin → LB
  | .len => ⟨lLen c⟩
  | .max => ⟨lMax c⟩
  | .min => ⟨lMin c⟩
  | _ => ⟨lNone⟩
noncomputable def lCallee (c : Call) : Callee → LB
  | .builtin b => lBuiltin c b
  | _ => ⟨lNone⟩
noncomputable def lCall (c : Call) : LB := lCallee c c.callee
noncomputable def alight : Op → LB
  | .move x => ⟨lMove x⟩
  | .assign x => ⟨lMove x⟩
  | .pick c a b => ⟨lPick c a b⟩
  | .load t a => ⟨lLoad t a⟩
  | .nilCheck x => ⟨lNil x⟩
  | .binOp op t x y _ => ⟨lBin op t x y⟩
  | .unOp op _ x => ⟨lUn op x⟩
  | .convert s d x => ⟨lConv s d x⟩
  | .makeInterface t x => ⟨lIface t x⟩
  | .makeFunc fn a b => lFuncOf fn a b
  | .slice t x lo hi mx => lSliceOf t x lo hi mx
  | .fieldAddr s x f => ⟨lFieldAddr s x f⟩
  | .field t x f => ⟨lField t x f⟩
  | .indexAddr t x i => ⟨lIndexAddr t x i⟩
  | .index t x i => ⟨lIndex t x i⟩
  | .extract t i => ⟨lExtract t i⟩
  | .build t ps => ⟨lBuild t ps⟩
  | .typeAssert x _ u ok => ⟨lAssert x u ok⟩
  | .lookup t x i ok => ⟨lLookup t x i ok⟩
  | .call c => lCall c
  | _ => ⟨lNone⟩

/-- what an operation comes to -/
inductive ARes where
  | val (v : AVal) (H : AHeap)
  | enter (f : Nat) (args : List AVal)
  | round (l : Nat) (args : List AVal)
  | defer (d : ADef)
  | panic (v : AVal)
  | recover
  | fail

abbrev HOp := Ctx → Env → AHeap → ARes
structure HB where f : HOp
noncomputable def resV (x : Option (AVal × AHeap)) : ARes :=
  match x with
  | some p => .val p.1 p.2
  | none => .fail
noncomputable def resR (x : Option ARes) : ARes :=
  match x with
  | some r => r
  | none => .fail
noncomputable def lv (f : LOp) : HOp := fun C e H =>
  match f C e H with
  | some v => .val v H
  | none => .fail

noncomputable def newBlk (H : AHeap) (b : ABlk) : AHeap := ⟨H.next + 1, H.t.set H.next b⟩
noncomputable def newCells (H : AHeap) (l : List AVal) (loose : Option Nat) : AHeap := newBlk H (.cells (Tr.ofList l) (llen l) loose)
noncomputable def setBlk (H : AHeap) (b : Nat) (x : ABlk) : AHeap := ⟨H.next, H.t.set b x⟩

noncomputable def repA (zero : List AVal) : Nat → List AVal
  | 0 => []
  | n + 1 => lapp zero (repA zero n)

noncomputable def lenOfA (v : AVal) : Option Nat :=
  match v.asSlice with
  | some s => some s.2.2.1
  | none => match v.asStr with
    | some s => some (llen s)
    | none => guardO (Nat.beq v.tag 5) (some 0)

noncomputable def byteVals (l : List Nat) : List AVal := l.map fun n => AVal.int .u8 (Int.ofNat n)
noncomputable def firstA (H : AHeap) (size n : Nat) (v : AVal) : Option (List AVal) :=
  match v.asSlice with
  | some s => ob (blkCells H s.1) fun c => c.1.many (n * size) s.2.1
  | none => match v.asStr with
    | some s => some (byteVals (ltake s n))
    | none => guardO (Nat.beq v.tag 5) (some [])

noncomputable def storeA (C : Ctx) (H : AHeap) (b off : Nat) (l : List AVal) : Option AHeap :=
  guardO (!Nat.blt b C.base) (ob (blkCells H b) fun c =>
    guardO (Nat.ble (off + llen l) c.2.1 && lall AVal.one l) (some (setBlk H b (.cells (c.1.setMany l off) c.2.1 c.2.2))))

/-- are the numbers small, and is the element's zero of its size? -/
noncomputable def growOk (et : ATy) (len cap n : Nat) (new : List AVal) : Bool :=
  Nat.blt (len + n + cap) 1000000000 && Nat.blt ((len + n + cap) * et.bytes) 1000000000 && Nat.blt et.bytes 1000000000 && !Nat.beq et.size 0 && Nat.beq (llen new) (n * et.size) && Nat.beq (llen et.zero) et.size
noncomputable def growNil (H : AHeap) (et : ATy) (n : Nat) (new : List AVal) : Option (AVal × AHeap) :=
  bif Nat.beq n 0 then some (.nilslice, H) else
    guardO (growOk et 0 0 n new) (some (.slice H.next 0 n n, newCells H new (some et.size)))
/-- in the room that is there -/
noncomputable def growRoom (C : Ctx) (H : AHeap) (et : ATy) (n : Nat) (new : List AVal) (s : Nat × Nat × Nat × Nat) : Option (AVal × AHeap) :=
  match new with
  | [] => some (.slice s.1 s.2.1 (s.2.2.1 + n) s.2.2.2, H)
  | _ :: _ => ob (storeA C H s.1 (s.2.1 + s.2.2.1 * et.size) new) fun H' => some (.slice s.1 s.2.1 (s.2.2.1 + n) s.2.2.2, H')
/-- beyond it: a tight block is copied; a loose one is given up, for it may have had the room -/
noncomputable def growTight (H : AHeap) (et : ATy) (n : Nat) (new : List AVal) (s : Nat × Nat × Nat × Nat) (c : Tr AVal) : Option (AVal × AHeap) :=
  ob (c.many (s.2.2.1 * et.size) s.2.1) fun old => some (.slice H.next 0 (s.2.2.1 + n) (s.2.2.1 + n), newCells H (lapp old new) (some et.size))
noncomputable def growLoose (C : Ctx) (H : AHeap) (et : ATy) (n : Nat) (new : List AVal) (s : Nat × Nat × Nat × Nat) (c : Tr AVal) (m es : Nat) : Option (AVal × AHeap) :=
  guardO (Nat.beq s.2.1 0 && Nat.beq es et.size && Nat.ble (s.2.2.1 * es) m && Nat.ble m ((s.2.2.1 + n) * es) && lall AVal.one new && !Nat.blt s.1 C.base)
    (some (.slice H.next 0 (s.2.2.1 + n) (s.2.2.1 + n), ⟨H.next + 1, (H.t.del s.1).set H.next (.cells (c.setMany new (s.2.2.1 * es)) ((s.2.2.1 + n) * es) (some es))⟩))
noncomputable def growNew (C : Ctx) (H : AHeap) (et : ATy) (n : Nat) (new : List AVal) (s : Nat × Nat × Nat × Nat) : Option (AVal × AHeap) :=
  guardO (growOk et s.2.2.1 s.2.2.2 n new) (ob (blkCells H s.1) fun c =>
    match c.2.2 with
    | none => growTight H et n new s c.1
    | some es => growLoose C H et n new s c.1 c.2.1 es)
noncomputable def appendA (C : Ctx) (H : AHeap) (ty : ATy) (s x : AVal) : Option (AVal × AHeap) :=
  ob ty.desc.asSlice fun e => ob (C.tys.get e) fun et => ob (lenOfA x) fun n => ob (firstA H et.size n x) fun new =>
    match s.asSlice with
    | some s => bif Nat.ble (s.2.2.1 + n) s.2.2.2 then growRoom C H et n new s else growNew C H et n new s
    | none => guardO (Nat.beq s.tag 5) (growNil H et n new)

noncomputable def hAlloc (t : Nat) : HOp := fun C _ H => resV (ob (C.tys.get t) fun ty => some (.ptr H.next 0, newCells H ty.zero none))
noncomputable def hBox (x : Operand) : HOp := fun _ e H => resV (ob (ev x e) fun v => some (.ptr H.next 0, newCells H v.cells none))
noncomputable def hBuildSlice (t len : Nat) (parts : Array (Nat × Operand)) : HOp := fun C e H => resV (ob (C.tys.get t) fun ty => ob ty.desc.asSlice fun el => ob (C.tys.get el) fun et =>
  guardO (Nat.blt (len * et.size) 1000000 && Nat.beq (llen et.zero) et.size) (ob (evp parts.toList e) fun ps => ob (fillA (fun i => some (i * et.size, et.size)) ps (repA et.zero len)) fun l => some (.slice H.next 0 len len, newCells H l none)))
noncomputable def hStore (t : Nat) (a x : Operand) : HOp := fun C e H => resV (ob (C.tys.get t) fun ty => ob (ev a e) fun a => ob a.asPtr fun p => ob (ev x e) fun v =>
  let l := v.cells
  guardO (Nat.beq (llen l) ty.size) (ob (storeA C H p.1 p.2 l) fun H' => some (undefA, H')))
noncomputable def hMakeMap (r : Option Operand) : HOp := fun _ _ H =>
  match r with
  | none => .val (.map H.next) (newBlk H (.map []))
  | some _ => .fail
noncomputable def hUpdate (t : Nat) (m k x : Operand) : HOp := fun C e H => resV (ob (C.tys.get t) fun ty => ob ty.desc.asMap fun ke => ob (C.tys.get ke.1) fun kty => guardO (isKeyDesc kty.desc)
  (ob (ev m e) fun m => ob m.asMap fun b => guardO (!Nat.blt b C.base) (ob (blkMap H b) fun l => ob (ev k e) fun k => guardO (keyFit kty.desc k) (ob (ev x e) fun v => ob (setMapA k v l) fun l' => some (undefA, setBlk H b (.map l'))))))
noncomputable def hMakeSlice (t : Nat) (l c : Operand) : HOp := fun C e H => resV (ob (C.tys.get t) fun ty => ob ty.desc.asSlice fun el => ob (C.tys.get el) fun et =>
  ob (ev l e) fun l => ob l.asNat fun l => ob (ev c e) fun c => ob c.asNat fun c =>
    guardO (Nat.ble l c && Nat.blt c 1000000 && Nat.blt (c * et.bytes) 1000000000 && Nat.beq (llen et.zero) et.size) (some (.slice H.next 0 l c, newCells H (repA et.zero c) none)))
noncomputable def hConvert (s d : Nat) (x : Operand) : HOp := fun C e H =>
  match lConv s d x C e H with
  | some v => .val v H
  | none => resV (ob (C.tys.get s) fun _ => ob (C.tys.get d) fun ty => ob ty.desc.asSlice fun el => ob (C.tys.get el) fun et => ob et.desc.asInt fun k => guardO (kEq k .u8) (ob (ev x e) fun v => ob v.asStr fun l =>
      some (.slice H.next 0 (llen l) (llen l), newCells H (byteVals l) (some 1))))
noncomputable def hPanic (x : Operand) : HOp := fun _ e _ => resR (ob (ev x e) fun v => ob v.asIface fun p => some (.panic (.iface p.1 p.2)))
noncomputable def resolveA (f : Operand) (args : Array Operand) (e : Env) : Option (AFn × List AVal × List AVal) :=
  ob (ev f e) fun v => ob v.asFunc fun p => ob (evs args.toList e) fun as => some (p.1, lapp p.2.1 as, p.2.2)
noncomputable def hDeferOf (c : Call) : Callee → HB
  | .value f => ⟨fun _ e _ => resR (ob (resolveA f c.args e) fun p => some (.defer ⟨some p.1, 0, lapp p.2.1 p.2.2⟩))⟩
  | _ => ⟨fun _ _ _ => .fail⟩
noncomputable def hDefer (c : Call) : HB := hDeferOf c c.callee
noncomputable def hRange (t : Nat) (x : Operand) : HOp := fun C e H => resV (ob (C.tys.get t) fun ty => guardO ty.desc.isString (ob (ev x e) fun v => ob v.asStr fun s => some (.ptr H.next 0, newBlk H (.siter s 0))))
noncomputable def hNext (it : Operand) (isString : Bool) : HOp := fun _ e H => resV (guardO isString (ob (ev it e) fun v => ob v.asPtr fun p => guardO (Nat.beq p.2 0) (ob (ob (H.t.get p.1) ABlk.asIter) fun x =>
  match lget x.1 x.2 with
  | some c => guardO (Nat.blt c 128) (some (.tup [.bool true, .int .i64 (.ofNat x.2), .int .i32 (.ofNat c)], setBlk H p.1 (.siter x.1 (x.2 + 1))))
  | none => some (.tup [.bool false], H))))
noncomputable def callFn (_ : Ctx) (H : AHeap) (args : List AVal) (f : Nat) : Option (List AVal → AHeap → Option AVal) → ARes
  | some g => match g args H with
    | some v => .val v H
    | none => .fail
  | none => .enter f args
noncomputable def callYield (l : Nat) (args : List AVal) : List AVal → ARes
  | [] => .round l args
  | _ :: _ => .fail
noncomputable def callA (C : Ctx) (H : AHeap) (args cap : List AVal) : AFn → ARes
  | .func f => callFn C H (lapp args cap) f (C.prims.get f)
  | .yld l => callYield l args cap
noncomputable def hValue (f : Operand) (args : Array Operand) : HOp := fun C e H => resR (ob (resolveA f args e) fun p => some (callA C H p.2.1 p.2.2 p.1))
noncomputable def hAppend (c : Call) : HOp := fun C e H => resV (ob (lget c.argTypes.toList 0) fun t => ob (C.tys.get t) fun ty => ob (lget c.argTypes.toList 1) fun u => ob (C.tys.get u) fun uty =>
  guardO (!Nat.beq uty.desc.tag 1) (ob (two c e) fun p => appendA C H ty p.1 p.2))
noncomputable def copyTo (C : Ctx) (H : AHeap) (d : AVal) (n : Nat) (l : List AVal) : Option (AVal × AHeap) :=
  match d.asSlice with
  | some s => bif Nat.beq n 0 then some (.int .i64 0, H) else ob (storeA C H s.1 s.2.1 l) fun H' => some (.int .i64 (.ofNat n), H')
  | none => guardO (Nat.beq d.tag 5) (some (.int .i64 (.ofNat n), H))
noncomputable def hCopy (c : Call) : HOp := fun C e H => resV (ob (lget c.argTypes.toList 0) fun t => ob (C.tys.get t) fun ty => ob ty.desc.asSlice fun el => ob (C.tys.get el) fun et =>
  ob (two c e) fun p => ob (lenOfA p.1) fun dn => ob (lenOfA p.2) fun sn => ob (firstA H et.size (min sn dn) p.2) fun l => copyTo C H p.1 (min sn dn) l)
noncomputable def hFail : HOp := fun _ _ _ => .fail
noncomputable def hRecover : HOp := fun _ _ _ => .recover
noncomputable def hBuiltin (c : Call) : Builtin → HB
  | .append => ⟨hAppend c⟩
  | .len => ⟨lv (lLen c)⟩
  | .max => ⟨lv (lMax c)⟩
  | .min => ⟨lv (lMin c)⟩
  | .recover => ⟨hRecover⟩
  | _ => ⟨hFail⟩
noncomputable def hCallee (c : Call) : Callee → HB
  | .value f => ⟨hValue f c.args⟩
  | .builtin b => hBuiltin c b
  | _ => ⟨hFail⟩
noncomputable def hCall (c : Call) : HB := hCallee c c.callee
noncomputable def lvB (b : LB) : HB := ⟨lv b.f⟩

noncomputable def aop : Op → HB
  | .move x => ⟨lv (lMove x)⟩
  | .assign x => ⟨lv (lMove x)⟩
  | .pick c a b => ⟨lv (lPick c a b)⟩
  | .load t a => ⟨lv (lLoad t a)⟩
  | .nilCheck x => ⟨lv (lNil x)⟩
  | .binOp op t x y _ => ⟨lv (lBin op t x y)⟩
  | .unOp op _ x => ⟨lv (lUn op x)⟩
  | .makeInterface t x => ⟨lv (lIface t x)⟩
  | .makeFunc fn a b => lvB (lFuncOf fn a b)
  | .slice t x lo hi mx => lvB (lSliceOf t x lo hi mx)
  | .fieldAddr s x f => ⟨lv (lFieldAddr s x f)⟩
  | .field t x f => ⟨lv (lField t x f)⟩
  | .indexAddr t x i => ⟨lv (lIndexAddr t x i)⟩
  | .index t x i => ⟨lv (lIndex t x i)⟩
  | .extract t i => ⟨lv (lExtract t i)⟩
  | .build t ps => ⟨lv (lBuild t ps)⟩
  | .typeAssert x _ u ok => ⟨lv (lAssert x u ok)⟩
  | .lookup t x i ok => ⟨lv (lLookup t x i ok)⟩
  | .convert s d x => ⟨hConvert s d x⟩
  | .alloc t => ⟨hAlloc t⟩
  | .box _ x => ⟨hBox x⟩
  | .buildSlice t len ps => ⟨hBuildSlice t len ps⟩
  | .store t a x => ⟨hStore t a x⟩
  | .makeMap _ r => ⟨hMakeMap r⟩
  | .insert t m k x => ⟨hUpdate t m k x⟩
  | .mapUpdate t m k x => ⟨hUpdate t m k x⟩
  | .makeSlice t l c => ⟨hMakeSlice t l c⟩
  | .panic x => ⟨hPanic x⟩
  | .defer c => hDefer c
  | .call c => hCall c
  | _ => ⟨hFail⟩

/- FRAMES -/
/-- is the operation wanted? none: not known -/
structure GB where f : Tm → Option Bool
noncomputable def wantNow (_ : Tm) : Option Bool := some true
noncomputable def wantIf (d : Option Nat) (w : Bool) (tm : Tm) : Option Bool :=
  ob d fun d => ob (tm.get d) fun v => match v.asBool with
    | some b => some (bEq b w)
    | none => some false
noncomputable def wantB (g : Option (Nat × Bool)) (all : Array Oper) : GB :=
  match g with
  | none => ⟨wantNow⟩
  | some jw => ⟨wantIf (ob (lget all.toList jw.1) fun o => o.dst) jw.2⟩
noncomputable def wantedG (g : Option (Nat × Bool)) (all : Array Oper) (tm : Tm) : Option Bool := (wantB g all).f tm

structure PB where f : Nat → Tm → AVal → Tm
noncomputable def putAt (d n : Nat) (tm : Tm) (v : AVal) : Tm := bif Nat.blt d n then tm.set d v else tm
noncomputable def putNo (_ : Nat) (tm : Tm) (_ : AVal) : Tm := tm
noncomputable def putB (dst : Option Nat) : PB :=
  match dst with
  | some d => ⟨putAt d⟩
  | none => ⟨putNo⟩
noncomputable def putA (n : Nat) (tm : Tm) (dst : Option Nat) (v : AVal) : Tm := (putB dst).f n tm v

noncomputable def AMode.running : AMode → Bool | .run => true | _ => false
noncomputable def AItem.blockId : AItem → Option Nat | .inBlock id => some id | _ => none
noncomputable def exitToA (id : Nat) : List AItem → Option (List AItem)
  | [] => none
  | x :: k => match x.blockId with
    | some i => bif Nat.beq i id then some k else exitToA id k
    | none => exitToA id k

/-- the value comes back to the item at which a frame waits -/
noncomputable def finOps (all : Array Oper) (rest : List Oper) (k : List AItem) (tm : Tm) (R : FRest) (v : AVal) : Option AFrame :=
  match rest with
  | o :: rest => some ⟨.ops all rest :: k, putA R.n tm o.dst v, R⟩
  | [] => none
noncomputable def finReg (all : Array Oper) (old : Tm) (olds : List (Nat × List Nat)) (stages : List Stage) (k : List AItem) (tm : Tm) (R : FRest) (v : AVal) : Option AFrame :=
  match stages with
  | st :: stages => ob (lget all.toList st.heavy) fun o => some ⟨.reg all old olds (⟨all.size, st.lights, st.again⟩ :: stages) :: k, putA R.n tm o.dst v, R⟩
  | [] => none
noncomputable def finRange (l : Nat) (k : List AItem) (tm : Tm) (R : FRest) (_ : AVal) : Option AFrame := some ⟨.endRange l :: k, tm, R⟩
noncomputable def finBegin (k : List AItem) (tm : Tm) (R : FRest) (_ : AVal) : Option AFrame := some ⟨k, tm, R⟩
noncomputable def finNone (_ : List AItem) (_ : Tm) (_ : FRest) (_ : AVal) : Option AFrame := none
noncomputable def finItem : AItem → List AItem → Tm → FRest → AVal → Option AFrame
  | .ops all rest => finOps all rest
  | .reg all old olds stages => finReg all old olds stages
  | .inRange l => finRange l
  | .beginRound => finBegin
  | _ => finNone
noncomputable def finishA (fr : AFrame) (v : AVal) : Option AFrame :=
  match fr.todo with
  | [] => none
  | x :: k => bif fr.R.mode.running then finItem x k fr.tm fr.R v else none

noncomputable def enterA (C : Ctx) (f : Nat) (args : List AVal) (deferred : Bool) : Option AFrame :=
  ob (C.fns.get f) fun fn => ob fn.body fun c => ob (C.ks.get f) fun k => guardO (Nat.ble (llen args) k && Nat.ble (llen args) fn.ntmps) (some ⟨[.code c], ⟨k, Tr.ofList args, []⟩, ⟨f, fn.ntmps, [], .run, deferred, none⟩⟩)

noncomputable def setParamsA (n : Nat) : List Nat → List AVal → Tm → Option (Tm)
  | [], [], tm => some tm
  | p :: ps, a :: as, tm => setParamsA n ps as (putA n tm (some p) a)
  | _, _, _ => none

/-- the slots among the operands -/
noncomputable def tmpsIn : List Operand → List Nat
  | [] => []
  | .tmp t :: l => t :: tmpsIn l
  | _ :: l => tmpsIn l
noncomputable def namesOf (o : Op) : List Nat := tmpsIn o.operands.toList
noncomputable def oldOf (i : Nat) : List (Nat × List Nat) → List Nat
  | [] => []
  | x :: r => bif Nat.beq i x.1 then x.2 else oldOf i r

/-- equality of values, told only where it holds -/
noncomputable def same : Nat → AVal → AVal → Bool
  | _, .bool a, .bool b => bEq a b
  | _, .int j a, .int k b => kEq j k && iEq a b
  | _, .str a, .str b => eqStr a b
  | _, .nilptr, .nilptr => true
  | _, .ptr a b, .ptr c d => Nat.beq a c && Nat.beq b d
  | _, .nilslice, .nilslice => true
  | _, .slice a b c d, .slice e f g h => Nat.beq a e && Nat.beq b f && Nat.beq c g && Nat.beq d h
  | _, .nilmap, .nilmap => true
  | _, .map a, .map b => Nat.beq a b
  | _, .nilfunc, .nilfunc => true
  | _, .niliface, .niliface => true
  | d + 1, .agg a, .agg b => sames d a b
  | d + 1, .tup a, .tup b => sames d a b
  | _, _, _ => false
where
  sames (d : Nat) : List AVal → List AVal → Bool
    | [], [] => true
    | a :: x, b :: y => same d a b && sames d x y
    | _, _ => false

noncomputable def lightsA (C : Ctx) (H : AHeap) (all : Array Oper) (n : Nat) (old : Tm) (olds : List (Nat × List Nat)) : List Nat → Tm → Option (Tm)
  | [], tm => some tm
  | i :: l, tm => ob (lget all.toList i) fun o => ob (wantedG o.guard all tm) fun w => ob (bif w then (alight o.op).f C (.mixed tm old (oldOf i olds) (namesOf o.op)) H else some undefA) fun v =>
      lightsA C H all n old olds l (putA n tm o.dst v)

noncomputable def againA (C : Ctx) (H : AHeap) (all : Array Oper) (old : Tm) (olds : List (Nat × List Nat)) (tm : Tm) : List Nat → Bool
  | [] => true
  | i :: l => match (ob (lget all.toList i) fun o => ob o.dst fun d => ob (wantedG o.guard all tm) fun w => bif w then (ob ((alight o.op).f C (.mixed tm old (oldOf i olds) (namesOf o.op)) H) fun v => ob (tm.get d) fun u => some (same 10 v u)) else some true) with
    | some true => againA C H all old olds tm l
    | _ => false

noncomputable def AMode.chain : AMode → Option (List APanic) | .panicking c => some c | _ => none
/-- what is forgotten when a region is left midway -/
noncomputable def delAll : List Oper → Tr AVal → Tr AVal
  | [], t => t
  | o :: l, t => match o.dst with
    | some j => delAll l (t.del j)
    | none => delAll l t
noncomputable def leftTm (todo : List AItem) (tm : Tm) : Tm :=
  match todo with
  | .reg all _ _ _ :: _ => ⟨tm.k, delAll all.toList tm.v, []⟩
  | _ => tm
noncomputable def raiseA (fr : AFrame) (l : List APanic) : AFrame :=
  ⟨[], leftTm fr.todo fr.tm, ⟨fr.R.fn, fr.R.n, fr.R.defers, .panicking (match fr.R.mode.chain with | some c => lapp l c | none => l), fr.R.deferred, fr.R.roundOf⟩⟩

noncomputable def nextO (x : Option AState) (why : Nat) : AOut :=
  match x with
  | some s => .next s
  | none => .fail why

noncomputable def loopAt (H : AHeap) (l : Nat) : Option ALoop := guardO (Nat.ble (nat_lit 256) l) (ob (H.t.get l) ABlk.asLoop)
noncomputable def defersAt (H : AHeap) (l : Nat) : Option (Option (List ADef)) := guardO (Nat.ble (nat_lit 256) l) (ob (H.t.get l) ABlk.asDeferred)
noncomputable def rVal (v : AVal) (H' : AHeap) (_ : Ctx) (fr : AFrame) (cs : List AFrame) (_ : AHeap) : AOut := nextO (ob (finishA fr v) fun fr => some ⟨fr, cs, H'⟩) 1
noncomputable def rEnter (f : Nat) (args : List AVal) (C : Ctx) (fr : AFrame) (cs : List AFrame) (H : AHeap) : AOut := nextO (ob (enterA C f args false) fun g => some ⟨g, fr :: cs, H⟩) 2
noncomputable def rRound (l : Nat) (args : List AVal) (_ : Ctx) (fr : AFrame) (cs : List AFrame) (H : AHeap) : AOut :=
  nextO (ob (loopAt H l) fun r => ob (setParamsA r.n r.params args r.tm) fun tm => some ⟨⟨[.code r.assign, .beginRound, .code r.body], tm, ⟨r.fn, r.n, [], .run, false, some l⟩⟩, fr :: cs, H⟩) 3
noncomputable def rDefer (d : ADef) (_ : Ctx) (fr : AFrame) (cs : List AFrame) (H : AHeap) : AOut :=
  nextO (match fr.R.roundOf with
    | none => ob (finishA fr undefA) fun g => some ⟨⟨g.todo, g.tm, ⟨g.R.fn, g.R.n, d :: g.R.defers, g.R.mode, g.R.deferred, g.R.roundOf⟩⟩, cs, H⟩
    | some _ => none) 4
noncomputable def rPanic (v : AVal) (_ : Ctx) (fr : AFrame) (cs : List AFrame) (H : AHeap) : AOut := .next ⟨raiseA fr [⟨v, false⟩], cs, H⟩
noncomputable def rRecover (_ : Ctx) (fr : AFrame) (cs : List AFrame) (H : AHeap) : AOut :=
  nextO (match fr.R.roundOf, fr.R.deferred, cs with
    | none, true, c :: rest => match c.R.mode with
      | .panicking (⟨v, false⟩ :: older) => ob (finishA fr v) fun fr => some ⟨fr, ⟨c.todo, c.tm, ⟨c.R.fn, c.R.n, c.R.defers, .panicking (⟨v, true⟩ :: older), c.R.deferred, c.R.roundOf⟩⟩ :: rest, H⟩
      | .panicking _ => none
      | _ => ob (finishA fr .niliface) fun fr => some ⟨fr, cs, H⟩
    | _, _, _ => none) 5
noncomputable def rFail (_ : Ctx) (_ : AFrame) (_ : List AFrame) (_ : AHeap) : AOut := .fail 6
noncomputable def afterOp : ARes → Ctx → AFrame → List AFrame → AHeap → AOut
  | .val v H' => rVal v H'
  | .enter f args => rEnter f args
  | .round l args => rRound l args
  | .defer d => rDefer d
  | .panic v => rPanic v
  | .recover => rRecover
  | .fail => rFail

noncomputable def resultA (C : Ctx) (H : AHeap) (tm : Tm) : ResultVar → Option AVal
  | .tmp t => tm.get t
  | .cell a t => ob (ob (tm.get a) AVal.asPtr) fun p => ob (C.tys.get t) fun ty => ob (blkCells H p.1) fun c => loadA ty c.1 p.2
noncomputable def resultsA (C : Ctx) (H : AHeap) (tm : Tm) (l : List ResultVar) : Option (List AVal) := lmapM (resultA C H tm) l

noncomputable def retNow (jump : Option Code) : Bool :=
  match jump with
  | none => true
  | some .ret => true
  | _ => false
noncomputable def setMode (fr : AFrame) (m : AMode) : AFrame := ⟨fr.todo, fr.tm, ⟨fr.R.fn, fr.R.n, fr.R.defers, m, fr.R.deferred, fr.R.roundOf⟩⟩
noncomputable def leaveA (jump : Option Code) (_ : Ctx) (fr : AFrame) (cs : List AFrame) (H : AHeap) : AOut :=
  nextO (match fr.R.roundOf with
    | none => guardO (retNow jump) (some ⟨setMode fr .returning, cs, H⟩)
    | some l => ob (loopAt H l) fun r => match cs with
      | c :: rest => guardO (!fr.R.deferred) <| ob (finishA c (.bool jump.isNone)) fun c => some ⟨c, rest, setBlk H l (.loop ⟨if jump.isNone then .ready else .done, jump, r.fn, r.n, r.tm, r.params, r.assign, r.body, r.defers⟩)⟩
      | [] => none) 7

/- THE ITEMS: k is what is left behind the item -/
abbrev XItem := Ctx → List AItem → Tm → FRest → List AFrame → AHeap → AOut
structure XB where f : XItem
noncomputable def xGo (todo : List AItem) (tm : Tm) (R : FRest) (cs : List AFrame) (H : AHeap) : AOut := .next ⟨⟨todo, tm, R⟩, cs, H⟩
noncomputable def xPass : XItem := fun _ k tm R cs H => xGo k tm R cs H
noncomputable def xCond (c : Operand) (x y : Code) : XItem := fun _ k tm R cs H =>
  match ob (ev c (.now tm)) AVal.asBool with
  | some b => xGo (.code (bif b then x else y) :: k) tm R cs H
  | none => .fail 8
noncomputable def xBlock (id : Nat) (c : Code) : XItem := fun _ k tm R cs H => xGo (.code c :: .inBlock id :: k) tm R cs H
noncomputable def xLoop (c : Code) : XItem := fun _ k tm R cs H => xGo (.code c :: .inLoop c :: k) tm R cs H
noncomputable def xScope (c : Code) : XItem := fun _ k tm R cs H => xGo (.code c :: .inScope c :: k) tm R cs H
noncomputable def xExit (id : Nat) : XItem := fun C k tm R cs H =>
  match exitToA id k with
  | some k' => xGo k' tm R cs H
  | none => leaveA (some (.exit id)) C ⟨.code (.exit id) :: k, tm, R⟩ cs H
noncomputable def xRet : XItem := fun C k tm R cs H => leaveA (some .ret) C ⟨.code .ret :: k, tm, R⟩ cs H
noncomputable def xFail : XItem := fun _ _ _ _ _ _ => .fail 9
/- is a plan true to its region? (sets of operations as bits) -/
noncomputable def bindsA (e : Edge) : Bool :=
  match e.ground with
  | .textOnly _ => false
  | .gcOnly _ => false
  | _ => true
noncomputable def tb (m i : Nat) : Bool := Nat.beq (Nat.mod (Nat.shiftRight m i) (nat_lit 2)) (nat_lit 1)
noncomputable def bitOf (i : Nat) : Nat := Nat.shiftLeft (nat_lit 1) i
noncomputable def getN (t : Tr Nat) (i : Nat) : Nat :=
  match t.get i with
  | some m => m
  | none => 0
/-- what lies before an operation with these edges -/
noncomputable def maskOf (t : Tr Nat) : List Edge → Nat
  | [] => 0
  | e :: l => bif bindsA e then Nat.lor (Nat.lor (bitOf e.on) (getN t e.on)) (maskOf t l) else maskOf t l
noncomputable def ancOf : List Oper → Nat → Tr Nat → Tr Nat
  | [], _, t => t
  | o :: r, i, t => ancOf r (i + 1) (t.set i (maskOf t o.after.toList))
/-- the edges lead back -/
noncomputable def okBack : List Oper → Nat → Bool
  | [], _ => true
  | o :: r, i => bif lall (fun e => bif bindsA e then Nat.blt e.on i else true) o.after.toList then okBack r (i + 1) else false
/-- each slot has one writer -/
noncomputable def wrOf : List Oper → Nat → Tr Nat → Option (Tr Nat)
  | [], _, t => some t
  | o :: r, i, t => match o.dst with
    | none => wrOf r (i + 1) t
    | some d => match t.get d with
      | none => wrOf r (i + 1) (t.set d i)
      | some _ => none
noncomputable def isNone' {α : Type} : Option α → Bool | none => true | some _ => false
noncomputable def okName (wr anc : Tr Nat) (i : Nat) (olds : List Nat) (t : Nat) : Bool :=
  match wr.get t with
  | none => true
  | some j => bif memNat t olds then (bif Nat.beq j i then true else tb (getN anc j) i) else tb (getN anc i) j
noncomputable def okGuard (anc : Nat) : Option (Nat × Bool) → Bool
  | none => true
  | some g => tb anc g.1
noncomputable def okOps (wr anc : Tr Nat) (olds : List (Nat × List Nat)) : List Oper → Nat → Bool
  | [], _ => true
  | o :: r, i => bif okGuard (getN anc i) o.guard then (bif lall (okName wr anc i (oldOf i olds)) (namesOf o.op) then okOps wr anc olds r (i + 1) else false) else false
/-- operations whose value does not hang on the heap -/
noncomputable def pureO : Op → Bool
  | .move _ => true
  | .assign _ => true
  | .pick _ _ _ => true
  | .nilCheck _ => true
  | .binOp _ _ _ _ _ => true
  | .unOp _ _ _ => true
  | .makeInterface _ _ => true
  | .makeFunc _ _ _ => true
  | .fieldAddr _ _ _ => true
  | .field _ _ _ => true
  | .indexAddr _ _ _ => true
  | .index _ _ _ => true
  | .extract _ _ => true
  | .build _ _ => true
  | .typeAssert _ _ _ _ => true
  | _ => false
noncomputable def topo (D : Nat) (o : Oper) : Bool := lall (fun e => bif bindsA e then tb D e.on else true) o.after.toList
/-- nothing but the done and the next is ready -/
noncomputable def okOnly (h D : Nat) : List Oper → Nat → Bool
  | [], _ => true
  | o :: r, i => bif (bif tb D i then true else bif Nat.beq i h then true else !topo D o) then okOnly h D r (i + 1) else false
noncomputable def okAgain (m D : Nat) (again : List Nat) : List Oper → Nat → Bool
  | [], _ => true
  | o :: r, i => bif (bif tb D i then (bif tb m i then true else bif pureO o.op then true else memNat i again) else true) then okAgain m D again r (i + 1) else false
/-- one more operation done -/
noncomputable def oneDone (ops : List Oper) (i D : Nat) : Option Nat :=
  ob (lget ops i) fun o => guardO (bif tb D i then false else topo D o) (some (Nat.lor D (bitOf i)))
noncomputable def okLights (ops : List Oper) : List Nat → Nat → Option Nat
  | [], D => some D
  | i :: l, D => ob (oneDone ops i D) fun D => okLights ops l D
noncomputable def okAll (D : Nat) : List Oper → Nat → Bool
  | [], _ => true
  | _ :: r, i => bif tb D i then okAll D r (i + 1) else false
noncomputable def okStages (ops : List Oper) (anc : Tr Nat) : List Stage → Nat → Bool
  | [], D => okAll D ops 0
  | st :: r, D => bif okOnly st.heavy D ops 0 then (bif okAgain (getN anc st.heavy) D st.again ops 0 then
      (match ob (oneDone ops st.heavy D) fun D => okLights ops st.lights D with
      | some D => okStages ops anc r D
      | none => false) else false) else false
noncomputable def okPlan' (ops : List Oper) (p : Plan) : Bool :=
  bif okBack ops 0 then
    (match wrOf ops 0 .leaf with
    | none => false
    | some wr =>
      (fun anc => bif okOps wr anc p.olds ops 0 then (match okLights ops p.first 0 with
        | some D => okStages ops anc p.stages D
        | none => false) else false) (ancOf ops 0 .leaf)) else false
structure OkB where b : Bool
noncomputable def okPlan (all : Array Oper) (p : Plan) : Bool := (OkB.mk (okPlan' all.toList p)).b
noncomputable def xDraw (id : Nat) (all : Array Oper) : XItem := fun C k tm R cs H =>
  nextO (ob (ob (C.plans.get R.fn) fun t => t.get id) fun p => guardO (okPlan all p) <| ob (lightsA C H all R.n tm.cut p.olds p.first tm.cut) fun tm' => some ⟨⟨.reg all tm.cut p.olds p.stages :: k, tm', R⟩, cs, H⟩) 10
noncomputable def ARes.asVal : ARes → Option (AVal × AHeap) | .val v H => some (v, H) | _ => none
/-- the operations of a region, one behind the other, as long as each comes to a value -/
noncomputable def runOps (C : Ctx) (all : Array Oper) (k : List AItem) (R : FRest) (cs : List AFrame) (l : List Oper) : Tm → AHeap → AOut :=
  List.rec (motive := fun _ => Tm → AHeap → AOut) (fun tm H => xGo k tm R cs H)
    (fun o rest g tm H =>
      match wantedG o.guard all tm with
      | some w => Bool.rec (motive := fun _ => AOut) (g (putA R.n tm o.dst undefA) H)
          (let r := (aop o.op).f C (.now tm) H
          match r.asVal with
          | some p => g (putA R.n tm o.dst p.1) p.2
          | none => afterOp r C ⟨.ops all (o :: rest) :: k, tm, R⟩ cs H) w
      | none => .fail 20) l
noncomputable def xOps (all : Array Oper) (rest : List Oper) : XItem := fun C k tm R cs H => runOps C all k R cs rest tm H
noncomputable def xRegion (id : Nat) (all : Array Oper) (draw : Bool) : XB :=
  match draw with
  | true => ⟨xDraw id all⟩
  | false => ⟨fun C k tm R cs H => runOps C all k R cs all.toList tm.cut H⟩
noncomputable def xHeavy (all : Array Oper) (old : Tm) (olds : List (Nat × List Nat)) (st : Stage) (stages : List Stage) (o : Oper) : XItem := fun C k tm R cs H =>
  match wantedG o.guard all tm with
  | some w => afterOp (bif w then (aop o.op).f C (.mixed tm old (oldOf st.heavy olds) (namesOf o.op)) H else .val undefA H) C ⟨.reg all old olds (st :: stages) :: k, tm, R⟩ cs H
  | none => .fail 21
noncomputable def xLights (all : Array Oper) (old : Tm) (olds : List (Nat × List Nat)) (st : Stage) (stages : List Stage) : XItem := fun C k tm R cs H =>
  nextO (guardO (againA C H all old olds tm st.again) (ob (lightsA C H all R.n old olds st.lights tm) fun tm => some ⟨⟨.reg all old olds stages :: k, tm, R⟩, cs, H⟩)) 11
noncomputable def xReg (all : Array Oper) (old : Tm) (olds : List (Nat × List Nat)) (stages : List Stage) : XItem :=
  match stages with
  | [] => xPass
  | st :: stages => match lget all.toList st.heavy with
    | some o => xHeavy all old olds st stages o
    | none => xLights all old olds st stages
noncomputable def rangeIn (C : Ctx) (l : Nat) (f : AVal) : Option AFrame :=
  ob f.asFunc fun p => match p.1 with
    | .func g => match C.prims.get g with
      | none => enterA C g (lapp p.2.1 (.func (.yld l) [] [] :: p.2.2)) false
      | some _ => none
    | .yld _ => none
noncomputable def xRange (f : Operand) (params : Array Nat) (assign body : Code) : XItem := fun C k tm R cs H =>
  nextO (ob (ev f (.now tm)) fun v => match R.roundOf with
    | none =>
      let r := H.next
      let l := r + 1
      ob (rangeIn C l v) fun h =>
        some ⟨h, ⟨.inRange l :: k, tm, ⟨R.fn, R.n, ⟨none, r, []⟩ :: R.defers, R.mode, R.deferred, R.roundOf⟩⟩ :: cs,
          newBlk (newBlk H (.deferred (some []))) (.loop ⟨.ready, none, R.fn, R.n, tm, params.toList, assign, body, r⟩)⟩
    | some outer => ob (loopAt H outer) fun o =>
      let l := H.next
      ob (rangeIn C l v) fun h =>
        some ⟨h, ⟨.inRange l :: k, tm, R⟩ :: cs, newBlk H (.loop ⟨.ready, none, R.fn, R.n, tm, params.toList, assign, body, o.defers⟩)⟩) 12
noncomputable def LoopState.tag : LoopState → Nat | .ready => 0 | .busy => 1 | .done => 2 | .exhausted => 3
noncomputable def xBegin : XItem := fun _ k tm R cs H =>
  nextO (ob R.roundOf fun l => ob (loopAt H l) fun r => guardO (Nat.beq (LoopState.tag r.state) 0)
    (some ⟨⟨k, tm, R⟩, cs, setBlk H l (.loop ⟨.busy, r.pending, r.fn, r.n, r.tm, r.params, r.assign, r.body, r.defers⟩)⟩)) 13
noncomputable def xEndRange (l : Nat) : XItem := fun _ k tm R cs H =>
  nextO (ob (loopAt H l) fun r => guardO (!Nat.beq (LoopState.tag r.state) 1)
    (some ⟨⟨(match r.pending with | some c => .code c :: k | none => k), tm, R⟩, cs, setBlk H l (.loop ⟨.exhausted, r.pending, r.fn, r.n, r.tm, r.params, r.assign, r.body, r.defers⟩)⟩)) 14
noncomputable def xCode : Code → XB
  | .skip => ⟨xPass⟩
  | .region id ops d => xRegion id ops d
  | .seq a b => ⟨fun C k tm R cs H => (xCode a).f C (.code b :: k) tm R cs H⟩
  | .cond c x y => ⟨xCond c x y⟩
  | .block id c => ⟨xBlock id c⟩
  | .loop c => ⟨xLoop c⟩
  | .rangeFunc f ps a b => ⟨xRange f ps a b⟩
  | .exit id => ⟨xExit id⟩
  | .scope c => ⟨xScope c⟩
  | .label _ => ⟨xPass⟩
  | .goto _ => ⟨xFail⟩
  | .ret => ⟨xRet⟩
  | .refuse _ => ⟨xFail⟩
noncomputable def xItem : AItem → XB
  | .code c => xCode c
  | .inBlock _ => ⟨xPass⟩
  | .inLoop c => ⟨xLoop c⟩
  | .inScope _ => ⟨xPass⟩
  | .ops all rest => ⟨xOps all rest⟩
  | .reg all old olds stages => ⟨xReg all old olds stages⟩
  | .inRange _ => ⟨xFail⟩
  | .endRange l => ⟨xEndRange l⟩
  | .beginRound => ⟨xBegin⟩
noncomputable def execA (C : Ctx) (todo : List AItem) (tm : Tm) (R : FRest) (cs : List AFrame) (H : AHeap) : AOut :=
  match todo with
  | [] => leaveA none C ⟨[], tm, R⟩ cs H
  | x :: k => (xItem x).f C k tm R cs H

noncomputable def setDefers (fr : AFrame) (d : List ADef) : AFrame := ⟨fr.todo, fr.tm, ⟨fr.R.fn, fr.R.n, d, fr.R.mode, fr.R.deferred, fr.R.roundOf⟩⟩
noncomputable def uDefer (C : Ctx) (d : ADef) (ds : List ADef) (fr : AFrame) (cs : List AFrame) (H : AHeap) : AOut :=
  nextO (match d.fn with
    | none => ob (defersAt H d.r) fun l => ob l fun l => some ⟨setDefers fr (lapp l ds), cs, setBlk H d.r (.deferred none)⟩
    | some (.func f) => match C.prims.get f with
      | none => ob (enterA C f d.args true) fun g => some ⟨g, setDefers fr ds :: cs, H⟩
      | some _ => none
    | some (.yld _) => none) 15
noncomputable def tupleOf (l : List AVal) : AVal :=
  match l with
  | [v] => v
  | l => .tup l
noncomputable def uReturn (C : Ctx) (fr : AFrame) (cs : List AFrame) (H : AHeap) : AOut :=
  match ob (C.fns.get fr.R.fn) fun fn => resultsA C H fr.tm fn.results.toList with
  | none => .fail 16
  | some l =>
    match cs with
    | [] => bif fr.R.deferred then .fail 17 else bif Nat.beq fr.R.fn C.root then .done (tupleOf l) H else .fail 22
    | c :: rest => nextO (bif fr.R.deferred then
        (match c.R.mode with
        | .panicking (⟨_, true⟩ :: _) => some ⟨setMode c .returning, rest, H⟩
        | _ => guardO (!c.R.mode.running) (some ⟨c, rest, H⟩))
      else ob (finishA c (tupleOf l)) fun c => some ⟨c, rest, H⟩) 18
noncomputable def unwindA (C : Ctx) (fr : AFrame) (cs : List AFrame) (H : AHeap) : AOut :=
  match fr.R.defers with
  | d :: ds => uDefer C d ds fr cs H
  | [] => match fr.R.mode.chain with
    | some chain => nextO (ob (C.fns.get fr.R.fn) fun _ => match cs with | c :: rest => some ⟨raiseA c chain, rest, H⟩ | [] => none) 19
    | none => uReturn C fr cs H
noncomputable def stepA (C : Ctx) (s : AState) : AOut :=
  match s with
  | ⟨⟨todo, tm, R⟩, cs, H⟩ => bif R.mode.running then execA C todo tm R cs H else unwindA C ⟨todo, tm, R⟩ cs H
noncomputable def stepO (C : Ctx) (o : AOut) : AOut :=
  match o with
  | .next s => stepA C s
  | .done v H => .done v H
  | .fail n => .fail n
noncomputable def runA (C : Ctx) (n : Nat) : AOut → AOut :=
  Nat.rec (motive := fun _ => AOut → AOut) (fun o => stepO C o) (fun _ g o => g (g o)) n
end Go.Am
