/- Code as a tree: what a piece of code asks of memory and of its calls, with the local blocks of a function kept out of memory. -/
import Derived.Test.YtfmlbimokklmgaaGreatDoorA05
set_option linter.all false
noncomputable section
namespace Go.Am
open Go Go.RowKit
def zao (C : Ctx) (t : Nat) (H : zaf) (v : zab) : Option zab := ob v.asPtr fun p => ob (C.tys.get t) fun ty => ob (zax H p.1) fun c => znx ty c.1 p.2
def znd (C : Ctx) (s d : Nat) (H : zaf) (a : zab) : Option zab := ob (C.tys.get s) fun s => ob (C.tys.get d) fun d => zpk C s d a H
def zcb (C : Ctx) (t : Nat) (H : zaf) (a : zab) (l h : Option zab) : Option zab := ob (C.tys.get t) fun ty => zga C H ty a l h
def zre (C : Ctx) (s f : Nat) : Option Nat := ob (C.tys.get s) fun ty => ob ty.desc.asStruct fun fs => ob (zev fs f) fun fd => zaj (!Nat.beq fd.2.2 0) (some fd.1)
def zas (C : Ctx) (s f : Nat) (v : zab) : Option zab := ob (zre C s f) fun k => ob v.asPtr fun p => some (.ptr p.1 (p.2 + k))
def zai (C : Ctx) (t : Nat) (v i : zab) : Option zab :=
 ob (C.tys.get t) fun ty => ob i.asNat fun i =>
  match v.asSlice with
  | some s => ob ty.desc.asSlice fun el => ob (C.tys.get el) fun et => zaj (Nat.blt i s.2.2.1) (some (.ptr s.1 (s.2.1 + i * et.size)))
  | none => ob v.asPtr fun p => ob ty.desc.asArr fun a => ob (C.tys.get a.2) fun et => zaj (Nat.blt i a.1) (some (.ptr p.1 (p.2 + i * et.size)))
def z31 (C : Ctx) (t i : Nat) : Option Nat := ob (C.tys.get t) fun ty => ob ty.desc.asArr fun a => ob (C.tys.get a.2) fun et => zaj (Nat.blt i a.1) (some (i * et.size))
def zdv (C : Ctx) (t : Nat) (v i : zab) : Option zab :=
 ob (C.tys.get t) fun ty => ob i.asNat fun i =>
  match v.asStr with
  | some s => zaj ty.desc.isString (ob (zev s i) fun b => some (.int .u8 (.ofNat b)))
  | none => ob v.asAgg fun l => ob ty.desc.asArr fun a => ob (C.tys.get a.2) fun et => zaj (Nat.blt i a.1) (zm1 C a.2 l (i * et.size))
def zb3 (i : Nat) (v : zab) : Option zab := ob v.asTup fun l => zev l i
def z8h (C : Ctx) (t : Nat) (H : zaf) (v : zab) : Option zab := ob (C.tys.get t) fun ty => ob (z8i H ty v) fun n => some (.int .i64 (.ofNat n))
def zb6 (v : zab) : Option zab :=
 match v.asSlice with
 | some s => some (.int .i64 (.ofNat s.2.2.1))
 | none => zaj (Nat.beq v.tag 5) (some (.int .i64 (.ofNat 0)))
def z3z (v : zab) : Option zab := zaj (Nat.beq v.tag 4 || Nat.beq v.tag 9) (some v)
def zrf (C : Ctx) (u : Nat) (ok : Bool) (v : zab) : Option zab :=
 ob (C.tys.get u) fun ty => zaj (Nat.blt ty.desc.tag 9) (
  match v.asIface with
  | some p => bif Nat.beq p.1 u then some (bif ok then .tup [p.2, .bool true] else p.2) else zaj ok (some (.tup [zto ty, .bool false]))
  | none => zaj (Nat.beq v.tag 12 && ok) (some (.tup [zto ty, .bool false])))
def zox (C : Ctx) (t : Nat) (H : zaf) (m k : zab) (ok : Bool) : Option zab :=
 ob (C.tys.get t) fun ty => ob ty.desc.asMap fun ke => ob (C.tys.get ke.1) fun kty => zaj (zmm C kty) (ob (C.tys.get ke.2) fun ety =>
  ob (zwz H m) fun es => zaj (zg0 C kty k) (ob (zjd k es) fun r =>
   match r with
   | some v => some (bif ok then .tup [v, .bool true] else v)
   | none => some (bif ok then .tup [zto ety, .bool false] else zto ety)))
def ze9 (C : Ctx) (t : Nat) (H : zaf) : Option (zab × zaf) := ob (C.tys.get t) fun ty => some (.ptr H.next 0, za7 H ty.zero none)
def zx9 (v : zab) (H : zaf) : Option (zab × zaf) := some (.ptr H.next 0, za7 H v.cells none)
def zvy (C : Ctx) (t : Nat) (H : zaf) : Option (zab × zaf) := ob (C.tys.get t) fun ty => some (.ptr H.next 0, za7 H ty.zero (zhz C t))
def zzll (C : Ctx) (t : Nat) (v : zab) (H : zaf) : Option (zab × zaf) := some (.ptr H.next 0, za7 H v.cells (zhz C t))
def za8 (C : Ctx) (t len : Nat) (ps : List (Nat × zab)) (H : zaf) : Option (zab × zaf) :=
 ob (C.tys.get t) fun ty => ob ty.desc.asSlice fun el => ob (C.tys.get el) fun et =>
  zaj (Nat.blt (len * et.size) 1000000 && Nat.beq (zbf et.zero) et.size) (ob (zlm (fun i => some (i * et.size, et.size)) ps (zqg et.zero len)) fun l => some (.slice H.next 0 len len, za7 H l none))
def za0 (C : Ctx) (t : Nat) (a v : zab) (H : zaf) : Option (zab × zaf) := ob (C.tys.get t) fun ty => ob a.asPtr fun p => zaj (Nat.beq (zbf v.cells) ty.size) (ob (zdw C H p.1 p.2 v.cells) fun H' => some (zbj, H'))
def z30 (H : zaf) : Option (zab × zaf) := some (.map H.next, newBlk H (.map []))
def zvv (C : Ctx) (t : Nat) (m k v : zab) (H : zaf) : Option (zab × zaf) :=
 ob (C.tys.get t) fun ty => ob ty.desc.asMap fun ke => ob (C.tys.get ke.1) fun kty => zaj (zmm C kty)
  (ob m.asMap fun b => zaj (!Nat.blt b C.base) (ob (zf6 H b) fun l => zaj (zg0 C kty k) (ob (ze7 k v l) fun l' => some (zbj, setBlk H b (.map l')))))
def zco (C : Ctx) (t : Nat) (l c : zab) (H : zaf) : Option (zab × zaf) :=
 ob (C.tys.get t) fun ty => ob ty.desc.asSlice fun el => ob (C.tys.get el) fun et => ob l.asNat fun l => ob c.asNat fun c =>
  zaj (Nat.ble l c && Nat.blt c 1000000 && Nat.blt (c * et.bytes) 1000000000 && Nat.beq (zbf et.zero) et.size) (some (.slice H.next 0 l c, za7 H (zqg et.zero c) none))
def zvw (C : Ctx) (s d : Nat) (v : zab) (H : zaf) : Option (zab × zaf) :=
 ob (C.tys.get s) fun _ => ob (C.tys.get d) fun ty => ob ty.desc.asSlice fun el => ob (C.tys.get el) fun et => ob et.desc.asInt fun k => zaj (kEq k .u8) (ob v.asStr fun l =>
  some (.slice H.next 0 (zbf l) (zbf l), za7 H (zgs l) (some (.ty el))))
def zd6 (C : Ctx) (t u : Nat) (a b : zab) (H : zaf) : Option (zab × zaf) := ob (C.tys.get t) fun ty => ob (C.tys.get u) fun uty => zaj (!Nat.beq uty.desc.tag 1) (zje C H ty a b)
def vNext (v : zab) (H : zaf) : Option (zab × zaf) := ob v.asPtr fun p => zaj (Nat.beq p.2 0) (ob (ob (H.t.get p.1) zav.asIter) fun x =>
 match zev x.1 x.2 with
 | some c => zaj (Nat.blt c 128) (some (.tup [.bool true, .int .i64 (.ofNat x.2), .int .i32 (.ofNat c)], setBlk H p.1 (.siter x.1 (x.2 + 1))))
 | none => some (.tup [.bool false], H))
structure zg6 where
 b : Nat -> Bool
 i : Nat -> Int
 s : Nat -> List Nat
 v : Nat -> zab
inductive T where
 | ret (v : zab)
 | fail
 | ite (b : Bool) (x y : T)
 | opt (x : Option zab) (K : zab -> T)
 | light (x : Tr zav -> Option zab) (K : zab -> T)
 | heavy (x : zaf -> Option (zab × zaf)) (K : zab -> T)
 | call (f : Nat) (args : List zab) (K : zab -> T)
 | callv (f : zab) (args : List zab) (K : zab -> T)
 | asI (k : IntKind) (v : zab) (K : Int -> T)
 | asB (v : zab) (K : Bool -> T)
 | asS (v : zab) (K : List Nat -> T)
 | asG (zs : List zab) (v : zab) (K : zg6 -> T)
 | jump (i : Nat) (vals : List zab)
 | range (np : Nat -> Bool) (f : zab) (i m : Nat) (vals : List zab) (K R : T)
def yo : Nat := 1099511627776
def pn : Nat := 1099511627775
def zzbt (z : zab) (X : zg6) (j : Nat) : zab :=
 match z with
 | .bool _ => .bool (X.b j)
 | .int k _ => .int k (X.i j)
 | .str _ => .str (X.s j)
 | _ => X.v j
def zo7 (zs : List zab) (X : zg6) : Nat -> List zab :=
 List.rec (motive := fun _ => Nat -> List zab) (fun _ => []) (fun z _ g j => zzbt z X j :: g (j + 1)) zs
def zvl (l : List zab) (j : Nat) : Bool := match l[j]? with | some (.bool b) => b | _ => false
def zznd (l : List zab) (j : Nat) : Int := match l[j]? with | some (.int _ n) => n | _ => 0
def strAt (l : List zab) (j : Nat) : List Nat := match l[j]? with | some (.str s) => s | _ => []
def z8v (l : List zab) (j : Nat) : zab := match l[j]? with | some v => v | _ => .nilptr
def cellsOf (l : List zab) : zg6 := ⟨zvl l, zznd l, strAt l, z8v l⟩
def zzh0 (z a : zab) : Bool :=
 match z with
 | .bool _ => Nat.beq a.tag 0
 | .int k _ => match a.asIntK with | some p => kEq p.1 k | none => false
 | .str _ => Nat.beq a.tag 2
 | .nilptr => Nat.beq a.tag 3 || Nat.beq a.tag 4
 | .nilslice => Nat.beq a.tag 5 || Nat.beq a.tag 6
 | .nilmap => Nat.beq a.tag 7 || Nat.beq a.tag 8
 | .nilfunc => Nat.beq a.tag 10 || Nat.beq a.tag 9
 | .niliface => Nat.beq a.tag 12 || Nat.beq a.tag 11
 | _ => false
def zob : List zab -> List zab -> Bool
 | [], [] => true
 | z :: zs, a :: l => zzh0 z a && zob zs l
 | _, _ => false
structure TSt where
 tm : Tm
 ad : List (Nat × Nat × Nat)
 lo : Tr (List zab)
 lit : List Nat
abbrev KT := TSt -> T
structure KtT where
 norm : KT
 exit : Nat -> KT
 ret : KT
def obT {α : Type} (x : Option α) (K : α -> T) : T := Option.rec (motive := fun _ => T) .fail K x
def gdT (b : Bool) (K : T) : T := Bool.rec (motive := fun _ => T) .fail K b
def zio (i : Nat) (l : List (Nat × Nat × Nat)) : Option (Nat × Nat) :=
 List.rec (motive := fun _ => Option (Nat × Nat)) none (fun a _ g => Bool.rec (motive := fun _ => Option (Nat × Nat)) g (some a.2) (Nat.beq i a.1)) l
inductive zyg where
 | now (ad : List (Nat × Nat × Nat))
 | mixed (ad old : List (Nat × Nat × Nat)) (olds names : List Nat)
def tAd (e : zyg) (t : Nat) : Option (Nat × Nat) :=
 match e with
 | .now ad => zio t ad
 | .mixed ad old olds names => bif zc6 t names then zio t (bif zc6 t olds then old else ad) else none
def xAd (e : zyg) (x : Operand) : Option (Nat × Nat) :=
 match x with
 | .tmp t => tAd e t
 | _ => none
def H0A : zaf := ⟨0, .leaf⟩
def zmh (C : Ctx) (t : Nat) : Nat :=
 match C.tys.get t with
 | some ty => ty.desc.tag
 | none => 10
def zw7 (x : Operand) : Bool :=
 match x with
 | .const _ => true
 | _ => false
def zzea (x : Operand) : Bool :=
 match x with
 | .const (.int _ n) => !iEq n 0
 | _ => false
def binDir (C : Ctx) (op : BinOp) (t : Nat) (y : Operand) : Bool :=
 match op with
 | .add => Nat.beq (zmh C t) 1
 | .sub => true
 | .mul => true
 | .quo => zzea y
 | .rem => zzea y
 | .shl => zw7 y
 | .shr => zw7 y
 | .eql => Nat.ble (zmh C t) 2
 | .neq => Nat.ble (zmh C t) 2
 | .lss => Nat.ble (zmh C t) 2
 | .leq => Nat.ble (zmh C t) 2
 | .gtr => Nat.ble (zmh C t) 2
 | .geq => Nat.ble (zmh C t) 2
 | _ => false
structure KOp where
 K : zab -> T
 Kd : zab -> T
 KA : Nat -> Nat -> T
def z39 (C : Ctx) (op : Op) (e : Env) (k : KOp) : T := obT ((zb2 op).f C e H0A) k.Kd
def zzf2 (C : Ctx) (op : Op) (x : Operand) (e : Env) (ae : zyg) (k : KOp) : T :=
 match xAd ae x with
 | some p => k.KA p.1 p.2
 | none => z39 C op e k
def tLoad (C : Ctx) (t : Nat) (a : Operand) (e : Env) (ae : zyg) (lo : Tr (List zab)) (k : KOp) : T :=
 match xAd ae a with
 | some p => obT (lo.get p.1) fun l => obT (C.tys.get t) fun ty => gdT (Nat.ble (p.2 + ty.size) (zbf l)) (obT (zm1 C t l p.2) k.Kd)
 | none => obT (ev a e) fun v => .light (fun m => zao C t ⟨0, m⟩ v) k.K
def zug (C : Ctx) (s : Nat) (x : Operand) (f : Nat) (e : Env) (ae : zyg) (k : KOp) : T :=
 match xAd ae x with
 | some p => obT (zre C s f) fun o => k.KA p.1 (p.2 + o)
 | none => obT (ev x e) fun v => .opt (zas C s f v) k.K
def zuf (C : Ctx) (t : Nat) (x i : Operand) (e : Env) (ae : zyg) (k : KOp) : T :=
 match xAd ae x with
 | some p => obT (ev i e) fun i => obT i.asNat fun i => obT (z31 C t i) fun o => k.KA p.1 (p.2 + o)
 | none => obT (ev x e) fun v => obT (ev i e) fun i => .opt (zai C t v i) k.K
def tNil (x : Operand) (e : Env) (ae : zyg) (k : KOp) : T :=
 match xAd ae x with
 | some p => k.KA p.1 p.2
 | none => obT (ev x e) fun v => .opt (z3z v) k.K
def tLen (C : Ctx) (c : Call) (e : Env) (k : KOp) : T :=
 obT (zev c.argTypes.toList 0) fun t => obT (zev c.args.toList 0) fun x => obT (ev x e) fun v =>
  bif Nat.beq (zmh C t) 4 then .opt (zb6 v) k.K else bif Nat.beq (zmh C t) 6 then .light (fun m => z8h C t ⟨0, m⟩ v) k.K else obT (z8h C t H0A v) k.Kd
def tBin (C : Ctx) (op : BinOp) (t : Nat) (x y : Operand) (u : Nat) (e : Env) (k : KOp) : T :=
 bif binDir C op t y then z39 C (.binOp op t x y u) e k else obT (ev x e) fun a => obT (ev y e) fun b => .opt ((zzfi op).f C t x y a b) k.K
def zzlv (C : Ctx) (s d : Nat) (x : Operand) (e : Env) (k : KOp) : T :=
 bif Nat.beq (zmh C d) 2 then (bif Nat.beq (zmh C s) 2 then z39 C (.convert s d x) e k else obT (ev x e) fun v => .light (fun m => znd C s d ⟨0, m⟩ v) k.K) else bif Nat.beq (zmh C d) 1 then z39 C (.convert s d x) e k else .fail
def zzjb (C : Ctx) (t : Nat) (x : Operand) (lo hi : Option Operand) (e : Env) (k : KOp) : T :=
 obT (ev x e) fun a => obT (evo lo e) fun l => obT (evo hi e) fun h =>
  bif Nat.beq (zmh C t) 2 then .opt (zcb C t H0A a l h) k.K else .light (fun m => zcb C t ⟨0, m⟩ a l h) k.K
def zng (C : Ctx) (c : Call) (e : Env) (k : KOp) : Builtin -> T
 | .len => tLen C c e k
 | .max => z39 C (.call c) e k
 | .min => z39 C (.call c) e k
 | _ => .fail
def zvh (ty : ATy) (v : zab) : List zab := bif ty.desc.isAgg then v.cells else [v]
def zznm (cells : List zab) (off size : Nat) (vc : List zab) : Option (List zab) :=
 zaj (Nat.beq (zbf vc) size && Nat.ble (off + zbf vc) (zbf cells)) (some (zfp (zw0 cells off) (zfp vc (zm4 cells (off + zbf vc)))))
def zzbb (C : Ctx) (tyAt : Nat -> Option Nat) : List (Nat × zab) -> Option (List (Nat × zab × List zab) × List zab) :=
 List.rec (motive := fun _ => Option (List (Nat × zab × List zab) × List zab)) (some ([], []))
  (fun p _ g => ob (tyAt p.1) fun t => ob (C.tys.get t) fun ty => ob g fun r => some (bif ty.desc.isAgg then ((p.1, p.2, p.2.cells) :: r.1, r.2) else ((p.1, p.2, [p.2]) :: r.1, p.2 :: r.2)))
def zzh5 (place : Nat -> Option (Nat × Nat)) : List (Nat × zab × List zab) -> List zab -> Option (List zab) :=
 List.rec (motive := fun _ => List zab -> Option (List zab)) (fun cells => some cells) (fun p _ g cells => ob (place p.1) fun q => ob (zznm cells q.1 q.2 p.2.2) fun cells => g cells)
def tyAtS (ty : ATy) (i : Nat) : Option Nat :=
 match ty.desc.asStruct with
 | some fs => ob (zev fs i) fun x => some x.2.1
 | none => ob ty.desc.asArr fun a => some a.2
def zuy (C : Ctx) (ty : ATy) (i : Nat) : Option (Nat × Nat) :=
 match ty.desc.asStruct with
 | some fs => ob (zev fs i) fun x => some (x.1, x.2.2)
 | none => ob ty.desc.asArr fun a => ob (C.tys.get a.2) fun et => some (i * et.size, et.size)
def z0w (C : Ctx) (ty : ATy) : Bool :=
 match ty.desc.asStruct with
 | some _ => true
 | none => match ty.desc.asArr with
  | some a => (match C.tys.get a.2 with | some _ => true | none => false)
  | none => false
def zzjd (C : Ctx) (t : Nat) (ps : Array (Nat × Operand)) (e : Env) (k : KOp) : T :=
 obT (C.tys.get t) fun ty => gdT (z0w C ty) <| obT (evp ps.toList e) fun vs => obT (zzbb C (tyAtS ty) vs) fun q => obT (zzh5 (zuy C ty) q.1 ty.zero) fun l => .ite (zfh zab.one q.2) (k.Kd (.agg l)) .fail
def tL (C : Ctx) (op : Op) (e : Env) (ae : zyg) (lo : Tr (List zab)) (k : KOp) : T :=
 match op with
 | .move x => zzf2 C (.move x) x e ae k
 | .assign x => zzf2 C (.assign x) x e ae k
 | .load t a => tLoad C t a e ae lo k
 | .fieldAddr s x f => zug C s x f e ae k
 | .indexAddr t x i => zuf C t x i e ae k
 | .nilCheck x => tNil x e ae k
 | .binOp op t x y u => tBin C op t x y u e k
 | .convert s d x => zzlv C s d x e k
 | .slice t x lo hi none => zzjb C t x lo hi e k
 | .index t x i => bif zw7 i && Nat.beq (zmh C t) 5 then z39 C (.index t x i) e k else obT (ev x e) fun v => obT (ev i e) fun i => .opt (zdv C t v i) k.K
 | .extract t i => obT (ev t e) fun v => .opt (zb3 i v) k.K
 | .typeAssert x _ u ok => obT (ev x e) fun v => .opt (zrf C u ok v) k.K
 | .lookup t x i ok => obT (ev x e) fun m => obT (ev i e) fun key => .light (fun h => zox C t ⟨0, h⟩ m key ok) k.K
 | .call c => match c.callee with
  | .builtin b => zng C c e k b
  | _ => .fail
 | .pick c a b => z39 C (.pick c a b) e k
 | .unOp o t x => (match o with
  | .xor => obT (ev x e) fun v => .opt (z1j v) k.K
  | o => z39 C (.unOp o t x) e k)
 | .makeInterface t x => z39 C (.makeInterface t x) e k
 | .makeFunc fn a b => z39 C (.makeFunc fn a b) e k
 | .field t x f => z39 C (.field t x f) e k
 | .build t ps => zzjd C t ps e k
 | _ => .fail
def laOf (la : List Nat) (dst : Option Nat) : Option Nat :=
 match dst with
 | some d => bif zc6 d la then some d else none
 | none => none
structure KLo where
 new : Nat -> List zab -> T
 set : Nat -> List zab -> T
def zzjc (f : Operand) (args : Array Operand) (e : Env) (k : KOp) : T :=
 match f with
 | .func g => gdT (Nat.blt g pn) (obT (evs args.toList e) fun aq => .call g aq k.K)
 | f => obT (ev f e) fun fv => obT (evs args.toList e) fun aq => .callv fv aq k.K
def two' (c : Call) (e : Env) (K : zab -> zab -> T) : T := obT (two c e) fun p => K p.1 p.2
def zyv (C : Ctx) (c : Call) (e : Env) (k : KOp) : Builtin -> T
 | .append => obT (zev c.argTypes.toList 0) fun t => obT (zev c.argTypes.toList 1) fun u => two' c e fun a b => .heavy (zd6 C t u a b) k.K
 | b => zng C c e k b
def zzja (C : Ctx) (t : Nat) (a x : Operand) (e : Env) (ae : zyg) (lo : Tr (List zab)) (k : KOp) (kl : KLo) : T :=
 match xAd ae a with
 | some p => obT (ev x e) fun v => obT (C.tys.get t) fun ty => obT (lo.get p.1) fun l => obT (zznm l p.2 ty.size (zvh ty v)) fun l' => .ite (zfh zab.one (zvh ty v)) (kl.set p.1 l') .fail
 | none => obT (ev a e) fun a => obT (ev x e) fun v => .heavy (za0 C t a v) k.Kd
def tH (C : Ctx) (la : List Nat) (dst : Option Nat) (op : Op) (e : Env) (ae : zyg) (lo : Tr (List zab)) (k : KOp) (kl : KLo) : T :=
 match op with
 | .box t x => bif za4 (zhz C t) then obT (ev x e) fun v => (match laOf la dst with
  | some d => obT (C.tys.get t) fun ty => bif ty.desc.isAgg then kl.new d v.cells else .ite (zab.one v) (kl.new d [v]) .fail
  | none => .heavy (zx9 v) k.K) else obT (ev x e) fun v => .heavy (zzll C t v) k.K
 | .alloc t => bif za4 (zhz C t) then (match laOf la dst with
  | some d => obT (C.tys.get t) fun ty => kl.new d ty.zero
  | none => .heavy (ze9 C t) k.K) else .heavy (zvy C t) k.K
 | .store t a x => zzja C t a x e ae lo k kl
 | .buildSlice t len ps => obT (evp ps.toList e) fun ps => .heavy (za8 C t len ps) k.K
 | .makeMap _ none => .heavy z30 k.K
 | .insert t m key x => obT (ev m e) fun m => obT (ev key e) fun key => obT (ev x e) fun v => .heavy (zvv C t m key v) k.Kd
 | .mapUpdate t m key x => obT (ev m e) fun m => obT (ev key e) fun key => obT (ev x e) fun v => .heavy (zvv C t m key v) k.Kd
 | .makeSlice t l c => obT (ev l e) fun l => obT (ev c e) fun c => .heavy (zco C t l c) k.K
 | .convert s d x => bif Nat.beq (zmh C d) 4 then obT (ev x e) fun v => .heavy (zvw C s d v) k.K else zzlv C s d x e k
 | .call c => match c.callee with
  | .value f => zzjc f c.args e k
  | .builtin b => zyv C c e k b
  | _ => .fail
 | .panic x => obT (ev x e) fun v => obT v.asIface fun p => .call pn [.iface p.1 p.2] k.K
 | op => tL C op e ae lo k
def rmNat (i : Nat) (l : List Nat) : List Nat := List.rec (motive := fun _ => List Nat) [] (fun j _ g => bif Nat.beq i j then g else j :: g) l
def z36 (n : Nat) (dst : Option Nat) (v : zab) (lt : Bool) (st : TSt) (κ : KT) : T :=
 match dst with
 | none => κ st
 | some d => bif Nat.blt d n then gdT (za4 (zio d st.ad)) (κ ⟨st.tm.set d v, st.ad, st.lo, bif lt then d :: rmNat d st.lit else rmNat d st.lit⟩) else κ st
def zzls (n : Nat) (dst : Option Nat) (d off : Nat) (st : TSt) (κ : KT) : T :=
 obT dst fun i => gdT (Nat.blt i n) (gdT (za4 (st.tm.get i)) (κ ⟨st.tm, (i, d, off) :: st.ad, st.lo, st.lit⟩))
def zzjx (d : Nat) (ad : List (Nat × Nat × Nat)) : Bool := zfh (fun a => bif Nat.beq a.2.1 d then Nat.beq a.1 d else true) ad
def tNew (n : Nat) (d : Nat) (l : List zab) (st : TSt) (κ : KT) : T :=
 gdT (Nat.blt d n) (gdT (za4 (st.tm.get d)) (gdT (zzjx d st.ad) (κ ⟨st.tm, (d, d, 0) :: st.ad, st.lo.set d l, st.lit⟩)))
def fitB (C : Ctx) (t : Nat) (v : zab) : Bool :=
 match C.tys.get t with
 | some ty => (match ty.desc with
  | .bool => Nat.beq v.tag 0
  | .int k => (match v.asIntK with | some p => kEq p.1 k | none => false)
  | .string => Nat.beq v.tag 2
  | _ => true)
 | none => true
def z9c (C : Ctx) (t : Nat) (v : zab) (K : zab -> T) : T :=
 match C.tys.get t with
 | some ty => (match ty.desc with
  | .bool => .asB v fun b => K (.bool b)
  | .int k => .asI k v fun n => K (.int k n)
  | .string => .asS v fun s => K (.str s)
  | .struct _ => bif Nat.ble (zbf ty.zero) 40 then .asG ty.zero v fun X => K (.agg (zo7 ty.zero X 0)) else K v
  | .arr _ _ => bif Nat.ble (zbf ty.zero) 40 then .asG ty.zero v fun X => K (.agg (zo7 ty.zero X 0)) else K v
  | _ => K v)
 | none => K v
def zzj1 (x : Operand) (lit : List Nat) : Bool :=
 match x with
 | .tmp t => lit.contains t
 | .const _ => true
 | _ => false
def zzha (op : Op) (e : Env) (lit : List Nat) : Bool :=
 match op with
 | .move x => zzj1 x lit
 | .assign x => zzj1 x lit
 | .unOp _ _ x => zzj1 x lit
 | .pick c a b => bif zzj1 c lit then (match ob (ev c e) zab.asBool with
  | some w => bif w then zzj1 a lit else zzj1 b lit
  | none => false) else false
 | _ => false
def zw6 (all : List Oper) (dst : Option Nat) (l : List Oper) : Bool :=
 match dst with
 | none => false
 | some d => !zfh (fun o => match o.guard with
  | some g => (match ob (zev all g.1) fun p => p.dst with | some i => !Nat.beq i d | none => true)
  | none => true) l
def zue (g lt : Bool) (v : zab) (K : zab -> Bool -> T) : T :=
 bif g then (bif lt then K v true else obT v.asBool fun b => .ite b (K (.bool true) true) (K (.bool false) true)) else K v lt
def kop (C : Ctx) (all : Array Oper) (n : Nat) (o : Oper) (e : Env) (st : TSt) (κ : KT) : KOp :=
 ⟨fun v => z9c C o.type v fun v => zue (zw6 all.toList o.dst all.toList) (zzha o.op e st.lit) v fun v lt => z36 n o.dst v lt st κ,
  fun v => gdT (fitB C o.type v) (zue (zw6 all.toList o.dst all.toList) (zzha o.op e st.lit) v fun v lt => z36 n o.dst v lt st κ),
  fun d off => gdT (!Nat.ble (zmh C o.type) 2) (zzls n o.dst d off st κ)⟩
def klo (C : Ctx) (n : Nat) (o : Oper) (st : TSt) (κ : KT) : KLo :=
 ⟨fun d l => gdT (!Nat.ble (zmh C o.type) 2) (tNew n d l st κ),
  fun d l => gdT (fitB C o.type zbj) (z36 n o.dst zbj false ⟨st.tm, st.ad, st.lo.set d l, st.lit⟩ κ)⟩
def Env.adCut (k : Nat) (l : List (Nat × Nat × Nat)) : List (Nat × Nat × Nat) := l.filter fun a => Nat.blt a.1 k
def TSt.cut (st : TSt) : TSt := ⟨st.tm.cut, Env.adCut st.tm.k st.ad, st.lo, st.lit⟩
def tops (C : Ctx) (la : List Nat) (all : Array Oper) (n : Nat) (κ : KT) (l : List Oper) : KT :=
 List.rec (motive := fun _ => KT) κ
  (fun o _ g st => obT (zbi o.guard all st.tm) fun w => Bool.rec (motive := fun _ => T) (z36 n o.dst zbj false st g)
   (tH C la o.dst o.op (.now st.tm) (.now st.ad) st.lo (kop C all n o (.now st.tm) st g) (klo C n o st g)) w) l
def z2m (st old : TSt) (olds : List Nat) (op : Op) : Env := .mixed st.tm old.tm olds (zb9 op)
def zzg5 (st old : TSt) (olds : List Nat) (op : Op) : zyg := .mixed st.ad old.ad olds (zb9 op)
def zge (C : Ctx) (all : Array Oper) (n : Nat) (old : TSt) (olds : List (Nat × List Nat)) (κ : KT) (l : List Nat) : KT :=
 List.rec (motive := fun _ => KT) κ
  (fun i _ g st => obT (zev all.toList i) fun o => obT (zbi o.guard all st.tm) fun w => Bool.rec (motive := fun _ => T) (z36 n o.dst zbj false st g)
   (tL C o.op (z2m st old (zda i olds) o.op) (zzg5 st old (zda i olds) o.op) st.lo (kop C all n o (z2m st old (zda i olds) o.op) st g)) w) l
def zmg (C : Ctx) (all : Array Oper) (old : TSt) (olds : List (Nat × List Nat)) (st : TSt) (k : T) (l : List Nat) : T :=
 List.rec (motive := fun _ => T) k
  (fun i _ g => obT (zev all.toList i) fun o => obT o.dst fun d => obT (zbi o.guard all st.tm) fun w => Bool.rec (motive := fun _ => T) g
   (obT (st.tm.get d) fun u => gdT (fitB C o.type u) (tL C o.op (z2m st old (zda i olds) o.op) (zzg5 st old (zda i olds) o.op) st.lo ⟨fun v => .ite (same 10 v u) g .fail, fun v => .ite (same 10 v u) g .fail, fun _ _ => .fail⟩)) w) l
def zuc (C : Ctx) (es : List Eff) (H : zaf) : Option (zab × zaf) := ob (zn8 C es H) fun H' => some (zbj, H')
def tEff (op : Op) (e : Env) (ae : zyg) : Option Eff :=
 match op with
 | .store t a x => (match xAd ae a with
  | some _ => none
  | none => zxm (.store t a x) e)
 | op => zxm op e
def zzf4 (all : Array Oper) (old : TSt) (olds : List (Nat × List Nat)) (st : TSt) (l : List Nat) : Option (List Eff) :=
 zel (fun i => ob (zev all.toList i) fun o => ob (zbi o.guard all st.tm) fun w => zaj w (tEff o.op (z2m st old (zda i olds) o.op) (zzg5 st old (zda i olds) o.op))) l
def zk0 (C : Ctx) (all : Array Oper) (n : Nat) (old : TSt) (olds : List (Nat × List Nat)) (κ : KT) (l : List zc7) : KT :=
 List.rec (motive := fun _ => KT) κ
  (fun s _ g st => Bool.rec (motive := fun _ => T) (obT (zev all.toList (hvI all s.heavy)) fun o => obT (zht C all s.heavy o st.tm) fun w =>
   (fun cont : KT => Bool.rec (motive := fun _ => T) (z36 n o.dst zbj false st cont)
    (tH C [] o.dst o.op (z2m st old (zda (hvI all s.heavy) olds) o.op) (zzg5 st old (zda (hvI all s.heavy) olds) o.op) st.lo (kop C all n o (z2m st old (zda (hvI all s.heavy) olds) o.op) st cont) (klo C n o st cont)) w)
   (fun st' => zmg C all old olds st' (zge C all n old olds g s.lights st') s.again))
   (gdT (zmk C all) (obT (zzf4 all old olds st s.again) fun es => .heavy (zuc C es) fun _ => zge C all n old olds g s.lights st)) (zg1 all s)) l
def z87 (C : Ctx) (la : List Nat) (fn n : Nat) (κ : KT) (id : Nat) (all : Array Oper) (draw : Bool) : KT :=
 Bool.rec (motive := fun _ => KT) (fun st => tops C la all n κ all.toList st.cut)
  (fun st => obT (ob (C.plans.get fn) fun t => t.get id) fun p => gdT (zkr all p) (zge C all n st.cut p.olds (zk0 C all n st.cut p.olds κ p.stages) p.first st.cut)) draw
def zt8 (st : TSt) (ll : List (Nat × Nat)) : Option (List zab) :=
 List.rec (motive := fun _ => Option (List zab)) (some []) (fun p _ g => ob (zio p.1 st.ad) fun a => zaj (Nat.beq a.1 p.1 && Nat.beq a.2 0) (ob (st.lo.get p.1) fun l => zaj (Nat.beq (zbf l) p.2) (ob g fun r => some (zfp l r)))) ll
def zrc (p : PI) (st : TSt) : Option (List zab) := ob (zel (fun i => st.tm.get i) p.pl) fun a => ob (zt8 st p.ll) fun b => some (zfp a b)
def zzae (ll : List (Nat × Nat)) : List zab -> Tr (List zab) :=
 List.rec (motive := fun _ => List zab -> Tr (List zab)) (fun _ => .leaf) (fun p _ g vals => (g (zm4 vals p.2)).set p.1 (zw0 vals p.2)) ll
def zyx (pl : List Nat) : List zab -> Tr zab :=
 List.rec (motive := fun _ => List zab -> Tr zab) (fun _ => .leaf) (fun i _ g vals => List.rec (motive := fun _ => Tr zab) .leaf (fun v vals _ => (g vals).set i v) vals) pl
def stAd (ll : List (Nat × Nat)) : List (Nat × Nat × Nat) := List.rec (motive := fun _ => List (Nat × Nat × Nat)) [] (fun p _ g => (p.1, p.1, 0) :: g) ll
def ztv (k : Nat) (p : PI) (vals : List zab) : TSt := ⟨⟨k, zyx p.pl vals, []⟩, stAd p.ll, zzae p.ll (zm4 vals (zbf p.pl)), []⟩
def npC (C : Ctx) (g : Nat) : Bool := za4 (C.prims.get g)
def zzjo (pl : List Nat) (st : TSt) : Option (List zab) := zel (fun i => st.tm.get i) pl
def psOk : List Nat -> Bool
 | [] => true
 | [_] => true
 | [p, q] => !Nat.beq p q
 | _ => false
def zza3 (k n : Nat) (pl ps : List Nat) (ops : List (Nat × Array Oper)) (c : zbb) : Bool :=
 zfh (fun p => Nat.blt p k && Nat.blt p n && !zc6 p pl) ps && psOk ps && zwk ops && (match zcs c with | [] => true | _ => false)
def rdT : KtT := ⟨fun _ => .ret (.bool true), fun _ _ => .fail, fun _ => .ret (.bool false)⟩
def zza2 (C : Ctx) (n : Nat) (κ : KtT) (i : Nat) (pl : List Nat) (f : Operand) (ps : List Nat) (ops : List (Nat × Array Oper)) (c : zbb) (st : TSt) : T :=
 gdT (zza3 st.tm.k n pl ps ops c) (obT (zzjo pl st) fun vals => obT (ev f (.now st.tm)) fun fv => .range (npC C) fv i (zbf ps) vals (κ.norm st) (κ.ret st))
def ztr (C : Ctx) (la : List Nat) (fn n : Nat) (c : zbb) : KtT -> KT :=
 zbb.rec (motive := fun _ => KtT -> KT)
  (fun κ st => κ.norm st)
  (fun id all draw κ => z87 C la fn n κ.norm id all draw)
  (fun _ _ ga gb κ => ga ⟨gb κ, κ.exit, κ.ret⟩)
  (fun c _ _ gx gy κ st => obT (ob (ev c (.now st.tm)) zab.asBool) fun b => bif zzj1 c st.lit then Bool.rec (motive := fun _ => T) (gy κ st) (gx κ st) b else .ite b (gx κ st) (gy κ st))
  (fun id _ g κ => g ⟨κ.norm, fun i st => Bool.rec (motive := fun _ => T) (κ.exit i st) (κ.norm st) (Nat.beq id i), κ.ret⟩)
  (fun p _ _ _ st => obT (zrc p st) fun vals => .jump p.id vals)
  (fun id κ st => κ.exit id st)
  (fun κ st => κ.ret st)
  (fun p _ _ _ st => obT (zrc p st) fun vals => .jump p.id vals)
  (fun i pl f ps ops c _ κ st => zza2 C n κ i pl f ps.toList ops c st) c
structure PtT where
 p : PI
 tree : List zab -> T
def zt0 (p : PI) : KT := fun st => obT (zrc p st) fun vals => .jump p.id vals
def zla (C : Ctx) (la : List Nat) (fn n k : Nat) (c : zbb) : KtT -> List PtT :=
 zbb.rec (motive := fun _ => KtT -> List PtT)
  (fun _ => [])
  (fun _ _ _ _ => [])
  (fun _ b ga gb κ => zfp (ga ⟨ztr C la fn n b κ, κ.exit, κ.ret⟩) (gb κ))
  (fun _ _ _ gx gy κ => zfp (gx κ) (gy κ))
  (fun id _ g κ => g ⟨κ.norm, fun i st => Bool.rec (motive := fun _ => T) (κ.exit i st) (κ.norm st) (Nat.beq id i), κ.ret⟩)
  (fun p c g κ => ⟨p, fun vals => ztr C la fn n c ⟨zt0 p, κ.exit, κ.ret⟩ (ztv k p vals)⟩ :: g ⟨zt0 p, κ.exit, κ.ret⟩)
  (fun _ _ => [])
  (fun _ => [])
  (fun p c g κ => ⟨p, fun vals => ztr C la fn n c κ (ztv k p vals)⟩ :: g κ)
  (fun i pl _ ps ops c g _ => ⟨⟨i, zfp pl ps.toList, []⟩, fun vals => ztr C la fn n (asA c ops) rdT (ztv k ⟨i, zfp pl ps.toList, []⟩ vals)⟩ :: g rdT) c
def resT (C : Ctx) (st : TSt) (l : List ResultVar) : (List zab -> T) -> T :=
 List.rec (motive := fun _ => (List zab -> T) -> T) (fun K => K [])
  (fun r _ g K => match r with
   | .tmp t => obT (st.tm.get t) fun v => g fun l => K (v :: l)
   | .cell a t => match zio a st.ad with
    | some p => obT (st.lo.get p.1) fun l => obT (C.tys.get t) fun ty => gdT (Nat.ble (p.2 + ty.size) (zbf l)) (obT (zm1 C t l p.2) fun v => g fun l => K (v :: l))
    | none => obT (st.tm.get a) fun a => .light (fun m => zao C t ⟨0, m⟩ a) fun v => g fun l => K (v :: l)) l
def endT (C : Ctx) (fn : Func) : KT := fun st => resT C st fn.results.toList fun l => .ret (zmw l)
def zzi9 (C : Ctx) (fn : Func) : KtT := ⟨endT C fn, fun _ _ => .fail, endT C fn⟩
structure zfs where
 code : zbb
 la : List Nat
def zzfg (C : Ctx) (fn : Func) (k : Nat) (f : Nat) (A : zfs) (args : List zab) : T := ztr C A.la f fn.ntmps A.code (zzi9 C fn) ⟨⟨k, Tr.ofList args, []⟩, [], .leaf, []⟩
def zzme (C : Ctx) (fn : Func) (k : Nat) (f : Nat) (A : zfs) : List PtT := zla C A.la f fn.ntmps k A.code (zzi9 C fn)
def zwl (l : List PtT) (i : Nat) (vals : List zab) : List T := List.rec (motive := fun _ => List T) [] (fun p _ g => bif Nat.beq p.p.id i then p.tree vals :: g else g) l
end Go.Am
namespace Go.Am
open Go Go.RowKit
def zf8 {α : Type} (x : Option α) (P : α -> Prop) : Prop :=
 match x with
 | some a => P a
 | none => False
theorem zhh {α : Type} {x : Option α} {P : α -> Prop} : zf8 x P ↔ ∃ a, x = some a /\ P a := by
 cases x with
 | none => simp [zf8]
 | some a => simp [zf8]
@[simp] theorem zaa {α : Type} {a : α} {P : α -> Prop} : zf8 (some a) P = P a := rfl
@[simp] theorem optP_none {α : Type} {P : α -> Prop} : zf8 (none : Option α) P = False := rfl
abbrev zbo := zab -> Tr zav -> Prop
abbrev zd3 := Nat -> List zab -> Tr zav -> zbo -> Prop
def zzkp {α : Type} : List α -> Bool | [] => true | _ :: _ => false
def zkx (f : zab) (args : List zab) : Option (Nat × List zab) := ob f.asFunc fun p => match p.1 with
 | .func g => zaj (Nat.blt g pn) (some (g, zfp (zfp p.2.1 args) p.2.2))
 | .yld l => zaj (zzkp p.2.1 && zzkp p.2.2) (some (yo + l, args))
def zgv (np : Nat -> Bool) (f : zab) (l : Nat) : Option (Nat × List zab) := ob f.asFunc fun p => match p.1 with
 | .func g => zaj (Nat.blt g pn && np g) (some (g, zfp p.2.1 (.func (.yld l) [] [] :: p.2.2)))
 | .yld _ => none
def intK (k : IntKind) (v : zab) : Option Int := ob v.asIntK fun p => zaj (kEq p.1 k) (some p.2)
def zt6 (zs : List zab) (v : zab) : Option zg6 := ob v.asAgg fun l => zaj (zob zs l) (some (cellsOf l))
def wpT (base : Nat) (W : zd3) (J : zd3) : T -> Tr zav -> zbo -> Prop
 | .ret v, t, Q => Q v t
 | .fail, _, _ => False
 | .ite b x y, t, Q => if b = true then wpT base W J x t Q else wpT base W J y t Q
 | .opt x K, t, Q => zf8 x fun v => wpT base W J (K v) t Q
 | .light x K, t, Q => zf8 (x t) fun v => wpT base W J (K v) t Q
 | .heavy x K, t, Q => ∀ b, t.get b = none -> base <= b -> zf8 (x ⟨b, t⟩) fun p => wpT base W J (K p.1) p.2.t Q
 | .call f args K, t, Q => W f args t fun v t' => wpT base W J (K v) t' Q
 | .callv f args K, t, Q => zf8 (zkx f args) fun p => W p.1 p.2 t fun v t' => wpT base W J (K v) t' Q
 | .asI k v K, t, Q => zf8 (intK k v) fun n => wpT base W J (K n) t Q
 | .asB v K, t, Q => zf8 v.asBool fun n => wpT base W J (K n) t Q
 | .asS v K, t, Q => zf8 v.asStr fun n => wpT base W J (K n) t Q
 | .asG zs v K, t, Q => zf8 (zt6 zs v) fun X => wpT base W J (K X) t Q
 | .jump i vals, t, Q => J i vals t Q
 | .range np f i m vals K R, t, Q => 256 <= base /\ ∀ l r, t.get l = none -> base <= l -> r.state = .ready -> r.pending = none →
   (∀ args t1 Q1, args.length = m -> t1.get l = some (.loop r) -> J i (vals ++ args) (t1.del l) (fun v t2 => t2.get l = none -> ∃ b, v = .bool b /\ Q1 v (t2.set l (.loop (zlf b r)))) -> W (yo + l) args t1 Q1) →
   zf8 (zgv np f l) fun p => W p.1 p.2 (t.set l (.loop r)) fun _ t' => (t'.get l = some (.loop r) /\ wpT base W J K (t'.del l) Q) \/ (t'.get l = some (.loop (zlf false r)) /\ wpT base W J R (t'.del l) Q)
abbrev Xt := Nat -> Option zav
def XLe (X Y : Xt) : Prop := ∀ b y, X b = some y -> Y b = some y
theorem XLe.refl (X : Xt) : XLe X X := fun _ _ h => h
theorem XLe.trans {X Y Z : Xt} (h : XLe X Y) (k : XLe Y Z) : XLe X Z := fun b y e => k b y (h b y e)
structure Ov (base : Nat) (t : Tr zav) (X : Xt) (H : zaf) : Prop where
 base : base <= H.next
 same : ∀ b, X b = none -> H.t.get b = t.get b
 ext : ∀ b y, X b = some y -> H.t.get b = some y /\ t.get b = none /\ b < H.next
 lt : ∀ b y, t.get b = some y -> b < H.next
def HLe (H H' : zaf) : Prop := ∀ b y, H.t.get b = some y -> H'.t.get b = some y
def zpr (e e' : Env) : Prop := ∀ i v, zzfc i e = some v -> zzfc i e' = some v
section
variable {base : Nat} {t : Tr zav} {X : Xt} {H HA : zaf} {e e' : Env} {C : Ctx} {v : zab}
theorem Ov.notX (h : Ov base t X HA) {b : Nat} {y : zav} (hb : t.get b = some y) : X b = none := by
 cases hx : X b with
 | none => rfl
 | some z => have := (h.ext b z hx).2.1; simp_all
theorem Ov.up (h : Ov base t X HA) {b : Nat} {y : zav} (hb : t.get b = some y) : HA.t.get b = some y := by rw [h.same b (h.notX hb)]; exact hb
theorem Ov.le (h : Ov base t X HA) {n : Nat} : HLe ⟨n, t⟩ HA := fun _ _ hb => h.up hb
theorem Ov.nextX (h : Ov base t X HA) : X HA.next = none := by
 cases hx : X HA.next with
 | none => rfl
 | some z => exact absurd (h.ext _ z hx).2.2 (Nat.lt_irrefl _)
theorem Ov.nextT (h : Ov base t X HA) : t.get HA.next = none := by
 cases hx : t.get HA.next with
 | none => rfl
 | some z => exact absurd (h.lt _ z hx) (Nat.lt_irrefl _)
theorem zc1 (h : HLe H HA) {b : Nat} {p : Tr zab × Nat × Option Lo} (hb : zax H b = some p) : zax HA b = some p := by
 unfold zax at hb ⊢; rw [zac] at hb ⊢; obtain ⟨y, h1, h2⟩ := hb; exact ⟨y, h _ _ h1, h2⟩
theorem zfk (h : HLe H HA) {b : Nat} {p : List (zab × zab)} (hb : zf6 H b = some p) : zf6 HA b = some p := by
 unfold zf6 at hb ⊢; rw [zac] at hb ⊢; obtain ⟨y, h1, h2⟩ := hb; exact ⟨y, h _ _ h1, h2⟩
theorem za9 (h : zpr e e') {x : Operand} (hx : ev x e = some v) : ev x e' = some v := by
 cases x with
 | tmp i => exact h i v hx
 | const c => exact hx
 | global g => exact hx
 | func f => exact hx
theorem zxj (h : zpr e e') {l : List Operand} {vs : List zab} (hx : evs l e = some vs) : evs l e' = some vs := zly l (fun _ _ k => za9 h k) hx
theorem z5k (h : zpr e e') {x : Option Operand} {r : Option zab} (hx : evo x e = some r) : evo x e' = some r := by
 cases x with
 | none => exact hx
 | some x =>
  have hx : ob (ev x e) (fun v => some (some v)) = some r := hx
  show ob (ev x e') (fun v => some (some v)) = some r
  grind [zac, za9]
theorem zxk (h : zpr e e') {l : List (Nat × Operand)} {vs : List (Nat × zab)} (hx : evp l e = some vs) : evp l e' = some vs :=
 zly l (fun a b k => by grind [zac, za9]) hx
theorem zv1 (h : zpr e e') {c : Call} {p : zab × zab} (hx : two c e = some p) : two c e' = some p := by
 grind [two, zac, za9]
theorem zub (h : HLe H HA) {ty : Nat} {a : zab} (hx : zao C ty H a = some v) : zao C ty HA a = some v := by
 grind [zao, zac, zc1]
theorem zpj (h : HLe H HA) {s d : ATy} {a : zab} (hx : zpk C s d a H = some v) : zpk C s d a HA = some v := by
 unfold zpk at hx ⊢
 split at hx
 ·omega
 ·rename_i hk
  rw [zae] at hx ⊢
  refine ⟨hx.1, ?_⟩
  have hx := hx.2
  rw [zay] at hx ⊢
  split at hx
  all_goals grind [zac, zae, zjz, zc1]
theorem z55 (h : HLe H HA) {s d : Nat} {a : zab} (hx : znd C s d H a = some v) : znd C s d HA a = some v := by
 grind [znd, zac, zpj]
theorem zmz (h : HLe H HA) {ty : ATy} {a : zab} {l r : Option zab} (hx : zga C H ty a l r = some v) : zga C HA ty a l r = some v := by
 have row : ∀ {arr e b off len cap}, zd7 C H arr e b off len cap l r = some v -> zd7 C HA arr e b off len cap l r = some v := by
  intro arr e b off len cap hx; unfold zd7 at hx ⊢
  simp only [zac] at hx ⊢
  obtain ⟨a1, h1, b1, h2, hx⟩ := hx
  refine ⟨a1, h1, b1, h2, ?_⟩
  cases hb : zax H b with
  | none =>
   have e1 : zdj H b a1.size cap b1.1 arr = false := by unfold zdj; rw [hb]
   have e2 : zc2 H b a1.size cap b1.1 arr = false := by unfold zc2; rw [hb]
   rw [e1, e2, yay, yay] at hx
   cases hx
  | some c =>
   grind [zdj, zc1, zc2]
 grind [zga, zac]
theorem z1g (h : HLe H HA) {ty : Nat} {a : zab} {l r : Option zab} (hx : zcb C ty H a l r = some v) : zcb C ty HA a l r = some v := by
 grind [zcb, zac, zmz]
theorem zo9 (h : HLe H HA) {m : zab} {l : List (zab × zab)} (hx : zwz H m = some l) : zwz HA m = some l := by
 grind [zwz, zfk]
theorem zyn (h : HLe H HA) {ty : Nat} {m k : zab} {ok : Bool} (hx : zox C ty H m k ok = some v) : zox C ty HA m k ok = some v := by
 unfold zox at hx ⊢
 simp only [zac, zae] at hx ⊢
 grind [zo9]
theorem zr3 (h : HLe H HA) {ty : ATy} {a : zab} {n : Nat} (hx : z8i H ty a = some n) : z8i HA ty a = some n := by
 unfold z8i at hx ⊢
 split at hx
 all_goals grind [zae, zac, zfk]
theorem z8x (h : HLe H HA) {ty : Nat} {a : zab} (hx : z8h C ty H a = some v) : z8h C ty HA a = some v := by
 grind [z8h, zac, zr3]
theorem zzch {ty : Nat} {a : Operand} : zr5 ty a C e H = ob (ev a e) fun v => zao C ty H v := rfl
theorem zzcj {s d : Nat} {x : Operand} {u : zab} (hx : ev x e = some u) : zma s d x C e H = znd C s d H u := by simp_all [zma, znd]
theorem zzhh {ty : Nat} {x : Operand} {lo hi : Option Operand} {a : zab} {l r : Option zab} (h1 : ev x e = some a) (h2 : evo lo e = some l) (h3 : evo hi e = some r) : zn0 ty x lo hi C e H = zcb C ty H a l r := by unfold zn0 zcb; rw [h1, zad, h2, zad, h3, zad]
theorem zp1 {s f : Nat} {x : Operand} {u : zab} (hx : ev x e = some u) : zd0 s x f C e H = zas C s f u := by
 unfold zd0 zas zre; rw [hx]
 cases C.tys.get s with
 | none => rfl
 | some ty =>
  simp only [zad]
  cases ty.desc.asStruct with
  | none => rfl
  | some fs =>
   simp only [zad]
   cases zev fs f with
   | none => rfl
   | some fd => simp only [zad]; cases hb : (!Nat.beq fd.2.2 0) <;> rfl
theorem zpz {ty : Nat} {x i : Operand} {u w : zab} (hx : ev x e = some u) (hi : ev i e = some w) : zdz ty x i C e H = zai C ty u w := by unfold zdz zai; rw [hx, hi]; rfl
theorem zzhk {ty : Nat} {x i : Operand} {u w : zab} (hx : ev x e = some u) (hi : ev i e = some w) : zlg ty x i C e H = zdv C ty u w := by unfold zlg zdv; rw [hx, hi]; rfl
theorem zzj4 {x : Operand} {u : zab} (hx : ev x e = some u) : zzhi x C e H = z3z u := by simp_all [zzhi, z3z]
theorem z67 {x : Operand} {i : Nat} {u : zab} (hx : ev x e = some u) : zf1 x i C e H = zb3 i u := by simp_all [zf1, zb3]
theorem lBin_v {op : BinOp} {ty : Nat} {x y : Operand} {u w : zab} (hx : ev x e = some u) (hy : ev y e = some w) : zzcl op ty x y C e H = (zzfi op).f C ty x y u w := by simp_all [zzcl]
theorem zzcm {x : Operand} {a : Nat} {ok : Bool} {u : zab} (hx : ev x e = some u) : zh7 x a ok C e H = zrf C a ok u := by
 unfold zh7 zrf; rw [hx]; rfl
theorem zzcg {ty : Nat} {x i : Operand} {ok : Bool} {m k : zab} (hx : ev x e = some m) (hi : ev i e = some k) : zh6 ty x i ok C e H = zox C ty H m k ok := by unfold zh6 zox; rw [hx, hi]; rfl
theorem lLen_v {c : Call} {ty : Nat} {x : Operand} {u : zab} (h1 : zev c.argTypes.toList 0 = some ty) (h2 : zev c.args.toList 0 = some x) (hx : ev x e = some u) : z2q c C e H = z8h C ty H u := by grind [z2q, z8h, zad]
theorem zzh8 (he : zpr e e') {op : Op} (hp : zqh op = true \/ (∃ s d x, op = .convert s d x /\ (zmh C d = 1 \/ zmh C s = 2)) \/ (∃ c, op = .call c /\ (c.callee = .builtin .max \/ c.callee = .builtin .min))) {H' : zaf} (h : (zb2 op).f C e H = some v) : (zb2 op).f C e' H' = some v := by
 rcases hp with hp | hp | hp
 ·cases op <;> simp only [zqh] at hp <;> try (cases hp; done)
  case move x => exact za9 he h
  case assign x => exact za9 he h
  case pick c a b =>
   have h : ob (ev c e) (fun c => ob c.asBool fun c => bif c then ev a e else ev b e) = some v := h
   show ob (ev c e') (fun c => ob c.asBool fun c => bif c then ev a e' else ev b e') = some v
   grind [zac, za9]
  case nilCheck x =>
   have h : ob (ev x e) (fun u => zaj (Nat.beq u.tag 4 || Nat.beq u.tag 9) (some u)) = some v := h
   show ob (ev x e') (fun u => zaj (Nat.beq u.tag 4 || Nat.beq u.tag 9) (some u)) = some v
   grind [zac, za9]
  case binOp op t x y u =>
   have h : zzcl op t x y C e H = some v := h
   show zzcl op t x y C e' H' = some v
   grind [zzcl, zac, za9]
  case unOp op t x =>
   have h : lUn op x C e H = some v := h
   show lUn op x C e' H' = some v
   grind [lUn, zac, za9]
  case makeInterface t x =>
   have h : zp0 t x C e H = some v := h
   show zp0 t x C e' H' = some v
   grind [zp0, zac, zae, za9]
  case makeFunc fn a b =>
   have h : (zlh fn a b).f C e H = some v := h
   show (zlh fn a b).f C e' H' = some v
   unfold zlh at h ⊢
   split at h
   ·grind [z66, zac, zxj]
   ·cases h
  case fieldAddr s x f =>
   have h : zd0 s x f C e H = some v := h
   show zd0 s x f C e' H' = some v
   unfold zd0 at h ⊢
   simp only [zac, zae] at h ⊢
   obtain ⟨a, h1, b, h2, c, h3, h4, u, h5, h6⟩ := h
   exact ⟨a, h1, b, h2, c, h3, h4, u, za9 he h5, h6⟩
  case field t x f =>
   have h : zp2 t x f C e H = some v := h
   show zp2 t x f C e' H' = some v
   grind [zp2, zac, za9]
  case indexAddr t x i =>
   have h : zdz t x i C e H = some v := h
   show zdz t x i C e' H' = some v
   unfold zdz at h ⊢
   simp only [zac] at h ⊢
   grind [za9]
  case index t x i =>
   have h : zlg t x i C e H = some v := h
   show zlg t x i C e' H' = some v
   unfold zlg at h ⊢
   simp only [zac] at h ⊢
   grind [za9]
  case extract t i =>
   have h : zf1 t i C e H = some v := h
   show zf1 t i C e' H' = some v
   grind [zf1, zac, za9]
  case build t ps =>
   have h : zml t ps C e H = some v := h
   show zml t ps C e' H' = some v
   grind [zml, zac, zxk]
  case typeAssert x t u ok =>
   have h : zh7 x u ok C e H = some v := h
   show zh7 x u ok C e' H' = some v
   grind [zh7, zac, zae, za9]
 ·obtain ⟨s, d, x, rfl, hp⟩ := hp
  have h : zma s d x C e H = some v := h
  show zma s d x C e' H' = some v
  unfold zma at h ⊢
  simp only [zac] at h ⊢
  obtain ⟨u, h1, sy, h2, dy, h3, h4⟩ := h
  refine ⟨u, za9 he h1, sy, h2, dy, h3, ?_⟩
  unfold zpk at h4 ⊢
  split at h4
  ·exact h4
  ·rename_i hd
   rw [zae] at h4 ⊢
   refine ⟨h4.1, ?_⟩
   have h4 := h4.2
   rw [zay] at h4 ⊢
   split at h4
   ·simp_all
   ·rename_i e
    exfalso
    rcases hp with hp | hp
    ·unfold zmh at hp
     rw [h3] at hp; have hp : dy.desc.tag = 1 := hp
     cases hx : dy.desc <;> rw [hx] at hp hd <;> first
      | (cases hp; done)
      | (cases hd; done)
    ·unfold zmh at hp
     rw [h2] at hp; have hp : sy.desc.tag = 2 := hp
     simp only [zac] at h4; obtain ⟨el, h5, _⟩ := h4
     cases hx : sy.desc <;> rw [hx] at hp h5 <;> first
      | (cases hp; done)
      | (cases h5; done)
 ·obtain ⟨c, rfl, hc⟩ := hp
  rcases hc with hc | hc
  ·have h : (zgj c c.callee).f C e H = some v := h
   show (zgj c c.callee).f C e' H' = some v
   rw [hc] at h ⊢
   have h : zzcf c C e H = some v := h
   show zzcf c C e' H' = some v
   grind [zzcf, zac, zv1]
  ·have h : (zgj c c.callee).f C e H = some v := h
   show (zgj c c.callee).f C e' H' = some v
   rw [hc] at h ⊢
   have h : zzcd c C e H = some v := h
   show zzcd c C e' H' = some v
   grind [zzcd, zac, zv1]
end
end Go.Am
namespace Go.Am
open Go Go.RowKit
section
variable {base : Nat} {t : Tr zav} {X : Xt} {H HA : zaf} {e e' : Env} {C : Ctx} {v : zab}
theorem Ov.newBlk (h : Ov base t X HA) (y : zav) : Ov base (t.set HA.next y) X (newBlk HA y) := by
 refine ⟨Nat.le_succ_of_le h.base, fun b hb => ?_, fun b z hb => ?_, fun b z hb => ?_⟩
 ·show (HA.t.set HA.next y).get b = _
  rw [Tr.get_set, Tr.get_set]; split
  ·rfl
  ·exact h.same b hb
 ·obtain ⟨h1, h2, h3⟩ := h.ext b z hb
  have hne : b ≠ HA.next := Nat.ne_of_lt h3
  refine ⟨?_, ?_, Nat.lt_succ_of_lt h3⟩
  ·show (HA.t.set HA.next y).get b = _
   grind [Tr.get_set]
  grind [Tr.get_set]
 ·rw [Tr.get_set] at hb
  show b < HA.next + 1
  split at hb
  ·omega
  ·exact Nat.lt_succ_of_lt (h.lt _ _ hb)
theorem Ov.setBlk (h : Ov base t X HA) {b : Nat} {y : zav} (hb : t.get b = some y) (z : zav) : Ov base (t.set b z) X (setBlk HA b z) := by
 refine ⟨h.base, fun c hc => ?_, fun c u hc => ?_, fun c u hc => ?_⟩
 ·show (HA.t.set b z).get c = _
  rw [Tr.get_set, Tr.get_set]; split
  ·rfl
  ·exact h.same c hc
 ·obtain ⟨h1, h2, h3⟩ := h.ext c u hc
  have hne : c ≠ b := fun e => by simp_all
  refine ⟨?_, ?_, h3⟩
  ·show (HA.t.set b z).get c = _
   grind [Tr.get_set]
  grind [Tr.get_set]
 ·rw [Tr.get_set] at hc
  show c < HA.next
  split at hc
  ·rename_i e; rw [e]; exact h.lt _ _ hb
  ·exact h.lt _ _ hc
theorem Ov.delBlk (h : Ov base t X HA) {b : Nat} {y : zav} (hb : t.get b = some y) : Ov base (t.del b) X ⟨HA.next, HA.t.del b⟩ := by
 refine ⟨h.base, fun c hc => ?_, fun c u hc => ?_, fun c u hc => ?_⟩
 ·show (HA.t.del b).get c = _
  rw [Tr.get_del, Tr.get_del]; split
  ·rfl
  ·exact h.same c hc
 ·obtain ⟨h1, h2, h3⟩ := h.ext c u hc
  grind [Tr.get_del]
 ·rw [Tr.get_del] at hc
  show c < HA.next
  split at hc
  ·cases hc
  ·exact h.lt _ _ hc
def z8b (base : Nat) (x : zaf -> Option (zab × zaf)) : Prop := ∀ t X HA v H', Ov base t X HA -> x ⟨HA.next, t⟩ = some (v, H') -> ∃ HA', x HA = some (v, HA') /\ Ov base H'.t X HA'
theorem znw (l : List zab) (lo : Option Lo) (h : Ov base t X HA) : Ov base (za7 ⟨HA.next, t⟩ l lo).t X (za7 HA l lo) := h.newBlk _
theorem z80 {ty : Nat} : z8b base (ze9 C ty) := by
 intro t X HA v H' ho h; unfold ze9 at h ⊢
 rw [zac] at h; obtain ⟨y, h1, h2⟩ := h
 cases h2; simp_all [znw]
theorem zzlk {u : zab} : z8b base (zx9 u) := by
 intro t X HA v H' ho h
 cases h; exact ⟨_, rfl, znw _ _ ho⟩
theorem z57 {ty : Nat} : z8b base (zvy C ty) := by
 intro t X HA v H' ho h; unfold zvy at h ⊢
 rw [zac] at h; obtain ⟨y, h1, h3⟩ := h
 grind [zad, znw]
theorem zzfr {ty : Nat} {u : zab} : z8b base (zzll C ty u) := by
 intro t X HA v H' ho h; grind [zzll, znw]
theorem ztq {ty n : Nat} {ps : List (Nat × zab)} : z8b base (za8 C ty n ps) := by
 intro t X HA v H' ho h; unfold za8 at h ⊢
 simp only [zac, zae] at h; obtain ⟨a, h1, b, h2, c, h3, h4, l, h5, h6⟩ := h
 grind [znw, zac, zae]
theorem zri (ho : Ov base t X HA) {b off : Nat} {l : List zab} {H' : zaf} (h : zdw C ⟨HA.next, t⟩ b off l = some H') : ∃ HA', zdw C HA b off l = some HA' /\ Ov base H'.t X HA' := by
 unfold zdw at h ⊢
 simp only [zac, zae] at h; obtain ⟨h1, c, h2, h3, h4⟩ := h
 cases h4; have h2' := h2
 unfold zax at h2'; rw [zac] at h2'
 obtain ⟨y, h5, _⟩ := h2'
 refine ⟨_, ?_, ho.setBlk h5 _⟩
 simp only [zac, zae]; exact ⟨h1, c, zc1 ho.le h2, h3, rfl⟩
theorem z8w {ty : Nat} {a u : zab} : z8b base (za0 C ty a u) := by
 intro t X HA v H' ho h; unfold za0 at h ⊢
 simp only [zac, zae] at h; obtain ⟨y, h1, p, h2, h3, H1, h4, h5⟩ := h
 grind [zri, zac, zae]
theorem z1h : z8b base z30 := by
 intro t X HA v H' ho h
 cases h; exact ⟨_, rfl, ho.newBlk _⟩
theorem zua {ty : Nat} {m k u : zab} : z8b base (zvv C ty m k u) := by
 intro t X HA v H' ho h; unfold zvv at h ⊢
 simp only [zac, zae] at h; obtain ⟨a, h1, b, h2, c, h3, h4, d, h5, h6, l, h7, h8, l', h9, h10⟩ := h
 cases h10; have h7' := h7
 unfold zf6 at h7'; rw [zac] at h7'
 obtain ⟨y, h11, _⟩ := h7'
 refine ⟨_, ?_, ho.setBlk h11 _⟩
 simp only [zac, zae]; exact ⟨a, h1, b, h2, c, h3, h4, d, h5, h6, l, zfk ho.le h7, h8, l', h9, rfl⟩
theorem zzeu (ho : Ov base t X HA) {e : RE} {H' : zaf} (h : zor C ⟨HA.next, t⟩ e = some H') : ∃ HA', zor C HA e = some HA' /\ Ov base H'.t X HA' /\ HA'.next = HA.next /\ H'.next = HA.next := by
 obtain ⟨x, y, h1, h2, rfl⟩ := zid.1 h
 exact ⟨setBlk HA e.blk y, zid.2 ⟨x, y, ho.up h1, h2, rfl⟩, ho.setBlk h1 _, rfl, rfl⟩
theorem z0x : ∀ {l : List RE} {t : Tr zav} {HA : zaf} {H' : zaf}, Ov base t X HA -> zs9 C l ⟨HA.next, t⟩ = some H' -> ∃ HA', zs9 C l HA = some HA' /\ Ov base H'.t X HA'
 | [], t, HA, H', ho, h => by cases h; exact ⟨HA, rfl, ho⟩
 | e :: l, t, HA, H', ho, h => by
  unfold zs9 at h ⊢
  rw [zac] at h; obtain ⟨H1, h1, h⟩ := h
  obtain ⟨HA1, g1, g2, g3, g4⟩ := zzeu ho h1
  rw [g1, zad]; obtain ⟨n1, t1⟩ := H1
  have g4 : n1 = HA.next := g4
  subst g4; rw [<- g3] at h; exact z0x g2 h
theorem zzay (ho : Ov base t X HA) {e : RE} (h : zur C ⟨HA.next, t⟩ e = true) : zur C HA e = true := by
 cases e with
 | st b off l =>
  change (!za4 (zdw C ⟨HA.next, t⟩ b off l)) = true at h
  show (!za4 (zdw C HA b off l)) = true
  cases hs : zdw C ⟨HA.next, t⟩ b off l with
  | none => rw [hs] at h; cases h
  | some H' => obtain ⟨HA', g, _⟩ := zri ho hs; rw [g]; rfl
 | up b k v =>
  unfold zur at h ⊢
  rw [ybb] at h ⊢
  refine ⟨h.1, ?_⟩
  have h2 := h.2
  split at h2
  ·rename_i hm; rw [zfk ho.le hm]
  grind
theorem z8z {es : List Eff} : z8b base (zuc C es) := by
 intro t X HA v H' ho h; grind [zuc, zn8, zac, zae, z0x, zc5, zzay]
theorem zvx {ty : Nat} {l c : zab} : z8b base (zco C ty l c) := by
 intro t X HA v H' ho h; unfold zco at h ⊢
 simp only [zac, zae] at h; obtain ⟨a, h1, b, h2, d, h3, n, h4, m, h5, h6, h7⟩ := h
 grind [znw, zac, zae]
theorem z1f {s d : Nat} {u : zab} : z8b base (zvw C s d u) := by
 intro t X HA v H' ho h; unfold zvw at h ⊢
 simp only [zac, zae] at h; obtain ⟨a, h1, b, h2, c, h3, et, h4, k, h5, h6, l, h7, h8⟩ := h
 cases h8; refine ⟨za7 HA (zgs l) (some (.ty c)), ?_, znw _ _ ho⟩
 grind [zac, zae]
theorem z2z (h : HLe H HA) {sz n : Nat} {u : zab} {l : List zab} (hx : zmo H sz n u = some l) : zmo HA sz n u = some l := by
 grind [zmo, zac, zc1]
theorem z77 (ho : Ov base t X HA) {ty : ATy} {a b : zab} {H' : zaf} (h : zje C ⟨HA.next, t⟩ ty a b = some (v, H')) : ∃ HA', zje C HA ty a b = some (v, HA') /\ Ov base H'.t X HA' := by
 unfold zje at h; simp only [zac] at h; obtain ⟨el, h1, et, h2, n, h3, new, h4, h5⟩ := h
 have h4' := z2z ho.le h4
 suffices hs : ∃ HA', (match a.asSlice with
  | some s => bif Nat.ble (s.2.2.1 + n) s.2.2.2 then zhj C HA et n new s else zkf C HA el et n new s
  | none => zaj (Nat.beq a.tag 5) (zjc HA el et n new)) = some (v, HA') /\ Ov base H'.t X HA' by
  grind [zje, zac]
 cases hs : a.asSlice with
 | some s =>
  rw [hs] at h5; simp only [] at h5 ⊢
  rw [zay] at h5; split at h5
  ·rename_i hr
   simp only [hr, cond_true]; unfold zhj at h5 ⊢
   grind [zac, zri]
  ·rename_i hr
   simp only [Bool.not_eq_true] at hr; simp only [hr, cond_false]; unfold zkf at h5 ⊢
   rw [zae] at h5; obtain ⟨gm, h5⟩ := h5
   rw [zae] at h5; obtain ⟨g0, h5⟩ := h5
   rw [zac] at h5; obtain ⟨c, g1, h5⟩ := h5
   have g1' := zc1 ho.le g1
   unfold zax at g1; rw [zac] at g1; obtain ⟨y, g2, _⟩ := g1
   split at h5
   ·rename_i hc
    unfold zju at h5; rw [zac] at h5; obtain ⟨old, g3, g4⟩ := h5
    grind [znw, zae, zac, zju]
   ·rename_i es hc
    unfold zjv at h5; rw [zae] at h5; obtain ⟨g3, g4⟩ := h5
    cases g4
    refine ⟨⟨HA.next + 1, (HA.t.del s.1).set HA.next (.cells (c.1.setMany new (s.2.2.1 * et.size)) ((s.2.2.1 + n) * et.size) (some es))⟩, ?_, (ho.delBlk g2).newBlk _⟩
    grind [zae, zac, zjv]
 | none =>
  grind [zae, zjc, znw]
theorem z56 {ty u : Nat} {a b : zab} : z8b base (zd6 C ty u a b) := by
 intro t X HA v H' ho h; grind [zd6, zac, zae, z77]
end
def zps (ν : Nat -> Nat) (ae : zyg) (e : Env) : Prop := ∀ i p, tAd ae i = some p -> zzfc i e = some (.ptr (ν p.1) p.2)
def zze8 (base : Nat) (X0 X : Xt) (ν : Nat -> Nat) (lo : Tr (List zab)) : Prop := ∀ d l, lo.get d = some l -> X0 (ν d) = none /\ base <= ν d /\ ∃ c, X (ν d) = some (.cells c l.length none) /\ ∀ j a, l[j]? = some a -> c.get j = some a
theorem zbn {base : Nat} {W J : zd3} {α : Type} {x : Option α} {K : α -> T} {t : Tr zav} {Q : zbo} : wpT base W J (obT x K) t Q ↔ ∃ a, x = some a /\ wpT base W J (K a) t Q := by
 cases x with
 | none => exact ⟨fun h => (by cases h), fun ⟨_, h, _⟩ => (by cases h)⟩
 | some a => exact ⟨fun h => ⟨a, rfl, h⟩, fun ⟨_, h, k⟩ => (by cases h; exact k)⟩
theorem zgt {base : Nat} {W J : zd3} {b : Bool} {K : T} {t : Tr zav} {Q : zbo} : wpT base W J (gdT b K) t Q ↔ b = true /\ wpT base W J K t Q := by
 cases b with
 | false => exact ⟨fun h => (by cases h), fun ⟨h, _⟩ => (by cases h)⟩
 | true => exact ⟨fun h => ⟨rfl, h⟩, fun ⟨_, h⟩ => h⟩
theorem zme {base : Nat} {W J : zd3} {x : Option zab} {K : zab -> T} {t : Tr zav} {Q : zbo} : wpT base W J (.opt x K) t Q ↔ ∃ a, x = some a /\ wpT base W J (K a) t Q := zhh
theorem zls {base : Nat} {W J : zd3} {x : Tr zav -> Option zab} {K : zab -> T} {t : Tr zav} {Q : zbo} : wpT base W J (.light x K) t Q ↔ ∃ a, x t = some a /\ wpT base W J (K a) t Q := zhh
theorem zq9 {ν : Nat -> Nat} {ae : zyg} {e : Env} (h : zps ν ae e) {x : Operand} {p : Nat × Nat} (hx : xAd ae x = some p) : ev x e = some (.ptr (ν p.1) p.2) := by
 cases x with
 | tmp i => exact h i p hx
 | const _ => cases hx
 | global _ => cases hx
 | func _ => cases hx
theorem zzmk {c : Tr zab} {l : List zab} (h : ∀ j a, l[j]? = some a -> c.get j = some a) : ∀ (n off : Nat), off + n <= l.length -> c.many n off = some ((l.drop off).take n) := by
 intro n; induction n with
 | zero => intro off _; simp; rfl
 | succ n ih =>
  intro off ho; have hlt : off < l.length := by omega
  rw [Tr.many_succ, h off l[off] (ybd hlt), zad, ih (off + 1) (by omega), zad]
  rw [ybl hlt, List.take_succ_cons]
section
variable {W J : zd3} {t : Tr zav} {X X0 : Xt} {HA : zaf} {e eA : Env} {C : Ctx} {ν : Nat -> Nat} {ae : zyg} {lo : Tr (List zab)} {k : KOp} {Q : zbo} {R : zab -> Prop}
theorem z4y (ho : Ov C.base t X HA) (hl : zze8 C.base X0 X ν lo) {d off ty : Nat} {l : List zab} {y : ATy} {v : zab} (h1 : lo.get d = some l) (h2 : C.tys.get ty = some y) (h3 : Nat.ble (off + y.size) (zbf l) = true) (h4 : zm1 C ty l off = some v) :
  zao C ty HA (.ptr (ν d) off) = some v := by
 obtain ⟨_, _, c, hc, hg⟩ := hl d l h1
 have hb := (ho.ext _ _ hc).1
 unfold zao; simp only [zab.asPtr, zad]; rw [h2, zad]; grind [zax, zad, zav.asCells, zm1, znx, zg3, za1, zzmk, zfz, ze3, zbs]
theorem zgf (he : zpr e eA) {op : Op} (hp : zqh op = true \/ (∃ s d x, op = .convert s d x /\ (zmh C d = 1 \/ zmh C s = 2)) \/ (∃ c, op = .call c /\ (c.callee = .builtin .max \/ c.callee = .builtin .min)))
  (h : wpT C.base W J (z39 C op e k) t Q) (hKd : ∀ v, wpT C.base W J (k.Kd v) t Q -> R v) : ∃ v, (zb2 op).f C eA HA = some v /\ R v := by
 grind [z39, zbn, zzh8]
theorem z8y {ty : Nat} {u v : zab} {H : zaf} (ht : zmh C ty = 4) (h : zb6 u = some v) : z8h C ty H u = some v := by
 unfold zmh at ht
 cases hy : C.tys.get ty with
 | none => simp_all
 | some y =>
  rw [hy] at ht; have ht : y.desc.tag = 4 := ht
  unfold z8h; rw [hy, zad]; unfold zb6 at h; unfold z8i
  cases u <;> simp only [zab.asSlice, zab.asStr, zab.asMap, zab.tag] at h ⊢ <;> (try (rw [zae] at h; exact absurd h.1 (by decide)))
  case nilslice =>
   rw [zae] at h; have hn : y.desc.asArr = none := by cases hd : y.desc <;> rw [hd] at ht <;> first | rfl | (cases ht; done)
   simp_all [zac, zae]
  simp_all [zac, zae]
theorem zzc1 {ty : Nat} {u v : zab} {H H' : zaf} (ht : zmh C ty ≠ 6) (h : z8h C ty H u = some v) : z8h C ty H' u = some v := by
 unfold z8h at h ⊢
 simp only [zac] at h ⊢
 obtain ⟨y, h1, n, h2, h3⟩ := h
 refine ⟨y, h1, n, ?_, h3⟩
 have ht : ¬ Nat.beq y.desc.tag 6 = true := by
  grind [zmh, zds]
 unfold z8i at h2 ⊢
 split at h2
 all_goals grind [zae]
theorem zzab {ty : Nat} {a v : zab} {l h : Option zab} {H H' : zaf} (ht : zmh C ty = 2) (hx : zcb C ty H a l h = some v) : zcb C ty H' a l h = some v := by
 unfold zcb at hx ⊢
 rw [zac] at hx ⊢
 obtain ⟨y, h1, h2⟩ := hx
 refine ⟨y, h1, ?_⟩
 unfold zmh at ht; rw [h1] at ht; have ht : y.desc.tag = 2 := ht
 unfold zga at h2 ⊢
 have n1 : y.desc.asSlice = none := by cases hd : y.desc <;> rw [hd] at ht <;> first | rfl | (cases ht; done)
 have n2 : y.desc.asArr = none := by cases hd : y.desc <;> rw [hd] at ht <;> first | rfl | (cases ht; done)
 simp_all
theorem zry {u : zab} (h : zab.one u = true) : u.cells = [u] := by
 cases u <;> first
  | rfl
  | (have := zdk.1 h; grind [zab.tag])
theorem z7k {tyAt : Nat -> Option Nat} (place : Nat -> Option (Nat × Nat)) : ∀ (vs : List (Nat × zab)) {q : List (Nat × zab × List zab) × List zab}, zzbb C tyAt vs = some q -> zfh zab.one q.2 = true -> ∀ cells l, zzh5 place q.1 cells = some l -> zlm place vs cells = some l := by
 intro vs; induction vs with
 | nil => intro q h _ cells l hl; cases h; exact hl
 | cons p vs ih =>
  intro q h h1 cells l hl; have h : (ob (tyAt p.1) fun t => ob (C.tys.get t) fun ty => ob (zzbb C tyAt vs) fun r => some (bif ty.desc.isAgg then ((p.1, p.2, p.2.cells) :: r.1, r.2) else ((p.1, p.2, [p.2]) :: r.1, p.2 :: r.2))) = some q := h
  simp only [zac] at h; obtain ⟨ty, _, y, _, r, h3, h4⟩ := h
  have fin : ∀ (rest : List zab), zfh zab.one r.2 = true -> (ob (place p.1) fun q => ob (zznm cells q.1 q.2 p.2.cells) fun cells => zzh5 place r.1 cells) = some l -> zlm place (p :: vs) cells = some l := by
   intro _ hr hl; show (ob (place p.1) fun q => ob (zll cells q.1 q.2 p.2) fun cells => zlm place vs cells) = some l
   simp only [zac] at hl ⊢
   obtain ⟨a, g1, b, g2, g3⟩ := hl
   exact ⟨a, g1, b, g2, ih h3 hr _ _ g3⟩
  cases hb : y.desc.isAgg with
  | true =>
   rw [hb] at h4
   cases h4; exact fin [] h1 hl
  | false =>
   rw [hb] at h4
   cases h4; simp_all [zc5, zzh5, zry]
theorem zzlt (he : zpr e eA) (ha : zps ν ae eA) (ho : Ov C.base t X HA) (hl : zze8 C.base X0 X ν lo) {op : Op} (h : wpT C.base W J (tL C op e ae lo k) t Q)
  (hK : ∀ v, wpT C.base W J (k.K v) t Q -> R v) (hKd : ∀ v, wpT C.base W J (k.Kd v) t Q -> R v) (hKA : ∀ d off, wpT C.base W J (k.KA d off) t Q -> R (.ptr (ν d) off)) :
  ∃ v, (zb2 op).f C eA HA = some v /\ R v := by
 cases op <;> simp only [tL] at h <;> try (cases h; done)
 case move x =>
  unfold zzf2 at h; split at h
  ·rename_i p hp
   exact ⟨_, zq9 ha hp, hKA _ _ h⟩
  ·exact zgf he (.inl rfl) h hKd
 case assign x =>
  unfold zzf2 at h; split at h
  ·rename_i p hp
   exact ⟨_, zq9 ha hp, hKA _ _ h⟩
  ·exact zgf he (.inl rfl) h hKd
 case pick c a b => exact zgf he (.inl rfl) h hKd
 case load ty a =>
  unfold tLoad at h; split at h
  ·rename_i p hp
   simp only [zbn, zgt] at h; obtain ⟨l, h1, y, h2, h3, v, h4, h5⟩ := h
   refine ⟨v, ?_, hKd v h5⟩
   show zr5 ty a C eA HA = some v
   grind [zzch, zq9, zad, z4y]
  ·rw [zbn] at h
   obtain ⟨u, h1, h2⟩ := h
   rw [zls] at h2; obtain ⟨v, h3, h4⟩ := h2
   refine ⟨v, ?_, hK v h4⟩
   show zr5 ty a C eA HA = some v
   rw [zzch, za9 he h1, zad]; exact zub ho.le h3
 case nilCheck x =>
  unfold tNil at h; split at h
  ·rename_i p hp
   refine ⟨_, ?_, hKA _ _ h⟩
   show zzhi x C eA HA = _
   rw [zzj4 (zq9 ha hp)]; rfl
  ·rw [zbn] at h
   obtain ⟨u, h1, h2⟩ := h
   rw [zme] at h2; obtain ⟨v, h3, h4⟩ := h2
   refine ⟨v, ?_, hK v h4⟩
   show zzhi x C eA HA = _
   grind [zzj4, za9]
 case binOp op ty x y u =>
  unfold tBin at h; rw [zay] at h; split at h
  ·exact zgf he (.inl rfl) h hKd
  ·simp only [zbn, zme] at h
   obtain ⟨a, h1, b, h2, v, h3, h4⟩ := h
   refine ⟨v, ?_, hK v h4⟩
   show zzcl op ty x y C eA HA = _
   grind [lBin_v, za9]
 case unOp o ty x =>
  split at h
  ·simp only [zbn, zme] at h
   obtain ⟨u, h1, v, h2, h3⟩ := h
   refine ⟨v, ?_, hK v h3⟩
   show lUn .xor x C eA HA = _
   unfold lUn; rw [za9 he h1]; exact h2
  ·exact zgf he (.inl rfl) h hKd
 case convert s d x =>
  unfold zzlv at h; rw [zay] at h; split at h
  ·rename_i hd
   rw [zay] at h; split at h
   ·rename_i hs
    exact zgf he (.inr (.inl ⟨s, d, x, rfl, .inr (zds.1 hs)⟩)) h hKd
   ·simp only [zbn, zls] at h
    obtain ⟨u, h1, v, h2, h3⟩ := h
    refine ⟨v, ?_, hK v h3⟩
    show zma s d x C eA HA = _
    rw [zzcj (za9 he h1)]; exact z55 ho.le h2
  ·rw [zay] at h
   split at h
   ·rename_i hd
    exact zgf he (.inr (.inl ⟨s, d, x, rfl, .inl (zds.1 hd)⟩)) h hKd
   ·cases h
 case makeInterface ty x => exact zgf he (.inl rfl) h hKd
 case makeFunc fn a b => exact zgf he (.inl rfl) h hKd
 case slice ty x lo' hi mx =>
  cases mx with
  | some _ => cases h
  | none =>
   simp only [zzjb, zbn] at h; obtain ⟨a, h1, l, h2, r, h3, h4⟩ := h
   rw [zay] at h4; show ∃ v, zn0 ty x lo' hi C eA HA = some v /\ R v
   rw [zzhh (za9 he h1) (z5k he h2) (z5k he h3)]
   split at h4
   ·grind [zme, zzab, zds]
   ·rw [zls] at h4
    obtain ⟨v, h5, h6⟩ := h4
    exact ⟨v, z1g ho.le h5, hK v h6⟩
 case fieldAddr s x f =>
  unfold zug at h; show ∃ v, zd0 s x f C eA HA = some v /\ R v
  split at h
  ·rename_i p hp
   rw [zbn] at h; obtain ⟨o, h1, h2⟩ := h
   refine ⟨_, ?_, hKA _ _ h2⟩
   rw [zp1 (zq9 ha hp)]
   unfold zas; rw [h1]; rfl
  grind [zbn, zme, zp1, za9]
 case field ty x f => exact zgf he (.inl rfl) h hKd
 case indexAddr ty x i =>
  unfold zuf at h; show ∃ v, zdz ty x i C eA HA = some v /\ R v
  split at h
  ·rename_i p hp
   simp only [zbn] at h; obtain ⟨iv, h1, n, h2, o, h3, h4⟩ := h
   refine ⟨_, ?_, hKA _ _ h4⟩
   rw [zpz (zq9 ha hp) (za9 he h1)]
   unfold z31 at h3; simp only [zac, zae] at h3; obtain ⟨y, g1, a, g2, et, g3, g4, g5⟩ := h3
   cases g5
   unfold zai; rw [g1, zad, h2, zad]; simp only [zab.asSlice, zab.asPtr, zad]; rw [g2, zad, g3, zad, g4]; rfl
  grind [zbn, zme, zpz, za9]
 case index ty x i =>
  rw [zay] at h; split at h
  ·exact zgf he (.inl rfl) h hKd
  ·simp only [zbn, zme] at h
   obtain ⟨u, h1, w, h2, v, h3, h4⟩ := h
   refine ⟨v, ?_, hK v h4⟩
   show zlg ty x i C eA HA = _
   grind [zzhk, za9]
 case lookup ty x i ok =>
  simp only [zbn, zls] at h; obtain ⟨m, h1, key, h2, v, h3, h4⟩ := h
  refine ⟨v, ?_, hK v h4⟩
  show zh6 ty x i ok C eA HA = _
  rw [zzcg (za9 he h1) (za9 he h2)]; exact zyn ho.le h3
 case extract x i =>
  simp only [zbn, zme] at h; obtain ⟨u, h1, v, h2, h3⟩ := h
  refine ⟨v, ?_, hK v h3⟩
  show zf1 x i C eA HA = _
  grind [z67, za9]
 case typeAssert x a u ok =>
  simp only [zbn, zme] at h; obtain ⟨w, h1, v, h2, h3⟩ := h
  refine ⟨v, ?_, hK v h3⟩
  show zh7 x u ok C eA HA = _
  grind [zzcm, za9]
 case build ty ps =>
  unfold zzjd at h; simp only [zbn, zgt] at h; obtain ⟨y, h1, hbd, vs, h2, q, h3, l, h4, h5⟩ := h
  have h5 : if zfh zab.one q.2 = true then wpT C.base W J (k.Kd (.agg l)) t Q else False := h5
  split at h5
  ·rename_i hone
   refine ⟨_, ?_, hKd _ h5⟩
   show zml ty ps C eA HA = _
   have hf := z7k (zuy C y) vs h3 hone y.zero l h4
   unfold zml; rw [h1, zad, zxk he h2, zad]
   cases hs : y.desc.asStruct with
   | some fs =>
    simp only []; have : (fun i => ob (zev fs i) fun x => some (x.1, x.2.2)) = zuy C y := by funext i; unfold zuy; rw [hs]
    simp_all
   | none =>
    simp only []; unfold z0w at hbd; rw [hs] at hbd; simp only [] at hbd
    cases ha : y.desc.asArr with
    | none => simp_all
    | some a =>
     rw [ha] at hbd; simp only [] at hbd
     cases hy : C.tys.get a.2 with
     | none => simp_all
     | some et =>
      simp only [zad]; have : (fun i => some (i * et.size, et.size)) = zuy C y := by funext i; unfold zuy; rw [hs]; simp only []; rw [ha, zad, hy, zad]
      simp_all
  simp_all
 case call c =>
  split at h
  ·rename_i b hb
   cases b <;> simp only [zng] at h <;> try (cases h; done)
   case len =>
    unfold tLen at h; simp only [zbn] at h; obtain ⟨ty, h1, x, h2, u, h3, h4⟩ := h
    show ∃ v, (zgj c c.callee).f C eA HA = some v /\ R v
    rw [hb]; show ∃ v, z2q c C eA HA = some v /\ R v
    rw [lLen_v h1 h2 (za9 he h3)]
    rw [zay] at h4; split at h4
    ·grind [zme, z8y, zds]
    ·rw [zay] at h4
     split at h4
     ·rw [zls] at h4
      obtain ⟨v, h5, h6⟩ := h4
      exact ⟨v, z8x ho.le h5, hK v h6⟩
     grind [zbn, zzc1, zds]
   case max => exact zgf he (.inr (.inr ⟨c, rfl, .inl hb⟩)) h hKd
   case min => exact zgf he (.inr (.inr ⟨c, rfl, .inr hb⟩)) h hKd
  ·cases h
end
end Go.Am
namespace Go.Am
open Go Go.RowKit
def zxv (C : Ctx) (A : Tr zbb) (f : Nat) (args : List zab) (H : zaf) : zbt :=
 bif Nat.blt f yo then
  match C.prims.get f with
  | some g => ob (g args H) fun p => some (⟨p.1, false⟩, p.2)
  | none => fnV C A (.func f) args H
 else fnV C A (.yld (f - yo)) args H
theorem zl4 {C : Ctx} {A : Tr zbb} {f : Nat} {args : List zab} {H : zaf} (h : Nat.blt f yo = true) : zxv C A f args H = (match C.prims.get f with
  | some g => ob (g args H) fun p => some (⟨p.1, false⟩, p.2)
  | none => fnV C A (.func f) args H) := by grind [zxv]
theorem z0t {C : Ctx} {A : Tr zbb} {l : Nat} {args : List zab} {H : zaf} : zxv C A (yo + l) args H = fnV C A (.yld l) args H := by
 unfold zxv; have : Nat.blt (yo + l) yo = false := Bool.eq_false_iff.2 fun e => by grind [zdk]
 simp_all
def noP : zbo := fun _ _ => False
def Res (base : Nat) (X0 : Xt) (E Q : zbo) (d : zbt) : Prop := ∃ o t' HA' X', d = some (o, HA') /\ Ov base t' X' HA' /\ XLe X0 X' /\ if o.p = true then E o.v t' else Q o.v t'
theorem Res.mono {base : Nat} {X0 : Xt} {E Q E' Q' : zbo} {d : zbt} (h : Res base X0 E Q d) (k : ∀ v t, Q v t -> Q' v t) (k' : ∀ v t, E v t -> E' v t := by exact fun _ _ h => h) : Res base X0 E' Q' d := by
 obtain ⟨o, t', HA', X', h1, h2, h3, h4⟩ := h
 refine ⟨o, t', HA', X', h1, h2, h3, ?_⟩
 split at h4
 ·rename_i hp; rw [yab hp]; exact k' _ _ h4
 ·rename_i hp; rw [yaa hp]; exact k _ _ h4
theorem zfg {base : Nat} {X0 : Xt} {Q : zbo} {d : zbt} : Res base X0 noP Q d ↔ ∃ v t' HA' X', d = some (⟨v, false⟩, HA') /\ Ov base t' X' HA' /\ XLe X0 X' /\ Q v t' := by
 constructor
 ·rintro ⟨⟨v, p⟩, t', HA', X', h1, h2, h3, h4⟩
  cases p with
  | true => exact h4.elim
  | false => exact ⟨v, t', HA', X', h1, h2, h3, h4⟩
 ·rintro ⟨v, t', HA', X', h1, h2, h3, h4⟩
  exact ⟨_, t', HA', X', h1, h2, h3, h4⟩
structure zhc (C : Ctx) (A : Tr zbb) (E : zbo) (W : zd3) : Prop where
 fn : ∀ f args t R, Nat.blt f pn = true -> W f args t R -> ∀ X HA, Ov C.base t X HA -> Res C.base X E R (zxv C A f args HA)
 rd : ∀ l args t R, W (yo + l) args t R -> ∀ X HA, Ov C.base t X HA -> Res C.base X noP R (zxv C A (yo + l) args HA)
 raise : ∀ args t R, W pn args t R -> ∃ v, args = [v] /\ E v t
section
variable {W J : zd3} {t : Tr zav} {X X0 : Xt} {HA : zaf} {e eA : Env} {C : Ctx} {A : Tr zbb} {ν : Nat -> Nat} {ae : zyg} {lo : Tr (List zab)} {k : KOp} {kl : KLo} {Q E : zbo}
theorem zja {f : LOp} {H : zaf} {v : zab} (h : f C e H = some v) : lv f C e H = .val v H := by unfold lv; rw [h]
theorem zzex {op : Op} {H : zaf} {v : zab} (h : (zb2 op).f C e H = some v) : (aop op).f C e H = .val v H := by
 cases op
 case move x => exact zja h
 case assign x => exact zja h
 case pick c a b => exact zja h
 case load t a => exact zja h
 case nilCheck x => exact zja h
 case binOp op t x y u => exact zja h
 case unOp op t x => exact zja h
 case makeInterface t x => exact zja h
 case makeFunc fn a b => exact zja h
 case slice t x lo hi mx => exact zja h
 case fieldAddr s x f => exact zja h
 case field t x f => exact zja h
 case indexAddr t x i => exact zja h
 case index t x i => exact zja h
 case extract t i => exact zja h
 case build t ps => exact zja h
 case typeAssert x t u ok => exact zja h
 case lookup t x i ok => exact zja h
 case convert s d x =>
  show zgq s d x C e H = _
  have h : zma s d x C e H = some v := h
  unfold zgq; rw [h]
 case call c =>
  have h : (zgj c c.callee).f C e H = some v := h
  show (zpd c c.callee).f C e H = _
  cases hc : c.callee with
  | value f => rw [hc] at h; cases h
  | invoke a b => rw [hc] at h; cases h
  | builtin b =>
   rw [hc] at h
   cases b
   case len => exact zja (f := z2q c) h
   case max => exact zja (f := zzcf c) h
   case min => exact zja (f := zzcd c) h
   all_goals exact absurd (show (none : Option zab) = some v from h) (by simp)
 all_goals exact absurd (show (none : Option zab) = some v from h) (by simp)
theorem ziu {x : Option (zab × zaf)} {v : zab} {H' : zaf} {kd : zab -> zaf -> zbt} {φ : Ora} (h : x = some (v, H')) : zj8 φ (ztm x) HA kd = kd v H' := by subst h; rfl
theorem zku (ho : Ov C.base t X HA) {x : zaf -> Option (zab × zaf)} (hx : z8b C.base x) {K : zab -> T} (h : wpT C.base W J (.heavy x K) t Q) {kd : zab -> zaf -> zbt} {φ : Ora}
  (hK : ∀ v t' HA' X', Ov C.base t' X' HA' -> XLe X X' -> wpT C.base W J (K v) t' Q -> Res C.base X0 E Q (kd v HA')) {r : zqb} (hr : ∀ p, x HA = some p -> zj8 φ r HA kd = kd p.1 p.2) : Res C.base X0 E Q (zj8 φ r HA kd) := by
 have h := h HA.next ho.nextT ho.base
 rw [zhh] at h; obtain ⟨⟨v, H'⟩, h1, h2⟩ := h
 obtain ⟨HA', h3, h4⟩ := hx _ _ _ _ _ ho h1
 grind [XLe.refl]
theorem zzk0 {f : Nat} (h : Nat.blt f pn = true) : Nat.blt f yo = true /\ f ≠ pn := by
 have h := zdk.1 h
 unfold pn at h; exact ⟨zdk.2 (by unfold yo; omega), by unfold pn; omega⟩
theorem zzn7 (hW : zhc C A E W) (ho : Ov C.base t X HA) (hX : XLe X0 X) {f : Nat} (hf : Nat.blt f pn = true) {args : List zab} {K : zab -> T} (h : W f args t fun v t' => wpT C.base W J (K v) t' Q) {kd : zab -> zaf -> zbt}
  (hK : ∀ v t' HA' X', Ov C.base t' X' HA' -> XLe X X' -> wpT C.base W J (K v) t' Q -> Res C.base X0 E Q (kd v HA')) : Res C.base X0 E Q (zj8 (fnV C A) (zvk C HA args f (C.prims.get f)) HA kd) := by
 obtain ⟨hf1, hf2⟩ := zzk0 hf
 obtain ⟨⟨v, p⟩, t', HA', X', h1, h2, h3, h4⟩ := hW.fn _ _ _ _ hf h X HA ho
 rw [zl4 hf1] at h1; unfold zvk
 cases hp : C.prims.get f with
 | some g =>
  rw [hp] at h1; rw [zac] at h1; obtain ⟨q, h1, h5⟩ := h1
  cases h5; simp only [h1]; exact hK _ _ _ _ h2 h3 h4
 | none =>
  rw [hp] at h1; have h1 : fnV C A (.func f) args HA = some (⟨v, p⟩, HA') := h1
  show Res C.base X0 E Q (ob (fnV C A (.func f) args HA) fun p => bif p.1.p then some p else kd p.1.v p.2)
  rw [h1]
  cases p with
  | true => exact ⟨_, t', HA', X', rfl, h2, fun b y hb => h3 b y (hX b y hb), h4⟩
  | false => exact hK _ _ _ _ h2 h3 h4
theorem zzgq (hW : zhc C A E W) (ho : Ov C.base t X HA) {l : Nat} {args : List zab} {K : zab -> T} (h : W (yo + l) args t fun v t' => wpT C.base W J (K v) t' Q) {kd : zab -> zaf -> zbt}
  (hK : ∀ v t' HA' X', Ov C.base t' X' HA' -> XLe X X' -> wpT C.base W J (K v) t' Q -> Res C.base X0 E Q (kd v HA')) : Res C.base X0 E Q (zj8 (fnV C A) (.round l args) HA kd) := by
 have h0 := hW.rd _ _ _ _ h X HA ho
 rw [zfg] at h0; obtain ⟨v, t', HA', X', h1, h2, h3, h4⟩ := h0
 rw [z0t] at h1; show Res C.base X0 E Q (ob (fnV C A (.yld l) args HA) fun p => zaj (!p.1.p) (kd p.1.v p.2))
 rw [h1]; exact hK _ _ _ _ h2 h3 h4
theorem Ov.setX {base : Nat} (h : Ov base t X HA) {b : Nat} {y : zav} (hb : X b = some y) (z : zav) : Ov base t (fun c => if c = b then some z else X c) (Am.setBlk HA b z) := by
 obtain ⟨g1, g2, g3⟩ := h.ext b y hb
 refine ⟨h.base, fun c hc => ?_, fun c u hc => ?_, h.lt⟩
 ·split at hc
  ·cases hc
  ·rename_i hne
   show (HA.t.set b z).get c = _
   rw [Tr.get_set, yaa hne]; exact h.same c hc
 ·show (HA.t.set b z).get c = _ /\ _ /\ c < HA.next
  rw [Tr.get_set]; split at hc
  ·simp_all
  ·rename_i hne; rw [yaa hne]; exact h.ext c u hc
theorem Ov.newX {base : Nat} (h : Ov base t X HA) (z : zav) : Ov base t (fun c => if c = HA.next then some z else X c) (Am.newBlk HA z) := by
 refine ⟨Nat.le_succ_of_le h.base, fun c hc => ?_, fun c u hc => ?_, fun b y hb => Nat.lt_succ_of_lt (h.lt b y hb)⟩
 ·split at hc
  ·cases hc
  ·rename_i hne
   show (HA.t.set HA.next z).get c = _
   rw [Tr.get_set, yaa hne]; exact h.same c hc
 ·show (HA.t.set HA.next z).get c = _ /\ _ /\ c < HA.next + 1
  rw [Tr.get_set]; split at hc
  ·rename_i e; cases hc; subst e; rw [yab rfl]; exact ⟨rfl, h.nextT, Nat.lt_succ_self _⟩
  ·rename_i hne; rw [yaa hne]; have := h.ext c u hc; grind
theorem zzby (ho : Ov C.base t X HA) (hl : zze8 C.base X0 X ν lo) {d off : Nat} {l l' : List zab} {u : zab} {sz : Nat} (h1 : lo.get d = some l) (h2 : zll l off sz u = some l') (h3 : zfh zab.one u.cells = true) :
  Nat.beq (zbf u.cells) sz = true /\ l'.length = l.length /\ ∃ c', zdw C HA (ν d) off u.cells = some (setBlk HA (ν d) (.cells c' l.length none)) /\ ∀ j a, l'[j]? = some a -> c'.get j = some a := by
 obtain ⟨_, hb, c, hc, hg⟩ := hl d l h1
 have hx := (ho.ext _ _ hc).1
 unfold zll at h2; simp only [zae, ybb, zg3, za1, zca, zfz, ze3, Option.some.injEq] at h2; obtain ⟨⟨g1, g2⟩, g3⟩ := h2
 subst g3; refine ⟨by grind [za1], ?_, c.setMany u.cells off, ?_, ?_⟩
 ·grind
 ·grind [zdw, Nat.blt, zax, zae, zad, zav.asCells, zg3, za1]
 ·intro j a hj
  rw [Tr.get_setMany]; grind
theorem zzeh {y : ATy} {u : zab} (h : zfh zab.one (zvh y u) = true) : zvh y u = u.cells := by
 grind [zvh, zc5, zry]
theorem z6n {op : Op} {v : zab} {kd : zab -> zaf -> zbt} {φ : Ora} (h : (zb2 op).f C eA HA = some v) : zj8 φ ((aop op).f C eA HA) HA kd = kd v HA := by rw [zzex h]; rfl
theorem zzb9 {la : List Nat} {dst : Option Nat} {d : Nat} (h : laOf la dst = some d) : dst = some d := by
 unfold laOf at h; grind
theorem tH_ok (hW : zhc C A E W) (hX : XLe X0 X) (he : zpr e eA) (ha : zps ν ae eA) (ho : Ov C.base t X HA) (hl : zze8 C.base X0 X ν lo) {la : List Nat} {dst : Option Nat} {op : Op}
  (h : wpT C.base W J (tH C la dst op e ae lo k kl) t Q) {kd : zab -> zaf -> zbt}
  (hK : ∀ v t' HA' X', Ov C.base t' X' HA' -> XLe X X' -> wpT C.base W J (k.K v) t' Q -> Res C.base X0 E Q (kd v HA'))
  (hKd : ∀ v t' HA' X', Ov C.base t' X' HA' -> XLe X X' -> wpT C.base W J (k.Kd v) t' Q -> Res C.base X0 E Q (kd v HA'))
  (hKA : ∀ d off, wpT C.base W J (k.KA d off) t Q -> Res C.base X0 E Q (kd (.ptr (ν d) off) HA))
  (hnew : ∀ d l, laOf la dst = some d -> wpT C.base W J (kl.new d l) t Q -> Res C.base X0 E Q (kd (.ptr HA.next 0) (za7 HA l none)))
  (hset : ∀ d l l' c', lo.get d = some l -> l'.length = l.length -> (∀ j a, l'[j]? = some a -> c'.get j = some a) -> wpT C.base W J (kl.set d l') t Q -> Res C.base X0 E Q (kd zbj (setBlk HA (ν d) (.cells c' l.length none)))) :
  Res C.base X0 E Q (zj8 (fnV C A) ((aop op).f C eA HA) HA kd) := by
 have light : ∀ (op : Op), wpT C.base W J (tL C op e ae lo k) t Q -> Res C.base X0 E Q (zj8 (fnV C A) ((aop op).f C eA HA) HA kd) := by
  intro op h; obtain ⟨v, h1, h2⟩ := zzlt (R := fun v => Res C.base X0 E Q (kd v HA)) he ha ho hl h (fun v h => hK v _ _ _ ho (XLe.refl _) h) (fun v h => hKd v _ _ _ ho (XLe.refl _) h) hKA
  grind [z6n]
 cases op <;> simp only [tH] at h <;> try (exact light _ h)
 case alloc ty =>
  show Res C.base X0 E Q (zj8 _ (zp5 ty C eA HA) HA kd)
  rw [zay] at h; split at h
  ·rename_i ht
   have ht : zhz C ty = none := by
    cases hx : zhz C ty with
    | none => rfl
    | some _ => rw [hx] at ht; cases ht
   split at h
   ·rename_i d hd
    rw [zbn] at h; obtain ⟨y, h1, h2⟩ := h
    unfold zp5; rw [h1, ht]; exact hnew d _ hd h2
   ·refine zku ho z80 h hK fun p hp => ?_
    unfold zp5; rw [ht]; have hp : (ob (C.tys.get ty) fun ty => some (.ptr HA.next 0, za7 HA ty.zero none)) = some p := hp
    rw [hp]; rfl
  ·refine zku ho z57 h hK fun p hp => ?_
   unfold zp5; unfold zvy at hp; rw [hp]; rfl
 case box ty x =>
  rw [zay] at h; show Res C.base X0 E Q (zj8 _ (zzhu ty x C eA HA) HA kd)
  unfold zzhu; split at h
  ·rename_i ht
   have ht : zhz C ty = none := by
    cases hx : zhz C ty with
    | none => rfl
    | some _ => rw [hx] at ht; cases ht
   rw [zbn] at h; obtain ⟨v, h1, h⟩ := h
   rw [za9 he h1, ht]; split at h
   ·rename_i d hd
    rw [zbn] at h; obtain ⟨y, _, h⟩ := h
    rw [zay] at h; split at h
    ·exact hnew d _ hd h
    ·have h : if zab.one v = true then wpT C.base W J (kl.new d [v]) t Q else False := h
     split at h
     ·rename_i h1
      have := hnew d _ hd h
      rw [<- zry h1] at this; exact this
     simp_all
   ·refine zku ho zzlk h hK fun p hp => ?_
    cases hp; rfl
  ·rw [zbn] at h
   obtain ⟨v, h1, h⟩ := h
   rw [za9 he h1]; refine zku ho zzfr h hK fun p hp => ?_
   cases hp; rfl
 case buildSlice ty n ps =>
  rw [zbn] at h; obtain ⟨vs, h1, h⟩ := h
  show Res C.base X0 E Q (zj8 _ (zex ty n ps C eA HA) HA kd)
  refine zku ho ztq h hK fun p hp => ?_
  refine ziu (v := p.1) (H' := p.2) ?_
  rw [zxk he h1]; exact hp
 case makeMap ty r =>
  cases r with
  | some _ => simp_all
  | none =>
   simp only [] at h; show Res C.base X0 E Q (zj8 _ (zn6 none C eA HA) HA kd)
   refine zku ho z1h h hK fun p hp => ?_
   cases hp; rfl
 case makeSlice ty l c =>
  simp only [zbn] at h; obtain ⟨a, h1, b, h2, h⟩ := h
  show Res C.base X0 E Q (zj8 _ (zpc ty l c C eA HA) HA kd)
  refine zku ho zvx h hK fun p hp => ?_
  refine ziu (v := p.1) (H' := p.2) ?_
  grind [za9, zco, zad]
 case store ty a x =>
  unfold zzja at h; show Res C.base X0 E Q (zj8 _ (z0a ty a x C eA HA) HA kd)
  split at h
  ·rename_i p hp
   simp only [zbn] at h; obtain ⟨u, h1, y, h2, l, h3, l', h4, h5⟩ := h
   have h5 : if zfh zab.one (zvh y u) = true then wpT C.base W J (kl.set p.1 l') t Q else False := h5
   split at h5
   ·rename_i hone
    have hcell := zzeh hone
    rw [hcell] at hone h4; have h4 : zll l p.2 y.size u = some l' := h4
    obtain ⟨g1, g2, c', g3, g4⟩ := zzby ho hl h3 h4 hone
    have := hset p.1 l l' c' h3 g2 g4 h5
    have e1 : zj8 (fnV C A) (z0a ty a x C eA HA) HA kd = kd zbj (setBlk HA (ν p.1) (.cells c' l.length none)) := by
     refine ziu ?_
     rw [h2, zad, zq9 ha hp, zad]; simp only [zab.asPtr, zad]; rw [za9 he h1, zad, g1, g3]; rfl
    simp_all
   simp_all
  ·simp only [zbn] at h
   obtain ⟨av, h1, u, h2, h⟩ := h
   refine zku ho z8w h hKd fun p hp => ?_
   refine ziu (v := p.1) (H' := p.2) ?_
   grind [za9, za0, zad]
 case convert s d x =>
  rw [zay] at h; split at h
  ·rename_i hd
   rw [zbn] at h; obtain ⟨u, h1, h⟩ := h
   show Res C.base X0 E Q (zj8 _ (zgq s d x C eA HA) HA kd)
   have hn : zma s d x C eA HA = none := by
    rw [zzcj (za9 he h1)]
    cases hq : znd C s d HA u with
    | none => rfl
    | some q =>
     exfalso
     unfold znd at hq; simp only [zac] at hq; obtain ⟨sy, g1, dy, g2, g3⟩ := hq
     have hd := zds.1 hd
     unfold zmh at hd; rw [g2] at hd; have hd : dy.desc.tag = 4 := hd
     unfold zpk at g3; have n1 : dy.desc.asInt = none := by cases hz : dy.desc <;> rw [hz] at hd <;> first | rfl | (cases hd; done)
     have n2 : dy.desc.isString = false := by unfold zcy.isString; rw [hd]; rfl
     rw [n1, n2] at g3
     cases g3
   unfold zgq; rw [hn]; simp only []; refine zku ho z1f h hK fun p hp => ?_
   refine ziu (v := p.1) (H' := p.2) ?_
   rw [za9 he h1]; exact hp
  grind [tL]
 case insert ty m key x =>
  simp only [zbn] at h; obtain ⟨mv, h1, kv, h2, u, h3, h⟩ := h
  show Res C.base X0 E Q (zj8 _ (zlk ty m key x C eA HA) HA kd)
  refine zku ho zua h hKd fun p hp => ?_
  refine ziu (v := p.1) (H' := p.2) ?_
  rw [za9 he h1, za9 he h2, za9 he h3]; exact hp
 case mapUpdate ty m key x =>
  simp only [zbn] at h; obtain ⟨mv, h1, kv, h2, u, h3, h⟩ := h
  show Res C.base X0 E Q (zj8 _ (zlk ty m key x C eA HA) HA kd)
  refine zku ho zua h hKd fun p hp => ?_
  refine ziu (v := p.1) (H' := p.2) ?_
  rw [za9 he h1, za9 he h2, za9 he h3]; exact hp
 case panic x =>
  have h : wpT C.base W J (obT (ev x e) fun v => obT v.asIface fun p => .call pn [.iface p.1 p.2] k.K) t Q := h
  simp only [zbn] at h; obtain ⟨v, h1, p, h2, h3⟩ := h
  obtain ⟨u, e1, e2⟩ := hW.raise _ _ _ h3
  cases e1
  show Res C.base X0 E Q (zj8 _ (z0b x C eA HA) HA kd)
  unfold z0b; rw [za9 he h1, zad, h2, zad]; exact ⟨⟨_, true⟩, t, HA, X, rfl, ho, hX, e2⟩
 case call c =>
  show Res C.base X0 E Q (zj8 _ ((zpd c c.callee).f C eA HA) HA kd)
  split at h
  ·rename_i f hc
   rw [hc]; show Res C.base X0 E Q (zj8 _ (zsh f c.args C eA HA) HA kd)
   have fin : ∀ {fv : zab} {aq : List zab}, ev f e = some fv -> evs c.args.toList e = some aq -> wpT C.base W J (.callv fv aq k.K) t Q -> Res C.base X0 E Q (zj8 (fnV C A) (zsh f c.args C eA HA) HA kd) := by
    intro fv aq h1 h2 h; have h : zf8 (zkx fv aq) fun p => W p.1 p.2 t fun v t' => wpT C.base W J (k.K v) t' Q := h
    rw [zhh] at h; obtain ⟨⟨g, aq'⟩, h3, h4⟩ := h
    unfold zkx at h3; rw [zac] at h3; obtain ⟨p, h5, h6⟩ := h3
    have e0 : zsh f c.args C eA HA = zzn8 C HA (zfp p.2.1 aq) p.2.2 p.1 := by
     unfold zsh zeo; rw [za9 he h1, zad, h5, zad, zxj he h2, zad, zad]; rfl
    rw [e0]
    cases hp : p.1 with
    | func g' =>
     rw [hp] at h6; simp only [zae] at h6; obtain ⟨hg, h6⟩ := h6
     cases h6; exact zzn7 hW ho hX hg h4 hK
    | yld l =>
     rw [hp] at h6; simp only [zae, ybb] at h6; obtain ⟨⟨ha, hb⟩, h6⟩ := h6
     cases h6; have ea : p.2.1 = [] := by cases hx : p.2.1 with | nil => rfl | cons _ _ => rw [hx] at ha; cases ha
     have eb : p.2.2 = [] := by cases hx : p.2.2 with | nil => rfl | cons _ _ => rw [hx] at hb; cases hb
     rw [ea, eb]; exact zzgq hW ho h4 hK
   unfold zzjc at h; split at h
   ·rename_i g
    rw [zgt, zbn] at h; obtain ⟨hg, aq, h1, h⟩ := h
    refine fin (fv := .func (.func g) [] []) rfl h1 ?_
    show zf8 (zkx (.func (.func g) [] []) aq) _
    have e2 : zkx (.func (.func g) [] []) aq = some (g, aq) := by
     show zaj (Nat.blt g pn) (some (g, zfp (zfp [] aq) [])) = _
     rw [hg, zca, zca]; simp [zaj]
    rw [e2]; exact h
   grind [zbn]
  ·rename_i b hb
   rw [hb]; have lt : wpT C.base W J (zng C c e k b) t Q -> Res C.base X0 E Q (zj8 (fnV C A) ((zpd c (.builtin b)).f C eA HA) HA kd) := by
    intro h; have := light (.call c) (by show wpT C.base W J (match c.callee with | .builtin b => zng C c e k b | _ => .fail) t Q; simp_all)
    have e1 : (aop (.call c)).f C eA HA = (zpd c c.callee).f C eA HA := rfl
    simp_all
   unfold zyv at h; split at h
   ·simp only [zbn, two'] at h
    obtain ⟨ty, h1, u, h2, p, h3, h⟩ := h
    show Res C.base X0 E Q (zj8 _ (zpe c C eA HA) HA kd)
    refine zku ho z56 h hK fun q hq => ?_
    refine ziu (v := q.1) (H' := q.2) ?_
    grind [zd6, zac, zae, zv1]
   grind
  ·cases h
end
end Go.Am
namespace Go.Am
open Go Go.RowKit
structure zdc (base : Nat) (X0 : Xt) (kf : Nat) (ν : Nat -> Nat) (X : Xt) (st : TSt) (tm : Tm) (HA : zaf) (t : Tr zav) : Prop where
 ov : Ov base t X HA
 le : XLe X0 X
 k : st.tm.k = kf
 kA : tm.k = kf
 tms : ∀ i v, st.tm.get i = some v -> tm.get i = some v
 ads : ∀ i p, zio i st.ad = some p -> tm.get i = some (.ptr (ν p.1) p.2)
 lo : zze8 base X0 X ν st.lo
 inj : ∀ d d' l l', st.lo.get d = some l -> st.lo.get d' = some l' -> ν d = ν d' -> d = d'
theorem zhs {i : Nat} {a : Nat × Nat × Nat} {l : List (Nat × Nat × Nat)} : zio i (a :: l) = if i = a.1 then some a.2 else zio i l := by
 grind [zio, zqk, zds]
theorem zze1 {i : Nat} {p : Nat × Nat} : ∀ {l : List (Nat × Nat × Nat)}, zio i l = some p -> (i, p.1, p.2) ∈ l := by
 intro l; induction l with
 | nil => intro h; cases h
 | cons a l ih =>
  grind [zhs]
theorem zpx {n : Nat} {tm : Tm} {dst : Option Nat} {v : zab} : (putA n tm dst v).k = tm.k := by
 unfold putA putB
 cases dst with
 | none => rfl
 | some d =>
  grind [z6q, Tm.set, zqk]
theorem Tm.set_k {tm : Tm} {i : Nat} {v : zab} : (tm.set i v).k = tm.k := by unfold Tm.set; rw [zqk]; split <;> rfl
section
variable {W J : zd3} {t : Tr zav} {X X0 : Xt} {HA : zaf} {C : Ctx} {A : Tr zbb} {ν : Nat -> Nat} {Q E : zbo} {kf n : Nat} {st : TSt} {tm : Tm}
theorem zdc.put (h : zdc C.base X0 kf ν X st tm HA t) {dst : Option Nat} {v : zab} {lt : Bool} {κ : KT} (hw : wpT C.base W J (z36 n dst v lt st κ) t Q) :
  ∃ st', zdc C.base X0 kf ν X st' (putA n tm dst v) HA t /\ wpT C.base W J (κ st') t Q := by
 unfold z36 at hw
 cases dst with
 | none => exact ⟨st, h, hw⟩
 | some d =>
  simp only [zay] at hw; split at hw
  ·rename_i hd
   rw [zgt] at hw; obtain ⟨h1, h2⟩ := hw
   refine ⟨_, ?_, h2⟩
   refine ⟨h.ov, h.le, (by grind [k, Tm.set_k]), by rw [zpx]; exact h.kA, ?_, ?_, h.lo, h.inj⟩
   ·intro i u hi
    have hi2 : (st.tm.set d v).get i = some u := hi
    rw [Tm.get_set] at hi2; rw [zby]; split at hi2
    ·simp_all
    ·rename_i e
     rw [yaa (fun hh => e (by simp_all))]
     exact h.tms i u hi2
   ·intro i p hi
    rw [zby, yaa]
    ·exact h.ads i p hi
    ·rintro ⟨e, _⟩
     injection e with e
     subst e; rw [hi] at h1
     cases h1
  ·rename_i hd
   refine ⟨st, ?_, hw⟩
   simp_all [putA, putB, z6q, zay, yaa]
theorem zdc.putA (h : zdc C.base X0 kf ν X st tm HA t) {dst : Option Nat} {d off : Nat} {κ : KT} (hw : wpT C.base W J (zzls n dst d off st κ) t Q) :
  ∃ st', zdc C.base X0 kf ν X st' (Am.putA n tm dst (.ptr (ν d) off)) HA t /\ wpT C.base W J (κ st') t Q := by
 unfold zzls at hw; rw [zbn] at hw; obtain ⟨i, h1, hw⟩ := hw
 subst h1; simp only [zgt] at hw; obtain ⟨h2, h3, h4⟩ := hw
 refine ⟨_, ?_, h4⟩
 refine ⟨h.ov, h.le, h.k, by rw [zpx]; exact h.kA, ?_, ?_, h.lo, h.inj⟩
 ·intro j u hj
  rw [zby, yaa]
  ·exact h.tms j u hj
  ·rintro ⟨e, _⟩
   injection e with e
   subst e; have hj : st.tm.get i = some u := hj
   rw [hj] at h3
   cases h3
 ·intro j p hj
  have hj : zio j ((i, d, off) :: st.ad) = some p := hj
  rw [zhs] at hj; rw [zby]; split at hj
  ·rename_i e; cases hj; rw [yab ⟨by rw [e], by simp_all⟩]
  ·rename_i e
   rw [yaa (fun hh => e (by simp_all))]
   exact h.ads j p hj
theorem zdc.new (h : zdc C.base X0 kf ν X st tm HA t) {d : Nat} {l : List zab} {κ : KT} (hw : wpT C.base W J (tNew n d l st κ) t Q) :
  ∃ st' ν' X', zdc C.base X0 kf ν' X' st' (Am.putA n tm (some d) (.ptr HA.next 0)) (za7 HA l none) t /\ wpT C.base W J (κ st') t Q := by
 unfold tNew at hw; simp only [zgt] at hw; obtain ⟨h1, h2, h3, h4⟩ := hw
 have hx := h.ov.nextX
 refine ⟨_, fun c => if c = d then HA.next else ν c, fun c => if c = HA.next then some (.cells (Tr.ofList l) (zbf l) none) else X c, ?_, h4⟩
 refine ⟨h.ov.newX _, ?_, h.k, by rw [zpx]; exact h.kA, ?_, ?_, ?_, ?_⟩
 ·intro b y hb
  have : X b = some y := h.le b y hb
  grind
 ·intro j u hj
  rw [zby, yaa]
  ·exact h.tms j u hj
  ·rintro ⟨e, _⟩
   injection e with e
   subst e; have hj : st.tm.get d = some u := hj
   rw [hj] at h2
   cases h2
 ·intro j p hj
  have hj : zio j ((d, d, 0) :: st.ad) = some p := hj
  rw [zhs] at hj; rw [zby]; split at hj
  ·rename_i e
   cases hj; rw [yab ⟨by rw [e], by simp_all⟩]; show some (zab.ptr HA.next 0) = some (zab.ptr (if d = d then HA.next else ν d) 0)
   rw [yab rfl]
  ·rename_i e
   rw [yaa (fun hh => e (by simp_all))]
   have hm := zze1 hj
   unfold zzjx at h3; rw [zc5, ycb] at h3; have := h3 _ hm
   simp only [zay] at this; have hne : p.1 ≠ d := by
    simp_all
   show Tm.get tm j = some (zab.ptr (if p.1 = d then HA.next else ν p.1) p.2)
   rw [yaa hne]; exact h.ads j p hj
 ·intro c m hc
  have hc : (st.lo.set d l).get c = some m := hc
  rw [Tr.get_set] at hc; show X0 (if c = d then HA.next else ν c) = none /\ C.base <= (if c = d then HA.next else ν c) /\ ∃ c', (if (if c = d then HA.next else ν c) = HA.next then some (zav.cells (Tr.ofList l) (zbf l) none) else X (if c = d then HA.next else ν c)) = some (.cells c' m.length none) /\ ∀ j a, m[j]? = some a -> c'.get j = some a
  split at hc
  ·rename_i e
   cases hc; simp only [e, if_true]; refine ⟨?_, h.ov.base, Tr.ofList l, by rw [za1], fun j a hj => by grind [Tr.get_ofList]⟩
   cases hq : X0 HA.next with
   | none => rfl
   | some z => have := h.le _ _ hq; simp_all
  ·rename_i e
   simp only [yaa e]; obtain ⟨g1, g2, c', g3, g4⟩ := h.lo c m hc
   grind
 ·intro c c' m m' hc hc' he
  have hc : (st.lo.set d l).get c = some m := hc
  have hc' : (st.lo.set d l).get c' = some m' := hc'
  have he : (if c = d then HA.next else ν c) = (if c' = d then HA.next else ν c') := he
  rw [Tr.get_set] at hc hc'
  split at hc <;> split at hc'
  ·rename_i e1 e2; rw [e1, e2]
  ·rename_i e1 e2
   rw [yab e1, yaa e2] at he; obtain ⟨_, _, _, g3, _⟩ := h.lo c' m' hc'
   simp_all
  ·rename_i e1 e2
   rw [yaa e1, yab e2] at he; obtain ⟨_, _, _, g3, _⟩ := h.lo c m hc
   simp_all
  ·rename_i e1 e2
   rw [yaa e1, yaa e2] at he; exact h.inj c c' m m' hc hc' he
theorem zdc.setLo (h : zdc C.base X0 kf ν X st tm HA t) {d : Nat} {l l' : List zab} {c' : Tr zab} (h1 : st.lo.get d = some l) (h2 : l'.length = l.length) (h3 : ∀ j a, l'[j]? = some a -> c'.get j = some a) :
  ∃ X', zdc C.base X0 kf ν X' ⟨st.tm, st.ad, st.lo.set d l', st.lit⟩ tm (setBlk HA (ν d) (.cells c' l.length none)) t := by
 obtain ⟨g1, g2, c, g3, g4⟩ := h.lo d l h1
 refine ⟨_, h.ov.setX g3 _, ?_, h.k, h.kA, h.tms, h.ads, ?_, ?_⟩
 ·intro b y hb
  show (if b = ν d then _ else X b) = some y
  rw [yaa]
  ·exact h.le b y hb
  grind
 ·intro e m he
  have he : (st.lo.set d l').get e = some m := he
  rw [Tr.get_set] at he; split at he
  ·simp_all
  ·rename_i e1
   obtain ⟨k1, k2, k3, k4, k5⟩ := h.lo e m he
   refine ⟨k1, k2, k3, ?_, k5⟩
   show (if ν e = ν d then _ else X (ν e)) = _
   rw [yaa, k4]; intro e2; exact e1 (h.inj e d m l he h1 e2)
 ·intro e e' m m' he he' hv
  have he : (st.lo.set d l').get e = some m := he
  have he' : (st.lo.set d l').get e' = some m' := he'
  rw [Tr.get_set] at he he'
  have x1 : ∃ q, st.lo.get e = some q := by
   grind
  have x2 : ∃ q, st.lo.get e' = some q := by
   grind
  exact h.inj e e' _ _ x1.choose_spec x2.choose_spec hv
theorem zdc.later (h : zdc C.base X0 kf ν X st tm HA t) {X' : Xt} {HA' : zaf} {t' : Tr zav} (ho : Ov C.base t' X' HA') (hx : XLe X X') : zdc C.base X0 kf ν X' st tm HA' t' :=
 ⟨ho, h.le.trans hx, h.k, h.kA, h.tms, h.ads, fun d l hd => by
  obtain ⟨g1, g2, c, g3, g4⟩ := h.lo d l hd
  exact ⟨g1, g2, c, hx _ _ g3, g4⟩, h.inj⟩
theorem zq1 {ty : Nat} {v : zab} (h : fitB C ty v = true) : zzh1 C ty v := by
 unfold fitB at h; unfold zzh1
 cases hy : C.tys.get ty with
 | none => trivial
 | some y =>
  rw [hy] at h; simp only at h ⊢
  unfold fitD
  cases hd : y.desc <;> rw [hd] at h <;> simp only at h ⊢
  case bool =>
   have := zds.1 h
   cases v <;> simp only [zab.tag] at this <;> first
    | exact ⟨_, rfl⟩
    | (cases this; done)
  case int k =>
   cases v <;> simp only [zab.asIntK] at h <;> first
    | exact ⟨_, by rw [zf2.1 h]⟩
    | (cases h; done)
  case string =>
   have := zds.1 h
   cases v <;> simp only [zab.tag] at this <;> first
    | exact ⟨_, rfl⟩
    | (cases this; done)
theorem zxf {ty : Nat} {v : zab} (h : (!Nat.ble (zmh C ty) 2) = true) : zzh1 C ty v := by
 unfold zzh1; unfold zmh at h
 cases hy : C.tys.get ty with
 | none => trivial
 | some y =>
  rw [hy] at h; simp only at h ⊢
  unfold fitD
  cases hd : y.desc <;> rw [hd] at h <;> first
   | trivial
   | (simp only [zcy.tag] at h; exact absurd h (by decide))
theorem z2y : ∀ (zs l : List zab) (pre : List zab), zob zs l = true -> zo7 zs (cellsOf (pre ++ l)) pre.length = l := by
 intro zs; induction zs with
 | nil => intro l pre h; cases l with
  | nil => rfl
  | cons a l => cases h
 | cons z zs ih =>
  intro l pre h
  cases l with
  | nil => cases h
  | cons a l =>
   unfold zob at h; rw [ybb] at h; show zzbt z (cellsOf (pre ++ a :: l)) pre.length :: zo7 zs (cellsOf (pre ++ a :: l)) (pre.length + 1) = a :: l
   have e2 := ih l (pre ++ [a]) h.2
   rw [ybz] at e2; simp only [List.cons_append, yah, ybg, ybn, ybx] at e2; rw [e2]; congr 1
   have hg : (pre ++ a :: l)[pre.length]? = some a := by simp
   have h1 := h.1
   cases z <;> simp only [zzh0] at h1 <;> simp only [zzbt, cellsOf, zvl, zznd, strAt, z8v, hg] <;> try (cases h1; done)
   case bool =>
    have := zds.1 h1
    cases a <;> simp only [zab.tag] at this <;> first
     | rfl
     | (cases this; done)
   case int k _ =>
    cases a <;> simp only [zab.asIntK] at h1 <;> first
     | (rw [zf2.1 h1]; done)
     | (cases h1; done)
   case str =>
    have := zds.1 h1
    cases a <;> simp only [zab.tag] at this <;> first
     | rfl
     | (cases this; done)
theorem z38 {ty : Nat} {v : zab} {K : zab -> T} (h : wpT C.base W J (z9c C ty v K) t Q) : zzh1 C ty v /\ wpT C.base W J (K v) t Q := by
 unfold z9c at h; unfold zzh1; have agg : ∀ zs, wpT C.base W J (bif Nat.ble (zbf zs) 40 then .asG zs v fun X => K (.agg (zo7 zs X 0)) else K v) t Q -> wpT C.base W J (K v) t Q := by
  intro zs h; rw [zay] at h; split at h
  ·have h : zf8 (zt6 zs v) fun X => wpT C.base W J (K (.agg (zo7 zs X 0))) t Q := h
   rw [zhh] at h; obtain ⟨X, h1, h2⟩ := h
   unfold zt6 at h1; simp only [zac, zae] at h1; obtain ⟨l, h3, h4, h5⟩ := h1
   cases h5; have := z2y zs l [] h4
   grind [zhr]
  ·exact h
 grind [fitD, wpT, zhh, zez, intK, zac, zae, zdg, zf2, zd1]
theorem znf {g lt : Bool} {v : zab} {K : zab -> Bool -> T} (h : wpT C.base W J (zue g lt v K) t Q) : ∃ lt', wpT C.base W J (K v lt') t Q := by
 grind [zue, zbn, zez, wpT]
theorem zra (h : zdc C.base X0 kf ν X st tm HA t) {g : Option (Nat × Bool)} {all : Array Oper} {w : Bool} (hw : zbi g all st.tm = some w) : zbi g all tm = some w := by
 unfold zbi z8q at hw ⊢
 cases g with
 | none => exact hw
 | some jw =>
  simp only [zyk] at hw ⊢
  rw [zac] at hw ⊢
  obtain ⟨d, h1, hw⟩ := hw
  refine ⟨d, h1, ?_⟩
  rw [zac] at hw ⊢
  obtain ⟨v, h2, hw⟩ := hw
  exact ⟨v, h.tms _ _ h2, hw⟩
def SK (C : Ctx) (W J : zd3) (X0 : Xt) (kf : Nat) (E Q : zbo) (κ : KT) (m : Tm -> zaf -> zbt) : Prop := ∀ st tm HA t X ν, zdc C.base X0 kf ν X st tm HA t -> wpT C.base W J (κ st) t Q -> Res C.base X0 E Q (m tm HA)
theorem Res.norm {ty : Nat} {v : zab} {K : zab -> zbt} (hf : zzh1 C ty v) (h : Res C.base X0 E Q (K v)) : Res C.base X0 E Q (zim C ty v K) := by
 obtain ⟨u, t', HA', X', h1, h2⟩ := h
 exact ⟨u, t', HA', X', zcp.2 ⟨hf, h1⟩, h2⟩
theorem Res.ob {α : Type} {x : Option α} {a : α} {K : α -> zbt} (hx : x = some a) (h : Res C.base X0 E Q (K a)) : Res C.base X0 E Q (Am.ob x K) := by simp_all
theorem zzac (hW : zhc C A E W) {e eA : Env} {ae : zyg} (he : zpr e eA) (ha : zps ν ae eA) (hst : zdc C.base X0 kf ν X st tm HA t) {la : List Nat} {all : Array Oper} {o : Oper} {κ : KT} {m : Tm -> zaf -> zbt}
  (hκ : ∀ st' tm' HA' t' X' ν', (la = [] -> ν' = ν) -> zdc C.base X0 kf ν' X' st' tm' HA' t' -> (∃ v, tm' = putA n tm o.dst v) -> wpT C.base W J (κ st') t' Q -> Res C.base X0 E Q (m tm' HA'))
  (h : wpT C.base W J (tH C la o.dst o.op e ae st.lo (kop C all n o e st κ) (klo C n o st κ)) t Q) :
  Res C.base X0 E Q (zj8 (fnV C A) ((aop o.op).f C eA HA) HA fun v H' => zim C o.type v fun v => m (putA n tm o.dst v) H') := by
 refine tH_ok hW hst.le he ha hst.ov hst.lo h ?_ ?_ ?_ ?_ ?_
 ·intro v t' HA' X' ho hx hk
  have hk : wpT C.base W J (z9c C o.type v fun v => zue (zw6 all.toList o.dst all.toList) (zzha o.op e st.lit) v fun v lt => z36 n o.dst v lt st κ) t' Q := hk
  obtain ⟨h1, h2⟩ := z38 hk
  obtain ⟨lt', h3⟩ := znf h2
  obtain ⟨st', h4, h5⟩ := (hst.later ho hx).put h3
  grind [Res.norm]
 ·intro v t' HA' X' ho hx hk
  obtain ⟨h1, h2⟩ := zgt.1 hk
  obtain ⟨lt', h3⟩ := znf h2
  obtain ⟨st', h4, h5⟩ := (hst.later ho hx).put h3
  grind [Res.norm, zq1]
 ·intro d off hk
  obtain ⟨h1, h2⟩ := zgt.1 hk
  obtain ⟨st', h4, h5⟩ := hst.putA h2
  grind [Res.norm, zxf]
 ·intro d l hd hk
  obtain ⟨h1, h2⟩ := zgt.1 hk
  obtain ⟨st', ν', X', h4, h5⟩ := hst.new h2
  have e := zzb9 hd
  rw [e]; refine Res.norm (zxf h1) (hκ _ _ _ _ _ _ (fun hl => ?_) h4 ⟨_, by rw [e]⟩ h5)
  rw [hl, e] at hd
  cases hd
 ·intro d l l' c' h1 h2 h3 hk
  obtain ⟨h4, h5⟩ := zgt.1 hk
  obtain ⟨X', h6⟩ := hst.setLo h1 h2 h3
  obtain ⟨st', h7, h8⟩ := h6.put h5
  grind [Res.norm, zq1]
theorem zrz (h : zdc C.base X0 kf ν X st tm HA t) : zpr (.now st.tm) (.now tm) /\ zps ν (.now st.ad) (.now tm) := ⟨h.tms, h.ads⟩
theorem zzln (hW : zhc C A E W) {la : List Nat} {all : Array Oper} {κ : KT} {m : Tm -> zaf -> zbt} (hκ : SK C W J X0 kf E Q κ m) : ∀ (l : List Oper), SK C W J X0 kf E Q (tops C la all n κ l) (ztx C (fnV C A) all n m l) := by
 intro l; induction l with
 | nil => exact hκ
 | cons o l ih =>
  intro st tm HA t X ν hst h; have h : wpT C.base W J (obT (zbi o.guard all st.tm) fun w => Bool.rec (motive := fun _ => T) (z36 n o.dst zbj false st (tops C la all n κ l))
   (tH C la o.dst o.op (.now st.tm) (.now st.ad) st.lo (kop C all n o (.now st.tm) st (tops C la all n κ l)) (klo C n o st (tops C la all n κ l))) w) t Q := h
  rw [zbn] at h; obtain ⟨w, h1, h2⟩ := h
  rw [zgw]; refine Res.ob (zra hst h1) ?_
  cases w with
  | false =>
   rw [yaa (by simp)]
   obtain ⟨st', h3, h4⟩ := hst.put h2
   exact ih _ _ _ _ _ _ h3 h4
  | true =>
   rw [yab rfl]; exact zzac hW (zrz hst).1 (zrz hst).2 hst (fun st' tm' HA' t' X' ν' _ hs _ hw => ih _ _ _ _ _ _ hs hw) h2
end
end Go.Am
