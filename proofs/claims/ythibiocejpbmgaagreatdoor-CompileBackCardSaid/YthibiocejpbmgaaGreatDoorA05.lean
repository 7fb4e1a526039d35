/- Code as a tree: what a piece of code asks of memory and of its calls, with the local blocks of a function kept out of memory. -/
import Derived.Test.YthibiocejpbmgaaGreatDoorA04
set_option linter.all false
noncomputable section
namespace Go.Am
open Go Go.RowKit
section
def mA(C:fA)(t:Nat)(H:pA)(v:zA):Option zA:=ob v.asPtr fun p=>ob (C.tys.get t) fun ty=>ob (rD H p.1) fun c=>qS ty c.1 p.2
def yM(C:fA)(s d:Nat)(H:pA)(a:zA):Option zA:=ob (C.tys.get s) fun s=>ob (C.tys.get d) fun d=>tR C s d a H
def nF(C:fA)(t:Nat)(H:pA)(a:zA)(l h:Option zA):Option zA:=ob (C.tys.get t) fun ty=>aK C H ty a l h
def aS(C:fA)(s f:Nat):Option Nat:=ob (C.tys.get s) fun ty=>ob ty.desc.asStruct fun fs=>ob (tD fs f) fun fd=>vB (!Nat.beq fd.2.2 0) (some fd.1)
def qB(C:fA)(s f:Nat)(v:zA):Option zA:=ob (aS C s f) fun k=>ob v.asPtr fun p=>some (.ptr p.1 (p.2+k))
def aA(C:fA)(t:Nat)(v i:zA):Option zA:=
 ob (C.tys.get t) fun ty=>ob i.asNat fun i=>
  match v.asSlice with
  | some s=>ob ty.desc.asSlice fun el=>ob (C.tys.get el) fun et=>vB (Nat.blt i s.2.2.1) (some (.ptr s.1 (s.2.1+i*et.size)))
  | none=>ob v.asPtr fun p=>ob ty.desc.asArr fun a=>ob (C.tys.get a.2) fun et=>vB (Nat.blt i a.1) (some (.ptr p.1 (p.2+i*et.size)))
def AT(C:fA)(t i:Nat):Option Nat:=ob (C.tys.get t) fun ty=>ob ty.desc.asArr fun a=>ob (C.tys.get a.2) fun et=>vB (Nat.blt i a.1) (some (i*et.size))
def lO(C:fA)(t:Nat)(v i:zA):Option zA:=
 ob (C.tys.get t) fun ty=>ob i.asNat fun i=>
  match v.asStr with
  | some s=>vB ty.desc.isString (ob (tD s i) fun b=>some (.int .u8 (.ofNat b)))
  | none=>ob v.asAgg fun l=>ob ty.desc.asArr fun a=>ob (C.tys.get a.2) fun et=>vB (Nat.blt i a.1) (jP C a.2 l (i*et.size))
def gE(i:Nat)(v:zA):Option zA:=ob v.asTup fun l=>tD l i
def bS (C:fA)(t:Nat)(H:pA)(v:zA):Option zA:=ob (C.tys.get t) fun ty=>ob (nT H ty v) fun n=>some (.int .i64 (.ofNat n))
def tB(v:zA):Option zA:=
 match v.asSlice with
 | some s=>some (.int .i64 (.ofNat s.2.2.1))
 | none=>vB (Nat.beq v.tag 5) (some (.int .i64 (.ofNat 0)))
def Cl (v:zA):Option zA:=vB (Nat.beq v.tag 4||Nat.beq v.tag 9) (some v)
def Tn(C:fA)(u:Nat)(ok:Bool)(v:zA):Option zA:=
 ob (C.tys.get u) fun ty=>vB (Nat.blt ty.desc.tag 9) (
  match v.asIface with
  | some p=>bif Nat.beq p.1 u then some (bif ok then .tup [p.2,.bool true]else p.2)else vB ok (some (.tup [cV ty,.bool false]))
  | none=>vB (Nat.beq v.tag 12&&ok) (some (.tup [cV ty,.bool false])))
def uQ(C:fA)(t:Nat)(H:pA)(m k:zA)(ok:Bool):Option zA:=
 ob (C.tys.get t) fun ty=>ob ty.desc.asMap fun ke=>ob (C.tys.get ke.1) fun kty=>vB (lT C kty) (ob (C.tys.get ke.2) fun ety=>
  ob (oT H m) fun es=>vB (bQ C kty k) (ob (gJ k es) fun r=>
   match r with
   | some v=>some (bif ok then .tup [v,.bool true]else v)
   | none=>some (bif ok then .tup [cV ety,.bool false]else cV ety)))
def kO(C:fA)(t:Nat)(H:pA):Option (zA × pA):=ob (C.tys.get t) fun ty=>some (.ptr H.next 0,lF H ty.zero none)
def rN (v:zA)(H:pA):Option (zA × pA):=some (.ptr H.next 0,lF H v.cells none)
def Nz(C:fA)(t:Nat)(H:pA):Option (zA × pA):=ob (C.tys.get t) fun ty=>some (.ptr H.next 0,lF H ty.zero (lL C t))
def Fx(C:fA)(t:Nat)(v:zA)(H:pA):Option (zA × pA):=some (.ptr H.next 0,lF H v.cells (lL C t))
def aE(C:fA)(t len:Nat)(ps:List (Nat × zA))(H:pA):Option (zA × pA):=
 ob (C.tys.get t) fun ty=>ob ty.desc.asSlice fun el=>ob (C.tys.get el) fun et=>
  vB (Nat.blt (len*et.size) 1000000&&Nat.beq (wB et.zero) et.size) (ob (xR (fun i=>some (i*et.size,et.size)) ps (uM et.zero len)) fun l=>some (.slice H.next 0 len len,lF H l none))
def cC(C:fA)(t:Nat)(a v:zA)(H:pA):Option (zA × pA):=ob (C.tys.get t) fun ty=>ob a.asPtr fun p=>vB (Nat.beq (wB v.cells) ty.size) (ob (lJ C H p.1 p.2 v.cells) fun H'=>some (kD,H'))
def Aa(H:pA):Option (zA × pA):=some (.map H.next,newBlk H (.map []))
def cN(C:fA)(t:Nat)(m k v:zA)(H:pA):Option (zA × pA):=
 ob (C.tys.get t) fun ty=>ob ty.desc.asMap fun ke=>ob (C.tys.get ke.1) fun kty=>vB (lT C kty)
  (ob m.asMap fun b=>vB (!Nat.blt b C.base) (ob (cJ H b) fun l=>vB (bQ C kty k) (ob (jL k v l) fun l'=>some (kD,setBlk H b (.map l')))))
def mO(C:fA)(t:Nat)(l c:zA)(H:pA):Option (zA × pA):=
 ob (C.tys.get t) fun ty=>ob ty.desc.asSlice fun el=>ob (C.tys.get el) fun et=>ob l.asNat fun l=>ob c.asNat fun c=>
  vB (Nat.ble l c&&Nat.blt c 1000000&&Nat.blt (c*et.bytes) 1000000000&&Nat.beq (wB et.zero) et.size) (some (.slice H.next 0 l c,lF H (uM et.zero c) none))
def Tl(C:fA)(s d:Nat)(v:zA)(H:pA):Option (zA × pA):=
 ob (C.tys.get s) fun _=>ob (C.tys.get d) fun ty=>ob ty.desc.asSlice fun el=>ob (C.tys.get el) fun et=>ob et.desc.asInt fun k=>vB (bO k .u8) (ob v.asStr fun l=>
  some (.slice H.next 0 (wB l) (wB l),lF H (zX l) (some (.ty el))))
def qD(C:fA)(t u:Nat)(a b:zA)(H:pA):Option (zA × pA):=ob (C.tys.get t) fun ty=>ob (C.tys.get u) fun uty=>vB (!Nat.beq uty.desc.tag 1) (pR C H ty a b)
def vNext(v:zA)(H:pA):Option (zA × pA):=ob v.asPtr fun p=>vB (Nat.beq p.2 0) (ob (ob (H.t.get p.1) qA.asIter) fun x=>
 match tD x.1 x.2 with
 | some c=>vB (Nat.blt c 128) (some (.tup [.bool true,.int .i64 (.ofNat x.2),.int .i32 (.ofNat c)],setBlk H p.1 (.siter x.1 (x.2+1))))
 | none=>some (.tup [.bool false],H))
structure sI where
 b:Nat->Bool
 i:Nat->Int
 s:Nat->List Nat
 v:Nat->zA
inductive T where
 | ret (v:zA)
 | fail
 | ite (b:Bool) (x y:T)
 | opt (x:Option zA) (K:zA->T)
 | light (x:Tr qA->Option zA) (K:zA->T)
 | heavy (x:pA->Option (zA × pA)) (K:zA->T)
 | call (f:Nat) (args:List zA) (K:zA->T)
 | callv (f:zA) (args:List zA) (K:zA->T)
 | asI (k:IntKind) (v:zA) (K:Int->T)
 | asB (v:zA) (K:Bool->T)
 | asS (v:zA) (K:List Nat->T)
 | asG (zs:List zA) (v:zA) (K:sI->T)
 | jump (i:Nat) (vals:List zA)
 | range (np:Nat->Bool) (f:zA) (i m:Nat) (vals:List zA) (K R:T)
def yo:Nat:=1099511627776
def Du(z:zA)(X:sI)(j:Nat):zA:=
 match z with
 | .bool _=>.bool (X.b j)
 | .int k _=>.int k (X.i j)
 | .str _=>.str (X.s j)
 | _=>X.v j
def qM(zs:List zA)(X:sI):Nat->List zA:=
 List.rec (motive:=fun _=>Nat->List zA) (fun _=>[]) (fun z _ g j=>Du z X j::g (j+1)) zs
def tG(l:List zA)(j:Nat):Bool:=match l[j]? with | some (.bool b)=>b | _=>false
def mG(l:List zA)(j:Nat):Int:=match l[j]? with | some (.int _ n)=>n | _=>0
def gH(l:List zA)(j:Nat):List Nat:=match l[j]? with | some (.str s)=>s | _=>[]
def zG(l:List zA)(j:Nat):zA:=match l[j]? with | some v=>v | _=>.nilptr
def cellsOf(l:List zA):sI:=⟨tG l,mG l,gH l,zG l⟩
def mH (z a:zA):Bool:=
 match z with
 | .bool _=>Nat.beq a.tag 0
 | .int k _=>match a.asIntK with | some p=>bO p.1 k | none=>false
 | .str _=>Nat.beq a.tag 2
 | .nilptr=>Nat.beq a.tag 3||Nat.beq a.tag 4
 | .nilslice=>Nat.beq a.tag 5||Nat.beq a.tag 6
 | .nilmap=>Nat.beq a.tag 7||Nat.beq a.tag 8
 | .nilfunc=>Nat.beq a.tag 10||Nat.beq a.tag 9
 | .niliface=>Nat.beq a.tag 12||Nat.beq a.tag 11
 | _=>false
def yR:List zA->List zA->Bool
 | [],[]=>true
 | z::zs,a::l=>mH z a&&yR zs l
 | _,_=>false
structure rH where
 tm:Tm
 ad:List (Nat × Nat × Nat)
 lo:Tr (List zA)
 lit:List Nat
abbrev KT:=rH->T
structure KtT where
 norm:KT
 exit:Nat->KT
 ret:KT
def uC {α:Type}(x:Option α)(K:α->T):T:=Option.rec (motive:=fun _=>T) .fail K x
def vK (b:Bool)(K:T):T:=Bool.rec (motive:=fun _=>T) .fail K b
def rL(i:Nat)(l:List (Nat × Nat × Nat)):Option (Nat × Nat):=
 List.rec (motive:=fun _=>Option (Nat × Nat)) none (fun a _ g=>Bool.rec (motive:=fun _=>Option (Nat × Nat)) g (some a.2) (Nat.beq i a.1)) l
inductive gN where
 | now (ad:List (Nat × Nat × Nat))
 | mixed (ad old:List (Nat × Nat × Nat)) (olds names:List Nat)
def tAd (e:gN)(t:Nat):Option (Nat × Nat):=
 match e with
 | .now ad=>rL t ad
 | .mixed ad old olds names=>bif aI t names then rL t (bif aI t olds then old else ad)else none
def xAd (e:gN)(x:Operand):Option (Nat × Nat):=
 match x with
 | .tmp t=>tAd e t
 | _=>none
def H0A:pA:=⟨0,.leaf⟩
def yI (C:fA)(t:Nat):Nat:=
 match C.tys.get t with
 | some ty=>ty.desc.tag
 | none=>10
def Yh(x:Operand):Bool:=
 match x with
 | .const _=>true
 | _=>false
def MG(x:Operand):Bool:=
 match x with
 | .const (.int _ n) => !cA n 0
 | _=>false
def binDir(C:fA)(op:BinOp)(t:Nat)(y:Operand):Bool:=
 match op with
 | .add=>Nat.beq (yI C t) 1
 | .sub=>true
 | .mul=>true
 | .quo=>MG y
 | .rem=>MG y
 | .shl=>Yh y
 | .shr=>Yh y
 | .eql=>Nat.ble (yI C t) 2
 | .neq=>Nat.ble (yI C t) 2
 | .lss=>Nat.ble (yI C t) 2
 | .leq=>Nat.ble (yI C t) 2
 | .gtr=>Nat.ble (yI C t) 2
 | .geq=>Nat.ble (yI C t) 2
 | _=>false
structure lM where
 K:zA->T
 Kd:zA->T
 KA:Nat->Nat->T
def pQ (C:fA)(op:Op)(e:vD)(k:lM):T:=uC ((fF op).f C e H0A) k.Kd
def Oj(C:fA)(op:Op)(x:Operand)(e:vD)(ae:gN)(k:lM):T:=
 match xAd ae x with
 | some p=>k.KA p.1 p.2
 | none=>pQ C op e k
def tLoad(C:fA)(t:Nat)(a:Operand)(e:vD)(ae:gN)(lo:Tr (List zA))(k:lM):T:=
 match xAd ae a with
 | some p=>uC (lo.get p.1) fun l=>uC (C.tys.get t) fun ty=>vK (Nat.ble (p.2+ty.size) (wB l)) (uC (jP C t l p.2) k.Kd)
 | none=>uC (ev a e) fun v=>.light (fun m=>mA C t ⟨0,m⟩ v) k.K
def BW(C:fA)(s:Nat)(x:Operand)(f:Nat)(e:vD)(ae:gN)(k:lM):T:=
 match xAd ae x with
 | some p=>uC (aS C s f) fun o=>k.KA p.1 (p.2+o)
 | none=>uC (ev x e) fun v=>.opt (qB C s f v) k.K
def BU(C:fA)(t:Nat)(x i:Operand)(e:vD)(ae:gN)(k:lM):T:=
 match xAd ae x with
 | some p=>uC (ev i e) fun i=>uC i.asNat fun i=>uC (AT C t i) fun o=>k.KA p.1 (p.2+o)
 | none=>uC (ev x e) fun v=>uC (ev i e) fun i=>.opt (aA C t v i) k.K
def tNil (x:Operand)(e:vD)(ae:gN)(k:lM):T:=
 match xAd ae x with
 | some p=>k.KA p.1 p.2
 | none=>uC (ev x e) fun v=>.opt (Cl v) k.K
def tLen (C:fA)(c:Call)(e:vD)(k:lM):T:=
 uC (tD c.argTypes.toList 0) fun t=>uC (tD c.args.toList 0) fun x=>uC (ev x e) fun v=>
  bif Nat.beq (yI C t) 4 then .opt (tB v) k.K else bif Nat.beq (yI C t) 6 then .light (fun m=>bS C t ⟨0,m⟩ v) k.K else uC (bS C t H0A v) k.Kd
def tBin (C:fA)(op:BinOp)(t:Nat)(x y:Operand)(u:Nat)(e:vD)(k:lM):T:=
 bif binDir C op t y then pQ C (.binOp op t x y u) e k else uC (ev x e) fun a=>uC (ev y e) fun b=>.opt ((zN op).f C t x y a b) k.K
def zg5(C:fA)(s d:Nat)(x:Operand)(e:vD)(k:lM):T:=
 bif Nat.beq (yI C d) 2 then(bif Nat.beq (yI C s) 2 then pQ C (.convert s d x) e k else uC (ev x e) fun v=>.light (fun m=>yM C s d ⟨0,m⟩ v) k.K)else bif Nat.beq (yI C d) 1 then pQ C (.convert s d x) e k else .fail
def zev(C:fA)(t:Nat)(x:Operand)(lo hi:Option Operand)(e:vD)(k:lM):T:=
 uC (ev x e) fun a=>uC (evo lo e) fun l=>uC (evo hi e) fun h=>
  bif Nat.beq (yI C t) 2 then .opt (nF C t H0A a l h) k.K else .light (fun m=>nF C t ⟨0,m⟩ a l h) k.K
def Ka(C:fA)(c:Call)(e:vD)(k:lM):Builtin->T
 | .len=>tLen C c e k
 | .max=>pQ C (.call c) e k
 | .min=>pQ C (.call c) e k
 | _=>.fail
def Ih(ty:lD)(v:zA):List zA:=bif ty.desc.isAgg then v.cells else [v]
def zix(cells:List zA)(off size:Nat)(vc:List zA):Option (List zA):=
 vB (Nat.beq (wB vc) size&&Nat.ble (off+wB vc) (wB cells)) (some (tE (kY cells off) (tE vc (cQ cells (off+wB vc)))))
def Wl(C:fA)(tyAt:Nat->Option Nat):List (Nat × zA)->Option (List (Nat × zA × List zA) × List zA):=
 List.rec (motive:=fun _=>Option (List (Nat × zA × List zA) × List zA)) (some ([],[]))
  (fun p _ g=>ob (tyAt p.1) fun t=>ob (C.tys.get t) fun ty=>ob g fun r=>some (bif ty.desc.isAgg then((p.1,p.2,p.2.cells)::r.1,r.2)else((p.1,p.2,[p.2])::r.1,p.2::r.2)))
def Rs(place:Nat->Option (Nat × Nat)):List (Nat × zA × List zA)->List zA->Option (List zA):=
 List.rec (motive:=fun _=>List zA->Option (List zA)) (fun cells=>some cells) (fun p _ g cells=>ob (place p.1) fun q=>ob (zix cells q.1 q.2 p.2.2) fun cells=>g cells)
def tyAtS(ty:lD)(i:Nat):Option Nat:=
 match ty.desc.asStruct with
 | some fs=>ob (tD fs i) fun x=>some x.2.1
 | none=>ob ty.desc.asArr fun a=>some a.2
def Hb(C:fA)(ty:lD)(i:Nat):Option (Nat × Nat):=
 match ty.desc.asStruct with
 | some fs=>ob (tD fs i) fun x=>some (x.1,x.2.2)
 | none=>ob ty.desc.asArr fun a=>ob (C.tys.get a.2) fun et=>some (i*et.size,et.size)
def NK(C:fA)(ty:lD):Bool:=
 match ty.desc.asStruct with
 | some _=>true
 | none=>match ty.desc.asArr with
  | some a=>(match C.tys.get a.2 with | some _=>true | none=>false)
  | none=>false
def zex(C:fA)(t:Nat)(ps:Array (Nat × Operand))(e:vD)(k:lM):T:=
 uC (C.tys.get t) fun ty=>vK (NK C ty) <| uC (evp ps.toList e) fun vs=>uC (Wl C (tyAtS ty) vs) fun q=>uC (Rs (Hb C ty) q.1 ty.zero) fun l=>.ite (zD zA.one q.2) (k.Kd (.agg l)) .fail
def tL (C:fA)(op:Op)(e:vD)(ae:gN)(lo:Tr (List zA))(k:lM):T:=
 match op with
 | .move x=>Oj C (.move x) x e ae k
 | .assign x=>Oj C (.assign x) x e ae k
 | .load t a=>tLoad C t a e ae lo k
 | .fieldAddr s x f=>BW C s x f e ae k
 | .indexAddr t x i=>BU C t x i e ae k
 | .nilCheck x=>tNil x e ae k
 | .binOp op t x y u=>tBin C op t x y u e k
 | .convert s d x=>zg5 C s d x e k
 | .slice t x lo hi none=>zev C t x lo hi e k
 | .index t x i=>bif Yh i&&Nat.beq (yI C t) 5 then pQ C (.index t x i) e k else uC (ev x e) fun v=>uC (ev i e) fun i=>.opt (lO C t v i) k.K
 | .extract t i=>uC (ev t e) fun v=>.opt (gE i v) k.K
 | .typeAssert x _ u ok=>uC (ev x e) fun v=>.opt (Tn C u ok v) k.K
 | .lookup t x i ok=>uC (ev x e) fun m=>uC (ev i e) fun key=>.light (fun h=>uQ C t ⟨0,h⟩ m key ok) k.K
 | .call c=>match c.callee with
  | .builtin b=>Ka C c e k b
  | _=>.fail
 | .pick c a b=>pQ C (.pick c a b) e k
 | .unOp o t x=>(match o with
  | .xor=>uC (ev x e) fun v=>.opt (Cm v) k.K
  | o=>pQ C (.unOp o t x) e k)
 | .makeInterface t x=>pQ C (.makeInterface t x) e k
 | .makeFunc fn a b=>pQ C (.makeFunc fn a b) e k
 | .field t x f=>pQ C (.field t x f) e k
 | .build t ps=>zex C t ps e k
 | _=>.fail
def laOf (la:List Nat)(dst:Option Nat):Option Nat:=
 match dst with
 | some d=>bif aI d la then some d else none
 | none=>none
structure KLo where
 new:Nat->List zA->T
 set:Nat->List zA->T
def zew(f:Operand)(args:Array Operand)(e:vD)(k:lM):T:=
 match f with
 | .func g=>vK (Nat.blt g yo) (uC (vR args.toList e) fun aq=>.call g aq k.K)
 | f=>uC (ev f e) fun fv=>uC (vR args.toList e) fun aq=>.callv fv aq k.K
def two' (c:Call)(e:vD)(K:zA->zA->T):T:=uC (two c e) fun p=>K p.1 p.2
def BV(C:fA)(c:Call)(e:vD)(k:lM):Builtin->T
 | .append=>uC (tD c.argTypes.toList 0) fun t=>uC (tD c.argTypes.toList 1) fun u=>two' c e fun a b=>.heavy (qD C t u a b) k.K
 | b=>Ka C c e k b
def zeu(C:fA)(t:Nat)(a x:Operand)(e:vD)(ae:gN)(lo:Tr (List zA))(k:lM)(kl:KLo):T:=
 match xAd ae a with
 | some p=>uC (ev x e) fun v=>uC (C.tys.get t) fun ty=>uC (lo.get p.1) fun l=>uC (zix l p.2 ty.size (Ih ty v)) fun l'=>.ite (zD zA.one (Ih ty v)) (kl.set p.1 l') .fail
 | none=>uC (ev a e) fun a=>uC (ev x e) fun v=>.heavy (cC C t a v) k.Kd
def tH (C:fA)(la:List Nat)(dst:Option Nat)(op:Op)(e:vD)(ae:gN)(lo:Tr (List zA))(k:lM)(kl:KLo):T:=
 match op with
 | .box t x=>bif aH (lL C t)then uC (ev x e) fun v=>(match laOf la dst with
  | some d=>uC (C.tys.get t) fun ty=>bif ty.desc.isAgg then kl.new d v.cells else .ite (zA.one v) (kl.new d [v]) .fail
  | none=>.heavy (rN v) k.K)else uC (ev x e) fun v=>.heavy (Fx C t v) k.K
 | .alloc t=>bif aH (lL C t)then(match laOf la dst with
  | some d=>uC (C.tys.get t) fun ty=>kl.new d ty.zero
  | none=>.heavy (kO C t) k.K)else .heavy (Nz C t) k.K
 | .store t a x=>zeu C t a x e ae lo k kl
 | .buildSlice t len ps=>uC (evp ps.toList e) fun ps=>.heavy (aE C t len ps) k.K
 | .makeMap _ none=>.heavy Aa k.K
 | .insert t m key x=>uC (ev m e) fun m=>uC (ev key e) fun key=>uC (ev x e) fun v=>.heavy (cN C t m key v) k.Kd
 | .mapUpdate t m key x=>uC (ev m e) fun m=>uC (ev key e) fun key=>uC (ev x e) fun v=>.heavy (cN C t m key v) k.Kd
 | .makeSlice t l c=>uC (ev l e) fun l=>uC (ev c e) fun c=>.heavy (mO C t l c) k.K
 | .convert s d x=>bif Nat.beq (yI C d) 4 then uC (ev x e) fun v=>.heavy (Tl C s d v) k.K else zg5 C s d x e k
 | .call c=>match c.callee with
  | .value f=>zew f c.args e k
  | .builtin b=>BV C c e k b
  | _=>.fail
 | op=>tL C op e ae lo k
def rmNat(i:Nat)(l:List Nat):List Nat:=List.rec (motive:=fun _=>List Nat) [] (fun j _ g=>bif Nat.beq i j then g else j::g) l
def qQ (n:Nat)(dst:Option Nat)(v:zA)(lt:Bool)(st:rH)(κ:KT):T:=
 match dst with
 | none=>κ st
 | some d=>bif Nat.blt d n then vK (aH (rL d st.ad)) (κ ⟨st.tm.set d v,st.ad,st.lo,bif lt then d::rmNat d st.lit else rmNat d st.lit⟩)else κ st
def zg2(n:Nat)(dst:Option Nat)(d off:Nat)(st:rH)(κ:KT):T:=
 uC dst fun i=>vK (Nat.blt i n) (vK (aH (st.tm.get i)) (κ ⟨st.tm,(i,d,off)::st.ad,st.lo,st.lit⟩))
def zfh(d:Nat)(ad:List (Nat × Nat × Nat)):Bool:=zD (fun a=>bif Nat.beq a.2.1 d then Nat.beq a.1 d else true) ad
def tNew (n:Nat)(d:Nat)(l:List zA)(st:rH)(κ:KT):T:=
 vK (Nat.blt d n) (vK (aH (st.tm.get d)) (vK (zfh d st.ad) (κ ⟨st.tm,(d,d,0)::st.ad,st.lo.set d l,st.lit⟩)))
def fitB (C:fA)(t:Nat)(v:zA):Bool:=
 match C.tys.get t with
 | some ty=>(match ty.desc with
  | .bool=>Nat.beq v.tag 0
  | .int k=>(match v.asIntK with | some p=>bO p.1 k | none=>false)
  | .string=>Nat.beq v.tag 2
  | _=>true)
 | none=>true
def Jz(C:fA)(t:Nat)(v:zA)(K:zA->T):T:=
 match C.tys.get t with
 | some ty=>(match ty.desc with
  | .bool=>.asB v fun b=>K (.bool b)
  | .int k=>.asI k v fun n=>K (.int k n)
  | .string=>.asS v fun s=>K (.str s)
  | .struct _=>bif Nat.ble (wB ty.zero) 40 then .asG ty.zero v fun X=>K (.agg (qM ty.zero X 0))else K v
  | .arr _ _=>bif Nat.ble (wB ty.zero) 40 then .asG ty.zero v fun X=>K (.agg (qM ty.zero X 0))else K v
  | _=>K v)
 | none=>K v
def Ap (x:Operand)(lit:List Nat):Bool:=
 match x with
 | .tmp t=>lit.contains t
 | .const _=>true
 | _=>false
def Qr(op:Op)(e:vD)(lit:List Nat):Bool:=
 match op with
 | .move x=>Ap x lit
 | .assign x=>Ap x lit
 | .unOp _ _ x=>Ap x lit
 | .pick c a b=>bif Ap c lit then(match ob (ev c e) zA.asBool with
  | some w=>bif w then Ap a lit else Ap b lit
  | none=>false)else false
 | _=>false
def Rf(all:List Oper)(dst:Option Nat)(l:List Oper):Bool:=
 match dst with
 | none=>false
 | some d => !zD (fun o=>match o.guard with
  | some g=>(match ob (tD all g.1) fun p=>p.dst with | some i => !Nat.beq i d | none=>true)
  | none=>true) l
def Gf(g lt:Bool)(v:zA)(K:zA->Bool->T):T:=
 bif g then(bif lt then K v true else uC v.asBool fun b=>.ite b (K (.bool true) true) (K (.bool false) true))else K v lt
def kop (C:fA)(all:Array Oper)(n:Nat)(o:Oper)(e:vD)(st:rH)(κ:KT):lM:=
 ⟨fun v=>Jz C o.type v fun v=>Gf (Rf all.toList o.dst all.toList) (Qr o.op e st.lit) v fun v lt=>qQ n o.dst v lt st κ,
  fun v=>vK (fitB C o.type v) (Gf (Rf all.toList o.dst all.toList) (Qr o.op e st.lit) v fun v lt=>qQ n o.dst v lt st κ),
  fun d off=>vK (!Nat.ble (yI C o.type) 2) (zg2 n o.dst d off st κ)⟩
def klo (C:fA)(n:Nat)(o:Oper)(st:rH)(κ:KT):KLo:=
 ⟨fun d l=>vK (!Nat.ble (yI C o.type) 2) (tNew n d l st κ),
  fun d l=>vK (fitB C o.type kD) (qQ n o.dst kD false ⟨st.tm,st.ad,st.lo.set d l,st.lit⟩ κ)⟩
def vD.adCut(k:Nat)(l:List (Nat × Nat × Nat)):List (Nat × Nat × Nat):=l.filter fun a=>Nat.blt a.1 k
def rH.cut(st:rH):rH:=⟨st.tm.cut,vD.adCut st.tm.k st.ad,st.lo,st.lit⟩
def tops (C:fA)(la:List Nat)(all:Array Oper)(n:Nat)(κ:KT)(l:List Oper):KT:=
 List.rec (motive:=fun _=>KT) κ
  (fun o _ g st=>uC (aF o.guard all st.tm) fun w=>Bool.rec (motive:=fun _=>T) (qQ n o.dst kD false st g)
   (tH C la o.dst o.op (.now st.tm) (.now st.ad) st.lo (kop C all n o (.now st.tm) st g) (klo C n o st g)) w) l
def fP (st old:rH)(olds:List Nat)(op:Op):vD:=.mixed st.tm old.tm olds (bH op)
def lY (st old:rH)(olds:List Nat)(op:Op):gN:=.mixed st.ad old.ad olds (bH op)
def fR(C:fA)(all:Array Oper)(n:Nat)(old:rH)(olds:List (Nat × List Nat))(κ:KT)(l:List Nat):KT:=
 List.rec (motive:=fun _=>KT) κ
  (fun i _ g st=>uC (tD all.toList i) fun o=>uC (aF o.guard all st.tm) fun w=>Bool.rec (motive:=fun _=>T) (qQ n o.dst kD false st g)
   (tL C o.op (fP st old (rF i olds) o.op) (lY st old (rF i olds) o.op) st.lo (kop C all n o (fP st old (rF i olds) o.op) st g)) w) l
def tW(C:fA)(all:Array Oper)(old:rH)(olds:List (Nat × List Nat))(st:rH)(k:T)(l:List Nat):T:=
 List.rec (motive:=fun _=>T) k
  (fun i _ g=>uC (tD all.toList i) fun o=>uC o.dst fun d=>uC (aF o.guard all st.tm) fun w=>Bool.rec (motive:=fun _=>T) g
   (uC (st.tm.get d) fun u=>vK (fitB C o.type u) (tL C o.op (fP st old (rF i olds) o.op) (lY st old (rF i olds) o.op) st.lo ⟨fun v=>.ite (same 10 v u) g .fail,fun v=>.ite (same 10 v u) g .fail,fun _ _=>.fail⟩)) w) l
def Fw(C:fA)(es:List vN)(H:pA):Option (zA × pA):=ob (vZ C es H) fun H'=>some (kD,H')
def tEff (op:Op)(e:vD)(ae:gN):Option vN:=
 match op with
 | .store t a x=>(match xAd ae a with
  | some _=>none
  | none=>pZ (.store t a x) e)
 | op=>pZ op e
def Ok(all:Array Oper)(old:rH)(olds:List (Nat × List Nat))(st:rH)(l:List Nat):Option (List vN):=
 oH (fun i=>ob (tD all.toList i) fun o=>ob (aF o.guard all st.tm) fun w=>vB w (tEff o.op (fP st old (rF i olds) o.op) (lY st old (rF i olds) o.op))) l
def Ac(C:fA)(all:Array Oper)(n:Nat)(old:rH)(olds:List (Nat × List Nat))(κ:KT)(l:List fG):KT:=
 List.rec (motive:=fun _=>KT) κ
  (fun s _ g st=>Bool.rec (motive:=fun _=>T) (uC (tD all.toList (dM all s.heavy)) fun o=>uC (sU C all s.heavy o st.tm) fun w=>
   (fun cont:KT=>Bool.rec (motive:=fun _=>T) (qQ n o.dst kD false st cont)
    (tH C [] o.dst o.op (fP st old (rF (dM all s.heavy) olds) o.op) (lY st old (rF (dM all s.heavy) olds) o.op) st.lo (kop C all n o (fP st old (rF (dM all s.heavy) olds) o.op) st cont) (klo C n o st cont)) w)
   (fun st'=>tW C all old olds st' (fR C all n old olds g s.lights st') s.again))
   (vK (jW C all) (uC (Ok all old olds st s.again) fun es=>.heavy (Fw C es) fun _=>fR C all n old olds g s.lights st)) (jT all s)) l
def BA(C:fA)(la:List Nat)(fn n:Nat)(κ:KT)(id:Nat)(all:Array Oper)(draw:Bool):KT:=
 Bool.rec (motive:=fun _=>KT) (fun st=>tops C la all n κ all.toList st.cut)
  (fun st=>uC (ob (C.plans.get fn) fun t=>t.get id) fun p=>vK (qT all p) (fR C all n st.cut p.olds (Ac C all n st.cut p.olds κ p.stages) p.first st.cut)) draw
def Ft(st:rH)(ll:List (Nat × Nat)):Option (List zA):=
 List.rec (motive:=fun _=>Option (List zA)) (some []) (fun p _ g=>ob (rL p.1 st.ad) fun a=>vB (Nat.beq a.1 p.1&&Nat.beq a.2 0) (ob (st.lo.get p.1) fun l=>vB (Nat.beq (wB l) p.2) (ob g fun r=>some (tE l r)))) ll
def Fs(p:PI)(st:rH):Option (List zA):=ob (oH (fun i=>st.tm.get i) p.pl) fun a=>ob (Ft st p.ll) fun b=>some (tE a b)
def rW (ll:List (Nat × Nat)):List zA->Tr (List zA):=
 List.rec (motive:=fun _=>List zA->Tr (List zA)) (fun _=>.leaf) (fun p _ g vals=>(g (cQ vals p.2)).set p.1 (kY vals p.2)) ll
def mP (pl:List Nat):List zA->Tr zA:=
 List.rec (motive:=fun _=>List zA->Tr zA) (fun _=>.leaf) (fun i _ g vals=>List.rec (motive:=fun _=>Tr zA) .leaf (fun v vals _=>(g vals).set i v) vals) pl
def stAd (ll:List (Nat × Nat)):List (Nat × Nat × Nat):=List.rec (motive:=fun _=>List (Nat × Nat × Nat)) [] (fun p _ g=>(p.1,p.1,0)::g) ll
def qW (k:Nat)(p:PI)(vals:List zA):rH:=⟨⟨k,mP p.pl vals,[]⟩,stAd p.ll,rW p.ll (cQ vals (wB p.pl)),[]⟩
def npC (C:fA)(g:Nat):Bool:=aH (C.prims.get g)
def ze9(pl:List Nat)(st:rH):Option (List zA):=oH (fun i=>st.tm.get i) pl
def EW(k n:Nat)(pl ps:List Nat)(ops:List Oper)(c:dD):Bool:=
 zD (fun p=>Nat.blt p k&&Nat.blt p n && !aI p pl) ps&&Nat.ble (wB ps) 1&&Ky ops&&(match mU c with | []=>true | _=>false)
def rdT:KtT:=⟨fun _=>.ret (.bool true),fun _ _=>.fail,fun _=>.ret (.bool false)⟩
def We(C:fA)(n:Nat)(κ:KtT)(i:Nat)(pl:List Nat)(f:Operand)(ps:List Nat)(ops:List Oper)(c:dD)(st:rH):T:=
 vK (EW st.tm.k n pl ps ops c) (uC (ze9 pl st) fun vals=>uC (ev f (.now st.tm)) fun fv=>.range (npC C) fv i (wB ps) vals (κ.norm st) (κ.ret st))
def nP (C:fA)(la:List Nat)(fn n:Nat)(c:dD):KtT->KT:=
 dD.rec (motive:=fun _=>KtT->KT)
  (fun κ st=>κ.norm st)
  (fun id all draw κ=>BA C la fn n κ.norm id all draw)
  (fun _ _ ga gb κ=>ga ⟨gb κ,κ.exit,κ.ret⟩)
  (fun c _ _ gx gy κ st=>uC (ob (ev c (.now st.tm)) zA.asBool) fun b=>bif Ap c st.lit then Bool.rec (motive:=fun _=>T) (gy κ st) (gx κ st) b else .ite b (gx κ st) (gy κ st))
  (fun id _ g κ=>g ⟨κ.norm,fun i st=>Bool.rec (motive:=fun _=>T) (κ.exit i st) (κ.norm st) (Nat.beq id i),κ.ret⟩)
  (fun p _ _ _ st=>uC (Fs p st) fun vals=>.jump p.id vals)
  (fun id κ st=>κ.exit id st)
  (fun κ st=>κ.ret st)
  (fun p _ _ _ st=>uC (Fs p st) fun vals=>.jump p.id vals)
  (fun i pl f ps _ ops c _ κ st=>We C n κ i pl f ps.toList ops.toList c st) c
structure PtT where
 p:PI
 tree:List zA->T
def Ho(p:PI):KT:=fun st=>uC (Fs p st) fun vals=>.jump p.id vals
def Ak(C:fA)(la:List Nat)(fn n k:Nat)(c:dD):KtT->List PtT:=
 dD.rec (motive:=fun _=>KtT->List PtT)
  (fun _=>[])
  (fun _ _ _ _=>[])
  (fun _ b ga gb κ=>tE (ga ⟨nP C la fn n b κ,κ.exit,κ.ret⟩) (gb κ))
  (fun _ _ _ gx gy κ=>tE (gx κ) (gy κ))
  (fun id _ g κ=>g ⟨κ.norm,fun i st=>Bool.rec (motive:=fun _=>T) (κ.exit i st) (κ.norm st) (Nat.beq id i),κ.ret⟩)
  (fun p c g κ=>⟨p,fun vals=>nP C la fn n c ⟨Ho p,κ.exit,κ.ret⟩ (qW k p vals)⟩::g ⟨Ho p,κ.exit,κ.ret⟩)
  (fun _ _=>[])
  (fun _=>[])
  (fun p c g κ=>⟨p,fun vals=>nP C la fn n c κ (qW k p vals)⟩::g κ)
  (fun i pl _ ps id ops c g _=>⟨⟨i,tE pl ps.toList,[]⟩,fun vals=>nP C la fn n (.seq (.region id ops false) c) rdT (qW k ⟨i,tE pl ps.toList,[]⟩ vals)⟩::g rdT) c
def Gv (C:fA)(st:rH)(l:List ResultVar):(List zA->T)->T:=
 List.rec (motive:=fun _=>(List zA->T)->T) (fun K=>K [])
  (fun r _ g K=>match r with
   | .tmp t=>uC (st.tm.get t) fun v=>g fun l=>K (v::l)
   | .cell a t=>match rL a st.ad with
    | some p=>uC (st.lo.get p.1) fun l=>uC (C.tys.get t) fun ty=>vK (Nat.ble (p.2+ty.size) (wB l)) (uC (jP C t l p.2) fun v=>g fun l=>K (v::l))
    | none=>uC (st.tm.get a) fun a=>.light (fun m=>mA C t ⟨0,m⟩ a) fun v=>g fun l=>K (v::l)) l
def endT (C:fA)(fn:Func):KT:=fun st=>Gv C st fn.results.toList fun l=>.ret (Cs l)
def topT (C:fA)(fn:Func):KtT:=⟨endT C fn,fun _ _=>.fail,endT C fn⟩
structure oG where
 code:dD
 la:List Nat
def entT (C:fA)(fn:Func)(k:Nat)(f:Nat)(A:oG)(args:List zA):T:=nP C A.la f fn.ntmps A.code (topT C fn) ⟨⟨k,Tr.ofList args,[]⟩,[],.leaf,[]⟩
def ptsT (C:fA)(fn:Func)(k:Nat)(f:Nat)(A:oG):List PtT:=Ak C A.la f fn.ntmps k A.code (topT C fn)
def Kz(l:List PtT)(i:Nat)(vals:List zA):List T:=List.rec (motive:=fun _=>List T) [] (fun p _ g=>bif Nat.beq p.p.id i then p.tree vals::g else g) l
end
section
variable {b d n s ty:Nat}{y:qA}{i x:Operand}{l r:Option zA}{c:Call}{a k m u w:zA}{ok:Bool}
def nE {α:Type}(x:Option α)(P:α->Prop):Prop:=
 match x with
 | some a=>P a
 | none=>False
theorem rY{α:Type}{x:Option α}{P:α->Prop}:nE x P ↔ ∃a,x=some a/\P a:=by
 cases x with
 | none=>simp[nE]
 | some a=>simp[nE]
@[simp] theorem xA {α:Type} {a:α} {P:α->Prop}:nE (some a) P=P a:=rfl
@[simp] theorem optP_none {α:Type} {P:α->Prop}:nE (none:Option α) P=False:=rfl
abbrev xC:=zA->Tr qA->Prop
abbrev cI:=Nat->List zA->Tr qA->xC->Prop
def zf8{α:Type}:List α->Bool | []=>true | _::_=>false
def oM(f:zA)(args:List zA):Option (Nat × List zA):=ob f.asFunc fun p=>match p.1 with
 | .func g=>vB (Nat.blt g yo) (some (g,tE (tE p.2.1 args) p.2.2))
 | .yld l=>vB (zf8 p.2.1&&zf8 p.2.2) (some (yo+l,args))
def Pn(np:Nat->Bool)(f:zA)(l:Nat):Option (Nat × List zA):=ob f.asFunc fun p=>match p.1 with
 | .func g=>vB (Nat.blt g yo&&np g) (some (g,tE p.2.1 (.func (.yld l) [] []::p.2.2)))
 | .yld _=>none
def Ax (k:IntKind)(v:zA):Option Int:=ob v.asIntK fun p=>vB (bO p.1 k) (some p.2)
def gG (zs:List zA)(v:zA):Option sI:=ob v.asAgg fun l=>vB (yR zs l) (some (cellsOf l))
def tA (base:Nat)(W:cI)(J:cI):T->Tr qA->xC->Prop
 | .ret v,t,Q=>Q v t
 | .fail,_,_=>False
 | .ite b x y,t,Q=>if b=true then tA base W J x t Q else tA base W J y t Q
 | .opt x K,t,Q=>nE x fun v=>tA base W J (K v) t Q
 | .light x K,t,Q=>nE (x t) fun v=>tA base W J (K v) t Q
 | .heavy x K,t,Q=>∀b,t.get b=none->base<=b->nE (x ⟨b,t⟩) fun p=>tA base W J (K p.1) p.2.t Q
 | .call f args K,t,Q=>W f args t fun v t'=>tA base W J (K v) t' Q
 | .callv f args K,t,Q=>nE (oM f args) fun p=>W p.1 p.2 t fun v t'=>tA base W J (K v) t' Q
 | .asI k v K,t,Q=>nE (Ax k v) fun n=>tA base W J (K n) t Q
 | .asB v K,t,Q=>nE v.asBool fun n=>tA base W J (K n) t Q
 | .asS v K,t,Q=>nE v.asStr fun n=>tA base W J (K n) t Q
 | .asG zs v K,t,Q=>nE (gG zs v) fun X=>tA base W J (K X) t Q
 | .jump i vals,t,Q=>J i vals t Q
 | .range np f i m vals K R,t,Q=>256<=base/\∀l r,t.get l=none->base<=l->r.state=.ready->r.pending=none →
   (∀args t1 Q1,args.length=m->t1.get l=some (.loop r)->J i (vals++args) (t1.del l) (fun v t2=>t2.get l=none->∃b,v=.bool b/\Q1 v (t2.set l (.loop (iY b r))))->W (yo+l) args t1 Q1) →
   nE (Pn np f l) fun p=>W p.1 p.2 (t.set l (.loop r)) fun _ t'=>(t'.get l=some (.loop r)/\tA base W J K (t'.del l) Q)\/(t'.get l=some (.loop (iY false r))/\tA base W J R (t'.del l) Q)
abbrev Xt:=Nat->Option qA
def bJ (X Y:Xt):Prop:=∀b y,X b=some y->Y b=some y
theorem bJ.refl(X:Xt):bJ X X:=fun _ _ h=>h
def bJ.trans{X Y Z:Xt}(h:bJ X Y)(k:bJ Y Z):bJ X Z:=fun b y e=>k b y (h b y e)
structure Ov (base:Nat) (t:Tr qA) (X:Xt) (H:pA):Prop where
 base:base<=H.next
 same:∀b,X b=none->H.t.get b=t.get b
 ext:∀b y,X b=some y->H.t.get b=some y/\t.get b=none/\b<H.next
 lt:∀b y,t.get b=some y->b<H.next
def HLe (H H':pA):Prop:=∀b y,H.t.get b=some y->H'.t.get b=some y
def cS(e e':vD):Prop:=∀i v,bV i e=some v->bV i e'=some v
section
variable {base:Nat}{t:Tr qA}{X:Xt}{H HA:pA}{e e':vD}{C:fA}{v:zA}
theorem Ov.notX(h:Ov base t X HA)  (hb:t.get b=some y):X b=none:=by
 cases hx:X b with
 | none=>rfl
 | some z=>have:=(h.ext b z hx).2.1;simp_all
theorem Ov.up(h:Ov base t X HA)  (hb:t.get b=some y):HA.t.get b=some y:=by rw[h.same b (h.notX hb)];exact hb
def Ov.le(h:Ov base t X HA)  : HLe ⟨n,t⟩ HA:=fun _ _ hb=>h.up hb
def Ov.nextX(h:Ov base t X HA):X HA.next=none:=by
 cases hx:X HA.next with
 | none=>rfl
 | some z=>exact absurd (h.ext _ z hx).2.2 (Nat.lt_irrefl _)
def Ov.nextT(h:Ov base t X HA):t.get HA.next=none:=by
 cases hx:t.get HA.next with
 | none=>rfl
 | some z=>exact absurd (h.lt _ z hx) (Nat.lt_irrefl _)
theorem vX(h:HLe H HA) {p:Tr zA × Nat × Option Lo}(hb:rD H b=some p):rD HA b=some p:=by
 unfold rD at hb ⊢;rw[lA]at hb ⊢;obtain⟨y,h1,h2⟩:=hb;exact⟨y,h _ _ h1,h2⟩
theorem Fe(h:HLe H HA) {p:List (zA × zA)}(hb:cJ H b=some p):cJ HA b=some p:=by
 unfold cJ at hb ⊢;rw[lA]at hb ⊢;obtain⟨y,h1,h2⟩:=hb;exact⟨y,h _ _ h1,h2⟩
theorem zF(h:cS e e') (hx:ev x e=some v):ev x e'=some v:=by
 cases x with
 | tmp i=>exact h i v hx
 | const c=>exact hx
 | global g=>exact hx
 | func f=>exact hx
theorem LF(h:cS e e'){l:List Operand}{vs:List zA}(hx:vR l e=some vs):vR l e'=some vs:=Qq l (fun _ _ k=>zF h k) hx
theorem LG(h:cS e e'){x:Option Operand} (hx:evo x e=some r):evo x e'=some r:=by
 cases x with
 | none=>exact hx
 | some x=>
  have hx:ob (ev x e) (fun v=>some (some v))=some r:=hx;show ob (ev x e') (fun v=>some (some v))=some r
  grind [lA,zF]
theorem Yy(h:cS e e'){l:List (Nat × Operand)}{vs:List (Nat × zA)}(hx:evp l e=some vs):evp l e'=some vs:=
 Qq l (fun a b k=>by grind [lA,zF]) hx
theorem Tt(h:cS e e') {p:zA × zA}(hx:two c e=some p):two c e'=some p:=by
 grind [two,lA,zF]
theorem tQ(h:HLe H HA)  (hx:mA C ty H a=some v):mA C ty HA a=some v:=by
 grind [mA,lA,vX]
theorem Zh(h:HLe H HA){s d:lD} (hx:tR C s d a H=some v):tR C s d a HA=some v:=by
 unfold tR at hx ⊢;split at hx
 ·omega
 ·rename_i hk;rw[oB]at hx ⊢;refine⟨hx.1,?_⟩;have hx:=hx.2;rw[nD]at hx ⊢;split at hx
  all_goals grind [lA,oB,Ey,vX]
theorem PR(h:HLe H HA)  (hx:yM C s d H a=some v):yM C s d HA a=some v:=by
 grind [yM,lA,Zh]
theorem Vl(h:HLe H HA){ty:lD}  (hx:aK C H ty a l r=some v):aK C HA ty a l r=some v:=by
 have row:∀ {arr e b off len cap},qN C H arr e b off len cap l r=some v->qN C HA arr e b off len cap l r=some v:=by
  intro arr e b off len cap hx;unfold qN at hx ⊢;simp only[lA]at hx ⊢;obtain⟨a1,h1,b1,h2,hx⟩:=hx;refine⟨a1,h1,b1,h2,?_⟩
  cases hb:rD H b with
  | none=>
   have e1:kJ H b a1.size cap b1.1 arr=false:=by unfold kJ;rw[hb]
   have e2:jK H b a1.size cap b1.1 arr=false:=by unfold jK;rw[hb]
   rw[e1,e2,yay,yay]at hx;cases hx
  | some c=>
   grind [kJ,vX,jK]
 grind [aK,lA]
theorem AS(h:HLe H HA)   (hx:nF C ty H a l r=some v):nF C ty HA a l r=some v:=by
 grind [nF,lA,Vl]
theorem Xa(h:HLe H HA) {l:List (zA × zA)}(hx:oT H m=some l):oT HA m=some l:=by
 grind [oT,Fe]
theorem PN(h:HLe H HA)   (hx:uQ C ty H m k ok=some v):uQ C ty HA m k ok=some v:=by
 unfold uQ at hx ⊢;simp only[lA,oB]at hx ⊢
 grind [Xa]
theorem Xk(h:HLe H HA){ty:lD}  (hx:nT H ty a=some n):nT HA ty a=some n:=by
 unfold nT at hx ⊢;split at hx
 all_goals grind [oB,lA,Fe]
theorem PO(h:HLe H HA)  (hx:bS C ty H a=some v):bS C ty HA a=some v:=by
 grind [bS,lA,Xk]
theorem HU {a:Operand}:bU ty a C e H=ob (ev a e) fun v=>mA C ty H v:=rfl
theorem IH   (hx:ev x e=some u):cO s d x C e H=yM C s d H u:=by simp_all [cO,yM]
def zda  {lo hi:Option Operand}  (h1:ev x e=some a)(h2:evo lo e=some l)(h3:evo hi e=some r):fY ty x lo hi C e H=nF C ty H a l r:=by unfold fY nF;rw[h1,uA,h2,uA,h3,uA]
theorem IE{f:Nat}  (hx:ev x e=some u):yV s x f C e H=qB C s f u:=by
 unfold yV qB aS;rw[hx]
 cases C.tys.get s with
 | none=>rfl
 | some ty=>
  simp only[uA]
  cases ty.desc.asStruct with
  | none=>rfl
  | some fs=>
   simp only[uA]
   cases tD fs f with
   | none=>rfl
   | some fd=>simp only[uA];cases hb:(!Nat.beq fd.2.2 0)<;>rfl
theorem HY   (hx:ev x e=some u)(hi:ev i e=some w):aU ty x i C e H=aA C ty u w:=by unfold aU aA;rw[hx,hi];rfl
theorem zdc   (hx:ev x e=some u)(hi:ev i e=some w):zV ty x i C e H=lO C ty u w:=by unfold zV lO;rw[hx,hi];rfl
theorem zfl  (hx:ev x e=some u):dY x C e H=Cl u:=by simp_all [dY,Cl]
theorem WD {i:Nat} (hx:ev x e=some u):xV x i C e H=gE i u:=by simp_all [xV,gE]
theorem lBin_v{op:BinOp} {y:Operand} (hx:ev x e=some u)(hy:ev y e=some w):wV op ty x y C e H=(zN op).f C ty x y u w:=by simp_all [wV]
theorem WE {a:Nat}  (hx:ev x e=some u):vV x a ok C e H=Tn C a ok u:=by
 unfold vV Tn;rw[hx];rfl
def WC    (hx:ev x e=some m)(hi:ev i e=some k):cU ty x i ok C e H=uQ C ty H m k ok:=by unfold cU uQ;rw[hx,hi];rfl
theorem lLen_v    (h1:tD c.argTypes.toList 0=some ty)(h2:tD c.args.toList 0=some x)(hx:ev x e=some u):eP c C e H=bS C ty H u:=by grind [eP,bS,uA]
theorem zd1(he:cS e e'){op:Op}(hp:wT op=true\/(∃s d x,op=.convert s d x/\(yI C d=1\/yI C s=2))\/(∃c,op=.call c/\(c.callee=.builtin .max\/c.callee=.builtin .min))){H':pA}(h:(fF op).f C e H=some v):(fF op).f C e' H'=some v:=by
 rcases hp with hp | hp | hp
 ·cases op<;>simp only[wT]at hp<;>try (cases hp;done)
  case move x=>exact zF he h
  case assign x=>exact zF he h
  case pick c a b=>
   have h:ob (ev c e) (fun c=>ob c.asBool fun c=>bif c then ev a e else ev b e)=some v:=h;show ob (ev c e') (fun c=>ob c.asBool fun c=>bif c then ev a e' else ev b e')=some v
   grind [lA,zF]
  case nilCheck x=>
   have h:ob (ev x e) (fun u=>vB (Nat.beq u.tag 4||Nat.beq u.tag 9) (some u))=some v:=h;show ob (ev x e') (fun u=>vB (Nat.beq u.tag 4||Nat.beq u.tag 9) (some u))=some v
   grind [lA,zF]
  case binOp op t x y u=>
   have h:wV op t x y C e H=some v:=h;show wV op t x y C e' H'=some v
   grind [wV,lA,zF]
  case unOp op t x=>
   have h:lUn op x C e H=some v:=h;show lUn op x C e' H'=some v
   grind [lUn,lA,zF]
  case makeInterface t x=>
   have h:Ar t x C e H=some v:=h;show Ar t x C e' H'=some v
   grind [Ar,lA,oB,zF]
  case makeFunc fn a b=>
   have h:(As fn a b).f C e H=some v:=h;show(As fn a b).f C e' H'=some v;unfold As at h ⊢;split at h
   ·grind [Ra,lA,LF]
   ·cases h
  case fieldAddr s x f=>
   have h:yV s x f C e H=some v:=h;show yV s x f C e' H'=some v;unfold yV at h ⊢;simp only[lA,oB]at h ⊢;obtain⟨a,h1,b,h2,c,h3,h4,u,h5,h6⟩:=h;exact⟨a,h1,b,h2,c,h3,h4,u,zF he h5,h6⟩
  case field t x f=>
   have h:Au t x f C e H=some v:=h;show Au t x f C e' H'=some v
   grind [Au,lA,zF]
  case indexAddr t x i=>
   have h:aU t x i C e H=some v:=h;show aU t x i C e' H'=some v;unfold aU at h ⊢;simp only[lA]at h ⊢
   grind [zF]
  case index t x i=>
   have h:zV t x i C e H=some v:=h;show zV t x i C e' H'=some v;unfold zV at h ⊢;simp only[lA]at h ⊢
   grind [zF]
  case extract t i=>
   have h:xV t i C e H=some v:=h;show xV t i C e' H'=some v
   grind [xV,lA,zF]
  case build t ps=>
   have h:gW t ps C e H=some v:=h;show gW t ps C e' H'=some v
   grind [gW,lA,Yy]
  case typeAssert x t u ok=>
   have h:vV x u ok C e H=some v:=h;show vV x u ok C e' H'=some v
   grind [vV,lA,oB,zF]
 ·obtain⟨s,d,x,rfl,hp⟩:=hp;have h:cO s d x C e H=some v:=h;show cO s d x C e' H'=some v;unfold cO at h ⊢;simp only[lA]at h ⊢;obtain⟨u,h1,sy,h2,dy,h3,h4⟩:=h;refine⟨u,zF he h1,sy,h2,dy,h3,?_⟩;unfold tR at h4 ⊢;split at h4
  ·exact h4
  ·rename_i hd;rw[oB]at h4 ⊢;refine⟨h4.1,?_⟩;have h4:=h4.2;rw[nD]at h4 ⊢;split at h4
   ·simp_all
   ·rename_i e;exfalso;rcases hp with hp | hp
    ·unfold yI at hp;rw[h3]at hp;have hp:dy.desc.tag=1:=hp;cases hx:dy.desc<;>rw[hx]at hp hd<;>first
      | (cases hp;done)
      | (cases hd;done)
    ·unfold yI at hp;rw[h2]at hp;have hp:sy.desc.tag=2:=hp;simp only[lA]at h4;obtain⟨el,h5,_⟩:=h4;cases hx:sy.desc<;>rw[hx]at hp h5<;>first
      | (cases hp;done)
      | (cases h5;done)
 ·obtain⟨c,rfl,hc⟩:=hp;rcases hc with hc | hc
  ·have h:(nS c c.callee).f C e H=some v:=h;show(nS c c.callee).f C e' H'=some v;rw[hc]at h ⊢;have h:dU c C e H=some v:=h;show dU c C e' H'=some v
   grind [dU,lA,Tt]
  ·have h:(nS c c.callee).f C e H=some v:=h;show(nS c c.callee).f C e' H'=some v;rw[hc]at h ⊢;have h:eU c C e H=some v:=h;show eU c C e' H'=some v
   grind [eU,lA,Tt]
end
end
section
variable {b d n off ty:Nat}{a u:zA}{l:List zA}{H':pA}{K:zA->T}{op:Op}
section
variable {base:Nat}{t:Tr qA}{X:Xt}{H HA:pA}{e e':vD}{C:fA}{v:zA}
theorem Ov.newBlk(h:Ov base t X HA)(y:qA):Ov base (t.set HA.next y) X (newBlk HA y):=by
 refine⟨Nat.le_succ_of_le h.base,fun b hb=>?_,fun b z hb=>?_,fun b z hb=>?_⟩
 ·show(HA.t.set HA.next y).get b=_;rw[Tr.get_set,Tr.get_set];split
  ·rfl
  ·exact h.same b hb
 ·obtain⟨h1,h2,h3⟩:=h.ext b z hb;have hne:b≠HA.next:=Nat.ne_of_lt h3;refine⟨?_,?_,Nat.lt_succ_of_lt h3⟩
  ·show(HA.t.set HA.next y).get b=_
   grind [Tr.get_set]
  grind [Tr.get_set]
 ·rw[Tr.get_set]at hb;show b<HA.next+1;split at hb
  ·omega
  ·exact Nat.lt_succ_of_lt (h.lt _ _ hb)
theorem Ov.setBlk(h:Ov base t X HA){b:Nat}{y:qA}(hb:t.get b=some y)(z:qA):Ov base (t.set b z) X (setBlk HA b z):=by
 refine⟨h.base,fun c hc=>?_,fun c u hc=>?_,fun c u hc=>?_⟩
 ·show(HA.t.set b z).get c=_;rw[Tr.get_set,Tr.get_set];split
  ·rfl
  ·exact h.same c hc
 ·obtain⟨h1,h2,h3⟩:=h.ext c u hc;have hne:c≠b:=fun e=>by simp_all
  refine⟨?_,?_,h3⟩
  ·show(HA.t.set b z).get c=_
   grind [Tr.get_set]
  grind [Tr.get_set]
 ·rw[Tr.get_set]at hc;show c<HA.next;split at hc
  ·rename_i e;rw[e];exact h.lt _ _ hb
  ·exact h.lt _ _ hc
theorem Ov.delBlk(h:Ov base t X HA) {y:qA}(hb:t.get b=some y):Ov base (t.del b) X ⟨HA.next,HA.t.del b⟩:=by
 refine⟨h.base,fun c hc=>?_,fun c u hc=>?_,fun c u hc=>?_⟩
 ·show(HA.t.del b).get c=_;rw[Tr.get_del,Tr.get_del];split
  ·rfl
  ·exact h.same c hc
 ·obtain⟨h1,h2,h3⟩:=h.ext c u hc
  grind [Tr.get_del]
 ·rw[Tr.get_del]at hc;show c<HA.next;split at hc
  ·cases hc
  ·exact h.lt _ _ hc
def eS (base:Nat)(x:pA->Option (zA × pA)):Prop:=∀t X HA v H',Ov base t X HA->x ⟨HA.next,t⟩=some (v,H')->∃HA',x HA=some (v,HA')/\Ov base H'.t X HA'
theorem oY(l:List zA)(lo:Option Lo)(h:Ov base t X HA):Ov base (lF ⟨HA.next,t⟩ l lo).t X (lF HA l lo):=h.newBlk _
theorem PU  : eS base (kO C ty):=by
 intro t X HA v H' ho h;unfold kO at h ⊢;rw[lA]at h;obtain⟨y,h1,h2⟩:=h;cases h2;simp_all [oY]
def zgt  : eS base (rN u):=by
 intro t X HA v H' ho h;cases h;exact⟨_,rfl,oY _ _ ho⟩
theorem PW  : eS base (Nz C ty):=by
 intro t X HA v H' ho h;unfold Nz at h ⊢;rw[lA]at h;obtain⟨y,h1,h3⟩:=h
 grind [uA,oY]
theorem zbu   : eS base (Fx C ty u):=by
 intro t X HA v H' ho h;grind [Fx,oY]
theorem PS {ps:List (Nat × zA)}:eS base (aE C ty n ps):=by
 intro t X HA v H' ho h;unfold aE at h ⊢;simp only[lA,oB]at h;obtain⟨a,h1,b,h2,c,h3,h4,l,h5,h6⟩:=h
 grind [oY,lA,oB]
theorem Vd(ho:Ov base t X HA)   (h:lJ C ⟨HA.next,t⟩ b off l=some H'):∃HA',lJ C HA b off l=some HA'/\Ov base H'.t X HA':=by
 unfold lJ at h ⊢;simp only[lA,oB]at h;obtain⟨h1,c,h2,h3,h4⟩:=h;cases h4;have h2':=h2;unfold rD at h2';rw[lA]at h2';obtain⟨y,h5,_⟩:=h2';refine⟨_,?_,ho.setBlk h5 _⟩;simp only[lA,oB];exact⟨h1,c,vX ho.le h2,h3,rfl⟩
theorem PJ   : eS base (cC C ty a u):=by
 intro t X HA v H' ho h;unfold cC at h ⊢;simp only[lA,oB]at h;obtain⟨y,h1,p,h2,h3,H1,h4,h5⟩:=h
 grind [Vd,lA,oB]
def PM:eS base Aa:=by
 intro t X HA v H' ho h;cases h;exact⟨_,rfl,ho.newBlk _⟩
def AR {m k:zA}:eS base (cN C ty m k u):=by
 intro t X HA v H' ho h;unfold cN at h ⊢;simp only[lA,oB]at h;obtain⟨a,h1,b,h2,c,h3,h4,d,h5,h6,l,h7,h8,l',h9,h10⟩:=h;cases h10;have h7':=h7;unfold cJ at h7';rw[lA]at h7';obtain⟨y,h11,_⟩:=h7';refine⟨_,?_,ho.setBlk h11 _⟩;simp only[lA,oB];exact⟨a,h1,b,h2,c,h3,h4,d,h5,h6,l,Fe ho.le h7,h8,l',h9,rfl⟩
def zbg(ho:Ov base t X HA){e:RE} (h:kZ C ⟨HA.next,t⟩ e=some H'):∃HA',kZ C HA e=some HA'/\Ov base H'.t X HA'/\HA'.next=HA.next/\H'.next=HA.next:=by
 obtain⟨x,y,h1,h2,rfl⟩:=Mv.1 h;exact⟨setBlk HA e.blk y,Mv.2 ⟨x,y,ho.up h1,h2,rfl⟩,ho.setBlk h1 _,rfl,rfl⟩
theorem OB:∀ {l:List RE} {t:Tr qA} {HA:pA} {H':pA},Ov base t X HA->Fi C l ⟨HA.next,t⟩=some H'->∃HA',Fi C l HA=some HA'/\Ov base H'.t X HA'
 | [],t,HA,H',ho,h=>by cases h;exact⟨HA,rfl,ho⟩
 | e::l,t,HA,H',ho,h=>by
  unfold Fi at h ⊢;rw[lA]at h;obtain⟨H1,h1,h⟩:=h;obtain⟨HA1,g1,g2,g3,g4⟩:=zbg ho h1;rw[g1,uA];obtain⟨n1,t1⟩:=H1;have g4:n1=HA.next:=g4;subst g4;rw[<- g3]at h;exact OB g2 h
theorem TC(ho:Ov base t X HA){e:RE}(h:Gx C ⟨HA.next,t⟩ e=true):Gx C HA e=true:=by
 cases e with
 | st b off l=>
  change (!aH (lJ C ⟨HA.next,t⟩ b off l))=true at h;show(!aH (lJ C HA b off l))=true
  cases hs:lJ C ⟨HA.next,t⟩ b off l with
  | none=>rw[hs]at h;cases h
  | some H'=>obtain⟨HA',g,_⟩:=Vd ho hs;rw[g];rfl
 | up b k v=>
  unfold Gx at h ⊢;rw[ybb]at h ⊢;refine⟨h.1,?_⟩;have h2:=h.2;split at h2
  ·rename_i hm;rw[Fe ho.le hm]
  grind
theorem PQ{es:List vN}:eS base (Fw C es):=by
 intro t X HA v H' ho h;grind [Fw,vZ,lA,oB,OB,cE,TC]
theorem PK {l c:zA}:eS base (mO C ty l c):=by
 intro t X HA v H' ho h;unfold mO at h ⊢;simp only[lA,oB]at h;obtain⟨a,h1,b,h2,d,h3,n,h4,m,h5,h6,h7⟩:=h
 grind [oY,lA,oB]
theorem PH{s:Nat}  : eS base (Tl C s d u):=by
 intro t X HA v H' ho h;unfold Tl at h ⊢;simp only[lA,oB]at h;obtain⟨a,h1,b,h2,c,h3,et,h4,k,h5,h6,l,h7,h8⟩:=h;cases h8;refine⟨lF HA (zX l) (some (.ty c)),?_,oY _ _ ho⟩
 grind [lA,oB]
theorem WV(h:HLe H HA){sz:Nat}  (hx:cT H sz n u=some l):cT HA sz n u=some l:=by
 grind [cT,lA,vX]
theorem ZP(ho:Ov base t X HA){ty:lD}{b:zA} (h:pR C ⟨HA.next,t⟩ ty a b=some (v,H')):∃HA',pR C HA ty a b=some (v,HA')/\Ov base H'.t X HA':=by
 unfold pR at h;simp only[lA]at h;obtain⟨el,h1,et,h2,n,h3,new,h4,h5⟩:=h;have h4':=WV ho.le h4
 suffices hs:∃HA',(match a.asSlice with
  | some s=>bif Nat.ble (s.2.2.1+n) s.2.2.2 then sV C HA et n new s else rV C HA el et n new s
  | none=>vB (Nat.beq a.tag 5) (eT HA el et n new))=some (v,HA')/\Ov base H'.t X HA' by
  grind [pR,lA]
 cases hs:a.asSlice with
 | some s=>
  rw[hs]at h5;simp only[]at h5 ⊢;rw[nD]at h5;split at h5
  ·rename_i hr;simp only[hr,cond_true];unfold sV at h5 ⊢
   grind [lA,Vd]
  ·rename_i hr;simp only[Bool.not_eq_true]at hr;simp only[hr,cond_false];unfold rV at h5 ⊢;rw[oB]at h5;obtain⟨gm,h5⟩:=h5;rw[oB]at h5;obtain⟨g0,h5⟩:=h5;rw[lA]at h5;obtain⟨c,g1,h5⟩:=h5;have g1':=vX ho.le g1;unfold rD at g1;rw[lA]at g1;obtain⟨y,g2,_⟩:=g1;split at h5
   ·rename_i hc;unfold Ei at h5;rw[lA]at h5;obtain⟨old,g3,g4⟩:=h5
    grind [oY,oB,lA,Ei]
   ·rename_i es hc;unfold Hw at h5;rw[oB]at h5;obtain⟨g3,g4⟩:=h5;cases g4;refine⟨⟨HA.next+1,(HA.t.del s.1).set HA.next (.cells (c.1.setMany new (s.2.2.1*et.size)) ((s.2.2.1+n)*et.size) (some es))⟩,?_,(ho.delBlk g2).newBlk _⟩
    grind [oB,lA,Hw]
 | none=>
  grind [oB,eT,oY]
theorem PT{u:Nat}{b:zA}:eS base (qD C ty u a b):=by
 intro t X HA v H' ho h;grind [qD,lA,oB,ZP]
end
def Iz(ν:Nat->Nat)(ae:gN)(e:vD):Prop:=∀i p,tAd ae i=some p->bV i e=some (.ptr (ν p.1) p.2)
def Nf(base:Nat)(X0 X:Xt)(ν:Nat->Nat)(lo:Tr (List zA)):Prop:=∀d l,lo.get d=some l->X0 (ν d)=none/\base<=ν d/\∃c,X (ν d)=some (.cells c l.length none)/\∀j a,l[j]?=some a->c.get j=some a
theorem kE{base:Nat}{W J:cI}{α:Type}{x:Option α}{K:α->T}{t:Tr qA}{Q:xC}:tA base W J (uC x K) t Q ↔ ∃a,x=some a/\tA base W J (K a) t Q:=by
 cases x with
 | none=>exact⟨fun h=>(by cases h),fun⟨_,h,_⟩=>(by cases h)⟩
 | some a=>exact⟨fun h=>⟨a,rfl,h⟩,fun⟨_,h,k⟩=>(by cases h;exact k)⟩
def fN{base:Nat}{W J:cI}{b:Bool}{K:T}{t:Tr qA}{Q:xC}:tA base W J (vK b K) t Q ↔ b=true/\tA base W J K t Q:=by
 cases b with
 | false=>exact⟨fun h=>(by cases h),fun⟨h,_⟩=>(by cases h)⟩
 | true=>exact⟨fun h=>⟨rfl,h⟩,fun⟨_,h⟩=>h⟩
theorem aV{base:Nat}{W J:cI}{x:Option zA} {t:Tr qA}{Q:xC}:tA base W J (.opt x K) t Q ↔ ∃a,x=some a/\tA base W J (K a) t Q:=rY
def Fr{base:Nat}{W J:cI}{x:Tr qA->Option zA} {t:Tr qA}{Q:xC}:tA base W J (.light x K) t Q ↔ ∃a,x t=some a/\tA base W J (K a) t Q:=rY
theorem Cd{ν:Nat->Nat}{ae:gN}{e:vD}(h:Iz ν ae e){x:Operand}{p:Nat × Nat}(hx:xAd ae x=some p):ev x e=some (.ptr (ν p.1) p.2):=by
 cases x with
 | tmp i=>exact h i p hx
 | const _=>cases hx
 | global _=>cases hx
 | func _=>cases hx
theorem GM{c:Tr zA} (h:∀j a,l[j]?=some a->c.get j=some a):∀(n off:Nat),off+n<=l.length->c.many n off=some ((l.drop off).take n):=by
 intro n;induction n with
 | zero=>intro off _;simp;rfl
 | succ n ih=>
  intro off ho;have hlt:off<l.length:=by omega
  rw[Tr.many_succ,h off l[off] (ybd hlt),uA,ih (off+1) (by omega),uA];rw[ybl hlt,List.take_succ_cons]
section
variable {W J:cI}{t:Tr qA}{X X0:Xt}{HA:pA}{e eA:vD}{C:fA}{ν:Nat->Nat}{ae:gN}{lo:Tr (List zA)}{k:lM}{Q:xC}{R:zA->Prop}
theorem GZ(ho:Ov C.base t X HA)(hl:Nf C.base X0 X ν lo)  {y:lD}{v:zA}(h1:lo.get d=some l)(h2:C.tys.get ty=some y)(h3:Nat.ble (off+y.size) (wB l)=true)(h4:jP C ty l off=some v) :
  mA C ty HA (.ptr (ν d) off)=some v:=by
 obtain⟨_,_,c,hc,hg⟩:=hl d l h1;have hb:=(ho.ext _ _ hc).1;unfold mA;simp only[zA.asPtr,uA];rw[h2,uA];grind [rD,uA,qA.asCells,jP,qS,pE,oD,GM,iU,fU,vE]
theorem dR(he:cS e eA) (hp:wT op=true\/(∃s d x,op=.convert s d x/\(yI C d=1\/yI C s=2))\/(∃c,op=.call c/\(c.callee=.builtin .max\/c.callee=.builtin .min)))
  (h:tA C.base W J (pQ C op e k) t Q) (hKd:∀v,tA C.base W J (k.Kd v) t Q->R v):∃v,(fF op).f C eA HA=some v/\R v:=by
 grind [pQ,kE,zd1]
theorem PP {v:zA}{H:pA}(ht:yI C ty=4)(h:tB u=some v):bS C ty H u=some v:=by
 unfold yI at ht
 cases hy:C.tys.get ty with
 | none=>simp_all
 | some y=>
  rw[hy]at ht;have ht:y.desc.tag=4:=ht;unfold bS;rw[hy,uA];unfold tB at h;unfold nT;cases u<;>simp only[zA.asSlice,zA.asStr,zA.asMap,zA.tag]at h ⊢ <;> (try (rw[oB]at h;exact absurd h.1 (by decide)))
  case nilslice=>
   rw[oB]at h;have hn:y.desc.asArr=none:=by cases hd:y.desc<;>rw[hd]at ht<;>first | rfl | (cases ht;done)
   simp_all [lA,oB]
  simp_all [lA,oB]
theorem zaf {v:zA}{H:pA}(ht:yI C ty≠6)(h:bS C ty H u=some v):bS C ty H' u=some v:=by
 unfold bS at h ⊢;simp only[lA]at h ⊢;obtain⟨y,h1,n,h2,h3⟩:=h;refine⟨y,h1,n,?_,h3⟩;have ht:¬ Nat.beq y.desc.tag 6=true:=by
  grind [yI,gC]
 unfold nT at h2 ⊢;split at h2
 all_goals grind [oB]
theorem QV {v:zA}{l h:Option zA}{H:pA}(ht:yI C ty=2)(hx:nF C ty H a l h=some v):nF C ty H' a l h=some v:=by
 unfold nF at hx ⊢;rw[lA]at hx ⊢;obtain⟨y,h1,h2⟩:=hx;refine⟨y,h1,?_⟩;unfold yI at ht;rw[h1]at ht;have ht:y.desc.tag=2:=ht;unfold aK at h2 ⊢;have n1:y.desc.asSlice=none:=by cases hd:y.desc<;>rw[hd]at ht<;>first | rfl | (cases ht;done)
 have n2:y.desc.asArr=none:=by cases hd:y.desc<;>rw[hd]at ht<;>first | rfl | (cases ht;done)
 simp_all
theorem Ld (h:zA.one u=true):u.cells=[u]:=by
 cases u<;>first
  | rfl
  | (have:=sC.1 h;grind [zA.tag])
theorem XC{tyAt:Nat->Option Nat}(place:Nat->Option (Nat × Nat)):∀(vs:List (Nat × zA)) {q:List (Nat × zA × List zA) × List zA},Wl C tyAt vs=some q->zD zA.one q.2=true->∀cells l,Rs place q.1 cells=some l->xR place vs cells=some l:=by
 intro vs;induction vs with
 | nil=>intro q h _ cells l hl;cases h;exact hl
 | cons p vs ih=>
  intro q h h1 cells l hl;have h:(ob (tyAt p.1) fun t=>ob (C.tys.get t) fun ty=>ob (Wl C tyAt vs) fun r=>some (bif ty.desc.isAgg then((p.1,p.2,p.2.cells)::r.1,r.2)else((p.1,p.2,[p.2])::r.1,p.2::r.2)))=some q:=h;simp only[lA]at h;obtain⟨ty,_,y,_,r,h3,h4⟩:=h;have bD:∀(rest:List zA),zD zA.one r.2=true->(ob (place p.1) fun q=>ob (zix cells q.1 q.2 p.2.cells) fun cells=>Rs place r.1 cells)=some l->xR place (p::vs) cells=some l:=by
   intro _ hr hl;show(ob (place p.1) fun q=>ob (Em cells q.1 q.2 p.2) fun cells=>xR place vs cells)=some l;simp only[lA]at hl ⊢;obtain⟨a,g1,b,g2,g3⟩:=hl;exact⟨a,g1,b,g2,ih h3 hr _ _ g3⟩
  cases hb:y.desc.isAgg with
  | true=>
   rw[hb]at h4;cases h4;exact bD [] h1 hl
  | false=>
   rw[hb]at h4;cases h4;simp_all [cE,Rs,Ld]
theorem zg3(he:cS e eA)(ha:Iz ν ae eA)(ho:Ov C.base t X HA)(hl:Nf C.base X0 X ν lo) (h:tA C.base W J (tL C op e ae lo k) t Q)
  (hK:∀v,tA C.base W J (k.K v) t Q->R v) (hKd:∀v,tA C.base W J (k.Kd v) t Q->R v) (hKA:∀d off,tA C.base W J (k.KA d off) t Q->R (.ptr (ν d) off)) :
  ∃v,(fF op).f C eA HA=some v/\R v:=by
 cases op<;>simp only[tL]at h<;>try (cases h;done)
 case move x=>
  unfold Oj at h;split at h
  ·rename_i p hp;exact⟨_,Cd ha hp,hKA _ _ h⟩
  ·exact dR he (.inl rfl) h hKd
 case assign x=>
  unfold Oj at h;split at h
  ·rename_i p hp;exact⟨_,Cd ha hp,hKA _ _ h⟩
  ·exact dR he (.inl rfl) h hKd
 case pick c a b=>exact dR he (.inl rfl) h hKd
 case load ty a=>
  unfold tLoad at h;split at h
  ·rename_i p hp;simp only[kE,fN]at h;obtain⟨l,h1,y,h2,h3,v,h4,h5⟩:=h;refine⟨v,?_,hKd v h5⟩;show bU ty a C eA HA=some v
   grind [HU,Cd,uA,GZ]
  ·rw[kE]at h;obtain⟨u,h1,h2⟩:=h;rw[Fr]at h2;obtain⟨v,h3,h4⟩:=h2;refine⟨v,?_,hK v h4⟩;show bU ty a C eA HA=some v;rw[HU,zF he h1,uA];exact tQ ho.le h3
 case nilCheck x=>
  unfold tNil at h;split at h
  ·rename_i p hp;refine⟨_,?_,hKA _ _ h⟩;show dY x C eA HA=_;rw[zfl (Cd ha hp)];rfl
  ·rw[kE]at h;obtain⟨u,h1,h2⟩:=h;rw[aV]at h2;obtain⟨v,h3,h4⟩:=h2;refine⟨v,?_,hK v h4⟩;show dY x C eA HA=_
   grind [zfl,zF]
 case binOp op ty x y u=>
  unfold tBin at h;rw[nD]at h;split at h
  ·exact dR he (.inl rfl) h hKd
  ·simp only[kE,aV]at h;obtain⟨a,h1,b,h2,v,h3,h4⟩:=h;refine⟨v,?_,hK v h4⟩;show wV op ty x y C eA HA=_
   grind [lBin_v,zF]
 case unOp o ty x=>
  split at h
  ·simp only[kE,aV]at h;obtain⟨u,h1,v,h2,h3⟩:=h;refine⟨v,?_,hK v h3⟩;show lUn .xor x C eA HA=_;unfold lUn;rw[zF he h1];exact h2
  ·exact dR he (.inl rfl) h hKd
 case convert s d x=>
  unfold zg5 at h;rw[nD]at h;split at h
  ·rename_i hd;rw[nD]at h;split at h
   ·rename_i hs;exact dR he (.inr (.inl ⟨s,d,x,rfl,.inr (gC.1 hs)⟩)) h hKd
   ·simp only[kE,Fr]at h;obtain⟨u,h1,v,h2,h3⟩:=h;refine⟨v,?_,hK v h3⟩;show cO s d x C eA HA=_;rw[IH (zF he h1)];exact PR ho.le h2
  ·rw[nD]at h;split at h
   ·rename_i hd;exact dR he (.inr (.inl ⟨s,d,x,rfl,.inl (gC.1 hd)⟩)) h hKd
   ·cases h
 case makeInterface ty x=>exact dR he (.inl rfl) h hKd
 case makeFunc fn a b=>exact dR he (.inl rfl) h hKd
 case slice ty x lo' hi mx=>
  cases mx with
  | some _=>cases h
  | none=>
   simp only[zev,kE]at h;obtain⟨a,h1,l,h2,r,h3,h4⟩:=h;rw[nD]at h4;show ∃v,fY ty x lo' hi C eA HA=some v/\R v;rw[zda (zF he h1) (LG he h2) (LG he h3)];split at h4
   ·grind [aV,QV,gC]
   ·rw[Fr]at h4;obtain⟨v,h5,h6⟩:=h4;exact⟨v,AS ho.le h5,hK v h6⟩
 case fieldAddr s x f=>
  unfold BW at h;show ∃v,yV s x f C eA HA=some v/\R v;split at h
  ·rename_i p hp;rw[kE]at h;obtain⟨o,h1,h2⟩:=h;refine⟨_,?_,hKA _ _ h2⟩;rw[IE (Cd ha hp)];unfold qB;rw[h1];rfl
  grind [kE,aV,IE,zF]
 case field ty x f=>exact dR he (.inl rfl) h hKd
 case indexAddr ty x i=>
  unfold BU at h;show ∃v,aU ty x i C eA HA=some v/\R v;split at h
  ·rename_i p hp;simp only[kE]at h;obtain⟨iv,h1,n,h2,o,h3,h4⟩:=h;refine⟨_,?_,hKA _ _ h4⟩;rw[HY (Cd ha hp) (zF he h1)];unfold AT at h3;simp only[lA,oB]at h3;obtain⟨y,g1,a,g2,et,g3,g4,g5⟩:=h3;cases g5;unfold aA;rw[g1,uA,h2,uA];simp only[zA.asSlice,zA.asPtr,uA];rw[g2,uA,g3,uA,g4];rfl
  grind [kE,aV,HY,zF]
 case index ty x i=>
  rw[nD]at h;split at h
  ·exact dR he (.inl rfl) h hKd
  ·simp only[kE,aV]at h;obtain⟨u,h1,w,h2,v,h3,h4⟩:=h;refine⟨v,?_,hK v h4⟩;show zV ty x i C eA HA=_
   grind [zdc,zF]
 case lookup ty x i ok=>
  simp only[kE,Fr]at h;obtain⟨m,h1,key,h2,v,h3,h4⟩:=h;refine⟨v,?_,hK v h4⟩;show cU ty x i ok C eA HA=_;rw[WC (zF he h1) (zF he h2)];exact PN ho.le h3
 case extract x i=>
  simp only[kE,aV]at h;obtain⟨u,h1,v,h2,h3⟩:=h;refine⟨v,?_,hK v h3⟩;show xV x i C eA HA=_
  grind [WD,zF]
 case typeAssert x a u ok=>
  simp only[kE,aV]at h;obtain⟨w,h1,v,h2,h3⟩:=h;refine⟨v,?_,hK v h3⟩;show vV x u ok C eA HA=_
  grind [WE,zF]
 case build ty ps=>
  unfold zex at h;simp only[kE,fN]at h;obtain⟨y,h1,hbd,vs,h2,q,h3,l,h4,h5⟩:=h;have h5:if zD zA.one q.2=true then tA C.base W J (k.Kd (.agg l)) t Q else False:=h5;split at h5
  ·rename_i hone;refine⟨_,?_,hKd _ h5⟩;show gW ty ps C eA HA=_;have hf:=XC (Hb C y) vs h3 hone y.zero l h4;unfold gW;rw[h1,uA,Yy he h2,uA]
   cases hs:y.desc.asStruct with
   | some fs=>
    simp only[];have:(fun i=>ob (tD fs i) fun x=>some (x.1,x.2.2))=Hb C y:=by funext i;unfold Hb;rw[hs]
    simp_all
   | none=>
    simp only[];unfold NK at hbd;rw[hs]at hbd;simp only[]at hbd
    cases ha:y.desc.asArr with
    | none=>simp_all
    | some a=>
     rw[ha]at hbd;simp only[]at hbd
     cases hy:C.tys.get a.2 with
     | none=>simp_all
     | some et=>
      simp only[uA];have:(fun i=>some (i*et.size,et.size))=Hb C y:=by funext i;unfold Hb;rw[hs];simp only[];rw[ha,uA,hy,uA]
      simp_all
  simp_all
 case call c=>
  split at h
  ·rename_i b hb;cases b<;>simp only[Ka]at h<;>try (cases h;done)
   case len=>
    unfold tLen at h;simp only[kE]at h;obtain⟨ty,h1,x,h2,u,h3,h4⟩:=h;show ∃v,(nS c c.callee).f C eA HA=some v/\R v;rw[hb];show ∃v,eP c C eA HA=some v/\R v;rw[lLen_v h1 h2 (zF he h3)];rw[nD]at h4;split at h4
    ·grind [aV,PP,gC]
    ·rw[nD]at h4;split at h4
     ·rw[Fr]at h4;obtain⟨v,h5,h6⟩:=h4;exact⟨v,PO ho.le h5,hK v h6⟩
     grind [kE,zaf,gC]
   case max=>exact dR he (.inr (.inr ⟨c,rfl,.inl hb⟩)) h hKd
   case min=>exact dR he (.inr (.inr ⟨c,rfl,.inr hb⟩)) h hKd
  ·cases h
end
end
section
variable {base d f l:Nat}{args:List zA}{H:pA}{u v:zA}{op:Op}{kd:zA->pA->dB}{φ:xJ}{K:zA->T}{la:List Nat}{dst:Option Nat}
def Fc(C:fA)(A:Tr dD)(f:Nat)(args:List zA)(H:pA):dB:=
 bif Nat.blt f yo then
  match C.prims.get f with
  | some g=>g args H
  | none=>jD C A (.func f) args H
 else jD C A (.yld (f-yo)) args H
theorem Ii{C:fA}{A:Tr dD}   (h:Nat.blt f yo=true):Fc C A f args H=(match C.prims.get f with
  | some g=>g args H
  | none=>jD C A (.func f) args H):=by grind [Fc]
theorem NC{C:fA}{A:Tr dD}    : Fc C A (yo+l) args H=jD C A (.yld l) args H:=by
 unfold Fc;have:Nat.blt (yo+l) yo=false:=Bool.eq_false_iff.2 fun e=>by grind [sC]
 simp_all
def mC (base:Nat)(X0:Xt)(Q:xC)(d:dB):Prop:=∃v t' HA' X',d=some (v,HA')/\Ov base t' X' HA'/\bJ X0 X'/\Q v t'
theorem mC.mono {X0:Xt}{Q Q':xC}{d:dB}(h:mC base X0 Q d)(k:∀v t,Q v t->Q' v t):mC base X0 Q' d:=by
 obtain⟨v,t',HA',X',h1,h2,h3,h4⟩:=h;exact⟨v,t',HA',X',h1,h2,h3,k _ _ h4⟩
def eV(C:fA)(A:Tr dD)(W:cI):Prop:=∀f args t R,W f args t R->∀X HA,Ov C.base t X HA->mC C.base X R (Fc C A f args HA)
section
variable {W J:cI}{t:Tr qA}{X X0:Xt}{HA:pA}{e eA:vD}{C:fA}{A:Tr dD}{ν:Nat->Nat}{ae:gN}{lo:Tr (List zA)}{k:lM}{kl:KLo}{Q:xC}
def fL{f:fJ}  (h:f C e H=some v):lv f C e H=.val v H:=by unfold lv;rw[h]
def zbi   (h:(fF op).f C e H=some v):(qG op).f C e H=.val v H:=by
 cases op
 case move x=>exact fL h
 case assign x=>exact fL h
 case pick c a b=>exact fL h
 case load t a=>exact fL h
 case nilCheck x=>exact fL h
 case binOp op t x y u=>exact fL h
 case unOp op t x=>exact fL h
 case makeInterface t x=>exact fL h
 case makeFunc fn a b=>exact fL h
 case slice t x lo hi mx=>exact fL h
 case fieldAddr s x f=>exact fL h
 case field t x f=>exact fL h
 case indexAddr t x i=>exact fL h
 case index t x i=>exact fL h
 case extract t i=>exact fL h
 case build t ps=>exact fL h
 case typeAssert x t u ok=>exact fL h
 case lookup t x i ok=>exact fL h
 case convert s d x=>
  show dW s d x C e H=_;have h:cO s d x C e H=some v:=h;unfold dW;rw[h]
 case call c=>
  have h:(nS c c.callee).f C e H=some v:=h;show(Hu c c.callee).f C e H=_
  cases hc:c.callee with
  | value f=>rw[hc]at h;cases h
  | invoke a b=>rw[hc]at h;cases h
  | builtin b=>
   rw[hc]at h;cases b
   case len=>exact fL (f:=eP c) h
   case max=>exact fL (f:=dU c) h
   case min=>exact fL (f:=eU c) h
   all_goals exact absurd (show(none:Option zA)=some v from h) (by simp)
 all_goals exact absurd (show(none:Option zA)=some v from h) (by simp)
def Ah{x:Option (zA × pA)} {H':pA}  (h:x=some (v,H')):cG φ (fM x) HA kd=kd v H':=by subst h;rfl
theorem iT(ho:Ov C.base t X HA){x:pA->Option (zA × pA)}(hx:eS C.base x) (h:tA C.base W J (.heavy x K) t Q)
  (hK:∀v t' HA' X',Ov C.base t' X' HA'->bJ X X'->tA C.base W J (K v) t' Q->mC C.base X0 Q (kd v HA')) {r:zM} (hr:∀p,x HA=some p->cG φ r HA kd=kd p.1 p.2):mC C.base X0 Q (cG φ r HA kd):=by
 have h:=h HA.next ho.nextT ho.base;rw[rY]at h;obtain⟨⟨v,H'⟩,h1,h2⟩:=h;obtain⟨HA',h3,h4⟩:=hx _ _ _ _ _ ho h1
 grind [bJ.refl]
theorem Zl(hW:eV C A W)(ho:Ov C.base t X HA) (hf:Nat.blt f yo=true)  (h:W f args t fun v t'=>tA C.base W J (K v) t' Q)
  (hK:∀v t' HA' X',Ov C.base t' X' HA'->bJ X X'->tA C.base W J (K v) t' Q->mC C.base X0 Q (kd v HA')):mC C.base X0 Q (cG (jD C A) (Ij C HA args f (C.prims.get f)) HA kd):=by
 obtain⟨v,t',HA',X',h1,h2,h3,h4⟩:=hW _ _ _ _ h X HA ho;rw[Ii hf]at h1;unfold Ij
 cases hp:C.prims.get f with
 | some g=>
  rw[hp]at h1;simp only[h1];exact hK _ _ _ _ h2 h3 h4
 | none=>
  rw[hp]at h1;have h1:jD C A (.func f) args HA=some (v,HA'):=h1;show mC C.base X0 Q (ob (jD C A (.func f) args HA) fun p=>kd p.1 p.2);rw[h1];exact hK _ _ _ _ h2 h3 h4
def zch(hW:eV C A W)(ho:Ov C.base t X HA)   (h:W (yo+l) args t fun v t'=>tA C.base W J (K v) t' Q)
  (hK:∀v t' HA' X',Ov C.base t' X' HA'->bJ X X'->tA C.base W J (K v) t' Q->mC C.base X0 Q (kd v HA')):mC C.base X0 Q (cG (jD C A) (.round l args) HA kd):=by
 obtain⟨v,t',HA',X',h1,h2,h3,h4⟩:=hW _ _ _ _ h X HA ho;rw[NC]at h1;show mC C.base X0 Q (ob (jD C A (.yld l) args HA) fun p=>kd p.1 p.2);rw[h1];exact hK _ _ _ _ h2 h3 h4
theorem Ov.setX (h:Ov base t X HA){b:Nat}{y:qA}(hb:X b=some y)(z:qA):Ov base t (fun c=>if c=b then some z else X c) (Am.setBlk HA b z):=by
 obtain⟨g1,g2,g3⟩:=h.ext b y hb;refine⟨h.base,fun c hc=>?_,fun c u hc=>?_,h.lt⟩
 ·split at hc
  ·cases hc
  ·rename_i hne;show(HA.t.set b z).get c=_;rw[Tr.get_set,yaa hne];exact h.same c hc
 ·show(HA.t.set b z).get c=_/\_/\c<HA.next;rw[Tr.get_set];split at hc
  ·simp_all
  ·rename_i hne;rw[yaa hne];exact h.ext c u hc
theorem Ov.newX (h:Ov base t X HA)(z:qA):Ov base t (fun c=>if c=HA.next then some z else X c) (Am.newBlk HA z):=by
 refine⟨Nat.le_succ_of_le h.base,fun c hc=>?_,fun c u hc=>?_,fun b y hb=>Nat.lt_succ_of_lt (h.lt b y hb)⟩
 ·split at hc
  ·cases hc
  ·rename_i hne;show(HA.t.set HA.next z).get c=_;rw[Tr.get_set,yaa hne];exact h.same c hc
 ·show(HA.t.set HA.next z).get c=_/\_/\c<HA.next+1;rw[Tr.get_set];split at hc
  ·rename_i e;cases hc;subst e;rw[yab rfl];exact⟨rfl,h.nextT,Nat.lt_succ_self _⟩
  ·rename_i hne;rw[yaa hne];have:=h.ext c u hc;grind
theorem VN(ho:Ov C.base t X HA)(hl:Nf C.base X0 X ν lo){off:Nat}{l l':List zA} {sz:Nat}(h1:lo.get d=some l)(h2:Em l off sz u=some l')(h3:zD zA.one u.cells=true) :
  Nat.beq (wB u.cells) sz=true/\l'.length=l.length/\∃c',lJ C HA (ν d) off u.cells=some (setBlk HA (ν d) (.cells c' l.length none))/\∀j a,l'[j]?=some a->c'.get j=some a:=by
 obtain⟨_,hb,c,hc,hg⟩:=hl d l h1;have hx:=(ho.ext _ _ hc).1;unfold Em at h2;simp only[oB,ybb,pE,oD,fH,iU,fU,Option.some.injEq]at h2;obtain⟨⟨g1,g2⟩,g3⟩:=h2;subst g3;refine⟨by grind [oD],?_,c.setMany u.cells off,?_,?_⟩
 ·grind
 ·grind [lJ,Nat.blt,rD,oB,uA,qA.asCells,pE,oD]
 ·intro j a hj;rw[Tr.get_setMany];grind
theorem za7{y:lD} (h:zD zA.one (Ih y u)=true):Ih y u=u.cells:=by
 grind [Ih,cE,Ld]
theorem SX    (h:(fF op).f C eA HA=some v):cG φ ((qG op).f C eA HA) HA kd=kd v HA:=by rw[zbi h];rfl
theorem WB   (h:laOf la dst=some d):dst=some d:=by
 unfold laOf at h;grind
theorem tH_ok(hW:eV C A W)(he:cS e eA)(ha:Iz ν ae eA)(ho:Ov C.base t X HA)(hl:Nf C.base X0 X ν lo)
  (h:tA C.base W J (tH C la dst op e ae lo k kl) t Q)
  (hK:∀v t' HA' X',Ov C.base t' X' HA'->bJ X X'->tA C.base W J (k.K v) t' Q->mC C.base X0 Q (kd v HA'))
  (hKd:∀v t' HA' X',Ov C.base t' X' HA'->bJ X X'->tA C.base W J (k.Kd v) t' Q->mC C.base X0 Q (kd v HA'))
  (hKA:∀d off,tA C.base W J (k.KA d off) t Q->mC C.base X0 Q (kd (.ptr (ν d) off) HA))
  (hnew:∀d l,laOf la dst=some d->tA C.base W J (kl.new d l) t Q->mC C.base X0 Q (kd (.ptr HA.next 0) (lF HA l none)))
  (hset:∀d l l' c',lo.get d=some l->l'.length=l.length->(∀j a,l'[j]?=some a->c'.get j=some a)->tA C.base W J (kl.set d l') t Q->mC C.base X0 Q (kd kD (setBlk HA (ν d) (.cells c' l.length none)))) :
  mC C.base X0 Q (cG (jD C A) ((qG op).f C eA HA) HA kd):=by
 have light:∀(op:Op),tA C.base W J (tL C op e ae lo k) t Q->mC C.base X0 Q (cG (jD C A) ((qG op).f C eA HA) HA kd):=by
  intro op h;obtain⟨v,h1,h2⟩:=zg3 (R:=fun v=>mC C.base X0 Q (kd v HA)) he ha ho hl h (fun v h=>hK v _ _ _ ho (bJ.refl _) h) (fun v h=>hKd v _ _ _ ho (bJ.refl _) h) hKA
  grind [SX]
 cases op<;>simp only[tH]at h<;>try (exact light _ h)
 case alloc ty=>
  show mC C.base X0 Q (cG _ (Ba ty C eA HA) HA kd);rw[nD]at h;split at h
  ·rename_i ht;have ht:lL C ty=none:=by
    cases hx:lL C ty with
    | none=>rfl
    | some _=>rw[hx]at ht;cases ht
   split at h
   ·rename_i d hd;rw[kE]at h;obtain⟨y,h1,h2⟩:=h;unfold Ba;rw[h1,ht];exact hnew d _ hd h2
   ·refine iT ho PU h hK fun p hp=>?_;unfold Ba;rw[ht];have hp:(ob (C.tys.get ty) fun ty=>some (.ptr HA.next 0,lF HA ty.zero none))=some p:=hp;rw[hp];rfl
  ·refine iT ho PW h hK fun p hp=>?_;unfold Ba;unfold Nz at hp;rw[hp];rfl
 case box ty x=>
  rw[nD]at h;show mC C.base X0 Q (cG _ (wZ ty x C eA HA) HA kd);unfold wZ;split at h
  ·rename_i ht;have ht:lL C ty=none:=by
    cases hx:lL C ty with
    | none=>rfl
    | some _=>rw[hx]at ht;cases ht
   rw[kE]at h;obtain⟨v,h1,h⟩:=h;rw[zF he h1,ht];split at h
   ·rename_i d hd;rw[kE]at h;obtain⟨y,_,h⟩:=h;rw[nD]at h;split at h
    ·exact hnew d _ hd h
    ·have h:if zA.one v=true then tA C.base W J (kl.new d [v]) t Q else False:=h;split at h
     ·rename_i h1;have:=hnew d _ hd h;rw[<- Ld h1]at this;exact this
     simp_all
   ·refine iT ho zgt h hK fun p hp=>?_;cases hp;rfl
  ·rw[kE]at h;obtain⟨v,h1,h⟩:=h;rw[zF he h1];refine iT ho zbu h hK fun p hp=>?_;cases hp;rfl
 case buildSlice ty n ps=>
  rw[kE]at h;obtain⟨vs,h1,h⟩:=h;show mC C.base X0 Q (cG _ (Az ty n ps C eA HA) HA kd);refine iT ho PS h hK fun p hp=>?_;refine Ah (v:=p.1) (H':=p.2) ?_;rw[Yy he h1];exact hp
 case makeMap ty r=>
  cases r with
  | some _=>simp_all
  | none=>
   simp only[]at h;show mC C.base X0 Q (cG _ (Mg none C eA HA) HA kd);refine iT ho PM h hK fun p hp=>?_;cases hp;rfl
 case makeSlice ty l c=>
  simp only[kE]at h;obtain⟨a,h1,b,h2,h⟩:=h;show mC C.base X0 Q (cG _ (Yl ty l c C eA HA) HA kd);refine iT ho PK h hK fun p hp=>?_;refine Ah (v:=p.1) (H':=p.2) ?_
  grind [zF,mO,uA]
 case store ty a x=>
  unfold zeu at h;show mC C.base X0 Q (cG _ (Mf ty a x C eA HA) HA kd);split at h
  ·rename_i p hp;simp only[kE]at h;obtain⟨u,h1,y,h2,l,h3,l',h4,h5⟩:=h;have h5:if zD zA.one (Ih y u)=true then tA C.base W J (kl.set p.1 l') t Q else False:=h5;split at h5
   ·rename_i hone;have hcell:=za7 hone;rw[hcell]at hone h4;have h4:Em l p.2 y.size u=some l':=h4;obtain⟨g1,g2,c',g3,g4⟩:=VN ho hl h3 h4 hone;have:=hset p.1 l l' c' h3 g2 g4 h5;have e1:cG (jD C A) (Mf ty a x C eA HA) HA kd=kd kD (setBlk HA (ν p.1) (.cells c' l.length none)):=by
     refine Ah ?_;rw[h2,uA,Cd ha hp,uA];simp only[zA.asPtr,uA];rw[zF he h1,uA,g1,g3];rfl
    simp_all
   simp_all
  ·simp only[kE]at h;obtain⟨av,h1,u,h2,h⟩:=h;refine iT ho PJ h hKd fun p hp=>?_;refine Ah (v:=p.1) (H':=p.2) ?_
   grind [zF,cC,uA]
 case convert s d x=>
  rw[nD]at h;split at h
  ·rename_i hd;rw[kE]at h;obtain⟨u,h1,h⟩:=h;show mC C.base X0 Q (cG _ (dW s d x C eA HA) HA kd);have hn:cO s d x C eA HA=none:=by
    rw[IH (zF he h1)]
    cases hq:yM C s d HA u with
    | none=>rfl
    | some q=>
     exfalso;unfold yM at hq;simp only[lA]at hq;obtain⟨sy,g1,dy,g2,g3⟩:=hq;have hd:=gC.1 hd;unfold yI at hd;rw[g2]at hd;have hd:dy.desc.tag=4:=hd;unfold tR at g3;have n1:dy.desc.asInt=none:=by cases hz:dy.desc<;>rw[hz]at hd<;>first | rfl | (cases hd;done)
     have n2:dy.desc.isString=false:=by unfold fD.isString;rw[hd];rfl
     rw[n1,n2]at g3;cases g3
   unfold dW;rw[hn];simp only[];refine iT ho PH h hK fun p hp=>?_;refine Ah (v:=p.1) (H':=p.2) ?_;rw[zF he h1];exact hp
  grind [tL]
 case insert ty m key x=>
  simp only[kE]at h;obtain⟨mv,h1,kv,h2,u,h3,h⟩:=h;show mC C.base X0 Q (cG _ (Ay ty m key x C eA HA) HA kd);refine iT ho AR h hKd fun p hp=>?_;refine Ah (v:=p.1) (H':=p.2) ?_;rw[zF he h1,zF he h2,zF he h3];exact hp
 case mapUpdate ty m key x=>
  simp only[kE]at h;obtain⟨mv,h1,kv,h2,u,h3,h⟩:=h;show mC C.base X0 Q (cG _ (Ay ty m key x C eA HA) HA kd);refine iT ho AR h hKd fun p hp=>?_;refine Ah (v:=p.1) (H':=p.2) ?_;rw[zF he h1,zF he h2,zF he h3];exact hp
 case call c=>
  show mC C.base X0 Q (cG _ ((Hu c c.callee).f C eA HA) HA kd);split at h
  ·rename_i f hc;rw[hc];show mC C.base X0 Q (cG _ (Eh f c.args C eA HA) HA kd);have bD:∀ {fv:zA} {aq:List zA},ev f e=some fv->vR c.args.toList e=some aq->tA C.base W J (.callv fv aq k.K) t Q->mC C.base X0 Q (cG (jD C A) (Eh f c.args C eA HA) HA kd):=by
    intro fv aq h1 h2 h;have h:nE (oM fv aq) fun p=>W p.1 p.2 t fun v t'=>tA C.base W J (k.K v) t' Q:=h;rw[rY]at h;obtain⟨⟨g,aq'⟩,h3,h4⟩:=h;unfold oM at h3;rw[lA]at h3;obtain⟨p,h5,h6⟩:=h3;have e0:Eh f c.args C eA HA=zjm C HA (tE p.2.1 aq) p.2.2 p.1:=by
     unfold Eh oU;rw[zF he h1,uA,h5,uA,LF he h2,uA,uA];rfl
    rw[e0]
    cases hp:p.1 with
    | func g'=>
     rw[hp]at h6;simp only[oB]at h6;obtain⟨hg,h6⟩:=h6;cases h6;exact Zl hW ho hg h4 hK
    | yld l=>
     rw[hp]at h6;simp only[oB,ybb]at h6;obtain⟨⟨ha,hb⟩,h6⟩:=h6;cases h6;have ea:p.2.1=[]:=by cases hx:p.2.1 with | nil=>rfl | cons _ _=>rw[hx]at ha;cases ha
     have eb:p.2.2=[]:=by cases hx:p.2.2 with | nil=>rfl | cons _ _=>rw[hx]at hb;cases hb
     rw[ea,eb];exact zch hW ho h4 hK
   unfold zew at h;split at h
   ·rename_i g;rw[fN,kE]at h;obtain⟨hg,aq,h1,h⟩:=h;refine bD (fv:=.func (.func g) [] []) rfl h1 ?_;show nE (oM (.func (.func g) [] []) aq) _;have e2:oM (.func (.func g) [] []) aq=some (g,aq):=by
     show vB (Nat.blt g yo) (some (g,tE (tE [] aq) []))=_;rw[hg,fH,fH];simp[vB]
    rw[e2];exact h
   grind [kE]
  ·rename_i b hb;rw[hb];have lt:tA C.base W J (Ka C c e k b) t Q->mC C.base X0 Q (cG (jD C A) ((Hu c (.builtin b)).f C eA HA) HA kd):=by
    intro h;have:=light (.call c) (by show tA C.base W J (match c.callee with | .builtin b=>Ka C c e k b | _=>.fail) t Q;simp_all)
    have e1:(qG (.call c)).f C eA HA=(Hu c c.callee).f C eA HA:=rfl
    simp_all
   unfold BV at h;split at h
   ·simp only[kE,two']at h;obtain⟨ty,h1,u,h2,p,h3,h⟩:=h;show mC C.base X0 Q (cG _ (Hv c C eA HA) HA kd);refine iT ho PT h hK fun q hq=>?_;refine Ah (v:=q.1) (H':=q.2) ?_
    grind [qD,lA,oB,Tt]
   grind
  ·cases h
end
end
section
variable {d i ty:Nat}{l:List zA}{dst:Option Nat}{v:zA}{lt:Bool}{κ:KT}{all:Array Oper}{la:List Nat}{m:Tm->pA->dB}
structure yG (base:Nat) (X0:Xt) (kf:Nat) (ν:Nat->Nat) (X:Xt) (st:rH) (tm:Tm) (HA:pA) (t:Tr qA):Prop where
 ov:Ov base t X HA
 le:bJ X0 X
 k:st.tm.k=kf
 kA:tm.k=kf
 tms:∀i v,st.tm.get i=some v->tm.get i=some v
 ads:∀i p,rL i st.ad=some p->tm.get i=some (.ptr (ν p.1) p.2)
 lo:Nf base X0 X ν st.lo
 inj:∀d d' l l',st.lo.get d=some l->st.lo.get d'=some l'->ν d=ν d'->d=d'
theorem It {a:Nat × Nat × Nat}{l:List (Nat × Nat × Nat)}:rL i (a::l)=if i=a.1 then some a.2 else rL i l:=by
 grind [rL,sK,gC]
theorem zbl {p:Nat × Nat}:∀ {l:List (Nat × Nat × Nat)},rL i l=some p->(i,p.1,p.2)∈l:=by
 intro l;induction l with
 | nil=>intro h;cases h
 | cons a l ih=>
  grind [It]
theorem Pq{n:Nat}{tm:Tm}   : (putA n tm dst v).k=tm.k:=by
 unfold putA putB
 cases dst with
 | none=>rfl
 | some d=>
  grind [Pp,Tm.set,sK]
theorem Tm.set_k{tm:Tm}   : (tm.set i v).k=tm.k:=by unfold Tm.set;rw[sK];split<;>rfl
section
variable {W J:cI}{t:Tr qA}{X X0:Xt}{HA:pA}{C:fA}{A:Tr dD}{ν:Nat->Nat}{Q:xC}{kf n:Nat}{st:rH}{tm:Tm}
theorem yG.put(h:yG C.base X0 kf ν X st tm HA t)    (hw:tA C.base W J (qQ n dst v lt st κ) t Q) :
  ∃st',yG C.base X0 kf ν X st' (putA n tm dst v) HA t/\tA C.base W J (κ st') t Q:=by
 unfold qQ at hw
 cases dst with
 | none=>exact⟨st,h,hw⟩
 | some d=>
  simp only[nD]at hw;split at hw
  ·rename_i hd;rw[fN]at hw;obtain⟨h1,h2⟩:=hw;refine⟨_,?_,h2⟩;refine⟨h.ov,h.le,(by grind [k,Tm.set_k]),by rw[Pq];exact h.kA,?_,?_,h.lo,h.inj⟩
   ·intro i u hi;have hi2:(st.tm.set d v).get i=some u:=hi;rw[Tm.get_set]at hi2;rw[cK];split at hi2
    ·simp_all
    ·rename_i e;rw[yaa (fun hh=>e (by simp_all))];exact h.tms i u hi2
   ·intro i p hi;rw[cK,yaa]
    ·exact h.ads i p hi
    ·rintro⟨e,_⟩;injection e with e;subst e;rw[hi]at h1;cases h1
  ·rename_i hd;refine⟨st,?_,hw⟩
   simp_all [putA,putB,Pp,nD,yaa]
theorem yG.putA(h:yG C.base X0 kf ν X st tm HA t) {off:Nat} (hw:tA C.base W J (zg2 n dst d off st κ) t Q) :
  ∃st',yG C.base X0 kf ν X st' (Am.putA n tm dst (.ptr (ν d) off)) HA t/\tA C.base W J (κ st') t Q:=by
 unfold zg2 at hw;rw[kE]at hw;obtain⟨i,h1,hw⟩:=hw;subst h1;simp only[fN]at hw;obtain⟨h2,h3,h4⟩:=hw;refine⟨_,?_,h4⟩;refine⟨h.ov,h.le,h.k,by rw[Pq];exact h.kA,?_,?_,h.lo,h.inj⟩
 ·intro j u hj;rw[cK,yaa]
  ·exact h.tms j u hj
  ·rintro⟨e,_⟩;injection e with e;subst e;have hj:st.tm.get i=some u:=hj;rw[hj]at h3;cases h3
 ·intro j p hj;have hj:rL j ((i,d,off)::st.ad)=some p:=hj;rw[It]at hj;rw[cK];split at hj
  ·rename_i e;cases hj;rw[yab ⟨by rw[e],by simp_all⟩]
  ·rename_i e;rw[yaa (fun hh=>e (by simp_all))];exact h.ads j p hj
theorem yG.new(h:yG C.base X0 kf ν X st tm HA t)   (hw:tA C.base W J (tNew n d l st κ) t Q) :
  ∃st' ν' X',yG C.base X0 kf ν' X' st' (Am.putA n tm (some d) (.ptr HA.next 0)) (lF HA l none) t/\tA C.base W J (κ st') t Q:=by
 unfold tNew at hw;simp only[fN]at hw;obtain⟨h1,h2,h3,h4⟩:=hw;have hx:=h.ov.nextX;refine⟨_,fun c=>if c=d then HA.next else ν c,fun c=>if c=HA.next then some (.cells (Tr.ofList l) (wB l) none)else X c,?_,h4⟩;refine⟨h.ov.newX _,?_,h.k,by rw[Pq];exact h.kA,?_,?_,?_,?_⟩
 ·intro b y hb;have:X b=some y:=h.le b y hb
  grind
 ·intro j u hj;rw[cK,yaa]
  ·exact h.tms j u hj
  ·rintro⟨e,_⟩;injection e with e;subst e;have hj:st.tm.get d=some u:=hj;rw[hj]at h2;cases h2
 ·intro j p hj;have hj:rL j ((d,d,0)::st.ad)=some p:=hj;rw[It]at hj;rw[cK];split at hj
  ·rename_i e;cases hj;rw[yab ⟨by rw[e],by simp_all⟩];show some (zA.ptr HA.next 0)=some (zA.ptr (if d=d then HA.next else ν d) 0);rw[yab rfl]
  ·rename_i e;rw[yaa (fun hh=>e (by simp_all))];have hm:=zbl hj;unfold zfh at h3;rw[cE,ycb]at h3;have:=h3 _ hm;simp only[nD]at this;have hne:p.1≠d:=by
    simp_all
   show Tm.get tm j=some (zA.ptr (if p.1=d then HA.next else ν p.1) p.2);rw[yaa hne];exact h.ads j p hj
 ·intro c m hc;have hc:(st.lo.set d l).get c=some m:=hc;rw[Tr.get_set]at hc;show X0 (if c=d then HA.next else ν c)=none/\C.base<=(if c=d then HA.next else ν c)/\∃c',(if (if c=d then HA.next else ν c)=HA.next then some (qA.cells (Tr.ofList l) (wB l) none)else X (if c=d then HA.next else ν c))=some (.cells c' m.length none)/\∀j a,m[j]?=some a->c'.get j=some a;split at hc
  ·rename_i e;cases hc;simp only[e,if_true];refine⟨?_,h.ov.base,Tr.ofList l,by rw[oD],fun j a hj=>by grind [Tr.get_ofList]⟩
   cases hq:X0 HA.next with
   | none=>rfl
   | some z=>have:=h.le _ _ hq;simp_all
  ·rename_i e;simp only[yaa e];obtain⟨g1,g2,c',g3,g4⟩:=h.lo c m hc
   grind
 ·intro c c' m m' hc hc' he;have hc:(st.lo.set d l).get c=some m:=hc;have hc':(st.lo.set d l).get c'=some m':=hc';have he:(if c=d then HA.next else ν c)=(if c'=d then HA.next else ν c'):=he;rw[Tr.get_set]at hc hc';split at hc<;>split at hc'
  ·rename_i e1 e2;rw[e1,e2]
  ·rename_i e1 e2;rw[yab e1,yaa e2]at he;obtain⟨_,_,_,g3,_⟩:=h.lo c' m' hc'
   simp_all
  ·rename_i e1 e2;rw[yaa e1,yab e2]at he;obtain⟨_,_,_,g3,_⟩:=h.lo c m hc
   simp_all
  ·rename_i e1 e2;rw[yaa e1,yaa e2]at he;exact h.inj c c' m m' hc hc' he
theorem yG.setLo(h:yG C.base X0 kf ν X st tm HA t) {l':List zA}{c':Tr zA}(h1:st.lo.get d=some l)(h2:l'.length=l.length)(h3:∀j a,l'[j]?=some a->c'.get j=some a) :
  ∃X',yG C.base X0 kf ν X' ⟨st.tm,st.ad,st.lo.set d l',st.lit⟩ tm (setBlk HA (ν d) (.cells c' l.length none)) t:=by
 obtain⟨g1,g2,c,g3,g4⟩:=h.lo d l h1;refine⟨_,h.ov.setX g3 _,?_,h.k,h.kA,h.tms,h.ads,?_,?_⟩
 ·intro b y hb;show(if b=ν d then _ else X b)=some y;rw[yaa]
  ·exact h.le b y hb
  grind
 ·intro e m he;have he:(st.lo.set d l').get e=some m:=he;rw[Tr.get_set]at he;split at he
  ·simp_all
  ·rename_i e1;obtain⟨k1,k2,k3,k4,k5⟩:=h.lo e m he;refine⟨k1,k2,k3,?_,k5⟩;show(if ν e=ν d then _ else X (ν e))=_;rw[yaa,k4];intro e2;exact e1 (h.inj e d m l he h1 e2)
 ·intro e e' m m' he he' hv;have he:(st.lo.set d l').get e=some m:=he;have he':(st.lo.set d l').get e'=some m':=he';rw[Tr.get_set]at he he';have x1:∃q,st.lo.get e=some q:=by
   grind
  have x2:∃q,st.lo.get e'=some q:=by
   grind
  exact h.inj e e' _ _ x1.choose_spec x2.choose_spec hv
def yG.later(h:yG C.base X0 kf ν X st tm HA t){X':Xt}{HA':pA}{t':Tr qA}(ho:Ov C.base t' X' HA')(hx:bJ X X'):yG C.base X0 kf ν X' st tm HA' t':=
 ⟨ho,h.le.trans hx,h.k,h.kA,h.tms,h.ads,fun d l hd=>by
  obtain⟨g1,g2,c,g3,g4⟩:=h.lo d l hd;exact⟨g1,g2,c,hx _ _ g3,g4⟩,h.inj⟩
theorem Rq  (h:fitB C ty v=true):sZ C ty v:=by
 unfold fitB at h;unfold sZ
 cases hy:C.tys.get ty with
 | none=>trivial
 | some y=>
  rw[hy]at h;simp only at h ⊢;unfold fitD;cases hd:y.desc<;>rw[hd]at h<;>simp only at h ⊢
  case bool=>
   have:=gC.1 h;cases v<;>simp only[zA.tag]at this<;>first
    | exact⟨_,rfl⟩
    | (cases this;done)
  case int k=>
   cases v<;>simp only[zA.asIntK]at h<;>first
    | exact⟨_,by rw[eL.1 h]⟩
    | (cases h;done)
  case string=>
   have:=gC.1 h;cases v<;>simp only[zA.tag]at this<;>first
    | exact⟨_,rfl⟩
    | (cases this;done)
theorem Yr  (h:(!Nat.ble (yI C ty) 2)=true):sZ C ty v:=by
 unfold sZ;unfold yI at h
 cases hy:C.tys.get ty with
 | none=>trivial
 | some y=>
  rw[hy]at h;simp only at h ⊢;unfold fitD;cases hd:y.desc<;>rw[hd]at h<;>first
   | trivial
   | (simp only[fD.tag]at h;exact absurd h (by decide))
def KO:∀(zs l:List zA) (pre:List zA),yR zs l=true->qM zs (cellsOf (pre++l)) pre.length=l:=by
 intro zs;induction zs with
 | nil=>intro l pre h;cases l with
  | nil=>rfl
  | cons a l=>cases h
 | cons z zs ih=>
  intro l pre h
  cases l with
  | nil=>cases h
  | cons a l=>
   unfold yR at h;rw[ybb]at h;show Du z (cellsOf (pre++a::l)) pre.length::qM zs (cellsOf (pre++a::l)) (pre.length+1)=a::l;have e2:=ih l (pre++[a]) h.2;rw[ybz]at e2;simp only[List.cons_append,yah,ybg,ybn,ybx]at e2;rw[e2];congr 1;have hg:(pre++a::l)[pre.length]?=some a:=by simp
   have h1:=h.1;cases z<;>simp only[mH]at h1<;>simp only[Du,cellsOf,tG,mG,gH,zG,hg]<;>try (cases h1;done)
   case bool=>
    have:=gC.1 h1;cases a<;>simp only[zA.tag]at this<;>first
     | rfl
     | (cases this;done)
   case int k _=>
    cases a<;>simp only[zA.asIntK]at h1<;>first
     | (rw[eL.1 h1];done)
     | (cases h1;done)
   case str=>
    have:=gC.1 h1;cases a<;>simp only[zA.tag]at this<;>first
     | rfl
     | (cases this;done)
theorem BT  {K:zA->T}(h:tA C.base W J (Jz C ty v K) t Q):sZ C ty v/\tA C.base W J (K v) t Q:=by
 unfold Jz at h;unfold sZ;have agg:∀zs,tA C.base W J (bif Nat.ble (wB zs) 40 then .asG zs v fun X=>K (.agg (qM zs X 0))else K v) t Q->tA C.base W J (K v) t Q:=by
  intro zs h;rw[nD]at h;split at h
  ·have h:nE (gG zs v) fun X=>tA C.base W J (K (.agg (qM zs X 0))) t Q:=h;rw[rY]at h;obtain⟨X,h1,h2⟩:=h;unfold gG at h1;simp only[lA,oB]at h1;obtain⟨l,h3,h4,h5⟩:=h1;cases h5;have:=KO zs l [] h4
   grind [Ip]
  ·exact h
 grind [fitD,tA,rY,Bi,Ax,lA,oB,lV,eL,mV]
theorem Oi{g:Bool} {K:zA->Bool->T}(h:tA C.base W J (Gf g lt v K) t Q):∃lt',tA C.base W J (K v lt') t Q:=by
 grind [Gf,kE,Bi,tA]
theorem Ji(h:yG C.base X0 kf ν X st tm HA t){g:Option (Nat × Bool)} {w:Bool}(hw:aF g all st.tm=some w):aF g all tm=some w:=by
 unfold aF Jk at hw ⊢
 cases g with
 | none=>exact hw
 | some jw=>
  simp only[Jj]at hw ⊢;rw[lA]at hw ⊢;obtain⟨d,h1,hw⟩:=hw;refine⟨d,h1,?_⟩;rw[lA]at hw ⊢;obtain⟨v,h2,hw⟩:=hw;exact⟨v,h.tms _ _ h2,hw⟩
def SK (C:fA)(W J:cI)(X0:Xt)(kf:Nat)(Q:xC)(κ:KT)(m:Tm->pA->dB):Prop:=∀st tm HA t X ν,yG C.base X0 kf ν X st tm HA t->tA C.base W J (κ st) t Q->mC C.base X0 Q (m tm HA)
theorem mC.norm  {K:zA->dB}(hf:sZ C ty v)(h:mC C.base X0 Q (K v)):mC C.base X0 Q (iL C ty v K):=by
 obtain⟨u,t',HA',X',h1,h2⟩:=h;exact⟨u,t',HA',X',fQ.2 ⟨hf,h1⟩,h2⟩
theorem mC.ob{α:Type}{x:Option α}{a:α}{K:α->dB}(hx:x=some a)(h:mC C.base X0 Q (K a)):mC C.base X0 Q (Am.ob x K):=by simp_all
theorem CK(hW:eV C A W){e eA:vD}{ae:gN}(he:cS e eA)(ha:Iz ν ae eA)(hst:yG C.base X0 kf ν X st tm HA t)  {o:Oper}
  (hκ:∀st' tm' HA' t' X' ν',(la=[]->ν'=ν)->yG C.base X0 kf ν' X' st' tm' HA' t'->(∃v,tm'=putA n tm o.dst v)->tA C.base W J (κ st') t' Q->mC C.base X0 Q (m tm' HA'))
  (h:tA C.base W J (tH C la o.dst o.op e ae st.lo (kop C all n o e st κ) (klo C n o st κ)) t Q) :
  mC C.base X0 Q (cG (jD C A) ((qG o.op).f C eA HA) HA fun v H'=>iL C o.type v fun v=>m (putA n tm o.dst v) H'):=by
 refine tH_ok hW he ha hst.ov hst.lo h ?_ ?_ ?_ ?_ ?_
 ·intro v t' HA' X' ho hx hk;have hk:tA C.base W J (Jz C o.type v fun v=>Gf (Rf all.toList o.dst all.toList) (Qr o.op e st.lit) v fun v lt=>qQ n o.dst v lt st κ) t' Q:=hk;obtain⟨h1,h2⟩:=BT hk;obtain⟨lt',h3⟩:=Oi h2;obtain⟨st',h4,h5⟩:=(hst.later ho hx).put h3
  grind [mC.norm]
 ·intro v t' HA' X' ho hx hk;obtain⟨h1,h2⟩:=fN.1 hk;obtain⟨lt',h3⟩:=Oi h2;obtain⟨st',h4,h5⟩:=(hst.later ho hx).put h3
  grind [mC.norm,Rq]
 ·intro d off hk;obtain⟨h1,h2⟩:=fN.1 hk;obtain⟨st',h4,h5⟩:=hst.putA h2
  grind [mC.norm,Yr]
 ·intro d l hd hk;obtain⟨h1,h2⟩:=fN.1 hk;obtain⟨st',ν',X',h4,h5⟩:=hst.new h2;have e:=WB hd;rw[e];refine mC.norm (Yr h1) (hκ _ _ _ _ _ _ (fun hl=>?_) h4 ⟨_,by rw[e]⟩ h5);rw[hl,e]at hd;cases hd
 ·intro d l l' c' h1 h2 h3 hk;obtain⟨h4,h5⟩:=fN.1 hk;obtain⟨X',h6⟩:=hst.setLo h1 h2 h3;obtain⟨st',h7,h8⟩:=h6.put h5
  grind [mC.norm,Rq]
def Qh(h:yG C.base X0 kf ν X st tm HA t):cS (.now st.tm) (.now tm)/\Iz ν (.now st.ad) (.now tm):=⟨h.tms,h.ads⟩
def zgx(hW:eV C A W)    (hκ:SK C W J X0 kf Q κ m):∀(l:List Oper),SK C W J X0 kf Q (tops C la all n κ l) (eO C (jD C A) all n m l):=by
 intro l;induction l with
 | nil=>exact hκ
 | cons o l ih=>
  intro st tm HA t X ν hst h;have h:tA C.base W J (uC (aF o.guard all st.tm) fun w=>Bool.rec (motive:=fun _=>T) (qQ n o.dst kD false st (tops C la all n κ l))
   (tH C la o.dst o.op (.now st.tm) (.now st.ad) st.lo (kop C all n o (.now st.tm) st (tops C la all n κ l)) (klo C n o st (tops C la all n κ l))) w) t Q:=h
  rw[kE]at h;obtain⟨w,h1,h2⟩:=h;rw[Dp];refine mC.ob (Ji hst h1) ?_
  cases w with
  | false=>
   rw[yaa (by simp)];obtain⟨st',h3,h4⟩:=hst.put h2;exact ih _ _ _ _ _ _ h3 h4
  | true=>
   rw[yab rfl];exact CK hW (Qh hst).1 (Qh hst).2 hst (fun st' tm' HA' t' X' ν' _ hs _ hw=>ih _ _ _ _ _ _ hs hw) h2
end
end
end Go.Am
