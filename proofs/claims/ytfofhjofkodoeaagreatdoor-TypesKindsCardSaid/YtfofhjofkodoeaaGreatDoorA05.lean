/- Code as a tree: what a piece of code asks of memory and of its calls, with the local blocks of a function kept out of memory. -/
import Derived.Test.YtfofhjofkodoeaaGreatDoorA04
set_option linter.all false
noncomputable section
namespace Go.Am
open Go Go.RowKit
section
def vC(C:dA)(t:Nat)(H:wA)(v:zA):Option zA:=ob v.asPtr fun p=>ob (C.tys.get t) fun ty=>ob (mD H p.1) fun c=>zR ty c.1 p.2
def kK(C:dA)(s d:Nat)(H:wA)(a:zA):Option zA:=ob (C.tys.get s) fun s=>ob (C.tys.get d) fun d=>aP C s d a H
def qE(C:dA)(t:Nat)(H:wA)(a:zA)(l h:Option zA):Option zA:=ob (C.tys.get t) fun ty=>vM C H ty a l h
def Bf(C:dA)(s f:Nat):Option Nat:=ob (C.tys.get s) fun ty=>ob ty.desc.asStruct fun fs=>ob (xD fs f) fun fd=>pB (!Nat.beq fd.2.2 0) (some fd.1)
def aF(C:dA)(s f:Nat)(v:zA):Option zA:=ob (Bf C s f) fun k=>ob v.asPtr fun p=>some (.ptr p.1 (p.2+k))
def bC(C:dA)(t:Nat)(v i:zA):Option zA:=
 ob (C.tys.get t) fun ty=>ob i.asNat fun i=>
  match v.asSlice with
  | some s=>ob ty.desc.asSlice fun el=>ob (C.tys.get el) fun et=>pB (Nat.blt i s.2.2.1) (some (.ptr s.1 (s.2.1+i*et.size)))
  | none=>ob v.asPtr fun p=>ob ty.desc.asArr fun a=>ob (C.tys.get a.2) fun et=>pB (Nat.blt i a.1) (some (.ptr p.1 (p.2+i*et.size)))
def AC(C:dA)(t i:Nat):Option Nat:=ob (C.tys.get t) fun ty=>ob ty.desc.asArr fun a=>ob (C.tys.get a.2) fun et=>pB (Nat.blt i a.1) (some (i*et.size))
def yL(C:dA)(t:Nat)(v i:zA):Option zA:=
 ob (C.tys.get t) fun ty=>ob i.asNat fun i=>
  match v.asStr with
  | some s=>pB ty.desc.isString (ob (xD s i) fun b=>some (.int .u8 (.ofNat b)))
  | none=>ob v.asAgg fun l=>ob ty.desc.asArr fun a=>ob (C.tys.get a.2) fun et=>pB (Nat.blt i a.1) (vO C a.2 l (i*et.size))
def zG(i:Nat)(v:zA):Option zA:=ob v.asTup fun l=>xD l i
def bR (C:dA)(t:Nat)(H:wA)(v:zA):Option zA:=ob (C.tys.get t) fun ty=>ob (sS H ty v) fun n=>some (.int .i64 (.ofNat n))
def cA(v:zA):Option zA:=
 match v.asSlice with
 | some s=>some (.int .i64 (.ofNat s.2.2.1))
 | none=>pB (Nat.beq v.tag 5) (some (.int .i64 (.ofNat 0)))
def zP (v:zA):Option zA:=pB (Nat.beq v.tag 4||Nat.beq v.tag 9) (some v)
def Sf(C:dA)(u:Nat)(ok:Bool)(v:zA):Option zA:=
 ob (C.tys.get u) fun ty=>pB (Nat.blt ty.desc.tag 9) (
  match v.asIface with
  | some p=>bif Nat.beq p.1 u then some (bif ok then .tup [p.2,.bool true]else p.2)else pB ok (some (.tup [dR ty,.bool false]))
  | none=>pB (Nat.beq v.tag 12&&ok) (some (.tup [dR ty,.bool false])))
def uK(C:dA)(t:Nat)(H:wA)(m k:zA)(ok:Bool):Option zA:=
 ob (C.tys.get t) fun ty=>ob ty.desc.asMap fun ke=>ob (C.tys.get ke.1) fun kty=>pB (rS C kty) (ob (C.tys.get ke.2) fun ety=>
  ob (bQ H m) fun es=>pB (dP C kty k) (ob (uJ k es) fun r=>
   match r with
   | some v=>some (bif ok then .tup [v,.bool true]else v)
   | none=>some (bif ok then .tup [dR ety,.bool false]else dR ety)))
def zI(C:dA)(t:Nat)(H:wA):Option (zA × wA):=ob (C.tys.get t) fun ty=>some (.ptr H.next 0,yF H ty.zero none)
def yP (v:zA)(H:wA):Option (zA × wA):=some (.ptr H.next 0,yF H v.cells none)
def Mf(C:dA)(t:Nat)(H:wA):Option (zA × wA):=ob (C.tys.get t) fun ty=>some (.ptr H.next 0,yF H ty.zero (jK C t))
def Dw(C:dA)(t:Nat)(v:zA)(H:wA):Option (zA × wA):=some (.ptr H.next 0,yF H v.cells (jK C t))
def oG(C:dA)(t len:Nat)(ps:List (Nat × zA))(H:wA):Option (zA × wA):=
 ob (C.tys.get t) fun ty=>ob ty.desc.asSlice fun el=>ob (C.tys.get el) fun et=>
  pB (Nat.blt (len*et.size) 1000000&&Nat.beq (oB et.zero) et.size) (ob (kN (fun i=>some (i*et.size,et.size)) ps (lJ et.zero len)) fun l=>some (.slice H.next 0 len len,yF H l none))
def tD(C:dA)(t:Nat)(a v:zA)(H:wA):Option (zA × wA):=ob (C.tys.get t) fun ty=>ob a.asPtr fun p=>pB (Nat.beq (oB v.cells) ty.size) (ob (rJ C H p.1 p.2 v.cells) fun H'=>some (xE,H'))
def Hz(H:wA):Option (zA × wA):=some (.map H.next,newBlk H (.map []))
def vK(C:dA)(t:Nat)(m k v:zA)(H:wA):Option (zA × wA):=
 ob (C.tys.get t) fun ty=>ob ty.desc.asMap fun ke=>ob (C.tys.get ke.1) fun kty=>pB (rS C kty)
  (ob m.asMap fun b=>pB (!Nat.blt b C.base) (ob (cH H b) fun l=>pB (dP C kty k) (ob (fH k v l) fun l'=>some (xE,setBlk H b (.map l')))))
def dJ(C:dA)(t:Nat)(l c:zA)(H:wA):Option (zA × wA):=
 ob (C.tys.get t) fun ty=>ob ty.desc.asSlice fun el=>ob (C.tys.get el) fun et=>ob l.asNat fun l=>ob c.asNat fun c=>
  pB (Nat.ble l c&&Nat.blt c 1000000&&Nat.blt (c*et.bytes) 1000000000&&Nat.beq (oB et.zero) et.size) (some (.slice H.next 0 l c,yF H (lJ et.zero c) none))
def Se(C:dA)(s d:Nat)(v:zA)(H:wA):Option (zA × wA):=
 ob (C.tys.get s) fun _=>ob (C.tys.get d) fun ty=>ob ty.desc.asSlice fun el=>ob (C.tys.get el) fun et=>ob et.desc.asInt fun k=>pB (cM k .u8) (ob v.asStr fun l=>
  some (.slice H.next 0 (oB l) (oB l),yF H (fV l) (some (.ty el))))
def sF(C:dA)(t u:Nat)(a b:zA)(H:wA):Option (zA × wA):=ob (C.tys.get t) fun ty=>ob (C.tys.get u) fun uty=>pB (!Nat.beq uty.desc.tag 1) (aV C H ty a b)
def vNext(v:zA)(H:wA):Option (zA × wA):=ob v.asPtr fun p=>pB (Nat.beq p.2 0) (ob (ob (H.t.get p.1) qA.asIter) fun x=>
 match xD x.1 x.2 with
 | some c=>pB (Nat.blt c 128) (some (.tup [.bool true,.int .i64 (.ofNat x.2),.int .i32 (.ofNat c)],setBlk H p.1 (.siter x.1 (x.2+1))))
 | none=>some (.tup [.bool false],H))
structure xJ where
 b:Nat->Bool
 i:Nat->Int
 s:Nat->List Nat
 v:Nat->zA
inductive T where
 | ret (v:zA)
 | fail
 | ite (b:Bool) (x y:T)
 | opt (x:Option zA) (K:zA->T)
 | light (x:Tr qA->Option zA) (K:zA->T)
 | heavy (x:wA->Option (zA × wA)) (K:zA->T)
 | call (f:Nat) (args:List zA) (K:zA->T)
 | callv (f:zA) (args:List zA) (K:zA->T)
 | asI (k:IntKind) (v:zA) (K:Int->T)
 | asB (v:zA) (K:Bool->T)
 | asS (v:zA) (K:List Nat->T)
 | asG (zs:List zA) (v:zA) (K:xJ->T)
 | jump (i:Nat) (vals:List zA)
 | range (np:Nat->Bool) (f:zA) (i m:Nat) (vals:List zA) (K R:T)
def yo:Nat:=1099511627776
def Ju(z:zA)(X:xJ)(j:Nat):zA:=
 match z with
 | .bool _=>.bool (X.b j)
 | .int k _=>.int k (X.i j)
 | .str _=>.str (X.s j)
 | _=>X.v j
def dK(zs:List zA)(X:xJ):Nat->List zA:=
 List.rec (motive:=fun _=>Nat->List zA) (fun _=>[]) (fun z _ g j=>Ju z X j::g (j+1)) zs
def sY(l:List zA)(j:Nat):Bool:=match l[j]? with | some (.bool b)=>b | _=>false
def Kn(l:List zA)(j:Nat):Int:=match l[j]? with | some (.int _ n)=>n | _=>0
def Mz(l:List zA)(j:Nat):List Nat:=match l[j]? with | some (.str s)=>s | _=>[]
def fY(l:List zA)(j:Nat):zA:=match l[j]? with | some v=>v | _=>.nilptr
def cellsOf(l:List zA):xJ:=⟨sY l,Kn l,Mz l,fY l⟩
def mS (z a:zA):Bool:=
 match z with
 | .bool _=>Nat.beq a.tag 0
 | .int k _=>match a.asIntK with | some p=>cM p.1 k | none=>false
 | .str _=>Nat.beq a.tag 2
 | .nilptr=>Nat.beq a.tag 3||Nat.beq a.tag 4
 | .nilslice=>Nat.beq a.tag 5||Nat.beq a.tag 6
 | .nilmap=>Nat.beq a.tag 7||Nat.beq a.tag 8
 | .nilfunc=>Nat.beq a.tag 10||Nat.beq a.tag 9
 | .niliface=>Nat.beq a.tag 12||Nat.beq a.tag 11
 | _=>false
def mO:List zA->List zA->Bool
 | [],[]=>true
 | z::zs,a::l=>mS z a&&mO zs l
 | _,_=>false
structure bG where
 tm:Tm
 ad:List (Nat × Nat × Nat)
 lo:Tr (List zA)
 lit:List Nat
abbrev KT:=bG->T
structure KtT where
 norm:KT
 exit:Nat->KT
 ret:KT
def uC {α:Type}(x:Option α)(K:α->T):T:=Option.rec (motive:=fun _=>T) .fail K x
def jJ (b:Bool)(K:T):T:=Bool.rec (motive:=fun _=>T) .fail K b
def qK(i:Nat)(l:List (Nat × Nat × Nat)):Option (Nat × Nat):=
 List.rec (motive:=fun _=>Option (Nat × Nat)) none (fun a _ g=>Bool.rec (motive:=fun _=>Option (Nat × Nat)) g (some a.2) (Nat.beq i a.1)) l
inductive lM where
 | now (ad:List (Nat × Nat × Nat))
 | mixed (ad old:List (Nat × Nat × Nat)) (olds names:List Nat)
def tAd (e:lM)(t:Nat):Option (Nat × Nat):=
 match e with
 | .now ad=>qK t ad
 | .mixed ad old olds names=>bif sH t names then qK t (bif sH t olds then old else ad)else none
def xAd (e:lM)(x:Operand):Option (Nat × Nat):=
 match x with
 | .tmp t=>tAd e t
 | _=>none
def H0A:wA:=⟨0,.leaf⟩
def mH (C:dA)(t:Nat):Nat:=
 match C.tys.get t with
 | some ty=>ty.desc.tag
 | none=>10
def Xp(x:Operand):Bool:=
 match x with
 | .const _=>true
 | _=>false
def LR(x:Operand):Bool:=
 match x with
 | .const (.int _ n) => !tA n 0
 | _=>false
def binDir(C:dA)(op:BinOp)(t:Nat)(y:Operand):Bool:=
 match op with
 | .add=>Nat.beq (mH C t) 1
 | .sub=>true
 | .mul=>true
 | .quo=>LR y
 | .rem=>LR y
 | .shl=>Xp y
 | .shr=>Xp y
 | .eql=>Nat.ble (mH C t) 2
 | .neq=>Nat.ble (mH C t) 2
 | .lss=>Nat.ble (mH C t) 2
 | .leq=>Nat.ble (mH C t) 2
 | .gtr=>Nat.ble (mH C t) 2
 | .geq=>Nat.ble (mH C t) 2
 | _=>false
structure qL where
 K:zA->T
 Kd:zA->T
 KA:Nat->Nat->T
def tP (C:dA)(op:Op)(e:aC)(k:qL):T:=uC ((mF op).f C e H0A) k.Kd
def Mp(C:dA)(op:Op)(x:Operand)(e:aC)(ae:lM)(k:qL):T:=
 match xAd ae x with
 | some p=>k.KA p.1 p.2
 | none=>tP C op e k
def tLoad(C:dA)(t:Nat)(a:Operand)(e:aC)(ae:lM)(lo:Tr (List zA))(k:qL):T:=
 match xAd ae a with
 | some p=>uC (lo.get p.1) fun l=>uC (C.tys.get t) fun ty=>jJ (Nat.ble (p.2+ty.size) (oB l)) (uC (vO C t l p.2) k.Kd)
 | none=>uC (ev a e) fun v=>.light (fun m=>vC C t ⟨0,m⟩ v) k.K
def AZ(C:dA)(s:Nat)(x:Operand)(f:Nat)(e:aC)(ae:lM)(k:qL):T:=
 match xAd ae x with
 | some p=>uC (Bf C s f) fun o=>k.KA p.1 (p.2+o)
 | none=>uC (ev x e) fun v=>.opt (aF C s f v) k.K
def AX(C:dA)(t:Nat)(x i:Operand)(e:aC)(ae:lM)(k:qL):T:=
 match xAd ae x with
 | some p=>uC (ev i e) fun i=>uC i.asNat fun i=>uC (AC C t i) fun o=>k.KA p.1 (p.2+o)
 | none=>uC (ev x e) fun v=>uC (ev i e) fun i=>.opt (bC C t v i) k.K
def tNil (x:Operand)(e:aC)(ae:lM)(k:qL):T:=
 match xAd ae x with
 | some p=>k.KA p.1 p.2
 | none=>uC (ev x e) fun v=>.opt (zP v) k.K
def tLen (C:dA)(c:Call)(e:aC)(k:qL):T:=
 uC (xD c.argTypes.toList 0) fun t=>uC (xD c.args.toList 0) fun x=>uC (ev x e) fun v=>
  bif Nat.beq (mH C t) 4 then .opt (cA v) k.K else bif Nat.beq (mH C t) 6 then .light (fun m=>bR C t ⟨0,m⟩ v) k.K else uC (bR C t H0A v) k.Kd
def tBin (C:dA)(op:BinOp)(t:Nat)(x y:Operand)(u:Nat)(e:aC)(k:qL):T:=
 bif binDir C op t y then tP C (.binOp op t x y u) e k else uC (ev x e) fun a=>uC (ev y e) fun b=>.opt ((zN op).f C t x y a b) k.K
def zgd(C:dA)(s d:Nat)(x:Operand)(e:aC)(k:qL):T:=
 bif Nat.beq (mH C d) 2 then(bif Nat.beq (mH C s) 2 then tP C (.convert s d x) e k else uC (ev x e) fun v=>.light (fun m=>kK C s d ⟨0,m⟩ v) k.K)else bif Nat.beq (mH C d) 1 then tP C (.convert s d x) e k else .fail
def zdr(C:dA)(t:Nat)(x:Operand)(lo hi:Option Operand)(e:aC)(k:qL):T:=
 uC (ev x e) fun a=>uC (nR lo e) fun l=>uC (nR hi e) fun h=>
  bif Nat.beq (mH C t) 2 then .opt (qE C t H0A a l h) k.K else .light (fun m=>qE C t ⟨0,m⟩ a l h) k.K
def Im(C:dA)(c:Call)(e:aC)(k:qL):Builtin->T
 | .len=>tLen C c e k
 | .max=>tP C (.call c) e k
 | .min=>tP C (.call c) e k
 | _=>.fail
def Gq(ty:mC)(v:zA):List zA:=bif ty.desc.isAgg then v.cells else [v]
def zin(cells:List zA)(off size:Nat)(vc:List zA):Option (List zA):=
 pB (Nat.beq (oB vc) size&&Nat.ble (off+oB vc) (oB cells)) (some (bD (wX cells off) (bD vc (fP cells (off+oB vc)))))
def Vq(C:dA)(tyAt:Nat->Option Nat):List (Nat × zA)->Option (List (Nat × zA × List zA) × List zA):=
 List.rec (motive:=fun _=>Option (List (Nat × zA × List zA) × List zA)) (some ([],[]))
  (fun p _ g=>ob (tyAt p.1) fun t=>ob (C.tys.get t) fun ty=>ob g fun r=>some (bif ty.desc.isAgg then((p.1,p.2,p.2.cells)::r.1,r.2)else((p.1,p.2,[p.2])::r.1,p.2::r.2)))
def Ql(place:Nat->Option (Nat × Nat)):List (Nat × zA × List zA)->List zA->Option (List zA):=
 List.rec (motive:=fun _=>List zA->Option (List zA)) (fun cells=>some cells) (fun p _ g cells=>ob (place p.1) fun q=>ob (zin cells q.1 q.2 p.2.2) fun cells=>g cells)
def tyAtS(ty:mC)(i:Nat):Option Nat:=
 match ty.desc.asStruct with
 | some fs=>ob (xD fs i) fun x=>some x.2.1
 | none=>ob ty.desc.asArr fun a=>some a.2
def Fc(C:dA)(ty:mC)(i:Nat):Option (Nat × Nat):=
 match ty.desc.asStruct with
 | some fs=>ob (xD fs i) fun x=>some (x.1,x.2.2)
 | none=>ob ty.desc.asArr fun a=>ob (C.tys.get a.2) fun et=>some (i*et.size,et.size)
def ML(C:dA)(ty:mC):Bool:=
 match ty.desc.asStruct with
 | some _=>true
 | none=>match ty.desc.asArr with
  | some a=>(match C.tys.get a.2 with | some _=>true | none=>false)
  | none=>false
def zdt(C:dA)(t:Nat)(ps:Array (Nat × Operand))(e:aC)(k:qL):T:=
 uC (C.tys.get t) fun ty=>jJ (ML C ty) <| uC (oR ps.toList e) fun vs=>uC (Vq C (tyAtS ty) vs) fun q=>uC (Ql (Fc C ty) q.1 ty.zero) fun l=>.ite (eE zA.one q.2) (k.Kd (.agg l)) .fail
def tL (C:dA)(op:Op)(e:aC)(ae:lM)(lo:Tr (List zA))(k:qL):T:=
 match op with
 | .move x=>Mp C (.move x) x e ae k
 | .assign x=>Mp C (.assign x) x e ae k
 | .load t a=>tLoad C t a e ae lo k
 | .fieldAddr s x f=>AZ C s x f e ae k
 | .indexAddr t x i=>AX C t x i e ae k
 | .nilCheck x=>tNil x e ae k
 | .binOp op t x y u=>tBin C op t x y u e k
 | .convert s d x=>zgd C s d x e k
 | .slice t x lo hi none=>zdr C t x lo hi e k
 | .index t x i=>bif Xp i&&Nat.beq (mH C t) 5 then tP C (.index t x i) e k else uC (ev x e) fun v=>uC (ev i e) fun i=>.opt (yL C t v i) k.K
 | .extract t i=>uC (ev t e) fun v=>.opt (zG i v) k.K
 | .typeAssert x _ u ok=>uC (ev x e) fun v=>.opt (Sf C u ok v) k.K
 | .lookup t x i ok=>uC (ev x e) fun m=>uC (ev i e) fun key=>.light (fun h=>uK C t ⟨0,h⟩ m key ok) k.K
 | .call c=>match c.callee with
  | .builtin b=>Im C c e k b
  | _=>.fail
 | .pick c a b=>tP C (.pick c a b) e k
 | .unOp o t x=>(match o with
  | .xor=>uC (ev x e) fun v=>.opt (Bg v) k.K
  | o=>tP C (.unOp o t x) e k)
 | .makeInterface t x=>tP C (.makeInterface t x) e k
 | .makeFunc fn a b=>tP C (.makeFunc fn a b) e k
 | .field t x f=>tP C (.field t x f) e k
 | .build t ps=>zdt C t ps e k
 | _=>.fail
def laOf (la:List Nat)(dst:Option Nat):Option Nat:=
 match dst with
 | some d=>bif sH d la then some d else none
 | none=>none
structure KLo where
 new:Nat->List zA->T
 set:Nat->List zA->T
def zds(f:Operand)(args:Array Operand)(e:aC)(k:qL):T:=
 match f with
 | .func g=>jJ (Nat.blt g yo) (uC (bP args.toList e) fun aq=>.call g aq k.K)
 | f=>uC (ev f e) fun fv=>uC (bP args.toList e) fun aq=>.callv fv aq k.K
def two' (c:Call)(e:aC)(K:zA->zA->T):T:=uC (two c e) fun p=>K p.1 p.2
def AY(C:dA)(c:Call)(e:aC)(k:qL):Builtin->T
 | .append=>uC (xD c.argTypes.toList 0) fun t=>uC (xD c.argTypes.toList 1) fun u=>two' c e fun a b=>.heavy (sF C t u a b) k.K
 | b=>Im C c e k b
def zdq(C:dA)(t:Nat)(a x:Operand)(e:aC)(ae:lM)(lo:Tr (List zA))(k:qL)(kl:KLo):T:=
 match xAd ae a with
 | some p=>uC (ev x e) fun v=>uC (C.tys.get t) fun ty=>uC (lo.get p.1) fun l=>uC (zin l p.2 ty.size (Gq ty v)) fun l'=>.ite (eE zA.one (Gq ty v)) (kl.set p.1 l') .fail
 | none=>uC (ev a e) fun a=>uC (ev x e) fun v=>.heavy (tD C t a v) k.Kd
def tH (C:dA)(la:List Nat)(dst:Option Nat)(op:Op)(e:aC)(ae:lM)(lo:Tr (List zA))(k:qL)(kl:KLo):T:=
 match op with
 | .box t x=>bif oH (jK C t)then uC (ev x e) fun v=>(match laOf la dst with
  | some d=>uC (C.tys.get t) fun ty=>bif ty.desc.isAgg then kl.new d v.cells else .ite (zA.one v) (kl.new d [v]) .fail
  | none=>.heavy (yP v) k.K)else uC (ev x e) fun v=>.heavy (Dw C t v) k.K
 | .alloc t=>bif oH (jK C t)then(match laOf la dst with
  | some d=>uC (C.tys.get t) fun ty=>kl.new d ty.zero
  | none=>.heavy (zI C t) k.K)else .heavy (Mf C t) k.K
 | .store t a x=>zdq C t a x e ae lo k kl
 | .buildSlice t len ps=>uC (oR ps.toList e) fun ps=>.heavy (oG C t len ps) k.K
 | .makeMap _ none=>.heavy Hz k.K
 | .insert t m key x=>uC (ev m e) fun m=>uC (ev key e) fun key=>uC (ev x e) fun v=>.heavy (vK C t m key v) k.Kd
 | .mapUpdate t m key x=>uC (ev m e) fun m=>uC (ev key e) fun key=>uC (ev x e) fun v=>.heavy (vK C t m key v) k.Kd
 | .makeSlice t l c=>uC (ev l e) fun l=>uC (ev c e) fun c=>.heavy (dJ C t l c) k.K
 | .convert s d x=>bif Nat.beq (mH C d) 4 then uC (ev x e) fun v=>.heavy (Se C s d v) k.K else zgd C s d x e k
 | .call c=>match c.callee with
  | .value f=>zds f c.args e k
  | .builtin b=>AY C c e k b
  | _=>.fail
 | op=>tL C op e ae lo k
def rmNat(i:Nat)(l:List Nat):List Nat:=List.rec (motive:=fun _=>List Nat) [] (fun j _ g=>bif Nat.beq i j then g else j::g) l
def uP (n:Nat)(dst:Option Nat)(v:zA)(lt:Bool)(st:bG)(κ:KT):T:=
 match dst with
 | none=>κ st
 | some d=>bif Nat.blt d n then jJ (oH (qK d st.ad)) (κ ⟨st.tm.set d v,st.ad,st.lo,bif lt then d::rmNat d st.lit else rmNat d st.lit⟩)else κ st
def zga(n:Nat)(dst:Option Nat)(d off:Nat)(st:bG)(κ:KT):T:=
 uC dst fun i=>jJ (Nat.blt i n) (jJ (oH (st.tm.get i)) (κ ⟨st.tm,(i,d,off)::st.ad,st.lo,st.lit⟩))
def zec(d:Nat)(ad:List (Nat × Nat × Nat)):Bool:=eE (fun a=>bif Nat.beq a.2.1 d then Nat.beq a.1 d else true) ad
def tNew (n:Nat)(d:Nat)(l:List zA)(st:bG)(κ:KT):T:=
 jJ (Nat.blt d n) (jJ (oH (st.tm.get d)) (jJ (zec d st.ad) (κ ⟨st.tm,(d,d,0)::st.ad,st.lo.set d l,st.lit⟩)))
def Ge (C:dA)(t:Nat)(v:zA):Bool:=
 match C.tys.get t with
 | some ty=>(match ty.desc with
  | .bool=>Nat.beq v.tag 0
  | .int k=>(match v.asIntK with | some p=>cM p.1 k | none=>false)
  | .string=>Nat.beq v.tag 2
  | _=>true)
 | none=>true
def Il(C:dA)(t:Nat)(v:zA)(K:zA->T):T:=
 match C.tys.get t with
 | some ty=>(match ty.desc with
  | .bool=>.asB v fun b=>K (.bool b)
  | .int k=>.asI k v fun n=>K (.int k n)
  | .string=>.asS v fun s=>K (.str s)
  | .struct _=>bif Nat.ble (oB ty.zero) 40 then .asG ty.zero v fun X=>K (.agg (dK ty.zero X 0))else K v
  | .arr _ _=>bif Nat.ble (oB ty.zero) 40 then .asG ty.zero v fun X=>K (.agg (dK ty.zero X 0))else K v
  | _=>K v)
 | none=>K v
def rZ (x:Operand)(lit:List Nat):Bool:=
 match x with
 | .tmp t=>lit.contains t
 | .const _=>true
 | _=>false
def Pc(op:Op)(e:aC)(lit:List Nat):Bool:=
 match op with
 | .move x=>rZ x lit
 | .assign x=>rZ x lit
 | .unOp _ _ x=>rZ x lit
 | .pick c a b=>bif rZ c lit then(match ob (ev c e) zA.asBool with
  | some w=>bif w then rZ a lit else rZ b lit
  | none=>false)else false
 | _=>false
def Pu(all:List Oper)(dst:Option Nat)(l:List Oper):Bool:=
 match dst with
 | none=>false
 | some d => !eE (fun o=>match o.guard with
  | some g=>(match ob (xD all g.1) fun p=>p.dst with | some i => !Nat.beq i d | none=>true)
  | none=>true) l
def Ed(g lt:Bool)(v:zA)(K:zA->Bool->T):T:=
 bif g then(bif lt then K v true else uC v.asBool fun b=>.ite b (K (.bool true) true) (K (.bool false) true))else K v lt
def kop (C:dA)(all:Array Oper)(n:Nat)(o:Oper)(e:aC)(st:bG)(κ:KT):qL:=
 ⟨fun v=>Il C o.type v fun v=>Ed (Pu all.toList o.dst all.toList) (Pc o.op e st.lit) v fun v lt=>uP n o.dst v lt st κ,
  fun v=>jJ (Ge C o.type v) (Ed (Pu all.toList o.dst all.toList) (Pc o.op e st.lit) v fun v lt=>uP n o.dst v lt st κ),
  fun d off=>jJ (!Nat.ble (mH C o.type) 2) (zga n o.dst d off st κ)⟩
def klo (C:dA)(n:Nat)(o:Oper)(st:bG)(κ:KT):KLo:=
 ⟨fun d l=>jJ (!Nat.ble (mH C o.type) 2) (tNew n d l st κ),
  fun d l=>jJ (Ge C o.type xE) (uP n o.dst xE false ⟨st.tm,st.ad,st.lo.set d l,st.lit⟩ κ)⟩
def aC.adCut(k:Nat)(l:List (Nat × Nat × Nat)):List (Nat × Nat × Nat):=l.filter fun a=>Nat.blt a.1 k
def bG.cut(st:bG):bG:=⟨st.tm.cut,aC.adCut st.tm.k st.ad,st.lo,st.lit⟩
def tops (C:dA)(la:List Nat)(all:Array Oper)(n:Nat)(κ:KT)(l:List Oper):KT:=
 List.rec (motive:=fun _=>KT) κ
  (fun o _ g st=>uC (gF o.guard all st.tm) fun w=>Bool.rec (motive:=fun _=>T) (uP n o.dst xE false st g)
   (tH C la o.dst o.op (.now st.tm) (.now st.ad) st.lo (kop C all n o (.now st.tm) st g) (klo C n o st g)) w) l
def sO (st old:bG)(olds:List Nat)(op:Op):aC:=.mixed st.tm old.tm olds (pH op)
def xX (st old:bG)(olds:List Nat)(op:Op):lM:=.mixed st.ad old.ad olds (pH op)
def lQ(C:dA)(all:Array Oper)(n:Nat)(old:bG)(olds:List (Nat × List Nat))(κ:KT)(l:List Nat):KT:=
 List.rec (motive:=fun _=>KT) κ
  (fun i _ g st=>uC (xD all.toList i) fun o=>uC (gF o.guard all st.tm) fun w=>Bool.rec (motive:=fun _=>T) (uP n o.dst xE false st g)
   (tL C o.op (sO st old (vF i olds) o.op) (xX st old (vF i olds) o.op) st.lo (kop C all n o (sO st old (vF i olds) o.op) st g)) w) l
def eU(C:dA)(all:Array Oper)(old:bG)(olds:List (Nat × List Nat))(st:bG)(k:T)(l:List Nat):T:=
 List.rec (motive:=fun _=>T) k
  (fun i _ g=>uC (xD all.toList i) fun o=>uC o.dst fun d=>uC (gF o.guard all st.tm) fun w=>Bool.rec (motive:=fun _=>T) g
   (uC (st.tm.get d) fun u=>jJ (Ge C o.type u) (tL C o.op (sO st old (vF i olds) o.op) (xX st old (vF i olds) o.op) st.lo ⟨fun v=>.ite (same 10 v u) g .fail,fun v=>.ite (same 10 v u) g .fail,fun _ _=>.fail⟩)) w) l
def iU(C:dA)(es:List xK)(H:wA):Option (zA × wA):=ob (kV C es H) fun H'=>some (xE,H')
def tEff (op:Op)(e:aC)(ae:lM):Option xK:=
 match op with
 | .store t a x=>(match xAd ae a with
  | some _=>none
  | none=>yY (.store t a x) e)
 | op=>yY op e
def Mq(all:Array Oper)(old:bG)(olds:List (Nat × List Nat))(st:bG)(l:List Nat):Option (List xK):=
 fG (fun i=>ob (xD all.toList i) fun o=>ob (gF o.guard all st.tm) fun w=>pB w (tEff o.op (sO st old (vF i olds) o.op) (xX st old (vF i olds) o.op))) l
def eY(C:dA)(all:Array Oper)(n:Nat)(old:bG)(olds:List (Nat × List Nat))(κ:KT)(l:List xF):KT:=
 List.rec (motive:=fun _=>KT) κ
  (fun s _ g st=>Bool.rec (motive:=fun _=>T) (uC (xD all.toList (jL all s.heavy)) fun o=>uC (cS C all s.heavy o st.tm) fun w=>
   (fun cont:KT=>Bool.rec (motive:=fun _=>T) (uP n o.dst xE false st cont)
    (tH C [] o.dst o.op (sO st old (vF (jL all s.heavy) olds) o.op) (xX st old (vF (jL all s.heavy) olds) o.op) st.lo (kop C all n o (sO st old (vF (jL all s.heavy) olds) o.op) st cont) (klo C n o st cont)) w)
   (fun st'=>eU C all old olds st' (lQ C all n old olds g s.lights st') s.again))
   (jJ (sV C all) (uC (Mq all old olds st s.again) fun es=>.heavy (iU C es) fun _=>lQ C all n old olds g s.lights st)) (pS all s)) l
def AJ(C:dA)(la:List Nat)(fn n:Nat)(κ:KT)(id:Nat)(all:Array Oper)(draw:Bool):KT:=
 Bool.rec (motive:=fun _=>KT) (fun st=>tops C la all n κ all.toList st.cut)
  (fun st=>uC (ob (C.plans.get fn) fun t=>t.get id) fun p=>jJ (vS all p) (lQ C all n st.cut p.olds (eY C all n st.cut p.olds κ p.stages) p.first st.cut)) draw
def Dq(st:bG)(ll:List (Nat × Nat)):Option (List zA):=
 List.rec (motive:=fun _=>Option (List zA)) (some []) (fun p _ g=>ob (qK p.1 st.ad) fun a=>pB (Nat.beq a.1 p.1&&Nat.beq a.2 0) (ob (st.lo.get p.1) fun l=>pB (Nat.beq (oB l) p.2) (ob g fun r=>some (bD l r)))) ll
def Dp(p:PI)(st:bG):Option (List zA):=ob (fG (fun i=>st.tm.get i) p.pl) fun a=>ob (Dq st p.ll) fun b=>some (bD a b)
def bU (ll:List (Nat × Nat)):List zA->Tr (List zA):=
 List.rec (motive:=fun _=>List zA->Tr (List zA)) (fun _=>.leaf) (fun p _ g vals=>(g (fP vals p.2)).set p.1 (wX vals p.2)) ll
def xO (pl:List Nat):List zA->Tr zA:=
 List.rec (motive:=fun _=>List zA->Tr zA) (fun _=>.leaf) (fun i _ g vals=>List.rec (motive:=fun _=>Tr zA) .leaf (fun v vals _=>(g vals).set i v) vals) pl
def stAd (ll:List (Nat × Nat)):List (Nat × Nat × Nat):=List.rec (motive:=fun _=>List (Nat × Nat × Nat)) [] (fun p _ g=>(p.1,p.1,0)::g) ll
def aU (k:Nat)(p:PI)(vals:List zA):bG:=⟨⟨k,xO p.pl vals,[]⟩,stAd p.ll,bU p.ll (fP vals (oB p.pl)),[]⟩
def npC (C:dA)(g:Nat):Bool:=oH (C.prims.get g)
def zd7(pl:List Nat)(st:bG):Option (List zA):=fG (fun i=>st.tm.get i) pl
def DZ(k n:Nat)(pl ps:List Nat)(ops:List Oper)(c:cD):Bool:=
 eE (fun p=>Nat.blt p k&&Nat.blt p n && !sH p pl) ps&&Nat.ble (oB ps) 1&&Jj ops&&(match vT c with | []=>true | _=>false)
def rdT:KtT:=⟨fun _=>.ret (.bool true),fun _ _=>.fail,fun _=>.ret (.bool false)⟩
def Vh(C:dA)(n:Nat)(κ:KtT)(i:Nat)(pl:List Nat)(f:Operand)(ps:List Nat)(ops:List Oper)(c:cD)(st:bG):T:=
 jJ (DZ st.tm.k n pl ps ops c) (uC (zd7 pl st) fun vals=>uC (ev f (.now st.tm)) fun fv=>.range (npC C) fv i (oB ps) vals (κ.norm st) (κ.ret st))
def yO (C:dA)(la:List Nat)(fn n:Nat)(c:cD):KtT->KT:=
 cD.rec (motive:=fun _=>KtT->KT)
  (fun κ st=>κ.norm st)
  (fun id all draw κ=>AJ C la fn n κ.norm id all draw)
  (fun _ _ ga gb κ=>ga ⟨gb κ,κ.exit,κ.ret⟩)
  (fun c _ _ gx gy κ st=>uC (ob (ev c (.now st.tm)) zA.asBool) fun b=>bif rZ c st.lit then Bool.rec (motive:=fun _=>T) (gy κ st) (gx κ st) b else .ite b (gx κ st) (gy κ st))
  (fun id _ g κ=>g ⟨κ.norm,fun i st=>Bool.rec (motive:=fun _=>T) (κ.exit i st) (κ.norm st) (Nat.beq id i),κ.ret⟩)
  (fun p _ _ _ st=>uC (Dp p st) fun vals=>.jump p.id vals)
  (fun id κ st=>κ.exit id st)
  (fun κ st=>κ.ret st)
  (fun p _ _ _ st=>uC (Dp p st) fun vals=>.jump p.id vals)
  (fun i pl f ps _ ops c _ κ st=>Vh C n κ i pl f ps.toList ops.toList c st) c
structure PtT where
 p:PI
 tree:List zA->T
def Fs(p:PI):KT:=fun st=>uC (Dp p st) fun vals=>.jump p.id vals
def xZ(C:dA)(la:List Nat)(fn n k:Nat)(c:cD):KtT->List PtT:=
 cD.rec (motive:=fun _=>KtT->List PtT)
  (fun _=>[])
  (fun _ _ _ _=>[])
  (fun _ b ga gb κ=>bD (ga ⟨yO C la fn n b κ,κ.exit,κ.ret⟩) (gb κ))
  (fun _ _ _ gx gy κ=>bD (gx κ) (gy κ))
  (fun id _ g κ=>g ⟨κ.norm,fun i st=>Bool.rec (motive:=fun _=>T) (κ.exit i st) (κ.norm st) (Nat.beq id i),κ.ret⟩)
  (fun p c g κ=>⟨p,fun vals=>yO C la fn n c ⟨Fs p,κ.exit,κ.ret⟩ (aU k p vals)⟩::g ⟨Fs p,κ.exit,κ.ret⟩)
  (fun _ _=>[])
  (fun _=>[])
  (fun p c g κ=>⟨p,fun vals=>yO C la fn n c κ (aU k p vals)⟩::g κ)
  (fun i pl _ ps id ops c g _=>⟨⟨i,bD pl ps.toList,[]⟩,fun vals=>yO C la fn n (.seq (.region id ops false) c) rdT (aU k ⟨i,bD pl ps.toList,[]⟩ vals)⟩::g rdT) c
def Es (C:dA)(st:bG)(l:List ResultVar):(List zA->T)->T:=
 List.rec (motive:=fun _=>(List zA->T)->T) (fun K=>K [])
  (fun r _ g K=>match r with
   | .tmp t=>uC (st.tm.get t) fun v=>g fun l=>K (v::l)
   | .cell a t=>match qK a st.ad with
    | some p=>uC (st.lo.get p.1) fun l=>uC (C.tys.get t) fun ty=>jJ (Nat.ble (p.2+ty.size) (oB l)) (uC (vO C t l p.2) fun v=>g fun l=>K (v::l))
    | none=>uC (st.tm.get a) fun a=>.light (fun m=>vC C t ⟨0,m⟩ a) fun v=>g fun l=>K (v::l)) l
def endT (C:dA)(fn:Func):KT:=fun st=>Es C st fn.results.toList fun l=>.ret (Bk l)
def topT (C:dA)(fn:Func):KtT:=⟨endT C fn,fun _ _=>.fail,endT C fn⟩
structure cF where
 code:cD
 la:List Nat
def zY (C:dA)(fn:Func)(k:Nat)(f:Nat)(A:cF)(args:List zA):T:=yO C A.la f fn.ntmps A.code (topT C fn) ⟨⟨k,Tr.ofList args,[]⟩,[],.leaf,[]⟩
def ptsT (C:dA)(fn:Func)(k:Nat)(f:Nat)(A:cF):List PtT:=xZ C A.la f fn.ntmps k A.code (topT C fn)
def Fdzx(l:List PtT)(i:Nat)(vals:List zA):List T:=List.rec (motive:=fun _=>List T) [] (fun p _ g=>bif Nat.beq p.p.id i then p.tree vals::g else g) l
end
section
def oF {α:Type}(x:Option α)(P:α->Prop):Prop:=
 match x with
 | some a=>P a
 | none=>False
theorem bW{α:Type}{x:Option α}{P:α->Prop}:oF x P ↔ ∃a,x=some a/\P a:=by
 cases x with
 | none=>simp[oF]
 | some a=>simp[oF]
@[simp] theorem xA {α:Type} {a:α} {P:α->Prop}:oF (some a) P=P a:=rfl
@[simp] theorem optP_none {α:Type} {P:α->Prop}:oF (none:Option α) P=False:=rfl
abbrev aB:=zA->Tr qA->Prop
abbrev kI:=Nat->List zA->Tr qA->aB->Prop
def zfi{α:Type}:List α->Bool | []=>true | _::_=>false
def qU(f:zA)(args:List zA):Option (Nat × List zA):=ob f.asFunc fun p=>match p.1 with
 | .func g=>pB (Nat.blt g yo) (some (g,bD (bD p.2.1 args) p.2.2))
 | .yld l=>pB (zfi p.2.1&&zfi p.2.2) (some (yo+l,args))
def Ns(np:Nat->Bool)(f:zA)(l:Nat):Option (Nat × List zA):=ob f.asFunc fun p=>match p.1 with
 | .func g=>pB (Nat.blt g yo&&np g) (some (g,bD p.2.1 (.func (.yld l) [] []::p.2.2)))
 | .yld _=>none
def jZ (k:IntKind)(v:zA):Option Int:=ob v.asIntK fun p=>pB (cM p.1 k) (some p.2)
def yN (zs:List zA)(v:zA):Option xJ:=ob v.asAgg fun l=>pB (mO zs l) (some (cellsOf l))
def iA (base:Nat)(W:kI)(J:kI):T->Tr qA->aB->Prop
 | .ret v,t,Q=>Q v t
 | .fail,_,_=>False
 | .ite b x y,t,Q=>if b=true then iA base W J x t Q else iA base W J y t Q
 | .opt x K,t,Q=>oF x fun v=>iA base W J (K v) t Q
 | .light x K,t,Q=>oF (x t) fun v=>iA base W J (K v) t Q
 | .heavy x K,t,Q=>∀b,t.get b=none->base<=b->oF (x ⟨b,t⟩) fun p=>iA base W J (K p.1) p.2.t Q
 | .call f args K,t,Q=>W f args t fun v t'=>iA base W J (K v) t' Q
 | .callv f args K,t,Q=>oF (qU f args) fun p=>W p.1 p.2 t fun v t'=>iA base W J (K v) t' Q
 | .asI k v K,t,Q=>oF (jZ k v) fun n=>iA base W J (K n) t Q
 | .asB v K,t,Q=>oF v.asBool fun n=>iA base W J (K n) t Q
 | .asS v K,t,Q=>oF v.asStr fun n=>iA base W J (K n) t Q
 | .asG zs v K,t,Q=>oF (yN zs v) fun X=>iA base W J (K X) t Q
 | .jump i vals,t,Q=>J i vals t Q
 | .range np f i m vals K R,t,Q=>256<=base/\∀l r,t.get l=none->base<=l->r.state=.ready->r.pending=none →
   (∀args t1 Q1,args.length=m->t1.get l=some (.loop r)->J i (vals++args) (t1.del l) (fun v t2=>t2.get l=none->∃b,v=.bool b/\Q1 v (t2.set l (.loop (qX b r))))->W (yo+l) args t1 Q1) →
   oF (Ns np f l) fun p=>W p.1 p.2 (t.set l (.loop r)) fun _ t'=>(t'.get l=some (.loop r)/\iA base W J K (t'.del l) Q)\/(t'.get l=some (.loop (qX false r))/\iA base W J R (t'.del l) Q)
abbrev Xt:=Nat->Option qA
def oJ (X Y:Xt):Prop:=∀b y,X b=some y->Y b=some y
theorem oJ.refl(X:Xt):oJ X X:=fun _ _ h=>h
def oJ.trans{X Y Z:Xt}(h:oJ X Y)(k:oJ Y Z):oJ X Z:=fun b y e=>k b y (h b y e)
structure Ov (base:Nat) (t:Tr qA) (X:Xt) (H:wA):Prop where
 base:base<=H.next
 same:∀b,X b=none->H.t.get b=t.get b
 ext:∀b y,X b=some y->H.t.get b=some y/\t.get b=none/\b<H.next
 lt:∀b y,t.get b=some y->b<H.next
def HLe (H H':wA):Prop:=∀b y,H.t.get b=some y->H'.t.get b=some y
def fR(e e':aC):Prop:=∀i v,kU i e=some v->kU i e'=some v
section
variable {base:Nat}{t:Tr qA}{X:Xt}{H HA:wA}{e e':aC}{C:dA}{v:zA}
theorem Ov.notX(h:Ov base t X HA){b:Nat}{y:qA}(hb:t.get b=some y):X b=none:=by
 cases hx:X b with
 | none=>rfl
 | some z=>have:=(h.ext b z hx).2.1;simp_all
theorem Ov.up(h:Ov base t X HA){b:Nat}{y:qA}(hb:t.get b=some y):HA.t.get b=some y:=by rw[h.same b (h.notX hb)];exact hb
def Ov.le(h:Ov base t X HA){n:Nat}:HLe ⟨n,t⟩ HA:=fun _ _ hb=>h.up hb
def Ov.nextX(h:Ov base t X HA):X HA.next=none:=by
 cases hx:X HA.next with
 | none=>rfl
 | some z=>exact absurd (h.ext _ z hx).2.2 (Nat.lt_irrefl _)
def Ov.nextT(h:Ov base t X HA):t.get HA.next=none:=by
 cases hx:t.get HA.next with
 | none=>rfl
 | some z=>exact absurd (h.lt _ z hx) (Nat.lt_irrefl _)
theorem dV(h:HLe H HA){b:Nat}{p:Tr zA × Nat × Option Lo}(hb:mD H b=some p):mD HA b=some p:=by
 unfold mD at hb ⊢;rw[mA]at hb ⊢;obtain⟨y,h1,h2⟩:=hb;exact⟨y,h _ _ h1,h2⟩
theorem Da(h:HLe H HA){b:Nat}{p:List (zA × zA)}(hb:cH H b=some p):cH HA b=some p:=by
 unfold cH at hb ⊢;rw[mA]at hb ⊢;obtain⟨y,h1,h2⟩:=hb;exact⟨y,h _ _ h1,h2⟩
theorem dE(h:fR e e'){x:Operand}(hx:ev x e=some v):ev x e'=some v:=by
 cases x with
 | tmp i=>exact h i v hx
 | const c=>exact hx
 | global g=>exact hx
 | func f=>exact hx
theorem KP(h:fR e e'){l:List Operand}{vs:List zA}(hx:bP l e=some vs):bP l e'=some vs:=Pa l (fun _ _ k=>dE h k) hx
theorem KQ(h:fR e e'){x:Option Operand}{r:Option zA}(hx:nR x e=some r):nR x e'=some r:=by
 cases x with
 | none=>exact hx
 | some x=>
  have hx:ob (ev x e) (fun v=>some (some v))=some r:=hx;show ob (ev x e') (fun v=>some (some v))=some r
  grind [mA,dE]
theorem Yj(h:fR e e'){l:List (Nat × Operand)}{vs:List (Nat × zA)}(hx:oR l e=some vs):oR l e'=some vs:=
 Pa l (fun a b k=>by grind [mA,dE]) hx
theorem Sj(h:fR e e'){c:Call}{p:zA × zA}(hx:two c e=some p):two c e'=some p:=by
 grind [two,mA,dE]
theorem Me(h:HLe H HA){ty:Nat}{a:zA}(hx:vC C ty H a=some v):vC C ty HA a=some v:=by
 grind [vC,mA,dV]
theorem Yt(h:HLe H HA){s d:mC}{a:zA}(hx:aP C s d a H=some v):aP C s d a HA=some v:=by
 unfold aP at hx ⊢;split at hx
 ·omega
 ·rename_i hk;rw[jB]at hx ⊢;refine⟨hx.1,?_⟩;have hx:=hx.2;rw[rD]at hx ⊢;split at hx
  all_goals grind [mA,jB,Cx,dV]
theorem ON(h:HLe H HA){s d:Nat}{a:zA}(hx:kK C s d H a=some v):kK C s d HA a=some v:=by
 grind [kK,mA,Yt]
theorem Uk(h:HLe H HA){ty:mC}{a:zA}{l r:Option zA}(hx:vM C H ty a l r=some v):vM C HA ty a l r=some v:=by
 have row:∀ {arr e b off len cap},sN C H arr e b off len cap l r=some v->sN C HA arr e b off len cap l r=some v:=by
  intro arr e b off len cap hx;unfold sN at hx ⊢;simp only[mA]at hx ⊢;obtain⟨a1,h1,b1,h2,hx⟩:=hx;refine⟨a1,h1,b1,h2,?_⟩
  cases hb:mD H b with
  | none=>
   have e1:nL H b a1.size cap b1.1 arr=false:=by unfold nL;rw[hb]
   have e2:wM H b a1.size cap b1.1 arr=false:=by unfold wM;rw[hb]
   rw[e1,e2,yay,yay]at hx;cases hx
  | some c=>
   grind [nL,dV,wM]
 grind [vM,mA]
theorem OF(h:HLe H HA){ty:Nat}{a:zA}{l r:Option zA}(hx:qE C ty H a l r=some v):qE C ty HA a l r=some v:=by
 grind [qE,mA,Uk]
theorem We(h:HLe H HA){m:zA}{l:List (zA × zA)}(hx:bQ H m=some l):bQ HA m=some l:=by
 grind [bQ,Da]
theorem OI(h:HLe H HA){ty:Nat}{m k:zA}{ok:Bool}(hx:uK C ty H m k ok=some v):uK C ty HA m k ok=some v:=by
 unfold uK at hx ⊢;simp only[mA,jB]at hx ⊢
 grind [We]
theorem Wp(h:HLe H HA){ty:mC}{a:zA}{n:Nat}(hx:sS H ty a=some n):sS HA ty a=some n:=by
 unfold sS at hx ⊢;split at hx
 all_goals grind [jB,mA,Da]
theorem OJ(h:HLe H HA){ty:Nat}{a:zA}(hx:bR C ty H a=some v):bR C ty HA a=some v:=by
 grind [bR,mA,Wp]
theorem HJ{ty:Nat}{a:Operand}:kT ty a C e H=ob (ev a e) fun v=>vC C ty H v:=rfl
theorem HW{s d:Nat}{x:Operand}{u:zA}(hx:ev x e=some u):nN s d x C e H=kK C s d H u:=by simp_all [nN,kK]
def zcf{ty:Nat}{x:Operand}{lo hi:Option Operand}{a:zA}{l r:Option zA}(h1:ev x e=some a)(h2:nR lo e=some l)(h3:nR hi e=some r):oX ty x lo hi C e H=qE C ty H a l r:=by unfold oX qE;rw[h1,pA,h2,pA,h3,pA]
theorem HT{s f:Nat}{x:Operand}{u:zA}(hx:ev x e=some u):gT s x f C e H=aF C s f u:=by
 unfold gT aF Bf;rw[hx]
 cases C.tys.get s with
 | none=>rfl
 | some ty=>
  simp only[pA]
  cases ty.desc.asStruct with
  | none=>rfl
  | some fs=>
   simp only[pA]
   cases xD fs f with
   | none=>rfl
   | some fd=>simp only[pA];cases hb:(!Nat.beq fd.2.2 0)<;>rfl
theorem HO{ty:Nat}{x i:Operand}{u w:zA}(hx:ev x e=some u)(hi:ev i e=some w):jT ty x i C e H=bC C ty u w:=by unfold jT bC;rw[hx,hi];rfl
theorem zch{ty:Nat}{x i:Operand}{u w:zA}(hx:ev x e=some u)(hi:ev i e=some w):iT ty x i C e H=yL C ty u w:=by unfold iT yL;rw[hx,hi];rfl
theorem zei{x:Operand}{u:zA}(hx:ev x e=some u):mX x C e H=zP u:=by simp_all [mX,zP]
theorem VK{x:Operand}{i:Nat}{u:zA}(hx:ev x e=some u):eT x i C e H=zG i u:=by simp_all [eT,zG]
theorem lBin_v{op:BinOp}{ty:Nat}{x y:Operand}{u w:zA}(hx:ev x e=some u)(hy:ev y e=some w):dT op ty x y C e H=(zN op).f C ty x y u w:=by simp_all [dT]
theorem VL{x:Operand}{a:Nat}{ok:Bool}{u:zA}(hx:ev x e=some u):cT x a ok C e H=Sf C a ok u:=by
 unfold cT Sf;rw[hx];rfl
def VJ{ty:Nat}{x i:Operand}{ok:Bool}{m k:zA}(hx:ev x e=some m)(hi:ev i e=some k):lT ty x i ok C e H=uK C ty H m k ok:=by unfold lT uK;rw[hx,hi];rfl
theorem lLen_v{c:Call}{ty:Nat}{x:Operand}{u:zA}(h1:xD c.argTypes.toList 0=some ty)(h2:xD c.args.toList 0=some x)(hx:ev x e=some u):qO c C e H=bR C ty H u:=by grind [qO,bR,pA]
theorem zc0(he:fR e e'){op:Op}(hp:zS op=true\/(∃s d x,op=.convert s d x/\(mH C d=1\/mH C s=2))\/(∃c,op=.call c/\(c.callee=.builtin .max\/c.callee=.builtin .min))){H':wA}(h:(mF op).f C e H=some v):(mF op).f C e' H'=some v:=by
 rcases hp with hp | hp | hp
 ·cases op<;>simp only[zS]at hp<;>try (cases hp;done)
  case move x=>exact dE he h
  case assign x=>exact dE he h
  case pick c a b=>
   have h:ob (ev c e) (fun c=>ob c.asBool fun c=>bif c then ev a e else ev b e)=some v:=h;show ob (ev c e') (fun c=>ob c.asBool fun c=>bif c then ev a e' else ev b e')=some v
   grind [mA,dE]
  case nilCheck x=>
   have h:ob (ev x e) (fun u=>pB (Nat.beq u.tag 4||Nat.beq u.tag 9) (some u))=some v:=h;show ob (ev x e') (fun u=>pB (Nat.beq u.tag 4||Nat.beq u.tag 9) (some u))=some v
   grind [mA,dE]
  case binOp op t x y u=>
   have h:dT op t x y C e H=some v:=h;show dT op t x y C e' H'=some v
   grind [dT,mA,dE]
  case unOp op t x=>
   have h:lUn op x C e H=some v:=h;show lUn op x C e' H'=some v
   grind [lUn,mA,dE]
  case makeInterface t x=>
   have h:qZ t x C e H=some v:=h;show qZ t x C e' H'=some v
   grind [qZ,mA,jB,dE]
  case makeFunc fn a b=>
   have h:(pZ fn a b).f C e H=some v:=h;show(pZ fn a b).f C e' H'=some v;unfold pZ at h ⊢;split at h
   ·grind [Po,mA,KP]
   ·cases h
  case fieldAddr s x f=>
   have h:gT s x f C e H=some v:=h;show gT s x f C e' H'=some v;unfold gT at h ⊢;simp only[mA,jB]at h ⊢;obtain⟨a,h1,b,h2,c,h3,h4,u,h5,h6⟩:=h;exact⟨a,h1,b,h2,c,h3,h4,u,dE he h5,h6⟩
  case field t x f=>
   have h:oZ t x f C e H=some v:=h;show oZ t x f C e' H'=some v
   grind [oZ,mA,dE]
  case indexAddr t x i=>
   have h:jT t x i C e H=some v:=h;show jT t x i C e' H'=some v;unfold jT at h ⊢;simp only[mA]at h ⊢
   grind [dE]
  case index t x i=>
   have h:iT t x i C e H=some v:=h;show iT t x i C e' H'=some v;unfold iT at h ⊢;simp only[mA]at h ⊢
   grind [dE]
  case extract t i=>
   have h:eT t i C e H=some v:=h;show eT t i C e' H'=some v
   grind [eT,mA,dE]
  case build t ps=>
   have h:qV t ps C e H=some v:=h;show qV t ps C e' H'=some v
   grind [qV,mA,Yj]
  case typeAssert x t u ok=>
   have h:cT x u ok C e H=some v:=h;show cT x u ok C e' H'=some v
   grind [cT,mA,jB,dE]
 ·obtain⟨s,d,x,rfl,hp⟩:=hp;have h:nN s d x C e H=some v:=h;show nN s d x C e' H'=some v;unfold nN at h ⊢;simp only[mA]at h ⊢;obtain⟨u,h1,sy,h2,dy,h3,h4⟩:=h;refine⟨u,dE he h1,sy,h2,dy,h3,?_⟩;unfold aP at h4 ⊢;split at h4
  ·exact h4
  ·rename_i hd;rw[jB]at h4 ⊢;refine⟨h4.1,?_⟩;have h4:=h4.2;rw[rD]at h4 ⊢;split at h4
   ·simp_all
   ·rename_i e;exfalso;rcases hp with hp | hp
    ·unfold mH at hp;rw[h3]at hp;have hp:dy.desc.tag=1:=hp;cases hx:dy.desc<;>rw[hx]at hp hd<;>first
      | (cases hp;done)
      | (cases hd;done)
    ·unfold mH at hp;rw[h2]at hp;have hp:sy.desc.tag=2:=hp;simp only[mA]at h4;obtain⟨el,h5,_⟩:=h4;cases hx:sy.desc<;>rw[hx]at hp h5<;>first
      | (cases hp;done)
      | (cases h5;done)
 ·obtain⟨c,rfl,hc⟩:=hp;rcases hc with hc | hc
  ·have h:(xR c c.callee).f C e H=some v:=h;show(xR c c.callee).f C e' H'=some v;rw[hc]at h ⊢;have h:mT c C e H=some v:=h;show mT c C e' H'=some v
   grind [mT,mA,Sj]
  ·have h:(xR c c.callee).f C e H=some v:=h;show(xR c c.callee).f C e' H'=some v;rw[hc]at h ⊢;have h:nT c C e H=some v:=h;show nT c C e' H'=some v
   grind [nT,mA,Sj]
end
end
section
section
variable {base:Nat}{t:Tr qA}{X:Xt}{H HA:wA}{e e':aC}{C:dA}{v:zA}
theorem Ov.newBlk(h:Ov base t X HA)(y:qA):Ov base (t.set HA.next y) X (newBlk HA y):=by
 refine⟨Nat.le_succ_of_le h.base,fun b hb=>?_,fun b z hb=>?_,fun b z hb=>?_⟩
 ·show(HA.t.set HA.next y).get b=_;rw[Tr.get_set,Tr.get_set];split
  ·rfl
  ·exact h.same b hb
 ·obtain⟨h1,h2,h3⟩:=h.ext b z hb;have hne:b≠HA.next:=Nat.ne_of_lt h3;refine⟨?_,?_,Nat.lt_succ_of_lt h3⟩
  ·show(HA.t.set HA.next y).get b=_
   grind [Tr.get_set]
  grind [Tr.get_set]
 ·rw[Tr.get_set]at hb;show b<HA.next+1;split at hb
  ·omega
  ·exact Nat.lt_succ_of_lt (h.lt _ _ hb)
theorem Ov.setBlk(h:Ov base t X HA){b:Nat}{y:qA}(hb:t.get b=some y)(z:qA):Ov base (t.set b z) X (setBlk HA b z):=by
 refine⟨h.base,fun c hc=>?_,fun c u hc=>?_,fun c u hc=>?_⟩
 ·show(HA.t.set b z).get c=_;rw[Tr.get_set,Tr.get_set];split
  ·rfl
  ·exact h.same c hc
 ·obtain⟨h1,h2,h3⟩:=h.ext c u hc;have hne:c≠b:=fun e=>by simp_all
  refine⟨?_,?_,h3⟩
  ·show(HA.t.set b z).get c=_
   grind [Tr.get_set]
  grind [Tr.get_set]
 ·rw[Tr.get_set]at hc;show c<HA.next;split at hc
  ·rename_i e;rw[e];exact h.lt _ _ hb
  ·exact h.lt _ _ hc
theorem Ov.delBlk(h:Ov base t X HA){b:Nat}{y:qA}(hb:t.get b=some y):Ov base (t.del b) X ⟨HA.next,HA.t.del b⟩:=by
 refine⟨h.base,fun c hc=>?_,fun c u hc=>?_,fun c u hc=>?_⟩
 ·show(HA.t.del b).get c=_;rw[Tr.get_del,Tr.get_del];split
  ·rfl
  ·exact h.same c hc
 ·obtain⟨h1,h2,h3⟩:=h.ext c u hc
  grind [Tr.get_del]
 ·rw[Tr.get_del]at hc;show c<HA.next;split at hc
  ·cases hc
  ·exact h.lt _ _ hc
def iR (base:Nat)(x:wA->Option (zA × wA)):Prop:=∀t X HA v H',Ov base t X HA->x ⟨HA.next,t⟩=some (v,H')->∃HA',x HA=some (v,HA')/\Ov base H'.t X HA'
theorem zX(l:List zA)(lo:Option Lo)(h:Ov base t X HA):Ov base (yF ⟨HA.next,t⟩ l lo).t X (yF HA l lo):=h.newBlk _
theorem OQ{ty:Nat}:iR base (zI C ty):=by
 intro t X HA v H' ho h;unfold zI at h ⊢;rw[mA]at h;obtain⟨y,h1,h2⟩:=h;cases h2;simp_all [zX]
def zf3{u:zA}:iR base (yP u):=by
 intro t X HA v H' ho h;cases h;exact⟨_,rfl,zX _ _ ho⟩
theorem OR{ty:Nat}:iR base (Mf C ty):=by
 intro t X HA v H' ho h;unfold Mf at h ⊢;rw[mA]at h;obtain⟨y,h1,h3⟩:=h
 grind [pA,zX]
theorem zas{ty:Nat}{u:zA}:iR base (Dw C ty u):=by
 intro t X HA v H' ho h;grind [Dw,zX]
theorem OO{ty n:Nat}{ps:List (Nat × zA)}:iR base (oG C ty n ps):=by
 intro t X HA v H' ho h;unfold oG at h ⊢;simp only[mA,jB]at h;obtain⟨a,h1,b,h2,c,h3,h4,l,h5,h6⟩:=h
 grind [zX,mA,jB]
theorem Ue(ho:Ov base t X HA){b off:Nat}{l:List zA}{H':wA}(h:rJ C ⟨HA.next,t⟩ b off l=some H'):∃HA',rJ C HA b off l=some HA'/\Ov base H'.t X HA':=by
 unfold rJ at h ⊢;simp only[mA,jB]at h;obtain⟨h1,c,h2,h3,h4⟩:=h;cases h4;have h2':=h2;unfold mD at h2';rw[mA]at h2';obtain⟨y,h5,_⟩:=h2';refine⟨_,?_,ho.setBlk h5 _⟩;simp only[mA,jB];exact⟨h1,c,dV ho.le h2,h3,rfl⟩
theorem OE{ty:Nat}{a u:zA}:iR base (tD C ty a u):=by
 intro t X HA v H' ho h;unfold tD at h ⊢;simp only[mA,jB]at h;obtain⟨y,h1,p,h2,h3,H1,h4,h5⟩:=h
 grind [Ue,mA,jB]
def OH:iR base Hz:=by
 intro t X HA v H' ho h;cases h;exact⟨_,rfl,ho.newBlk _⟩
def AB{ty:Nat}{m k u:zA}:iR base (vK C ty m k u):=by
 intro t X HA v H' ho h;unfold vK at h ⊢;simp only[mA,jB]at h;obtain⟨a,h1,b,h2,c,h3,h4,d,h5,h6,l,h7,h8,l',h9,h10⟩:=h;cases h10;have h7':=h7;unfold cH at h7';rw[mA]at h7';obtain⟨y,h11,_⟩:=h7';refine⟨_,?_,ho.setBlk h11 _⟩;simp only[mA,jB];exact⟨a,h1,b,h2,c,h3,h4,d,h5,h6,l,Da ho.le h7,h8,l',h9,rfl⟩
def zae(ho:Ov base t X HA){e:RE}{H':wA}(h:bV C ⟨HA.next,t⟩ e=some H'):∃HA',bV C HA e=some HA'/\Ov base H'.t X HA'/\HA'.next=HA.next/\H'.next=HA.next:=by
 obtain⟨x,y,h1,h2,rfl⟩:=Ll.1 h;exact⟨setBlk HA e.blk y,Ll.2 ⟨x,y,ho.up h1,h2,rfl⟩,ho.setBlk h1 _,rfl,rfl⟩
theorem MY:∀ {l:List RE} {t:Tr qA} {HA:wA} {H':wA},Ov base t X HA->pY C l ⟨HA.next,t⟩=some H'->∃HA',pY C l HA=some HA'/\Ov base H'.t X HA'
 | [],t,HA,H',ho,h=>by cases h;exact⟨HA,rfl,ho⟩
 | e::l,t,HA,H',ho,h=>by
  unfold pY at h ⊢;rw[mA]at h;obtain⟨H1,h1,h⟩:=h;obtain⟨HA1,g1,g2,g3,g4⟩:=zae ho h1;rw[g1,pA];obtain⟨n1,t1⟩:=H1;have g4:n1=HA.next:=g4;subst g4;rw[<- g3]at h;exact MY g2 h
theorem SI(ho:Ov base t X HA){e:RE}(h:Bt C ⟨HA.next,t⟩ e=true):Bt C HA e=true:=by
 cases e with
 | st b off l=>
  change (!oH (rJ C ⟨HA.next,t⟩ b off l))=true at h;show(!oH (rJ C HA b off l))=true
  cases hs:rJ C ⟨HA.next,t⟩ b off l with
  | none=>rw[hs]at h;cases h
  | some H'=>obtain⟨HA',g,_⟩:=Ue ho hs;rw[g];rfl
 | up b k v=>
  unfold Bt at h ⊢;rw[ybb]at h ⊢;refine⟨h.1,?_⟩;have h2:=h.2;split at h2
  ·rename_i hm;rw[Da ho.le hm]
  grind
theorem OM{es:List xK}:iR base (iU C es):=by
 intro t X HA v H' ho h;grind [iU,kV,mA,jB,MY,mI,SI]
theorem OG{ty:Nat}{l c:zA}:iR base (dJ C ty l c):=by
 intro t X HA v H' ho h;unfold dJ at h ⊢;simp only[mA,jB]at h;obtain⟨a,h1,b,h2,d,h3,n,h4,m,h5,h6,h7⟩:=h
 grind [zX,mA,jB]
theorem OD{s d:Nat}{u:zA}:iR base (Se C s d u):=by
 intro t X HA v H' ho h;unfold Se at h ⊢;simp only[mA,jB]at h;obtain⟨a,h1,b,h2,c,h3,et,h4,k,h5,h6,l,h7,h8⟩:=h;cases h8;refine⟨yF HA (fV l) (some (.ty c)),?_,zX _ _ ho⟩
 grind [mA,jB]
theorem WQ(h:HLe H HA){sz n:Nat}{u:zA}{l:List zA}(hx:qR H sz n u=some l):qR HA sz n u=some l:=by
 grind [qR,mA,dV]
theorem ZQ(ho:Ov base t X HA){ty:mC}{a b:zA}{H':wA}(h:aV C ⟨HA.next,t⟩ ty a b=some (v,H')):∃HA',aV C HA ty a b=some (v,HA')/\Ov base H'.t X HA':=by
 unfold aV at h;simp only[mA]at h;obtain⟨el,h1,et,h2,n,h3,new,h4,h5⟩:=h;have h4':=WQ ho.le h4
 suffices hs:∃HA',(match a.asSlice with
  | some s=>bif Nat.ble (s.2.2.1+n) s.2.2.2 then fX C HA et n new s else dX C HA el et n new s
  | none=>pB (Nat.beq a.tag 5) (lV HA el et n new))=some (v,HA')/\Ov base H'.t X HA' by
  grind [aV,mA]
 cases hs:a.asSlice with
 | some s=>
  rw[hs]at h5;simp only[]at h5 ⊢;rw[rD]at h5;split at h5
  ·rename_i hr;simp only[hr,cond_true];unfold fX at h5 ⊢
   grind [mA,Ue]
  ·rename_i hr;simp only[Bool.not_eq_true]at hr;simp only[hr,cond_false];unfold dX at h5 ⊢;rw[jB]at h5;obtain⟨gm,h5⟩:=h5;rw[jB]at h5;obtain⟨g0,h5⟩:=h5;rw[mA]at h5;obtain⟨c,g1,h5⟩:=h5;have g1':=dV ho.le g1;unfold mD at g1;rw[mA]at g1;obtain⟨y,g2,_⟩:=g1;split at h5
   ·rename_i hc;unfold Fz at h5;rw[mA]at h5;obtain⟨old,g3,g4⟩:=h5
    grind [zX,jB,mA,Fz]
   ·rename_i es hc;unfold Ga at h5;rw[jB]at h5;obtain⟨g3,g4⟩:=h5;cases g4;refine⟨⟨HA.next+1,(HA.t.del s.1).set HA.next (.cells (c.1.setMany new (s.2.2.1*et.size)) ((s.2.2.1+n)*et.size) (some es))⟩,?_,(ho.delBlk g2).newBlk _⟩
    grind [jB,mA,Ga]
 | none=>
  grind [jB,lV,zX]
theorem OP{ty u:Nat}{a b:zA}:iR base (sF C ty u a b):=by
 intro t X HA v H' ho h;grind [sF,mA,jB,ZQ]
end
def Hk(ν:Nat->Nat)(ae:lM)(e:aC):Prop:=∀i p,tAd ae i=some p->kU i e=some (.ptr (ν p.1) p.2)
def Lu(base:Nat)(X0 X:Xt)(ν:Nat->Nat)(lo:Tr (List zA)):Prop:=∀d l,lo.get d=some l->X0 (ν d)=none/\base<=ν d/\∃c,X (ν d)=some (.cells c l.length none)/\∀j a,l[j]?=some a->c.get j=some a
theorem jE{base:Nat}{W J:kI}{α:Type}{x:Option α}{K:α->T}{t:Tr qA}{Q:aB}:iA base W J (uC x K) t Q ↔ ∃a,x=some a/\iA base W J (K a) t Q:=by
 cases x with
 | none=>exact⟨fun h=>(by cases h),fun⟨_,h,_⟩=>(by cases h)⟩
 | some a=>exact⟨fun h=>⟨a,rfl,h⟩,fun⟨_,h,k⟩=>(by cases h;exact k)⟩
def kM{base:Nat}{W J:kI}{b:Bool}{K:T}{t:Tr qA}{Q:aB}:iA base W J (jJ b K) t Q ↔ b=true/\iA base W J K t Q:=by
 cases b with
 | false=>exact⟨fun h=>(by cases h),fun⟨h,_⟩=>(by cases h)⟩
 | true=>exact⟨fun h=>⟨rfl,h⟩,fun⟨_,h⟩=>h⟩
theorem jU{base:Nat}{W J:kI}{x:Option zA}{K:zA->T}{t:Tr qA}{Q:aB}:iA base W J (.opt x K) t Q ↔ ∃a,x=some a/\iA base W J (K a) t Q:=bW
def Dm{base:Nat}{W J:kI}{x:Tr qA->Option zA}{K:zA->T}{t:Tr qA}{Q:aB}:iA base W J (.light x K) t Q ↔ ∃a,x t=some a/\iA base W J (K a) t Q:=bW
theorem Ax{ν:Nat->Nat}{ae:lM}{e:aC}(h:Hk ν ae e){x:Operand}{p:Nat × Nat}(hx:xAd ae x=some p):ev x e=some (.ptr (ν p.1) p.2):=by
 cases x with
 | tmp i=>exact h i p hx
 | const _=>cases hx
 | global _=>cases hx
 | func _=>cases hx
theorem FX{c:Tr zA}{l:List zA}(h:∀j a,l[j]?=some a->c.get j=some a):∀(n off:Nat),off+n<=l.length->c.many n off=some ((l.drop off).take n):=by
 intro n;induction n with
 | zero=>intro off _;simp;rfl
 | succ n ih=>
  intro off ho;have hlt:off<l.length:=by omega
  rw[Tr.many_succ,h off l[off] (ybd hlt),pA,ih (off+1) (by omega),pA];rw[ybl hlt,List.take_succ_cons]
section
variable {W J:kI}{t:Tr qA}{X X0:Xt}{HA:wA}{e eA:aC}{C:dA}{ν:Nat->Nat}{ae:lM}{lo:Tr (List zA)}{k:qL}{Q:aB}{R:zA->Prop}
theorem GK(ho:Ov C.base t X HA)(hl:Lu C.base X0 X ν lo){d off ty:Nat}{l:List zA}{y:mC}{v:zA}(h1:lo.get d=some l)(h2:C.tys.get ty=some y)(h3:Nat.ble (off+y.size) (oB l)=true)(h4:vO C ty l off=some v) :
  vC C ty HA (.ptr (ν d) off)=some v:=by
 obtain⟨_,_,c,hc,hg⟩:=hl d l h1;have hb:=(ho.ext _ _ hc).1;unfold vC;simp only[zA.asPtr,pA];rw[h2,pA];grind [mD,pA,qA.asCells,vO,zR,mE,pD,FX,tS,oT,dG]
theorem jQ(he:fR e eA){op:Op}(hp:zS op=true\/(∃s d x,op=.convert s d x/\(mH C d=1\/mH C s=2))\/(∃c,op=.call c/\(c.callee=.builtin .max\/c.callee=.builtin .min)))
  (h:iA C.base W J (tP C op e k) t Q) (hKd:∀v,iA C.base W J (k.Kd v) t Q->R v):∃v,(mF op).f C eA HA=some v/\R v:=by
 grind [tP,jE,zc0]
theorem OL{ty:Nat}{u v:zA}{H:wA}(ht:mH C ty=4)(h:cA u=some v):bR C ty H u=some v:=by
 unfold mH at ht
 cases hy:C.tys.get ty with
 | none=>simp_all
 | some y=>
  rw[hy]at ht;have ht:y.desc.tag=4:=ht;unfold bR;rw[hy,pA];unfold cA at h;unfold sS;cases u<;>simp only[zA.asSlice,zA.asStr,zA.asMap,zA.tag]at h ⊢ <;> (try (rw[jB]at h;exact absurd h.1 (by decide)))
  case nilslice=>
   rw[jB]at h;have hn:y.desc.asArr=none:=by cases hd:y.desc<;>rw[hd]at ht<;>first | rfl | (cases ht;done)
   simp_all [mA,jB]
  simp_all [mA,jB]
theorem VV{ty:Nat}{u v:zA}{H H':wA}(ht:mH C ty≠6)(h:bR C ty H u=some v):bR C ty H' u=some v:=by
 unfold bR at h ⊢;simp only[mA]at h ⊢;obtain⟨y,h1,n,h2,h3⟩:=h;refine⟨y,h1,n,?_,h3⟩;have ht:¬ Nat.beq y.desc.tag 6=true:=by
  grind [mH,oC]
 unfold sS at h2 ⊢;split at h2
 all_goals grind [jB]
theorem PT{ty:Nat}{a v:zA}{l h:Option zA}{H H':wA}(ht:mH C ty=2)(hx:qE C ty H a l h=some v):qE C ty H' a l h=some v:=by
 unfold qE at hx ⊢;rw[mA]at hx ⊢;obtain⟨y,h1,h2⟩:=hx;refine⟨y,h1,?_⟩;unfold mH at ht;rw[h1]at ht;have ht:y.desc.tag=2:=ht;unfold vM at h2 ⊢;have n1:y.desc.asSlice=none:=by cases hd:y.desc<;>rw[hd]at ht<;>first | rfl | (cases ht;done)
 have n2:y.desc.asArr=none:=by cases hd:y.desc<;>rw[hd]at ht<;>first | rfl | (cases ht;done)
 simp_all
theorem Vw{u:zA}(h:zA.one u=true):u.cells=[u]:=by
 cases u<;>first
  | rfl
  | (have:=pC.1 h;grind [zA.tag])
theorem WW{tyAt:Nat->Option Nat}(place:Nat->Option (Nat × Nat)):∀(vs:List (Nat × zA)) {q:List (Nat × zA × List zA) × List zA},Vq C tyAt vs=some q->eE zA.one q.2=true->∀cells l,Ql place q.1 cells=some l->kN place vs cells=some l:=by
 intro vs;induction vs with
 | nil=>intro q h _ cells l hl;cases h;exact hl
 | cons p vs ih=>
  intro q h h1 cells l hl;have h:(ob (tyAt p.1) fun t=>ob (C.tys.get t) fun ty=>ob (Vq C tyAt vs) fun r=>some (bif ty.desc.isAgg then((p.1,p.2,p.2.cells)::r.1,r.2)else((p.1,p.2,[p.2])::r.1,p.2::r.2)))=some q:=h;simp only[mA]at h;obtain⟨ty,_,y,_,r,h3,h4⟩:=h;have fF:∀(rest:List zA),eE zA.one r.2=true->(ob (place p.1) fun q=>ob (zin cells q.1 q.2 p.2.cells) fun cells=>Ql place r.1 cells)=some l->kN place (p::vs) cells=some l:=by
   intro _ hr hl;show(ob (place p.1) fun q=>ob (eZ cells q.1 q.2 p.2) fun cells=>kN place vs cells)=some l;simp only[mA]at hl ⊢;obtain⟨a,g1,b,g2,g3⟩:=hl;exact⟨a,g1,b,g2,ih h3 hr _ _ g3⟩
  cases hb:y.desc.isAgg with
  | true=>
   rw[hb]at h4;cases h4;exact fF [] h1 hl
  | false=>
   rw[hb]at h4;cases h4;simp_all [mI,Ql,Vw]
theorem zgb(he:fR e eA)(ha:Hk ν ae eA)(ho:Ov C.base t X HA)(hl:Lu C.base X0 X ν lo){op:Op}(h:iA C.base W J (tL C op e ae lo k) t Q)
  (hK:∀v,iA C.base W J (k.K v) t Q->R v) (hKd:∀v,iA C.base W J (k.Kd v) t Q->R v) (hKA:∀d off,iA C.base W J (k.KA d off) t Q->R (.ptr (ν d) off)) :
  ∃v,(mF op).f C eA HA=some v/\R v:=by
 cases op<;>simp only[tL]at h<;>try (cases h;done)
 case move x=>
  unfold Mp at h;split at h
  ·rename_i p hp;exact⟨_,Ax ha hp,hKA _ _ h⟩
  ·exact jQ he (.inl rfl) h hKd
 case assign x=>
  unfold Mp at h;split at h
  ·rename_i p hp;exact⟨_,Ax ha hp,hKA _ _ h⟩
  ·exact jQ he (.inl rfl) h hKd
 case pick c a b=>exact jQ he (.inl rfl) h hKd
 case load ty a=>
  unfold tLoad at h;split at h
  ·rename_i p hp;simp only[jE,kM]at h;obtain⟨l,h1,y,h2,h3,v,h4,h5⟩:=h;refine⟨v,?_,hKd v h5⟩;show kT ty a C eA HA=some v
   grind [HJ,Ax,pA,GK]
  ·rw[jE]at h;obtain⟨u,h1,h2⟩:=h;rw[Dm]at h2;obtain⟨v,h3,h4⟩:=h2;refine⟨v,?_,hK v h4⟩;show kT ty a C eA HA=some v;rw[HJ,dE he h1,pA];exact Me ho.le h3
 case nilCheck x=>
  unfold tNil at h;split at h
  ·rename_i p hp;refine⟨_,?_,hKA _ _ h⟩;show mX x C eA HA=_;rw[zei (Ax ha hp)];rfl
  ·rw[jE]at h;obtain⟨u,h1,h2⟩:=h;rw[jU]at h2;obtain⟨v,h3,h4⟩:=h2;refine⟨v,?_,hK v h4⟩;show mX x C eA HA=_
   grind [zei,dE]
 case binOp op ty x y u=>
  unfold tBin at h;rw[rD]at h;split at h
  ·exact jQ he (.inl rfl) h hKd
  ·simp only[jE,jU]at h;obtain⟨a,h1,b,h2,v,h3,h4⟩:=h;refine⟨v,?_,hK v h4⟩;show dT op ty x y C eA HA=_
   grind [lBin_v,dE]
 case unOp o ty x=>
  split at h
  ·simp only[jE,jU]at h;obtain⟨u,h1,v,h2,h3⟩:=h;refine⟨v,?_,hK v h3⟩;show lUn .xor x C eA HA=_;unfold lUn;rw[dE he h1];exact h2
  ·exact jQ he (.inl rfl) h hKd
 case convert s d x=>
  unfold zgd at h;rw[rD]at h;split at h
  ·rename_i hd;rw[rD]at h;split at h
   ·rename_i hs;exact jQ he (.inr (.inl ⟨s,d,x,rfl,.inr (oC.1 hs)⟩)) h hKd
   ·simp only[jE,Dm]at h;obtain⟨u,h1,v,h2,h3⟩:=h;refine⟨v,?_,hK v h3⟩;show nN s d x C eA HA=_;rw[HW (dE he h1)];exact ON ho.le h2
  ·rw[rD]at h;split at h
   ·rename_i hd;exact jQ he (.inr (.inl ⟨s,d,x,rfl,.inl (oC.1 hd)⟩)) h hKd
   ·cases h
 case makeInterface ty x=>exact jQ he (.inl rfl) h hKd
 case makeFunc fn a b=>exact jQ he (.inl rfl) h hKd
 case slice ty x lo' hi mx=>
  cases mx with
  | some _=>cases h
  | none=>
   simp only[zdr,jE]at h;obtain⟨a,h1,l,h2,r,h3,h4⟩:=h;rw[rD]at h4;show ∃v,oX ty x lo' hi C eA HA=some v/\R v;rw[zcf (dE he h1) (KQ he h2) (KQ he h3)];split at h4
   ·grind [jU,PT,oC]
   ·rw[Dm]at h4;obtain⟨v,h5,h6⟩:=h4;exact⟨v,OF ho.le h5,hK v h6⟩
 case fieldAddr s x f=>
  unfold AZ at h;show ∃v,gT s x f C eA HA=some v/\R v;split at h
  ·rename_i p hp;rw[jE]at h;obtain⟨o,h1,h2⟩:=h;refine⟨_,?_,hKA _ _ h2⟩;rw[HT (Ax ha hp)];unfold aF;rw[h1];rfl
  grind [jE,jU,HT,dE]
 case field ty x f=>exact jQ he (.inl rfl) h hKd
 case indexAddr ty x i=>
  unfold AX at h;show ∃v,jT ty x i C eA HA=some v/\R v;split at h
  ·rename_i p hp;simp only[jE]at h;obtain⟨iv,h1,n,h2,o,h3,h4⟩:=h;refine⟨_,?_,hKA _ _ h4⟩;rw[HO (Ax ha hp) (dE he h1)];unfold AC at h3;simp only[mA,jB]at h3;obtain⟨y,g1,a,g2,et,g3,g4,g5⟩:=h3;cases g5;unfold bC;rw[g1,pA,h2,pA];simp only[zA.asSlice,zA.asPtr,pA];rw[g2,pA,g3,pA,g4];rfl
  grind [jE,jU,HO,dE]
 case index ty x i=>
  rw[rD]at h;split at h
  ·exact jQ he (.inl rfl) h hKd
  ·simp only[jE,jU]at h;obtain⟨u,h1,w,h2,v,h3,h4⟩:=h;refine⟨v,?_,hK v h4⟩;show iT ty x i C eA HA=_
   grind [zch,dE]
 case lookup ty x i ok=>
  simp only[jE,Dm]at h;obtain⟨m,h1,key,h2,v,h3,h4⟩:=h;refine⟨v,?_,hK v h4⟩;show lT ty x i ok C eA HA=_;rw[VJ (dE he h1) (dE he h2)];exact OI ho.le h3
 case extract x i=>
  simp only[jE,jU]at h;obtain⟨u,h1,v,h2,h3⟩:=h;refine⟨v,?_,hK v h3⟩;show eT x i C eA HA=_
  grind [VK,dE]
 case typeAssert x a u ok=>
  simp only[jE,jU]at h;obtain⟨w,h1,v,h2,h3⟩:=h;refine⟨v,?_,hK v h3⟩;show cT x u ok C eA HA=_
  grind [VL,dE]
 case build ty ps=>
  unfold zdt at h;simp only[jE,kM]at h;obtain⟨y,h1,hbd,vs,h2,q,h3,l,h4,h5⟩:=h;have h5:if eE zA.one q.2=true then iA C.base W J (k.Kd (.agg l)) t Q else False:=h5;split at h5
  ·rename_i hone;refine⟨_,?_,hKd _ h5⟩;show qV ty ps C eA HA=_;have hf:=WW (Fc C y) vs h3 hone y.zero l h4;unfold qV;rw[h1,pA,Yj he h2,pA]
   cases hs:y.desc.asStruct with
   | some fs=>
    simp only[];have:(fun i=>ob (xD fs i) fun x=>some (x.1,x.2.2))=Fc C y:=by funext i;unfold Fc;rw[hs]
    simp_all
   | none=>
    simp only[];unfold ML at hbd;rw[hs]at hbd;simp only[]at hbd
    cases ha:y.desc.asArr with
    | none=>simp_all
    | some a=>
     rw[ha]at hbd;simp only[]at hbd
     cases hy:C.tys.get a.2 with
     | none=>simp_all
     | some et=>
      simp only[pA];have:(fun i=>some (i*et.size,et.size))=Fc C y:=by funext i;unfold Fc;rw[hs];simp only[];rw[ha,pA,hy,pA]
      simp_all
  simp_all
 case call c=>
  split at h
  ·rename_i b hb;cases b<;>simp only[Im]at h<;>try (cases h;done)
   case len=>
    unfold tLen at h;simp only[jE]at h;obtain⟨ty,h1,x,h2,u,h3,h4⟩:=h;show ∃v,(xR c c.callee).f C eA HA=some v/\R v;rw[hb];show ∃v,qO c C eA HA=some v/\R v;rw[lLen_v h1 h2 (dE he h3)];rw[rD]at h4;split at h4
    ·grind [jU,OL,oC]
    ·rw[rD]at h4;split at h4
     ·rw[Dm]at h4;obtain⟨v,h5,h6⟩:=h4;exact⟨v,OJ ho.le h5,hK v h6⟩
     grind [jE,VV,oC]
   case max=>exact jQ he (.inr (.inr ⟨c,rfl,.inl hb⟩)) h hKd
   case min=>exact jQ he (.inr (.inr ⟨c,rfl,.inr hb⟩)) h hKd
  ·cases h
end
end
section
def Cy(C:dA)(A:Tr cD)(f:Nat)(args:List zA)(H:wA):iB:=
 bif Nat.blt f yo then
  match C.prims.get f with
  | some g=>g args H
  | none=>oD C A (.func f) args H
 else oD C A (.yld (f-yo)) args H
theorem Gr{C:dA}{A:Tr cD}{f:Nat}{args:List zA}{H:wA}(h:Nat.blt f yo=true):Cy C A f args H=(match C.prims.get f with
  | some g=>g args H
  | none=>oD C A (.func f) args H):=by grind [Cy]
theorem MG{C:dA}{A:Tr cD}{l:Nat}{args:List zA}{H:wA}:Cy C A (yo+l) args H=oD C A (.yld l) args H:=by
 unfold Cy;have:Nat.blt (yo+l) yo=false:=Bool.eq_false_iff.2 fun e=>by grind [pC]
 simp_all
def qC (base:Nat)(X0:Xt)(Q:aB)(d:iB):Prop:=∃v t' HA' X',d=some (v,HA')/\Ov base t' X' HA'/\oJ X0 X'/\Q v t'
theorem qC.mono{base:Nat}{X0:Xt}{Q Q':aB}{d:iB}(h:qC base X0 Q d)(k:∀v t,Q v t->Q' v t):qC base X0 Q' d:=by
 obtain⟨v,t',HA',X',h1,h2,h3,h4⟩:=h;exact⟨v,t',HA',X',h1,h2,h3,k _ _ h4⟩
def mU(C:dA)(A:Tr cD)(W:kI):Prop:=∀f args t R,W f args t R->∀X HA,Ov C.base t X HA->qC C.base X R (Cy C A f args HA)
section
variable {W J:kI}{t:Tr qA}{X X0:Xt}{HA:wA}{e eA:aC}{C:dA}{A:Tr cD}{ν:Nat->Nat}{ae:lM}{lo:Tr (List zA)}{k:qL}{kl:KLo}{Q:aB}
def cK{f:tJ}{H:wA}{v:zA}(h:f C e H=some v):lv f C e H=.val v H:=by unfold lv;rw[h]
def zah{op:Op}{H:wA}{v:zA}(h:(mF op).f C e H=some v):(sG op).f C e H=.val v H:=by
 cases op
 case move x=>exact cK h
 case assign x=>exact cK h
 case pick c a b=>exact cK h
 case load t a=>exact cK h
 case nilCheck x=>exact cK h
 case binOp op t x y u=>exact cK h
 case unOp op t x=>exact cK h
 case makeInterface t x=>exact cK h
 case makeFunc fn a b=>exact cK h
 case slice t x lo hi mx=>exact cK h
 case fieldAddr s x f=>exact cK h
 case field t x f=>exact cK h
 case indexAddr t x i=>exact cK h
 case index t x i=>exact cK h
 case extract t i=>exact cK h
 case build t ps=>exact cK h
 case typeAssert x t u ok=>exact cK h
 case lookup t x i ok=>exact cK h
 case convert s d x=>
  show mV s d x C e H=_;have h:nN s d x C e H=some v:=h;unfold mV;rw[h]
 case call c=>
  have h:(xR c c.callee).f C e H=some v:=h;show(Fx c c.callee).f C e H=_
  cases hc:c.callee with
  | value f=>rw[hc]at h;cases h
  | invoke a b=>rw[hc]at h;cases h
  | builtin b=>
   rw[hc]at h;cases b
   case len=>exact cK (f:=qO c) h
   case max=>exact cK (f:=mT c) h
   case min=>exact cK (f:=nT c) h
   all_goals exact absurd (show(none:Option zA)=some v from h) (by simp)
 all_goals exact absurd (show(none:Option zA)=some v from h) (by simp)
def aY{x:Option (zA × wA)}{v:zA}{H':wA}{kd:zA->wA->iB}{φ:nH}(h:x=some (v,H')):lG φ (mL x) HA kd=kd v H':=by subst h;rfl
theorem oS(ho:Ov C.base t X HA){x:wA->Option (zA × wA)}(hx:iR C.base x){K:zA->T}(h:iA C.base W J (.heavy x K) t Q){kd:zA->wA->iB}{φ:nH}
  (hK:∀v t' HA' X',Ov C.base t' X' HA'->oJ X X'->iA C.base W J (K v) t' Q->qC C.base X0 Q (kd v HA')) {r:nK} (hr:∀p,x HA=some p->lG φ r HA kd=kd p.1 p.2):qC C.base X0 Q (lG φ r HA kd):=by
 have h:=h HA.next ho.nextT ho.base;rw[bW]at h;obtain⟨⟨v,H'⟩,h1,h2⟩:=h;obtain⟨HA',h3,h4⟩:=hx _ _ _ _ _ ho h1
 grind [oJ.refl]
theorem Yz(hW:mU C A W)(ho:Ov C.base t X HA){f:Nat}(hf:Nat.blt f yo=true){args:List zA}{K:zA->T}(h:W f args t fun v t'=>iA C.base W J (K v) t' Q){kd:zA->wA->iB}
  (hK:∀v t' HA' X',Ov C.base t' X' HA'->oJ X X'->iA C.base W J (K v) t' Q->qC C.base X0 Q (kd v HA')):qC C.base X0 Q (lG (oD C A) (Gs C HA args f (C.prims.get f)) HA kd):=by
 obtain⟨v,t',HA',X',h1,h2,h3,h4⟩:=hW _ _ _ _ h X HA ho;rw[Gr hf]at h1;unfold Gs
 cases hp:C.prims.get f with
 | some g=>
  rw[hp]at h1;simp only[h1];exact hK _ _ _ _ h2 h3 h4
 | none=>
  rw[hp]at h1;have h1:oD C A (.func f) args HA=some (v,HA'):=h1;show qC C.base X0 Q (ob (oD C A (.func f) args HA) fun p=>kd p.1 p.2);rw[h1];exact hK _ _ _ _ h2 h3 h4
def zbg(hW:mU C A W)(ho:Ov C.base t X HA){l:Nat}{args:List zA}{K:zA->T}(h:W (yo+l) args t fun v t'=>iA C.base W J (K v) t' Q){kd:zA->wA->iB}
  (hK:∀v t' HA' X',Ov C.base t' X' HA'->oJ X X'->iA C.base W J (K v) t' Q->qC C.base X0 Q (kd v HA')):qC C.base X0 Q (lG (oD C A) (.round l args) HA kd):=by
 obtain⟨v,t',HA',X',h1,h2,h3,h4⟩:=hW _ _ _ _ h X HA ho;rw[MG]at h1;show qC C.base X0 Q (ob (oD C A (.yld l) args HA) fun p=>kd p.1 p.2);rw[h1];exact hK _ _ _ _ h2 h3 h4
theorem Ov.setX{base:Nat}(h:Ov base t X HA){b:Nat}{y:qA}(hb:X b=some y)(z:qA):Ov base t (fun c=>if c=b then some z else X c) (Am.setBlk HA b z):=by
 obtain⟨g1,g2,g3⟩:=h.ext b y hb;refine⟨h.base,fun c hc=>?_,fun c u hc=>?_,h.lt⟩
 ·split at hc
  ·cases hc
  ·rename_i hne;show(HA.t.set b z).get c=_;rw[Tr.get_set,yaa hne];exact h.same c hc
 ·show(HA.t.set b z).get c=_/\_/\c<HA.next;rw[Tr.get_set];split at hc
  ·simp_all
  ·rename_i hne;rw[yaa hne];exact h.ext c u hc
theorem Ov.newX{base:Nat}(h:Ov base t X HA)(z:qA):Ov base t (fun c=>if c=HA.next then some z else X c) (Am.newBlk HA z):=by
 refine⟨Nat.le_succ_of_le h.base,fun c hc=>?_,fun c u hc=>?_,fun b y hb=>Nat.lt_succ_of_lt (h.lt b y hb)⟩
 ·split at hc
  ·cases hc
  ·rename_i hne;show(HA.t.set HA.next z).get c=_;rw[Tr.get_set,yaa hne];exact h.same c hc
 ·show(HA.t.set HA.next z).get c=_/\_/\c<HA.next+1;rw[Tr.get_set];split at hc
  ·rename_i e;cases hc;subst e;rw[yab rfl];exact⟨rfl,h.nextT,Nat.lt_succ_self _⟩
  ·rename_i hne;rw[yaa hne];have:=h.ext c u hc;grind
theorem UY(ho:Ov C.base t X HA)(hl:Lu C.base X0 X ν lo){d off:Nat}{l l':List zA}{u:zA}{sz:Nat}(h1:lo.get d=some l)(h2:eZ l off sz u=some l')(h3:eE zA.one u.cells=true) :
  Nat.beq (oB u.cells) sz=true/\l'.length=l.length/\∃c',rJ C HA (ν d) off u.cells=some (setBlk HA (ν d) (.cells c' l.length none))/\∀j a,l'[j]?=some a->c'.get j=some a:=by
 obtain⟨_,hb,c,hc,hg⟩:=hl d l h1;have hx:=(ho.ext _ _ hc).1;unfold eZ at h2;simp only[jB,ybb,mE,pD,wH,tS,oT,Option.some.injEq]at h2;obtain⟨⟨g1,g2⟩,g3⟩:=h2;subst g3;refine⟨by grind [pD],?_,c.setMany u.cells off,?_,?_⟩
 ·grind
 ·grind [rJ,Nat.blt,mD,jB,pA,qA.asCells,mE,pD]
 ·intro j a hj;rw[Tr.get_setMany];grind
theorem YS{y:mC}{u:zA}(h:eE zA.one (Gq y u)=true):Gq y u=u.cells:=by
 grind [Gq,mI,Vw]
theorem SD{op:Op}{v:zA}{kd:zA->wA->iB}{φ:nH}(h:(mF op).f C eA HA=some v):lG φ ((sG op).f C eA HA) HA kd=kd v HA:=by rw[zah h];rfl
theorem VI{la:List Nat}{dst:Option Nat}{d:Nat}(h:laOf la dst=some d):dst=some d:=by
 unfold laOf at h;grind
theorem tH_ok(hW:mU C A W)(he:fR e eA)(ha:Hk ν ae eA)(ho:Ov C.base t X HA)(hl:Lu C.base X0 X ν lo){la:List Nat}{dst:Option Nat}{op:Op}
  (h:iA C.base W J (tH C la dst op e ae lo k kl) t Q) {kd:zA->wA->iB}
  (hK:∀v t' HA' X',Ov C.base t' X' HA'->oJ X X'->iA C.base W J (k.K v) t' Q->qC C.base X0 Q (kd v HA'))
  (hKd:∀v t' HA' X',Ov C.base t' X' HA'->oJ X X'->iA C.base W J (k.Kd v) t' Q->qC C.base X0 Q (kd v HA'))
  (hKA:∀d off,iA C.base W J (k.KA d off) t Q->qC C.base X0 Q (kd (.ptr (ν d) off) HA))
  (hnew:∀d l,laOf la dst=some d->iA C.base W J (kl.new d l) t Q->qC C.base X0 Q (kd (.ptr HA.next 0) (yF HA l none)))
  (hset:∀d l l' c',lo.get d=some l->l'.length=l.length->(∀j a,l'[j]?=some a->c'.get j=some a)->iA C.base W J (kl.set d l') t Q->qC C.base X0 Q (kd xE (setBlk HA (ν d) (.cells c' l.length none)))) :
  qC C.base X0 Q (lG (oD C A) ((sG op).f C eA HA) HA kd):=by
 have light:∀(op:Op),iA C.base W J (tL C op e ae lo k) t Q->qC C.base X0 Q (lG (oD C A) ((sG op).f C eA HA) HA kd):=by
  intro op h;obtain⟨v,h1,h2⟩:=zgb (R:=fun v=>qC C.base X0 Q (kd v HA)) he ha ho hl h (fun v h=>hK v _ _ _ ho (oJ.refl _) h) (fun v h=>hKd v _ _ _ ho (oJ.refl _) h) hKA
  grind [SD]
 cases op<;>simp only[tH]at h<;>try (exact light _ h)
 case alloc ty=>
  show qC C.base X0 Q (lG _ (gZ ty C eA HA) HA kd);rw[rD]at h;split at h
  ·rename_i ht;have ht:jK C ty=none:=by
    cases hx:jK C ty with
    | none=>rfl
    | some _=>rw[hx]at ht;cases ht
   split at h
   ·rename_i d hd;rw[jE]at h;obtain⟨y,h1,h2⟩:=h;unfold gZ;rw[h1,ht];exact hnew d _ hd h2
   ·refine oS ho OQ h hK fun p hp=>?_;unfold gZ;rw[ht];have hp:(ob (C.tys.get ty) fun ty=>some (.ptr HA.next 0,yF HA ty.zero none))=some p:=hp;rw[hp];rfl
  ·refine oS ho OR h hK fun p hp=>?_;unfold gZ;unfold Mf at hp;rw[hp];rfl
 case box ty x=>
  rw[rD]at h;show qC C.base X0 Q (lG _ (iX ty x C eA HA) HA kd);unfold iX;split at h
  ·rename_i ht;have ht:jK C ty=none:=by
    cases hx:jK C ty with
    | none=>rfl
    | some _=>rw[hx]at ht;cases ht
   rw[jE]at h;obtain⟨v,h1,h⟩:=h;rw[dE he h1,ht];split at h
   ·rename_i d hd;rw[jE]at h;obtain⟨y,_,h⟩:=h;rw[rD]at h;split at h
    ·exact hnew d _ hd h
    ·have h:if zA.one v=true then iA C.base W J (kl.new d [v]) t Q else False:=h;split at h
     ·rename_i h1;have:=hnew d _ hd h;rw[<- Vw h1]at this;exact this
     simp_all
   ·refine oS ho zf3 h hK fun p hp=>?_;cases hp;rfl
  ·rw[jE]at h;obtain⟨v,h1,h⟩:=h;rw[dE he h1];refine oS ho zas h hK fun p hp=>?_;cases hp;rfl
 case buildSlice ty n ps=>
  rw[jE]at h;obtain⟨vs,h1,h⟩:=h;show qC C.base X0 Q (lG _ (hZ ty n ps C eA HA) HA kd);refine oS ho OO h hK fun p hp=>?_;refine aY (v:=p.1) (H':=p.2) ?_;rw[Yj he h1];exact hp
 case makeMap ty r=>
  cases r with
  | some _=>simp_all
  | none=>
   simp only[]at h;show qC C.base X0 Q (lG _ (Ks none C eA HA) HA kd);refine oS ho OH h hK fun p hp=>?_;cases hp;rfl
 case makeSlice ty l c=>
  simp only[jE]at h;obtain⟨a,h1,b,h2,h⟩:=h;show qC C.base X0 Q (lG _ (Xw ty l c C eA HA) HA kd);refine oS ho OG h hK fun p hp=>?_;refine aY (v:=p.1) (H':=p.2) ?_
  grind [dE,dJ,pA]
 case store ty a x=>
  unfold zdq at h;show qC C.base X0 Q (lG _ (Kr ty a x C eA HA) HA kd);split at h
  ·rename_i p hp;simp only[jE]at h;obtain⟨u,h1,y,h2,l,h3,l',h4,h5⟩:=h;have h5:if eE zA.one (Gq y u)=true then iA C.base W J (kl.set p.1 l') t Q else False:=h5;split at h5
   ·rename_i hone;have hcell:=YS hone;rw[hcell]at hone h4;have h4:eZ l p.2 y.size u=some l':=h4;obtain⟨g1,g2,c',g3,g4⟩:=UY ho hl h3 h4 hone;have:=hset p.1 l l' c' h3 g2 g4 h5;have e1:lG (oD C A) (Kr ty a x C eA HA) HA kd=kd xE (setBlk HA (ν p.1) (.cells c' l.length none)):=by
     refine aY ?_;rw[h2,pA,Ax ha hp,pA];simp only[zA.asPtr,pA];rw[dE he h1,pA,g1,g3];rfl
    simp_all
   simp_all
  ·simp only[jE]at h;obtain⟨av,h1,u,h2,h⟩:=h;refine oS ho OE h hKd fun p hp=>?_;refine aY (v:=p.1) (H':=p.2) ?_
   grind [dE,tD,pA]
 case convert s d x=>
  rw[rD]at h;split at h
  ·rename_i hd;rw[jE]at h;obtain⟨u,h1,h⟩:=h;show qC C.base X0 Q (lG _ (mV s d x C eA HA) HA kd);have hn:nN s d x C eA HA=none:=by
    rw[HW (dE he h1)]
    cases hq:kK C s d HA u with
    | none=>rfl
    | some q=>
     exfalso;unfold kK at hq;simp only[mA]at hq;obtain⟨sy,g1,dy,g2,g3⟩:=hq;have hd:=oC.1 hd;unfold mH at hd;rw[g2]at hd;have hd:dy.desc.tag=4:=hd;unfold aP at g3;have n1:dy.desc.asInt=none:=by cases hz:dy.desc<;>rw[hz]at hd<;>first | rfl | (cases hd;done)
     have n2:dy.desc.isString=false:=by unfold jD.isString;rw[hd];rfl
     rw[n1,n2]at g3;cases g3
   unfold mV;rw[hn];simp only[];refine oS ho OD h hK fun p hp=>?_;refine aY (v:=p.1) (H':=p.2) ?_;rw[dE he h1];exact hp
  grind [tL]
 case insert ty m key x=>
  simp only[jE]at h;obtain⟨mv,h1,kv,h2,u,h3,h⟩:=h;show qC C.base X0 Q (lG _ (iZ ty m key x C eA HA) HA kd);refine oS ho AB h hKd fun p hp=>?_;refine aY (v:=p.1) (H':=p.2) ?_;rw[dE he h1,dE he h2,dE he h3];exact hp
 case mapUpdate ty m key x=>
  simp only[jE]at h;obtain⟨mv,h1,kv,h2,u,h3,h⟩:=h;show qC C.base X0 Q (lG _ (iZ ty m key x C eA HA) HA kd);refine oS ho AB h hKd fun p hp=>?_;refine aY (v:=p.1) (H':=p.2) ?_;rw[dE he h1,dE he h2,dE he h3];exact hp
 case call c=>
  show qC C.base X0 Q (lG _ ((Fx c c.callee).f C eA HA) HA kd);split at h
  ·rename_i f hc;rw[hc];show qC C.base X0 Q (lG _ (Cn f c.args C eA HA) HA kd);have fF:∀ {fv:zA} {aq:List zA},ev f e=some fv->bP c.args.toList e=some aq->iA C.base W J (.callv fv aq k.K) t Q->qC C.base X0 Q (lG (oD C A) (Cn f c.args C eA HA) HA kd):=by
    intro fv aq h1 h2 h;have h:oF (qU fv aq) fun p=>W p.1 p.2 t fun v t'=>iA C.base W J (k.K v) t' Q:=h;rw[bW]at h;obtain⟨⟨g,aq'⟩,h3,h4⟩:=h;unfold qU at h3;rw[mA]at h3;obtain⟨p,h5,h6⟩:=h3;have e0:Cn f c.args C eA HA=zi6 C HA (bD p.2.1 aq) p.2.2 p.1:=by
     unfold Cn xT;rw[dE he h1,pA,h5,pA,KP he h2,pA,pA];rfl
    rw[e0]
    cases hp:p.1 with
    | func g'=>
     rw[hp]at h6;simp only[jB]at h6;obtain⟨hg,h6⟩:=h6;cases h6;exact Yz hW ho hg h4 hK
    | yld l=>
     rw[hp]at h6;simp only[jB,ybb]at h6;obtain⟨⟨ha,hb⟩,h6⟩:=h6;cases h6;have ea:p.2.1=[]:=by cases hx:p.2.1 with | nil=>rfl | cons _ _=>rw[hx]at ha;cases ha
     have eb:p.2.2=[]:=by cases hx:p.2.2 with | nil=>rfl | cons _ _=>rw[hx]at hb;cases hb
     rw[ea,eb];exact zbg hW ho h4 hK
   unfold zds at h;split at h
   ·rename_i g;rw[kM,jE]at h;obtain⟨hg,aq,h1,h⟩:=h;refine fF (fv:=.func (.func g) [] []) rfl h1 ?_;show oF (qU (.func (.func g) [] []) aq) _;have e2:qU (.func (.func g) [] []) aq=some (g,aq):=by
     show pB (Nat.blt g yo) (some (g,bD (bD [] aq) []))=_;rw[hg,wH,wH];simp[pB]
    rw[e2];exact h
   grind [jE]
  ·rename_i b hb;rw[hb];have lt:iA C.base W J (Im C c e k b) t Q->qC C.base X0 Q (lG (oD C A) ((Fx c (.builtin b)).f C eA HA) HA kd):=by
    intro h;have:=light (.call c) (by show iA C.base W J (match c.callee with | .builtin b=>Im C c e k b | _=>.fail) t Q;simp_all)
    have e1:(sG (.call c)).f C eA HA=(Fx c c.callee).f C eA HA:=rfl
    simp_all
   unfold AY at h;split at h
   ·simp only[jE,two']at h;obtain⟨ty,h1,u,h2,p,h3,h⟩:=h;show qC C.base X0 Q (lG _ (Fy c C eA HA) HA kd);refine oS ho OP h hK fun q hq=>?_;refine aY (v:=q.1) (H':=q.2) ?_
    grind [sF,mA,jB,Sj]
   grind
  ·cases h
end
end
section
structure eF (base:Nat) (X0:Xt) (kf:Nat) (ν:Nat->Nat) (X:Xt) (st:bG) (tm:Tm) (HA:wA) (t:Tr qA):Prop where
 ov:Ov base t X HA
 le:oJ X0 X
 k:st.tm.k=kf
 kA:tm.k=kf
 tms:∀i v,st.tm.get i=some v->tm.get i=some v
 ads:∀i p,qK i st.ad=some p->tm.get i=some (.ptr (ν p.1) p.2)
 lo:Lu base X0 X ν st.lo
 inj:∀d d' l l',st.lo.get d=some l->st.lo.get d'=some l'->ν d=ν d'->d=d'
theorem Hd{i:Nat}{a:Nat × Nat × Nat}{l:List (Nat × Nat × Nat)}:qK i (a::l)=if i=a.1 then some a.2 else qK i l:=by
 grind [qK,iJ,oC]
theorem zak{i:Nat}{p:Nat × Nat}:∀ {l:List (Nat × Nat × Nat)},qK i l=some p->(i,p.1,p.2)∈l:=by
 intro l;induction l with
 | nil=>intro h;cases h
 | cons a l ih=>
  grind [Hd]
theorem Nx{n:Nat}{tm:Tm}{dst:Option Nat}{v:zA}:(putA n tm dst v).k=tm.k:=by
 unfold putA putB
 cases dst with
 | none=>rfl
 | some d=>
  grind [Nw,Tm.set,iJ]
theorem Tm.set_k{tm:Tm}{i:Nat}{v:zA}:(tm.set i v).k=tm.k:=by unfold Tm.set;rw[iJ];split<;>rfl
section
variable {W J:kI}{t:Tr qA}{X X0:Xt}{HA:wA}{C:dA}{A:Tr cD}{ν:Nat->Nat}{Q:aB}{kf n:Nat}{st:bG}{tm:Tm}
theorem eF.put(h:eF C.base X0 kf ν X st tm HA t){dst:Option Nat}{v:zA}{lt:Bool}{κ:KT}(hw:iA C.base W J (uP n dst v lt st κ) t Q) :
  ∃st',eF C.base X0 kf ν X st' (putA n tm dst v) HA t/\iA C.base W J (κ st') t Q:=by
 unfold uP at hw
 cases dst with
 | none=>exact⟨st,h,hw⟩
 | some d=>
  simp only[rD]at hw;split at hw
  ·rename_i hd;rw[kM]at hw;obtain⟨h1,h2⟩:=hw;refine⟨_,?_,h2⟩;refine⟨h.ov,h.le,(by grind [k,Tm.set_k]),by rw[Nx];exact h.kA,?_,?_,h.lo,h.inj⟩
   ·intro i u hi;have hi2:(st.tm.set d v).get i=some u:=hi;rw[Tm.get_set]at hi2;rw[yK];split at hi2
    ·simp_all
    ·rename_i e;rw[yaa (fun hh=>e (by simp_all))];exact h.tms i u hi2
   ·intro i p hi;rw[yK,yaa]
    ·exact h.ads i p hi
    ·rintro⟨e,_⟩;injection e with e;subst e;rw[hi]at h1;cases h1
  ·rename_i hd;refine⟨st,?_,hw⟩
   simp_all [putA,putB,Nw,rD,yaa]
theorem eF.putA(h:eF C.base X0 kf ν X st tm HA t){dst:Option Nat}{d off:Nat}{κ:KT}(hw:iA C.base W J (zga n dst d off st κ) t Q) :
  ∃st',eF C.base X0 kf ν X st' (Am.putA n tm dst (.ptr (ν d) off)) HA t/\iA C.base W J (κ st') t Q:=by
 unfold zga at hw;rw[jE]at hw;obtain⟨i,h1,hw⟩:=hw;subst h1;simp only[kM]at hw;obtain⟨h2,h3,h4⟩:=hw;refine⟨_,?_,h4⟩;refine⟨h.ov,h.le,h.k,by rw[Nx];exact h.kA,?_,?_,h.lo,h.inj⟩
 ·intro j u hj;rw[yK,yaa]
  ·exact h.tms j u hj
  ·rintro⟨e,_⟩;injection e with e;subst e;have hj:st.tm.get i=some u:=hj;rw[hj]at h3;cases h3
 ·intro j p hj;have hj:qK j ((i,d,off)::st.ad)=some p:=hj;rw[Hd]at hj;rw[yK];split at hj
  ·rename_i e;cases hj;rw[yab ⟨by rw[e],by simp_all⟩]
  ·rename_i e;rw[yaa (fun hh=>e (by simp_all))];exact h.ads j p hj
theorem eF.new(h:eF C.base X0 kf ν X st tm HA t){d:Nat}{l:List zA}{κ:KT}(hw:iA C.base W J (tNew n d l st κ) t Q) :
  ∃st' ν' X',eF C.base X0 kf ν' X' st' (Am.putA n tm (some d) (.ptr HA.next 0)) (yF HA l none) t/\iA C.base W J (κ st') t Q:=by
 unfold tNew at hw;simp only[kM]at hw;obtain⟨h1,h2,h3,h4⟩:=hw;have hx:=h.ov.nextX;refine⟨_,fun c=>if c=d then HA.next else ν c,fun c=>if c=HA.next then some (.cells (Tr.ofList l) (oB l) none)else X c,?_,h4⟩;refine⟨h.ov.newX _,?_,h.k,by rw[Nx];exact h.kA,?_,?_,?_,?_⟩
 ·intro b y hb;have:X b=some y:=h.le b y hb
  grind
 ·intro j u hj;rw[yK,yaa]
  ·exact h.tms j u hj
  ·rintro⟨e,_⟩;injection e with e;subst e;have hj:st.tm.get d=some u:=hj;rw[hj]at h2;cases h2
 ·intro j p hj;have hj:qK j ((d,d,0)::st.ad)=some p:=hj;rw[Hd]at hj;rw[yK];split at hj
  ·rename_i e;cases hj;rw[yab ⟨by rw[e],by simp_all⟩];show some (zA.ptr HA.next 0)=some (zA.ptr (if d=d then HA.next else ν d) 0);rw[yab rfl]
  ·rename_i e;rw[yaa (fun hh=>e (by simp_all))];have hm:=zak hj;unfold zec at h3;rw[mI,ycb]at h3;have:=h3 _ hm;simp only[rD]at this;have hne:p.1≠d:=by
    simp_all
   show Tm.get tm j=some (zA.ptr (if p.1=d then HA.next else ν p.1) p.2);rw[yaa hne];exact h.ads j p hj
 ·intro c m hc;have hc:(st.lo.set d l).get c=some m:=hc;rw[Tr.get_set]at hc;show X0 (if c=d then HA.next else ν c)=none/\C.base<=(if c=d then HA.next else ν c)/\∃c',(if (if c=d then HA.next else ν c)=HA.next then some (qA.cells (Tr.ofList l) (oB l) none)else X (if c=d then HA.next else ν c))=some (.cells c' m.length none)/\∀j a,m[j]?=some a->c'.get j=some a;split at hc
  ·rename_i e;cases hc;simp only[e,if_true];refine⟨?_,h.ov.base,Tr.ofList l,by rw[pD],fun j a hj=>by grind [Tr.get_ofList]⟩
   cases hq:X0 HA.next with
   | none=>rfl
   | some z=>have:=h.le _ _ hq;simp_all
  ·rename_i e;simp only[yaa e];obtain⟨g1,g2,c',g3,g4⟩:=h.lo c m hc
   grind
 ·intro c c' m m' hc hc' he;have hc:(st.lo.set d l).get c=some m:=hc;have hc':(st.lo.set d l).get c'=some m':=hc';have he:(if c=d then HA.next else ν c)=(if c'=d then HA.next else ν c'):=he;rw[Tr.get_set]at hc hc';split at hc<;>split at hc'
  ·rename_i e1 e2;rw[e1,e2]
  ·rename_i e1 e2;rw[yab e1,yaa e2]at he;obtain⟨_,_,_,g3,_⟩:=h.lo c' m' hc'
   simp_all
  ·rename_i e1 e2;rw[yaa e1,yab e2]at he;obtain⟨_,_,_,g3,_⟩:=h.lo c m hc
   simp_all
  ·rename_i e1 e2;rw[yaa e1,yaa e2]at he;exact h.inj c c' m m' hc hc' he
theorem eF.setLo(h:eF C.base X0 kf ν X st tm HA t){d:Nat}{l l':List zA}{c':Tr zA}(h1:st.lo.get d=some l)(h2:l'.length=l.length)(h3:∀j a,l'[j]?=some a->c'.get j=some a) :
  ∃X',eF C.base X0 kf ν X' ⟨st.tm,st.ad,st.lo.set d l',st.lit⟩ tm (setBlk HA (ν d) (.cells c' l.length none)) t:=by
 obtain⟨g1,g2,c,g3,g4⟩:=h.lo d l h1;refine⟨_,h.ov.setX g3 _,?_,h.k,h.kA,h.tms,h.ads,?_,?_⟩
 ·intro b y hb;show(if b=ν d then _ else X b)=some y;rw[yaa]
  ·exact h.le b y hb
  grind
 ·intro e m he;have he:(st.lo.set d l').get e=some m:=he;rw[Tr.get_set]at he;split at he
  ·simp_all
  ·rename_i e1;obtain⟨k1,k2,k3,k4,k5⟩:=h.lo e m he;refine⟨k1,k2,k3,?_,k5⟩;show(if ν e=ν d then _ else X (ν e))=_;rw[yaa,k4];intro e2;exact e1 (h.inj e d m l he h1 e2)
 ·intro e e' m m' he he' hv;have he:(st.lo.set d l').get e=some m:=he;have he':(st.lo.set d l').get e'=some m':=he';rw[Tr.get_set]at he he';have x1:∃q,st.lo.get e=some q:=by
   grind
  have x2:∃q,st.lo.get e'=some q:=by
   grind
  exact h.inj e e' _ _ x1.choose_spec x2.choose_spec hv
def eF.later(h:eF C.base X0 kf ν X st tm HA t){X':Xt}{HA':wA}{t':Tr qA}(ho:Ov C.base t' X' HA')(hx:oJ X X'):eF C.base X0 kf ν X' st tm HA' t':=
 ⟨ho,h.le.trans hx,h.k,h.kA,h.tms,h.ads,fun d l hd=>by
  obtain⟨g1,g2,c,g3,g4⟩:=h.lo d l hd;exact⟨g1,g2,c,hx _ _ g3,g4⟩,h.inj⟩
theorem Qh{ty:Nat}{v:zA}(h:Ge C ty v=true):bX C ty v:=by
 unfold Ge at h;unfold bX
 cases hy:C.tys.get ty with
 | none=>trivial
 | some y=>
  rw[hy]at h;simp only at h ⊢;unfold Gd;cases hd:y.desc<;>rw[hd]at h<;>simp only at h ⊢
  case bool=>
   have:=oC.1 h;cases v<;>simp only[zA.tag]at this<;>first
    | exact⟨_,rfl⟩
    | (cases this;done)
  case int k=>
   cases v<;>simp only[zA.asIntK]at h<;>first
    | exact⟨_,by rw[sK.1 h]⟩
    | (cases h;done)
  case string=>
   have:=oC.1 h;cases v<;>simp only[zA.tag]at this<;>first
    | exact⟨_,rfl⟩
    | (cases this;done)
theorem Yd{ty:Nat}{v:zA}(h:(!Nat.ble (mH C ty) 2)=true):bX C ty v:=by
 unfold bX;unfold mH at h
 cases hy:C.tys.get ty with
 | none=>trivial
 | some y=>
  rw[hy]at h;simp only at h ⊢;unfold Gd;cases hd:y.desc<;>rw[hd]at h<;>first
   | trivial
   | (simp only[jD.tag]at h;exact absurd h (by decide))
def JV:∀(zs l:List zA) (pre:List zA),mO zs l=true->dK zs (cellsOf (pre++l)) pre.length=l:=by
 intro zs;induction zs with
 | nil=>intro l pre h;cases l with
  | nil=>rfl
  | cons a l=>cases h
 | cons z zs ih=>
  intro l pre h
  cases l with
  | nil=>cases h
  | cons a l=>
   unfold mO at h;rw[ybb]at h;show Ju z (cellsOf (pre++a::l)) pre.length::dK zs (cellsOf (pre++a::l)) (pre.length+1)=a::l;have e2:=ih l (pre++[a]) h.2;rw[ybz]at e2;simp only[List.cons_append,yah,ybg,ybn,ybx]at e2;rw[e2];congr 1;have hg:(pre++a::l)[pre.length]?=some a:=by simp
   have h1:=h.1;cases z<;>simp only[mS]at h1<;>simp only[Ju,cellsOf,sY,Kn,Mz,fY,hg]<;>try (cases h1;done)
   case bool=>
    have:=oC.1 h1;cases a<;>simp only[zA.tag]at this<;>first
     | rfl
     | (cases this;done)
   case int k _=>
    cases a<;>simp only[zA.asIntK]at h1<;>first
     | (rw[sK.1 h1];done)
     | (cases h1;done)
   case str=>
    have:=oC.1 h1;cases a<;>simp only[zA.tag]at this<;>first
     | rfl
     | (cases this;done)
theorem AW{ty:Nat}{v:zA}{K:zA->T}(h:iA C.base W J (Il C ty v K) t Q):bX C ty v/\iA C.base W J (K v) t Q:=by
 unfold Il at h;unfold bX;have agg:∀zs,iA C.base W J (bif Nat.ble (oB zs) 40 then .asG zs v fun X=>K (.agg (dK zs X 0))else K v) t Q->iA C.base W J (K v) t Q:=by
  intro zs h;rw[rD]at h;split at h
  ·have h:oF (yN zs v) fun X=>iA C.base W J (K (.agg (dK zs X 0))) t Q:=h;rw[bW]at h;obtain⟨X,h1,h2⟩:=h;unfold yN at h1;simp only[mA,jB]at h1;obtain⟨l,h3,h4,h5⟩:=h1;cases h5;have:=JV zs l [] h4
   grind [Gz]
  ·exact h
 grind [Gd,iA,bW,Af,jZ,mA,jB,rU,sK,sU]
theorem Mo{g lt:Bool}{v:zA}{K:zA->Bool->T}(h:iA C.base W J (Ed g lt v K) t Q):∃lt',iA C.base W J (K v lt') t Q:=by
 grind [Ed,jE,Af,iA]
theorem Hv(h:eF C.base X0 kf ν X st tm HA t){g:Option (Nat × Bool)}{all:Array Oper}{w:Bool}(hw:gF g all st.tm=some w):gF g all tm=some w:=by
 unfold gF Hx at hw ⊢
 cases g with
 | none=>exact hw
 | some jw=>
  simp only[Hw]at hw ⊢;rw[mA]at hw ⊢;obtain⟨d,h1,hw⟩:=hw;refine⟨d,h1,?_⟩;rw[mA]at hw ⊢;obtain⟨v,h2,hw⟩:=hw;exact⟨v,h.tms _ _ h2,hw⟩
def SK (C:dA)(W J:kI)(X0:Xt)(kf:Nat)(Q:aB)(κ:KT)(m:Tm->wA->iB):Prop:=∀st tm HA t X ν,eF C.base X0 kf ν X st tm HA t->iA C.base W J (κ st) t Q->qC C.base X0 Q (m tm HA)
theorem qC.norm{ty:Nat}{v:zA}{K:zA->iB}(hf:bX C ty v)(h:qC C.base X0 Q (K v)):qC C.base X0 Q (fK C ty v K):=by
 obtain⟨u,t',HA',X',h1,h2⟩:=h;exact⟨u,t',HA',X',jP.2 ⟨hf,h1⟩,h2⟩
theorem qC.ob{α:Type}{x:Option α}{a:α}{K:α->iB}(hx:x=some a)(h:qC C.base X0 Q (K a)):qC C.base X0 Q (Am.ob x K):=by simp_all
theorem BS(hW:mU C A W){e eA:aC}{ae:lM}(he:fR e eA)(ha:Hk ν ae eA)(hst:eF C.base X0 kf ν X st tm HA t){la:List Nat}{all:Array Oper}{o:Oper}{κ:KT}{m:Tm->wA->iB}
  (hκ:∀st' tm' HA' t' X' ν',(la=[]->ν'=ν)->eF C.base X0 kf ν' X' st' tm' HA' t'->(∃v,tm'=putA n tm o.dst v)->iA C.base W J (κ st') t' Q->qC C.base X0 Q (m tm' HA'))
  (h:iA C.base W J (tH C la o.dst o.op e ae st.lo (kop C all n o e st κ) (klo C n o st κ)) t Q) :
  qC C.base X0 Q (lG (oD C A) ((sG o.op).f C eA HA) HA fun v H'=>fK C o.type v fun v=>m (putA n tm o.dst v) H'):=by
 refine tH_ok hW he ha hst.ov hst.lo h ?_ ?_ ?_ ?_ ?_
 ·intro v t' HA' X' ho hx hk;have hk:iA C.base W J (Il C o.type v fun v=>Ed (Pu all.toList o.dst all.toList) (Pc o.op e st.lit) v fun v lt=>uP n o.dst v lt st κ) t' Q:=hk;obtain⟨h1,h2⟩:=AW hk;obtain⟨lt',h3⟩:=Mo h2;obtain⟨st',h4,h5⟩:=(hst.later ho hx).put h3
  grind [qC.norm]
 ·intro v t' HA' X' ho hx hk;obtain⟨h1,h2⟩:=kM.1 hk;obtain⟨lt',h3⟩:=Mo h2;obtain⟨st',h4,h5⟩:=(hst.later ho hx).put h3
  grind [qC.norm,Qh]
 ·intro d off hk;obtain⟨h1,h2⟩:=kM.1 hk;obtain⟨st',h4,h5⟩:=hst.putA h2
  grind [qC.norm,Yd]
 ·intro d l hd hk;obtain⟨h1,h2⟩:=kM.1 hk;obtain⟨st',ν',X',h4,h5⟩:=hst.new h2;have e:=VI hd;rw[e];refine qC.norm (Yd h1) (hκ _ _ _ _ _ _ (fun hl=>?_) h4 ⟨_,by rw[e]⟩ h5);rw[hl,e]at hd;cases hd
 ·intro d l l' c' h1 h2 h3 hk;obtain⟨h4,h5⟩:=kM.1 hk;obtain⟨X',h6⟩:=hst.setLo h1 h2 h3;obtain⟨st',h7,h8⟩:=h6.put h5
  grind [qC.norm,Qh]
def Ou(h:eF C.base X0 kf ν X st tm HA t):fR (.now st.tm) (.now tm)/\Hk ν (.now st.ad) (.now tm):=⟨h.tms,h.ads⟩
def zf6(hW:mU C A W){la:List Nat}{all:Array Oper}{κ:KT}{m:Tm->wA->iB}(hκ:SK C W J X0 kf Q κ m):∀(l:List Oper),SK C W J X0 kf Q (tops C la all n κ l) (pN C (oD C A) all n m l):=by
 intro l;induction l with
 | nil=>exact hκ
 | cons o l ih=>
  intro st tm HA t X ν hst h;have h:iA C.base W J (uC (gF o.guard all st.tm) fun w=>Bool.rec (motive:=fun _=>T) (uP n o.dst xE false st (tops C la all n κ l))
   (tH C la o.dst o.op (.now st.tm) (.now st.ad) st.lo (kop C all n o (.now st.tm) st (tops C la all n κ l)) (klo C n o st (tops C la all n κ l))) w) t Q:=h
  rw[jE]at h;obtain⟨w,h1,h2⟩:=h;rw[Bz];refine qC.ob (Hv hst h1) ?_
  cases w with
  | false=>
   rw[yaa (by simp)];obtain⟨st',h3,h4⟩:=hst.put h2;exact ih _ _ _ _ _ _ h3 h4
  | true=>
   rw[yab rfl];exact BS hW (Ou hst).1 (Ou hst).2 hst (fun st' tm' HA' t' X' ν' _ hs _ hw=>ih _ _ _ _ _ _ hs hw) h2
end
end
end Go.Am
