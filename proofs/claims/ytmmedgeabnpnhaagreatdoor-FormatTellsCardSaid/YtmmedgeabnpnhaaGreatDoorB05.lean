/- Code as a tree: what a piece of code asks of memory and of its calls, with the local blocks of a function kept out of memory. -/
import Derived.Test.YtmmedgeabnpnhaaGreatDoorB04
set_option linter.all false
noncomputable section
namespace Go.Am
open Go Go.RowKit
section
def dA(C:fA)(t:Nat)(H:wA)(v:zA):Option zA:=ob v.asPtr fun p=>ob (C.tys.get t) fun ty=>ob (oD H p.1) fun c=>xR ty c.1 p.2
def kK(C:fA)(s d:Nat)(H:wA)(a:zA):Option zA:=ob (C.tys.get s) fun s=>ob (C.tys.get d) fun d=>tQ C s d a H
def zE(C:fA)(t:Nat)(H:wA)(a:zA)(l h:Option zA):Option zA:=ob (C.tys.get t) fun ty=>bL C H ty a l h
def Iu(C:fA)(s f:Nat):Option Nat:=ob (C.tys.get s) fun ty=>ob ty.desc.asStruct fun fs=>ob (uD fs f) fun fd=>mB (!Nat.beq fd.2.2 0) (some fd.1)
def dC(C:fA)(s f:Nat)(v:zA):Option zA:=ob (Iu C s f) fun k=>ob v.asPtr fun p=>some (.ptr p.1 (p.2+k))
def rB(C:fA)(t:Nat)(v i:zA):Option zA:=
 ob (C.tys.get t) fun ty=>ob i.asNat fun i=>
  match v.asSlice with
  | some s=>ob ty.desc.asSlice fun el=>ob (C.tys.get el) fun et=>mB (Nat.blt i s.2.2.1) (some (.ptr s.1 (s.2.1+i*et.size)))
  | none=>ob v.asPtr fun p=>ob ty.desc.asArr fun a=>ob (C.tys.get a.2) fun et=>mB (Nat.blt i a.1) (some (.ptr p.1 (p.2+i*et.size)))
def BS(C:fA)(t i:Nat):Option Nat:=ob (C.tys.get t) fun ty=>ob ty.desc.asArr fun a=>ob (C.tys.get a.2) fun et=>mB (Nat.blt i a.1) (some (i*et.size))
def fR(C:fA)(t:Nat)(v i:zA):Option zA:=
 ob (C.tys.get t) fun ty=>ob i.asNat fun i=>
  match v.asStr with
  | some s=>mB ty.desc.isString (ob (uD s i) fun b=>some (.int .u8 (.ofNat b)))
  | none=>ob v.asAgg fun l=>ob ty.desc.asArr fun a=>ob (C.tys.get a.2) fun et=>mB (Nat.blt i a.1) (lO C a.2 l (i*et.size))
def eJ(i:Nat)(v:zA):Option zA:=ob v.asTup fun l=>uD l i
def iR (C:fA)(t:Nat)(H:wA)(v:zA):Option zA:=ob (C.tys.get t) fun ty=>ob (rS H ty v) fun n=>some (.int .i64 (.ofNat n))
def aA(v:zA):Option zA:=
 match v.asSlice with
 | some s=>some (.int .i64 (.ofNat s.2.2.1))
 | none=>mB (Nat.beq v.tag 5) (some (.int .i64 (.ofNat 0)))
def Eo (v:zA):Option zA:=mB (Nat.beq v.tag 4||Nat.beq v.tag 9) (some v)
def Sw(C:fA)(u:Nat)(ok:Bool)(v:zA):Option zA:=
 ob (C.tys.get u) fun ty=>mB (Nat.blt ty.desc.tag 9) (
  match v.asIface with
  | some p=>bif Nat.beq p.1 u then some (bif ok then .tup [p.2,.bool true]else p.2)else mB ok (some (.tup [xV ty,.bool false]))
  | none=>mB (Nat.beq v.tag 12&&ok) (some (.tup [xV ty,.bool false])))
def uV(C:fA)(t:Nat)(H:wA)(m k:zA)(ok:Bool):Option zA:=
 ob (C.tys.get t) fun ty=>ob ty.desc.asMap fun ke=>ob (C.tys.get ke.1) fun kty=>mB (nS C kty) (ob (C.tys.get ke.2) fun ety=>
  ob (bT H m) fun es=>mB (wQ C kty k) (ob (zK k es) fun r=>
   match r with
   | some v=>some (bif ok then .tup [v,.bool true]else v)
   | none=>some (bif ok then .tup [xV ety,.bool false]else xV ety)))
def eR(C:fA)(t:Nat)(H:wA):Option (zA × wA):=ob (C.tys.get t) fun ty=>some (.ptr H.next 0,uF H ty.zero none)
def tO (v:zA)(H:wA):Option (zA × wA):=some (.ptr H.next 0,uF H v.cells none)
def Cc(C:fA)(t:Nat)(H:wA):Option (zA × wA):=ob (C.tys.get t) fun ty=>some (.ptr H.next 0,uF H ty.zero (vK C t))
def Es(C:fA)(t:Nat)(v:zA)(H:wA):Option (zA × wA):=some (.ptr H.next 0,uF H v.cells (vK C t))
def jE(C:fA)(t len:Nat)(ps:List (Nat × zA))(H:wA):Option (zA × wA):=
 ob (C.tys.get t) fun ty=>ob ty.desc.asSlice fun el=>ob (C.tys.get el) fun et=>
  mB (Nat.blt (len*et.size) 1000000&&Nat.beq (kB et.zero) et.size) (ob (iN (fun i=>some (i*et.size,et.size)) ps (oJ et.zero len)) fun l=>some (.slice H.next 0 len len,uF H l none))
def pE(C:fA)(t:Nat)(a v:zA)(H:wA):Option (zA × wA):=ob (C.tys.get t) fun ty=>ob a.asPtr fun p=>mB (Nat.beq (kB v.cells) ty.size) (ob (zJ C H p.1 p.2 v.cells) fun H'=>some (vE,H'))
def Mt(H:wA):Option (zA × wA):=some (.map H.next,newBlk H (.map []))
def fQ(C:fA)(t:Nat)(m k v:zA)(H:wA):Option (zA × wA):=
 ob (C.tys.get t) fun ty=>ob ty.desc.asMap fun ke=>ob (C.tys.get ke.1) fun kty=>mB (nS C kty)
  (ob m.asMap fun b=>mB (!Nat.blt b C.base) (ob (yK H b) fun l=>mB (wQ C kty k) (ob (wM k v l) fun l'=>some (vE,setBlk H b (.map l')))))
def fJ(C:fA)(t:Nat)(l c:zA)(H:wA):Option (zA × wA):=
 ob (C.tys.get t) fun ty=>ob ty.desc.asSlice fun el=>ob (C.tys.get el) fun et=>ob l.asNat fun l=>ob c.asNat fun c=>
  mB (Nat.ble l c&&Nat.blt c 1000000&&Nat.blt (c*et.bytes) 1000000000&&Nat.beq (kB et.zero) et.size) (some (.slice H.next 0 l c,uF H (oJ et.zero c) none))
def Sv(C:fA)(s d:Nat)(v:zA)(H:wA):Option (zA × wA):=
 ob (C.tys.get s) fun _=>ob (C.tys.get d) fun ty=>ob ty.desc.asSlice fun el=>ob (C.tys.get el) fun et=>ob et.desc.asInt fun k=>mB (lN k .u8) (ob v.asStr fun l=>
  some (.slice H.next 0 (kB l) (kB l),uF H (nW l) (some (.ty el))))
def vF(C:fA)(t u:Nat)(a b:zA)(H:wA):Option (zA × wA):=ob (C.tys.get t) fun ty=>ob (C.tys.get u) fun uty=>mB (!Nat.beq uty.desc.tag 1) (iW C H ty a b)
def vNext(v:zA)(H:wA):Option (zA × wA):=ob v.asPtr fun p=>mB (Nat.beq p.2 0) (ob (ob (H.t.get p.1) sA.asIter) fun x=>
 match uD x.1 x.2 with
 | some c=>mB (Nat.blt c 128) (some (.tup [.bool true,.int .i64 (.ofNat x.2),.int .i32 (.ofNat c)],setBlk H p.1 (.siter x.1 (x.2+1))))
 | none=>some (.tup [.bool false],H))
structure kG where
 b:Nat->Bool
 i:Nat->Int
 s:Nat->List Nat
 v:Nat->zA
inductive T where
 | ret (v:zA)
 | fail
 | ite (b:Bool) (x y:T)
 | opt (x:Option zA) (K:zA->T)
 | light (x:Tr sA->Option zA) (K:zA->T)
 | heavy (x:wA->Option (zA × wA)) (K:zA->T)
 | call (f:Nat) (args:List zA) (K:zA->T)
 | callv (f:zA) (args:List zA) (K:zA->T)
 | asI (k:IntKind) (v:zA) (K:Int->T)
 | asB (v:zA) (K:Bool->T)
 | asS (v:zA) (K:List Nat->T)
 | asG (zs:List zA) (v:zA) (K:kG->T)
 | jump (i:Nat) (vals:List zA)
 | range (np:Nat->Bool) (f:zA) (i m:Nat) (vals:List zA) (K R:T)
def yo:Nat:=1099511627776
def Kl(z:zA)(X:kG)(j:Nat):zA:=
 match z with
 | .bool _=>.bool (X.b j)
 | .int k _=>.int k (X.i j)
 | .str _=>.str (X.s j)
 | _=>X.v j
def wJ(zs:List zA)(X:kG):Nat->List zA:=
 List.rec (motive:=fun _=>Nat->List zA) (fun _=>[]) (fun z _ g j=>Kl z X j::g (j+1)) zs
def xZ(l:List zA)(j:Nat):Bool:=match l[j]? with | some (.bool b)=>b | _=>false
def Lc(l:List zA)(j:Nat):Int:=match l[j]? with | some (.int _ n)=>n | _=>0
def Nn(l:List zA)(j:Nat):List Nat:=match l[j]? with | some (.str s)=>s | _=>[]
def gZ(l:List zA)(j:Nat):zA:=match l[j]? with | some v=>v | _=>.nilptr
def cellsOf(l:List zA):kG:=⟨xZ l,Lc l,Nn l,gZ l⟩
def fU (z a:zA):Bool:=
 match z with
 | .bool _=>Nat.beq a.tag 0
 | .int k _=>match a.asIntK with | some p=>lN p.1 k | none=>false
 | .str _=>Nat.beq a.tag 2
 | .nilptr=>Nat.beq a.tag 3||Nat.beq a.tag 4
 | .nilslice=>Nat.beq a.tag 5||Nat.beq a.tag 6
 | .nilmap=>Nat.beq a.tag 7||Nat.beq a.tag 8
 | .nilfunc=>Nat.beq a.tag 10||Nat.beq a.tag 9
 | .niliface=>Nat.beq a.tag 12||Nat.beq a.tag 11
 | _=>false
def cO:List zA->List zA->Bool
 | [],[]=>true
 | z::zs,a::l=>fU z a&&cO zs l
 | _,_=>false
structure lG where
 tm:Tm
 ad:List (Nat × Nat × Nat)
 lo:Tr (List zA)
 lit:List Nat
abbrev KT:=lG->T
structure KtT where
 norm:KT
 exit:Nat->KT
 ret:KT
def tC {α:Type}(x:Option α)(K:α->T):T:=Option.rec (motive:=fun _=>T) .fail K x
def mJ (b:Bool)(K:T):T:=Bool.rec (motive:=fun _=>T) .fail K b
def qK(i:Nat)(l:List (Nat × Nat × Nat)):Option (Nat × Nat):=
 List.rec (motive:=fun _=>Option (Nat × Nat)) none (fun a _ g=>Bool.rec (motive:=fun _=>Option (Nat × Nat)) g (some a.2) (Nat.beq i a.1)) l
inductive nM where
 | now (ad:List (Nat × Nat × Nat))
 | mixed (ad old:List (Nat × Nat × Nat)) (olds names:List Nat)
def tAd (e:nM)(t:Nat):Option (Nat × Nat):=
 match e with
 | .now ad=>qK t ad
 | .mixed ad old olds names=>bif sI t names then qK t (bif sI t olds then old else ad)else none
def xAd (e:nM)(x:Operand):Option (Nat × Nat):=
 match x with
 | .tmp t=>tAd e t
 | _=>none
def H0A:wA:=⟨0,.leaf⟩
def oH (C:fA)(t:Nat):Nat:=
 match C.tys.get t with
 | some ty=>ty.desc.tag
 | none=>10
def Yz(x:Operand):Bool:=
 match x with
 | .const _=>true
 | _=>false
def MT(x:Operand):Bool:=
 match x with
 | .const (.int _ n) => !zB n 0
 | _=>false
def binDir(C:fA)(op:BinOp)(t:Nat)(y:Operand):Bool:=
 match op with
 | .add=>Nat.beq (oH C t) 1
 | .sub=>true
 | .mul=>true
 | .quo=>MT y
 | .rem=>MT y
 | .shl=>Yz y
 | .shr=>Yz y
 | .eql=>Nat.ble (oH C t) 2
 | .neq=>Nat.ble (oH C t) 2
 | .lss=>Nat.ble (oH C t) 2
 | .leq=>Nat.ble (oH C t) 2
 | .gtr=>Nat.ble (oH C t) 2
 | .geq=>Nat.ble (oH C t) 2
 | _=>false
structure sL where
 K:zA->T
 Kd:zA->T
 KA:Nat->Nat->T
def jP (C:fA)(op:Op)(e:xD)(k:sL):T:=tC ((oF op).f C e H0A) k.Kd
def Ng(C:fA)(op:Op)(x:Operand)(e:xD)(ae:nM)(k:sL):T:=
 match xAd ae x with
 | some p=>k.KA p.1 p.2
 | none=>jP C op e k
def tLoad(C:fA)(t:Nat)(a:Operand)(e:xD)(ae:nM)(lo:Tr (List zA))(k:sL):T:=
 match xAd ae a with
 | some p=>tC (lo.get p.1) fun l=>tC (C.tys.get t) fun ty=>mJ (Nat.ble (p.2+ty.size) (kB l)) (tC (lO C t l p.2) k.Kd)
 | none=>tC (ev a e) fun v=>.light (fun m=>dA C t ⟨0,m⟩ v) k.K
def CR(C:fA)(s:Nat)(x:Operand)(f:Nat)(e:xD)(ae:nM)(k:sL):T:=
 match xAd ae x with
 | some p=>tC (Iu C s f) fun o=>k.KA p.1 (p.2+o)
 | none=>tC (ev x e) fun v=>.opt (dC C s f v) k.K
def CP(C:fA)(t:Nat)(x i:Operand)(e:xD)(ae:nM)(k:sL):T:=
 match xAd ae x with
 | some p=>tC (ev i e) fun i=>tC i.asNat fun i=>tC (BS C t i) fun o=>k.KA p.1 (p.2+o)
 | none=>tC (ev x e) fun v=>tC (ev i e) fun i=>.opt (rB C t v i) k.K
def tNil (x:Operand)(e:xD)(ae:nM)(k:sL):T:=
 match xAd ae x with
 | some p=>k.KA p.1 p.2
 | none=>tC (ev x e) fun v=>.opt (Eo v) k.K
def tLen (C:fA)(c:Call)(e:xD)(k:sL):T:=
 tC (uD c.argTypes.toList 0) fun t=>tC (uD c.args.toList 0) fun x=>tC (ev x e) fun v=>
  bif Nat.beq (oH C t) 4 then .opt (aA v) k.K else bif Nat.beq (oH C t) 6 then .light (fun m=>iR C t ⟨0,m⟩ v) k.K else tC (iR C t H0A v) k.Kd
def tBin (C:fA)(op:BinOp)(t:Nat)(x y:Operand)(u:Nat)(e:xD)(k:sL):T:=
 bif binDir C op t y then jP C (.binOp op t x y u) e k else tC (ev x e) fun a=>tC (ev y e) fun b=>.opt ((zN op).f C t x y a b) k.K
def zhb(C:fA)(s d:Nat)(x:Operand)(e:xD)(k:sL):T:=
 bif Nat.beq (oH C d) 2 then(bif Nat.beq (oH C s) 2 then jP C (.convert s d x) e k else tC (ev x e) fun v=>.light (fun m=>kK C s d ⟨0,m⟩ v) k.K)else bif Nat.beq (oH C d) 1 then jP C (.convert s d x) e k else .fail
def zeg(C:fA)(t:Nat)(x:Operand)(lo hi:Option Operand)(e:xD)(k:sL):T:=
 tC (ev x e) fun a=>tC (evo lo e) fun l=>tC (evo hi e) fun h=>
  bif Nat.beq (oH C t) 2 then .opt (zE C t H0A a l h) k.K else .light (fun m=>zE C t ⟨0,m⟩ a l h) k.K
def Je(C:fA)(c:Call)(e:xD)(k:sL):Builtin->T
 | .len=>tLen C c e k
 | .max=>jP C (.call c) e k
 | .min=>jP C (.call c) e k
 | _=>.fail
def He(ty:eC)(v:zA):List zA:=bif ty.desc.isAgg then v.cells else [v]
def zjh(cells:List zA)(off size:Nat)(vc:List zA):Option (List zA):=
 mB (Nat.beq (kB vc) size&&Nat.ble (off+kB vc) (kB cells)) (some (iD (wY cells off) (iD vc (xQ cells (off+kB vc)))))
def Xd(C:fA)(tyAt:Nat->Option Nat):List (Nat × zA)->Option (List (Nat × zA × List zA) × List zA):=
 List.rec (motive:=fun _=>Option (List (Nat × zA × List zA) × List zA)) (some ([],[]))
  (fun p _ g=>ob (tyAt p.1) fun t=>ob (C.tys.get t) fun ty=>ob g fun r=>some (bif ty.desc.isAgg then((p.1,p.2,p.2.cells)::r.1,r.2)else((p.1,p.2,[p.2])::r.1,p.2::r.2)))
def Rd(place:Nat->Option (Nat × Nat)):List (Nat × zA × List zA)->List zA->Option (List zA):=
 List.rec (motive:=fun _=>List zA->Option (List zA)) (fun cells=>some cells) (fun p _ g cells=>ob (place p.1) fun q=>ob (zjh cells q.1 q.2 p.2.2) fun cells=>g cells)
def tyAtS(ty:eC)(i:Nat):Option Nat:=
 match ty.desc.asStruct with
 | some fs=>ob (uD fs i) fun x=>some x.2.1
 | none=>ob ty.desc.asArr fun a=>some a.2
def Fy(C:fA)(ty:eC)(i:Nat):Option (Nat × Nat):=
 match ty.desc.asStruct with
 | some fs=>ob (uD fs i) fun x=>some (x.1,x.2.2)
 | none=>ob ty.desc.asArr fun a=>ob (C.tys.get a.2) fun et=>some (i*et.size,et.size)
def NP(C:fA)(ty:eC):Bool:=
 match ty.desc.asStruct with
 | some _=>true
 | none=>match ty.desc.asArr with
  | some a=>(match C.tys.get a.2 with | some _=>true | none=>false)
  | none=>false
def zei(C:fA)(t:Nat)(ps:Array (Nat × Operand))(e:xD)(k:sL):T:=
 tC (C.tys.get t) fun ty=>mJ (NP C ty) <| tC (evp ps.toList e) fun vs=>tC (Xd C (tyAtS ty) vs) fun q=>tC (Rd (Fy C ty) q.1 ty.zero) fun l=>.ite (nE zA.one q.2) (k.Kd (.agg l)) .fail
def tL (C:fA)(op:Op)(e:xD)(ae:nM)(lo:Tr (List zA))(k:sL):T:=
 match op with
 | .move x=>Ng C (.move x) x e ae k
 | .assign x=>Ng C (.assign x) x e ae k
 | .load t a=>tLoad C t a e ae lo k
 | .fieldAddr s x f=>CR C s x f e ae k
 | .indexAddr t x i=>CP C t x i e ae k
 | .nilCheck x=>tNil x e ae k
 | .binOp op t x y u=>tBin C op t x y u e k
 | .convert s d x=>zhb C s d x e k
 | .slice t x lo hi none=>zeg C t x lo hi e k
 | .index t x i=>bif Yz i&&Nat.beq (oH C t) 5 then jP C (.index t x i) e k else tC (ev x e) fun v=>tC (ev i e) fun i=>.opt (fR C t v i) k.K
 | .extract t i=>tC (ev t e) fun v=>.opt (eJ i v) k.K
 | .typeAssert x _ u ok=>tC (ev x e) fun v=>.opt (Sw C u ok v) k.K
 | .lookup t x i ok=>tC (ev x e) fun m=>tC (ev i e) fun key=>.light (fun h=>uV C t ⟨0,h⟩ m key ok) k.K
 | .call c=>match c.callee with
  | .builtin b=>Je C c e k b
  | _=>.fail
 | .pick c a b=>jP C (.pick c a b) e k
 | .unOp o t x=>(match o with
  | .xor=>tC (ev x e) fun v=>.opt (Cd v) k.K
  | o=>jP C (.unOp o t x) e k)
 | .makeInterface t x=>jP C (.makeInterface t x) e k
 | .makeFunc fn a b=>jP C (.makeFunc fn a b) e k
 | .field t x f=>jP C (.field t x f) e k
 | .build t ps=>zei C t ps e k
 | _=>.fail
def laOf (la:List Nat)(dst:Option Nat):Option Nat:=
 match dst with
 | some d=>bif sI d la then some d else none
 | none=>none
structure KLo where
 new:Nat->List zA->T
 set:Nat->List zA->T
def zeh(f:Operand)(args:Array Operand)(e:xD)(k:sL):T:=
 match f with
 | .func g=>mJ (Nat.blt g yo) (tC (uQ args.toList e) fun aq=>.call g aq k.K)
 | f=>tC (ev f e) fun fv=>tC (uQ args.toList e) fun aq=>.callv fv aq k.K
def two' (c:Call)(e:xD)(K:zA->zA->T):T:=tC (two c e) fun p=>K p.1 p.2
def CQ(C:fA)(c:Call)(e:xD)(k:sL):Builtin->T
 | .append=>tC (uD c.argTypes.toList 0) fun t=>tC (uD c.argTypes.toList 1) fun u=>two' c e fun a b=>.heavy (vF C t u a b) k.K
 | b=>Je C c e k b
def zef(C:fA)(t:Nat)(a x:Operand)(e:xD)(ae:nM)(lo:Tr (List zA))(k:sL)(kl:KLo):T:=
 match xAd ae a with
 | some p=>tC (ev x e) fun v=>tC (C.tys.get t) fun ty=>tC (lo.get p.1) fun l=>tC (zjh l p.2 ty.size (He ty v)) fun l'=>.ite (nE zA.one (He ty v)) (kl.set p.1 l') .fail
 | none=>tC (ev a e) fun a=>tC (ev x e) fun v=>.heavy (pE C t a v) k.Kd
def tH (C:fA)(la:List Nat)(dst:Option Nat)(op:Op)(e:xD)(ae:nM)(lo:Tr (List zA))(k:sL)(kl:KLo):T:=
 match op with
 | .box t x=>bif sH (vK C t)then tC (ev x e) fun v=>(match laOf la dst with
  | some d=>tC (C.tys.get t) fun ty=>bif ty.desc.isAgg then kl.new d v.cells else .ite (zA.one v) (kl.new d [v]) .fail
  | none=>.heavy (tO v) k.K)else tC (ev x e) fun v=>.heavy (Es C t v) k.K
 | .alloc t=>bif sH (vK C t)then(match laOf la dst with
  | some d=>tC (C.tys.get t) fun ty=>kl.new d ty.zero
  | none=>.heavy (eR C t) k.K)else .heavy (Cc C t) k.K
 | .store t a x=>zef C t a x e ae lo k kl
 | .buildSlice t len ps=>tC (evp ps.toList e) fun ps=>.heavy (jE C t len ps) k.K
 | .makeMap _ none=>.heavy Mt k.K
 | .insert t m key x=>tC (ev m e) fun m=>tC (ev key e) fun key=>tC (ev x e) fun v=>.heavy (fQ C t m key v) k.Kd
 | .mapUpdate t m key x=>tC (ev m e) fun m=>tC (ev key e) fun key=>tC (ev x e) fun v=>.heavy (fQ C t m key v) k.Kd
 | .makeSlice t l c=>tC (ev l e) fun l=>tC (ev c e) fun c=>.heavy (fJ C t l c) k.K
 | .convert s d x=>bif Nat.beq (oH C d) 4 then tC (ev x e) fun v=>.heavy (Sv C s d v) k.K else zhb C s d x e k
 | .call c=>match c.callee with
  | .value f=>zeh f c.args e k
  | .builtin b=>CQ C c e k b
  | _=>.fail
 | op=>tL C op e ae lo k
def rmNat(i:Nat)(l:List Nat):List Nat:=List.rec (motive:=fun _=>List Nat) [] (fun j _ g=>bif Nat.beq i j then g else j::g) l
def kP (n:Nat)(dst:Option Nat)(v:zA)(lt:Bool)(st:lG)(κ:KT):T:=
 match dst with
 | none=>κ st
 | some d=>bif Nat.blt d n then mJ (sH (qK d st.ad)) (κ ⟨st.tm.set d v,st.ad,st.lo,bif lt then d::rmNat d st.lit else rmNat d st.lit⟩)else κ st
def zg8(n:Nat)(dst:Option Nat)(d off:Nat)(st:lG)(κ:KT):T:=
 tC dst fun i=>mJ (Nat.blt i n) (mJ (sH (st.tm.get i)) (κ ⟨st.tm,(i,d,off)::st.ad,st.lo,st.lit⟩))
def ze8(d:Nat)(ad:List (Nat × Nat × Nat)):Bool:=nE (fun a=>bif Nat.beq a.2.1 d then Nat.beq a.1 d else true) ad
def tNew (n:Nat)(d:Nat)(l:List zA)(st:lG)(κ:KT):T:=
 mJ (Nat.blt d n) (mJ (sH (st.tm.get d)) (mJ (ze8 d st.ad) (κ ⟨st.tm,(d,d,0)::st.ad,st.lo.set d l,st.lit⟩)))
def fitB (C:fA)(t:Nat)(v:zA):Bool:=
 match C.tys.get t with
 | some ty=>(match ty.desc with
  | .bool=>Nat.beq v.tag 0
  | .int k=>(match v.asIntK with | some p=>lN p.1 k | none=>false)
  | .string=>Nat.beq v.tag 2
  | _=>true)
 | none=>true
def Jd(C:fA)(t:Nat)(v:zA)(K:zA->T):T:=
 match C.tys.get t with
 | some ty=>(match ty.desc with
  | .bool=>.asB v fun b=>K (.bool b)
  | .int k=>.asI k v fun n=>K (.int k n)
  | .string=>.asS v fun s=>K (.str s)
  | .struct _=>bif Nat.ble (kB ty.zero) 40 then .asG ty.zero v fun X=>K (.agg (wJ ty.zero X 0))else K v
  | .arr _ _=>bif Nat.ble (kB ty.zero) 40 then .asG ty.zero v fun X=>K (.agg (wJ ty.zero X 0))else K v
  | _=>K v)
 | none=>K v
def Ag (x:Operand)(lit:List Nat):Bool:=
 match x with
 | .tmp t=>lit.contains t
 | .const _=>true
 | _=>false
def Pr(op:Op)(e:xD)(lit:List Nat):Bool:=
 match op with
 | .move x=>Ag x lit
 | .assign x=>Ag x lit
 | .unOp _ _ x=>Ag x lit
 | .pick c a b=>bif Ag c lit then(match ob (ev c e) zA.asBool with
  | some w=>bif w then Ag a lit else Ag b lit
  | none=>false)else false
 | _=>false
def Qi(all:List Oper)(dst:Option Nat)(l:List Oper):Bool:=
 match dst with
 | none=>false
 | some d => !nE (fun o=>match o.guard with
  | some g=>(match ob (uD all g.1) fun p=>p.dst with | some i => !Nat.beq i d | none=>true)
  | none=>true) l
def Fa(g lt:Bool)(v:zA)(K:zA->Bool->T):T:=
 bif g then(bif lt then K v true else tC v.asBool fun b=>.ite b (K (.bool true) true) (K (.bool false) true))else K v lt
def kop (C:fA)(all:Array Oper)(n:Nat)(o:Oper)(e:xD)(st:lG)(κ:KT):sL:=
 ⟨fun v=>Jd C o.type v fun v=>Fa (Qi all.toList o.dst all.toList) (Pr o.op e st.lit) v fun v lt=>kP n o.dst v lt st κ,
  fun v=>mJ (fitB C o.type v) (Fa (Qi all.toList o.dst all.toList) (Pr o.op e st.lit) v fun v lt=>kP n o.dst v lt st κ),
  fun d off=>mJ (!Nat.ble (oH C o.type) 2) (zg8 n o.dst d off st κ)⟩
def klo (C:fA)(n:Nat)(o:Oper)(st:lG)(κ:KT):KLo:=
 ⟨fun d l=>mJ (!Nat.ble (oH C o.type) 2) (tNew n d l st κ),
  fun d l=>mJ (fitB C o.type vE) (kP n o.dst vE false ⟨st.tm,st.ad,st.lo.set d l,st.lit⟩ κ)⟩
def xD.adCut(k:Nat)(l:List (Nat × Nat × Nat)):List (Nat × Nat × Nat):=l.filter fun a=>Nat.blt a.1 k
def lG.cut(st:lG):lG:=⟨st.tm.cut,xD.adCut st.tm.k st.ad,st.lo,st.lit⟩
def tops (C:fA)(la:List Nat)(all:Array Oper)(n:Nat)(κ:KT)(l:List Oper):KT:=
 List.rec (motive:=fun _=>KT) κ
  (fun o _ g st=>tC (iF o.guard all st.tm) fun w=>Bool.rec (motive:=fun _=>T) (kP n o.dst vE false st g)
   (tH C la o.dst o.op (.now st.tm) (.now st.ad) st.lo (kop C all n o (.now st.tm) st g) (klo C n o st g)) w) l
def iO (st old:lG)(olds:List Nat)(op:Op):xD:=.mixed st.tm old.tm olds (vH op)
def xY (st old:lG)(olds:List Nat)(op:Op):nM:=.mixed st.ad old.ad olds (vH op)
def eQ(C:fA)(all:Array Oper)(n:Nat)(old:lG)(olds:List (Nat × List Nat))(κ:KT)(l:List Nat):KT:=
 List.rec (motive:=fun _=>KT) κ
  (fun i _ g st=>tC (uD all.toList i) fun o=>tC (iF o.guard all st.tm) fun w=>Bool.rec (motive:=fun _=>T) (kP n o.dst vE false st g)
   (tL C o.op (iO st old (xF i olds) o.op) (xY st old (xF i olds) o.op) st.lo (kop C all n o (iO st old (xF i olds) o.op) st g)) w) l
def rV(C:fA)(all:Array Oper)(old:lG)(olds:List (Nat × List Nat))(st:lG)(k:T)(l:List Nat):T:=
 List.rec (motive:=fun _=>T) k
  (fun i _ g=>tC (uD all.toList i) fun o=>tC o.dst fun d=>tC (iF o.guard all st.tm) fun w=>Bool.rec (motive:=fun _=>T) g
   (tC (st.tm.get d) fun u=>mJ (fitB C o.type u) (tL C o.op (iO st old (xF i olds) o.op) (xY st old (xF i olds) o.op) st.lo ⟨fun v=>.ite (same 10 v u) g .fail,fun v=>.ite (same 10 v u) g .fail,fun _ _=>.fail⟩)) w) l
def Er(C:fA)(es:List rL)(H:wA):Option (zA × wA):=ob (eY C es H) fun H'=>some (vE,H')
def tEff (op:Op)(e:xD)(ae:nM):Option rL:=
 match op with
 | .store t a x=>(match xAd ae a with
  | some _=>none
  | none=>aY (.store t a x) e)
 | op=>aY op e
def Nh(all:Array Oper)(old:lG)(olds:List (Nat × List Nat))(st:lG)(l:List Nat):Option (List rL):=
 iG (fun i=>ob (uD all.toList i) fun o=>ob (iF o.guard all st.tm) fun w=>mB w (tEff o.op (iO st old (xF i olds) o.op) (xY st old (xF i olds) o.op))) l
def fZ(C:fA)(all:Array Oper)(n:Nat)(old:lG)(olds:List (Nat × List Nat))(κ:KT)(l:List zF):KT:=
 List.rec (motive:=fun _=>KT) κ
  (fun s _ g st=>Bool.rec (motive:=fun _=>T) (tC (uD all.toList (lL all s.heavy)) fun o=>tC (vT C all s.heavy o st.tm) fun w=>
   (fun cont:KT=>Bool.rec (motive:=fun _=>T) (kP n o.dst vE false st cont)
    (tH C [] o.dst o.op (iO st old (xF (lL all s.heavy) olds) o.op) (xY st old (xF (lL all s.heavy) olds) o.op) st.lo (kop C all n o (iO st old (xF (lL all s.heavy) olds) o.op) st cont) (klo C n o st cont)) w)
   (fun st'=>rV C all old olds st' (eQ C all n old olds g s.lights st') s.again))
   (mJ (bV C all) (tC (Nh all old olds st s.again) fun es=>.heavy (Er C es) fun _=>eQ C all n old olds g s.lights st)) (lS all s)) l
def CE(C:fA)(la:List Nat)(fn n:Nat)(κ:KT)(id:Nat)(all:Array Oper)(draw:Bool):KT:=
 Bool.rec (motive:=fun _=>KT) (fun st=>tops C la all n κ all.toList st.cut)
  (fun st=>tC (ob (C.plans.get fn) fun t=>t.get id) fun p=>mJ (tS all p) (eQ C all n st.cut p.olds (fZ C all n st.cut p.olds κ p.stages) p.first st.cut)) draw
def Ek(st:lG)(ll:List (Nat × Nat)):Option (List zA):=
 List.rec (motive:=fun _=>Option (List zA)) (some []) (fun p _ g=>ob (qK p.1 st.ad) fun a=>mB (Nat.beq a.1 p.1&&Nat.beq a.2 0) (ob (st.lo.get p.1) fun l=>mB (Nat.beq (kB l) p.2) (ob g fun r=>some (iD l r)))) ll
def Ej(p:PI)(st:lG):Option (List zA):=ob (iG (fun i=>st.tm.get i) p.pl) fun a=>ob (Ek st p.ll) fun b=>some (iD a b)
def pV (ll:List (Nat × Nat)):List zA->Tr (List zA):=
 List.rec (motive:=fun _=>List zA->Tr (List zA)) (fun _=>.leaf) (fun p _ g vals=>(g (xQ vals p.2)).set p.1 (wY vals p.2)) ll
def oO (pl:List Nat):List zA->Tr zA:=
 List.rec (motive:=fun _=>List zA->Tr zA) (fun _=>.leaf) (fun i _ g vals=>List.rec (motive:=fun _=>Tr zA) .leaf (fun v vals _=>(g vals).set i v) vals) pl
def stAd (ll:List (Nat × Nat)):List (Nat × Nat × Nat):=List.rec (motive:=fun _=>List (Nat × Nat × Nat)) [] (fun p _ g=>(p.1,p.1,0)::g) ll
def oV (k:Nat)(p:PI)(vals:List zA):lG:=⟨⟨k,oO p.pl vals,[]⟩,stAd p.ll,pV p.ll (xQ vals (kB p.pl)),[]⟩
def npC (C:fA)(g:Nat):Bool:=sH (C.prims.get g)
def ze3(pl:List Nat)(st:lG):Option (List zA):=iG (fun i=>st.tm.get i) pl
def FK(k n:Nat)(pl ps:List Nat)(ops:List Oper)(c:kD):Bool:=
 nE (fun p=>Nat.blt p k&&Nat.blt p n && !sI p pl) ps&&Nat.ble (kB ps) 1&&Jx ops&&(match eT c with | []=>true | _=>false)
def rdT:KtT:=⟨fun _=>.ret (.bool true),fun _ _=>.fail,fun _=>.ret (.bool false)⟩
def Wu(C:fA)(n:Nat)(κ:KtT)(i:Nat)(pl:List Nat)(f:Operand)(ps:List Nat)(ops:List Oper)(c:kD)(st:lG):T:=
 mJ (FK st.tm.k n pl ps ops c) (tC (ze3 pl st) fun vals=>tC (ev f (.now st.tm)) fun fv=>.range (npC C) fv i (kB ps) vals (κ.norm st) (κ.ret st))
def rO (C:fA)(la:List Nat)(fn n:Nat)(c:kD):KtT->KT:=
 kD.rec (motive:=fun _=>KtT->KT)
  (fun κ st=>κ.norm st)
  (fun id all draw κ=>CE C la fn n κ.norm id all draw)
  (fun _ _ ga gb κ=>ga ⟨gb κ,κ.exit,κ.ret⟩)
  (fun c _ _ gx gy κ st=>tC (ob (ev c (.now st.tm)) zA.asBool) fun b=>bif Ag c st.lit then Bool.rec (motive:=fun _=>T) (gy κ st) (gx κ st) b else .ite b (gx κ st) (gy κ st))
  (fun id _ g κ=>g ⟨κ.norm,fun i st=>Bool.rec (motive:=fun _=>T) (κ.exit i st) (κ.norm st) (Nat.beq id i),κ.ret⟩)
  (fun p _ _ _ st=>tC (Ej p st) fun vals=>.jump p.id vals)
  (fun id κ st=>κ.exit id st)
  (fun κ st=>κ.ret st)
  (fun p _ _ _ st=>tC (Ej p st) fun vals=>.jump p.id vals)
  (fun i pl f ps _ ops c _ κ st=>Wu C n κ i pl f ps.toList ops.toList c st) c
structure PtT where
 p:PI
 tree:List zA->T
def Gn(p:PI):KT:=fun st=>tC (Ej p st) fun vals=>.jump p.id vals
def Ab(C:fA)(la:List Nat)(fn n k:Nat)(c:kD):KtT->List PtT:=
 kD.rec (motive:=fun _=>KtT->List PtT)
  (fun _=>[])
  (fun _ _ _ _=>[])
  (fun _ b ga gb κ=>iD (ga ⟨rO C la fn n b κ,κ.exit,κ.ret⟩) (gb κ))
  (fun _ _ _ gx gy κ=>iD (gx κ) (gy κ))
  (fun id _ g κ=>g ⟨κ.norm,fun i st=>Bool.rec (motive:=fun _=>T) (κ.exit i st) (κ.norm st) (Nat.beq id i),κ.ret⟩)
  (fun p c g κ=>⟨p,fun vals=>rO C la fn n c ⟨Gn p,κ.exit,κ.ret⟩ (oV k p vals)⟩::g ⟨Gn p,κ.exit,κ.ret⟩)
  (fun _ _=>[])
  (fun _=>[])
  (fun p c g κ=>⟨p,fun vals=>rO C la fn n c κ (oV k p vals)⟩::g κ)
  (fun i pl _ ps id ops c g _=>⟨⟨i,iD pl ps.toList,[]⟩,fun vals=>rO C la fn n (.seq (.region id ops false) c) rdT (oV k ⟨i,iD pl ps.toList,[]⟩ vals)⟩::g rdT) c
def Fm (C:fA)(st:lG)(l:List ResultVar):(List zA->T)->T:=
 List.rec (motive:=fun _=>(List zA->T)->T) (fun K=>K [])
  (fun r _ g K=>match r with
   | .tmp t=>tC (st.tm.get t) fun v=>g fun l=>K (v::l)
   | .cell a t=>match qK a st.ad with
    | some p=>tC (st.lo.get p.1) fun l=>tC (C.tys.get t) fun ty=>mJ (Nat.ble (p.2+ty.size) (kB l)) (tC (lO C t l p.2) fun v=>g fun l=>K (v::l))
    | none=>tC (st.tm.get a) fun a=>.light (fun m=>dA C t ⟨0,m⟩ a) fun v=>g fun l=>K (v::l)) l
def endT (C:fA)(fn:Func):KT:=fun st=>Fm C st fn.results.toList fun l=>.ret (Cg l)
def topT (C:fA)(fn:Func):KtT:=⟨endT C fn,fun _ _=>.fail,endT C fn⟩
structure eF where
 code:kD
 la:List Nat
def entT (C:fA)(fn:Func)(k:Nat)(f:Nat)(A:eF)(args:List zA):T:=rO C A.la f fn.ntmps A.code (topT C fn) ⟨⟨k,Tr.ofList args,[]⟩,[],.leaf,[]⟩
def ptsT (C:fA)(fn:Func)(k:Nat)(f:Nat)(A:eF):List PtT:=Ab C A.la f fn.ntmps k A.code (topT C fn)
def Jy(l:List PtT)(i:Nat)(vals:List zA):List T:=List.rec (motive:=fun _=>List T) [] (fun p _ g=>bif Nat.beq p.p.id i then p.tree vals::g else g) l
end
section
def oE {α:Type}(x:Option α)(P:α->Prop):Prop:=
 match x with
 | some a=>P a
 | none=>False
theorem cX{α:Type}{x:Option α}{P:α->Prop}:oE x P ↔ ∃a,x=some a/\P a:=by
 cases x with
 | none=>simp[oE]
 | some a=>simp[oE]
@[simp] theorem xA {α:Type} {a:α} {P:α->Prop}:oE (some a) P=P a:=rfl
@[simp] theorem optP_none {α:Type} {P:α->Prop}:oE (none:Option α) P=False:=rfl
abbrev wC:=zA->Tr sA->Prop
abbrev pI:=Nat->List zA->Tr sA->wC->Prop
def zgi{α:Type}:List α->Bool | []=>true | _::_=>false
def cS(f:zA)(args:List zA):Option (Nat × List zA):=ob f.asFunc fun p=>match p.1 with
 | .func g=>mB (Nat.blt g yo) (some (g,iD (iD p.2.1 args) p.2.2))
 | .yld l=>mB (zgi p.2.1&&zgi p.2.2) (some (yo+l,args))
def Fu(np:Nat->Bool)(f:zA)(l:Nat):Option (Nat × List zA):=ob f.asFunc fun p=>match p.1 with
 | .func g=>mB (Nat.blt g yo&&np g) (some (g,iD p.2.1 (.func (.yld l) [] []::p.2.2)))
 | .yld _=>none
def Dc (k:IntKind)(v:zA):Option Int:=ob v.asIntK fun p=>mB (lN p.1 k) (some p.2)
def cN (zs:List zA)(v:zA):Option kG:=ob v.asAgg fun l=>mB (cO zs l) (some (cellsOf l))
def lA (base:Nat)(W:pI)(J:pI):T->Tr sA->wC->Prop
 | .ret v,t,Q=>Q v t
 | .fail,_,_=>False
 | .ite b x y,t,Q=>if b=true then lA base W J x t Q else lA base W J y t Q
 | .opt x K,t,Q=>oE x fun v=>lA base W J (K v) t Q
 | .light x K,t,Q=>oE (x t) fun v=>lA base W J (K v) t Q
 | .heavy x K,t,Q=>∀b,t.get b=none->base<=b->oE (x ⟨b,t⟩) fun p=>lA base W J (K p.1) p.2.t Q
 | .call f args K,t,Q=>W f args t fun v t'=>lA base W J (K v) t' Q
 | .callv f args K,t,Q=>oE (cS f args) fun p=>W p.1 p.2 t fun v t'=>lA base W J (K v) t' Q
 | .asI k v K,t,Q=>oE (Dc k v) fun n=>lA base W J (K n) t Q
 | .asB v K,t,Q=>oE v.asBool fun n=>lA base W J (K n) t Q
 | .asS v K,t,Q=>oE v.asStr fun n=>lA base W J (K n) t Q
 | .asG zs v K,t,Q=>oE (cN zs v) fun X=>lA base W J (K X) t Q
 | .jump i vals,t,Q=>J i vals t Q
 | .range np f i m vals K R,t,Q=>256<=base/\∀l r,t.get l=none->base<=l->r.state=.ready->r.pending=none →
   (∀args t1 Q1,args.length=m->t1.get l=some (.loop r)->J i (vals++args) (t1.del l) (fun v t2=>t2.get l=none->∃b,v=.bool b/\Q1 v (t2.set l (.loop (aT b r))))->W (yo+l) args t1 Q1) →
   oE (Fu np f l) fun p=>W p.1 p.2 (t.set l (.loop r)) fun _ t'=>(t'.get l=some (.loop r)/\lA base W J K (t'.del l) Q)\/(t'.get l=some (.loop (aT false r))/\lA base W J R (t'.del l) Q)
abbrev Xt:=Nat->Option sA
def sJ (X Y:Xt):Prop:=∀b y,X b=some y->Y b=some y
theorem sJ.refl(X:Xt):sJ X X:=fun _ _ h=>h
def sJ.trans{X Y Z:Xt}(h:sJ X Y)(k:sJ Y Z):sJ X Z:=fun b y e=>k b y (h b y e)
structure Ov (base:Nat) (t:Tr sA) (X:Xt) (H:wA):Prop where
 base:base<=H.next
 same:∀b,X b=none->H.t.get b=t.get b
 ext:∀b y,X b=some y->H.t.get b=some y/\t.get b=none/\b<H.next
 lt:∀b y,t.get b=some y->b<H.next
def HLe (H H':wA):Prop:=∀b y,H.t.get b=some y->H'.t.get b=some y
def kR(e e':xD):Prop:=∀i v,wV i e=some v->wV i e'=some v
section
variable {base:Nat}{t:Tr sA}{X:Xt}{H HA:wA}{e e':xD}{C:fA}{v:zA}
theorem Ov.notX(h:Ov base t X HA){b:Nat}{y:sA}(hb:t.get b=some y):X b=none:=by
 cases hx:X b with
 | none=>rfl
 | some z=>have:=(h.ext b z hx).2.1;simp_all
theorem Ov.up(h:Ov base t X HA){b:Nat}{y:sA}(hb:t.get b=some y):HA.t.get b=some y:=by rw[h.same b (h.notX hb)];exact hb
def Ov.le(h:Ov base t X HA){n:Nat}:HLe ⟨n,t⟩ HA:=fun _ _ hb=>h.up hb
def Ov.nextX(h:Ov base t X HA):X HA.next=none:=by
 cases hx:X HA.next with
 | none=>rfl
 | some z=>exact absurd (h.ext _ z hx).2.2 (Nat.lt_irrefl _)
def Ov.nextT(h:Ov base t X HA):t.get HA.next=none:=by
 cases hx:t.get HA.next with
 | none=>rfl
 | some z=>exact absurd (h.lt _ z hx) (Nat.lt_irrefl _)
theorem lW(h:HLe H HA){b:Nat}{p:Tr zA × Nat × Option Lo}(hb:oD H b=some p):oD HA b=some p:=by
 unfold oD at hb ⊢;rw[rA]at hb ⊢;obtain⟨y,h1,h2⟩:=hb;exact⟨y,h _ _ h1,h2⟩
theorem Du(h:HLe H HA){b:Nat}{p:List (zA × zA)}(hb:yK H b=some p):yK HA b=some p:=by
 unfold yK at hb ⊢;rw[rA]at hb ⊢;obtain⟨y,h1,h2⟩:=hb;exact⟨y,h _ _ h1,h2⟩
theorem dE(h:kR e e'){x:Operand}(hx:ev x e=some v):ev x e'=some v:=by
 cases x with
 | tmp i=>exact h i v hx
 | const c=>exact hx
 | global g=>exact hx
 | func f=>exact hx
theorem LV(h:kR e e'){l:List Operand}{vs:List zA}(hx:uQ l e=some vs):uQ l e'=some vs:=Pp l (fun _ _ k=>dE h k) hx
theorem LW(h:kR e e'){x:Option Operand}{r:Option zA}(hx:evo x e=some r):evo x e'=some r:=by
 cases x with
 | none=>exact hx
 | some x=>
  have hx:ob (ev x e) (fun v=>some (some v))=some r:=hx;show ob (ev x e') (fun v=>some (some v))=some r
  grind [rA,dE]
theorem Zq(h:kR e e'){l:List (Nat × Operand)}{vs:List (Nat × zA)}(hx:evp l e=some vs):evp l e'=some vs:=
 Pp l (fun a b k=>by grind [rA,dE]) hx
theorem Tb(h:kR e e'){c:Call}{p:zA × zA}(hx:two c e=some p):two c e'=some p:=by
 grind [two,rA,dE]
theorem It(h:HLe H HA){ty:Nat}{a:zA}(hx:dA C ty H a=some v):dA C ty HA a=some v:=by
 grind [dA,rA,lW]
theorem AD(h:HLe H HA){s d:eC}{a:zA}(hx:tQ C s d a H=some v):tQ C s d a HA=some v:=by
 unfold tQ at hx ⊢;split at hx
 ·omega
 ·rename_i hk;rw[fB]at hx ⊢;refine⟨hx.1,?_⟩;have hx:=hx.2;rw[sD]at hx ⊢;split at hx
  all_goals grind [rA,fB,Dp,lW]
theorem PT(h:HLe H HA){s d:Nat}{a:zA}(hx:kK C s d H a=some v):kK C s d HA a=some v:=by
 grind [kK,rA,AD]
theorem Vm(h:HLe H HA){ty:eC}{a:zA}{l r:Option zA}(hx:bL C H ty a l r=some v):bL C HA ty a l r=some v:=by
 have row:∀ {arr e b off len cap},sN C H arr e b off len cap l r=some v->sN C HA arr e b off len cap l r=some v:=by
  intro arr e b off len cap hx;unfold sN at hx ⊢;simp only[rA]at hx ⊢;obtain⟨a1,h1,b1,h2,hx⟩:=hx;refine⟨a1,h1,b1,h2,?_⟩
  cases hb:oD H b with
  | none=>
   have e1:pL H b a1.size cap b1.1 arr=false:=by unfold pL;rw[hb]
   have e2:cL H b a1.size cap b1.1 arr=false:=by unfold cL;rw[hb]
   rw[e1,e2,yay,yay]at hx;cases hx
  | some c=>
   grind [pL,lW,cL]
 grind [bL,rA]
theorem PM(h:HLe H HA){ty:Nat}{a:zA}{l r:Option zA}(hx:zE C ty H a l r=some v):zE C ty HA a l r=some v:=by
 grind [zE,rA,Vm]
theorem Xs(h:HLe H HA){m:zA}{l:List (zA × zA)}(hx:bT H m=some l):bT HA m=some l:=by
 grind [bT,Du]
theorem PP(h:HLe H HA){ty:Nat}{m k:zA}{ok:Bool}(hx:uV C ty H m k ok=some v):uV C ty HA m k ok=some v:=by
 unfold uV at hx ⊢;simp only[rA,fB]at hx ⊢
 grind [Xs]
theorem Yd(h:HLe H HA){ty:eC}{a:zA}{n:Nat}(hx:rS H ty a=some n):rS HA ty a=some n:=by
 unfold rS at hx ⊢;split at hx
 all_goals grind [fB,rA,Du]
theorem PQ(h:HLe H HA){ty:Nat}{a:zA}(hx:iR C ty H a=some v):iR C ty HA a=some v:=by
 grind [iR,rA,Yd]
theorem IL{ty:Nat}{a:Operand}:vU ty a C e H=ob (ev a e) fun v=>dA C ty H v:=rfl
theorem IY{s d:Nat}{x:Operand}{u:zA}(hx:ev x e=some u):mN s d x C e H=kK C s d H u:=by simp_all [mN,kK]
def zc0{ty:Nat}{x:Operand}{lo hi:Option Operand}{a:zA}{l r:Option zA}(h1:ev x e=some a)(h2:evo lo e=some l)(h3:evo hi e=some r):qY ty x lo hi C e H=zE C ty H a l r:=by unfold qY zE;rw[h1,pA,h2,pA,h3,pA]
theorem IV{s f:Nat}{x:Operand}{u:zA}(hx:ev x e=some u):rU s x f C e H=dC C s f u:=by
 unfold rU dC Iu;rw[hx]
 cases C.tys.get s with
 | none=>rfl
 | some ty=>
  simp only[pA]
  cases ty.desc.asStruct with
  | none=>rfl
  | some fs=>
   simp only[pA]
   cases uD fs f with
   | none=>rfl
   | some fd=>simp only[pA];cases hb:(!Nat.beq fd.2.2 0)<;>rfl
theorem IQ{ty:Nat}{x i:Operand}{u w:zA}(hx:ev x e=some u)(hi:ev i e=some w):tU ty x i C e H=rB C ty u w:=by unfold tU rB;rw[hx,hi];rfl
theorem zc2{ty:Nat}{x i:Operand}{u w:zA}(hx:ev x e=some u)(hi:ev i e=some w):sU ty x i C e H=fR C ty u w:=by unfold sU fR;rw[hx,hi];rfl
theorem zfd{x:Operand}{u:zA}(hx:ev x e=some u):oY x C e H=Eo u:=by simp_all [oY,Eo]
theorem WH{x:Operand}{i:Nat}{u:zA}(hx:ev x e=some u):qU x i C e H=eJ i u:=by simp_all [qU,eJ]
theorem lBin_v{op:BinOp}{ty:Nat}{x y:Operand}{u w:zA}(hx:ev x e=some u)(hy:ev y e=some w):pU op ty x y C e H=(zN op).f C ty x y u w:=by simp_all [pU]
theorem WI{x:Operand}{a:Nat}{ok:Bool}{u:zA}(hx:ev x e=some u):oU x a ok C e H=Sw C a ok u:=by
 unfold oU Sw;rw[hx];rfl
def WG{ty:Nat}{x i:Operand}{ok:Bool}{m k:zA}(hx:ev x e=some m)(hi:ev i e=some k):wU ty x i ok C e H=uV C ty H m k ok:=by unfold wU uV;rw[hx,hi];rfl
theorem lLen_v{c:Call}{ty:Nat}{x:Operand}{u:zA}(h1:uD c.argTypes.toList 0=some ty)(h2:uD c.args.toList 0=some x)(hx:ev x e=some u):hO c C e H=iR C ty H u:=by grind [hO,iR,pA]
theorem zdo(he:kR e e'){op:Op}(hp:xS op=true\/(∃s d x,op=.convert s d x/\(oH C d=1\/oH C s=2))\/(∃c,op=.call c/\(c.callee=.builtin .max\/c.callee=.builtin .min))){H':wA}(h:(oF op).f C e H=some v):(oF op).f C e' H'=some v:=by
 rcases hp with hp | hp | hp
 ·cases op<;>simp only[xS]at hp<;>try (cases hp;done)
  case move x=>exact dE he h
  case assign x=>exact dE he h
  case pick c a b=>
   have h:ob (ev c e) (fun c=>ob c.asBool fun c=>bif c then ev a e else ev b e)=some v:=h;show ob (ev c e') (fun c=>ob c.asBool fun c=>bif c then ev a e' else ev b e')=some v
   grind [rA,dE]
  case nilCheck x=>
   have h:ob (ev x e) (fun u=>mB (Nat.beq u.tag 4||Nat.beq u.tag 9) (some u))=some v:=h;show ob (ev x e') (fun u=>mB (Nat.beq u.tag 4||Nat.beq u.tag 9) (some u))=some v
   grind [rA,dE]
  case binOp op t x y u=>
   have h:pU op t x y C e H=some v:=h;show pU op t x y C e' H'=some v
   grind [pU,rA,dE]
  case unOp op t x=>
   have h:lUn op x C e H=some v:=h;show lUn op x C e' H'=some v
   grind [lUn,rA,dE]
  case makeInterface t x=>
   have h:Ah t x C e H=some v:=h;show Ah t x C e' H'=some v
   grind [Ah,rA,fB,dE]
  case makeFunc fn a b=>
   have h:(Ai fn a b).f C e H=some v:=h;show(Ai fn a b).f C e' H'=some v;unfold Ai at h ⊢;split at h
   ·grind [Qc,rA,LV]
   ·cases h
  case fieldAddr s x f=>
   have h:rU s x f C e H=some v:=h;show rU s x f C e' H'=some v;unfold rU at h ⊢;simp only[rA,fB]at h ⊢;obtain⟨a,h1,b,h2,c,h3,h4,u,h5,h6⟩:=h;exact⟨a,h1,b,h2,c,h3,h4,u,dE he h5,h6⟩
  case field t x f=>
   have h:Aj t x f C e H=some v:=h;show Aj t x f C e' H'=some v
   grind [Aj,rA,dE]
  case indexAddr t x i=>
   have h:tU t x i C e H=some v:=h;show tU t x i C e' H'=some v;unfold tU at h ⊢;simp only[rA]at h ⊢
   grind [dE]
  case index t x i=>
   have h:sU t x i C e H=some v:=h;show sU t x i C e' H'=some v;unfold sU at h ⊢;simp only[rA]at h ⊢
   grind [dE]
  case extract t i=>
   have h:qU t i C e H=some v:=h;show qU t i C e' H'=some v
   grind [qU,rA,dE]
  case build t ps=>
   have h:zW t ps C e H=some v:=h;show zW t ps C e' H'=some v
   grind [zW,rA,Zq]
  case typeAssert x t u ok=>
   have h:oU x u ok C e H=some v:=h;show oU x u ok C e' H'=some v
   grind [oU,rA,fB,dE]
 ·obtain⟨s,d,x,rfl,hp⟩:=hp;have h:mN s d x C e H=some v:=h;show mN s d x C e' H'=some v;unfold mN at h ⊢;simp only[rA]at h ⊢;obtain⟨u,h1,sy,h2,dy,h3,h4⟩:=h;refine⟨u,dE he h1,sy,h2,dy,h3,?_⟩;unfold tQ at h4 ⊢;split at h4
  ·exact h4
  ·rename_i hd;rw[fB]at h4 ⊢;refine⟨h4.1,?_⟩;have h4:=h4.2;rw[sD]at h4 ⊢;split at h4
   ·simp_all
   ·rename_i e;exfalso;rcases hp with hp | hp
    ·unfold oH at hp;rw[h3]at hp;have hp:dy.desc.tag=1:=hp;cases hx:dy.desc<;>rw[hx]at hp hd<;>first
      | (cases hp;done)
      | (cases hd;done)
    ·unfold oH at hp;rw[h2]at hp;have hp:sy.desc.tag=2:=hp;simp only[rA]at h4;obtain⟨el,h5,_⟩:=h4;cases hx:sy.desc<;>rw[hx]at hp h5<;>first
      | (cases hp;done)
      | (cases h5;done)
 ·obtain⟨c,rfl,hc⟩:=hp;rcases hc with hc | hc
  ·have h:(vR c c.callee).f C e H=some v:=h;show(vR c c.callee).f C e' H'=some v;rw[hc]at h ⊢;have h:xU c C e H=some v:=h;show xU c C e' H'=some v
   grind [xU,rA,Tb]
  ·have h:(vR c c.callee).f C e H=some v:=h;show(vR c c.callee).f C e' H'=some v;rw[hc]at h ⊢;have h:yU c C e H=some v:=h;show yU c C e' H'=some v
   grind [yU,rA,Tb]
end
end
section
section
variable {base:Nat}{t:Tr sA}{X:Xt}{H HA:wA}{e e':xD}{C:fA}{v:zA}
theorem Ov.newBlk(h:Ov base t X HA)(y:sA):Ov base (t.set HA.next y) X (newBlk HA y):=by
 refine⟨Nat.le_succ_of_le h.base,fun b hb=>?_,fun b z hb=>?_,fun b z hb=>?_⟩
 ·show(HA.t.set HA.next y).get b=_;rw[Tr.get_set,Tr.get_set];split
  ·rfl
  ·exact h.same b hb
 ·obtain⟨h1,h2,h3⟩:=h.ext b z hb;have hne:b≠HA.next:=Nat.ne_of_lt h3;refine⟨?_,?_,Nat.lt_succ_of_lt h3⟩
  ·show(HA.t.set HA.next y).get b=_
   grind [Tr.get_set]
  grind [Tr.get_set]
 ·rw[Tr.get_set]at hb;show b<HA.next+1;split at hb
  ·omega
  ·exact Nat.lt_succ_of_lt (h.lt _ _ hb)
theorem Ov.setBlk(h:Ov base t X HA){b:Nat}{y:sA}(hb:t.get b=some y)(z:sA):Ov base (t.set b z) X (setBlk HA b z):=by
 refine⟨h.base,fun c hc=>?_,fun c u hc=>?_,fun c u hc=>?_⟩
 ·show(HA.t.set b z).get c=_;rw[Tr.get_set,Tr.get_set];split
  ·rfl
  ·exact h.same c hc
 ·obtain⟨h1,h2,h3⟩:=h.ext c u hc;have hne:c≠b:=fun e=>by simp_all
  refine⟨?_,?_,h3⟩
  ·show(HA.t.set b z).get c=_
   grind [Tr.get_set]
  grind [Tr.get_set]
 ·rw[Tr.get_set]at hc;show c<HA.next;split at hc
  ·rename_i e;rw[e];exact h.lt _ _ hb
  ·exact h.lt _ _ hc
theorem Ov.delBlk(h:Ov base t X HA){b:Nat}{y:sA}(hb:t.get b=some y):Ov base (t.del b) X ⟨HA.next,HA.t.del b⟩:=by
 refine⟨h.base,fun c hc=>?_,fun c u hc=>?_,fun c u hc=>?_⟩
 ·show(HA.t.del b).get c=_;rw[Tr.get_del,Tr.get_del];split
  ·rfl
  ·exact h.same c hc
 ·obtain⟨h1,h2,h3⟩:=h.ext c u hc
  grind [Tr.get_del]
 ·rw[Tr.get_del]at hc;show c<HA.next;split at hc
  ·cases hc
  ·exact h.lt _ _ hc
def lR (base:Nat)(x:wA->Option (zA × wA)):Prop:=∀t X HA v H',Ov base t X HA->x ⟨HA.next,t⟩=some (v,H')->∃HA',x HA=some (v,HA')/\Ov base H'.t X HA'
theorem bX(l:List zA)(lo:Option Lo)(h:Ov base t X HA):Ov base (uF ⟨HA.next,t⟩ l lo).t X (uF HA l lo):=h.newBlk _
theorem PX{ty:Nat}:lR base (eR C ty):=by
 intro t X HA v H' ho h;unfold eR at h ⊢;rw[rA]at h;obtain⟨y,h1,h2⟩:=h;cases h2;simp_all [bX]
def zgz{u:zA}:lR base (tO u):=by
 intro t X HA v H' ho h;cases h;exact⟨_,rfl,bX _ _ ho⟩
theorem PY{ty:Nat}:lR base (Cc C ty):=by
 intro t X HA v H' ho h;unfold Cc at h ⊢;rw[rA]at h;obtain⟨y,h1,h3⟩:=h
 grind [pA,bX]
theorem zbi{ty:Nat}{u:zA}:lR base (Es C ty u):=by
 intro t X HA v H' ho h;grind [Es,bX]
theorem PU{ty n:Nat}{ps:List (Nat × zA)}:lR base (jE C ty n ps):=by
 intro t X HA v H' ho h;unfold jE at h ⊢;simp only[rA,fB]at h;obtain⟨a,h1,b,h2,c,h3,h4,l,h5,h6⟩:=h
 grind [bX,rA,fB]
theorem Vg(ho:Ov base t X HA){b off:Nat}{l:List zA}{H':wA}(h:zJ C ⟨HA.next,t⟩ b off l=some H'):∃HA',zJ C HA b off l=some HA'/\Ov base H'.t X HA':=by
 unfold zJ at h ⊢;simp only[rA,fB]at h;obtain⟨h1,c,h2,h3,h4⟩:=h;cases h4;have h2':=h2;unfold oD at h2';rw[rA]at h2';obtain⟨y,h5,_⟩:=h2';refine⟨_,?_,ho.setBlk h5 _⟩;simp only[rA,fB];exact⟨h1,c,lW ho.le h2,h3,rfl⟩
theorem PK{ty:Nat}{a u:zA}:lR base (pE C ty a u):=by
 intro t X HA v H' ho h;unfold pE at h ⊢;simp only[rA,fB]at h;obtain⟨y,h1,p,h2,h3,H1,h4,h5⟩:=h
 grind [Vg,rA,fB]
def PO:lR base Mt:=by
 intro t X HA v H' ho h;cases h;exact⟨_,rfl,ho.newBlk _⟩
def BR{ty:Nat}{m k u:zA}:lR base (fQ C ty m k u):=by
 intro t X HA v H' ho h;unfold fQ at h ⊢;simp only[rA,fB]at h;obtain⟨a,h1,b,h2,c,h3,h4,d,h5,h6,l,h7,h8,l',h9,h10⟩:=h;cases h10;have h7':=h7;unfold yK at h7';rw[rA]at h7';obtain⟨y,h11,_⟩:=h7';refine⟨_,?_,ho.setBlk h11 _⟩;simp only[rA,fB];exact⟨a,h1,b,h2,c,h3,h4,d,h5,h6,l,Du ho.le h7,h8,l',h9,rfl⟩
def za3(ho:Ov base t X HA){e:RE}{H':wA}(h:tZ C ⟨HA.next,t⟩ e=some H'):∃HA',tZ C HA e=some HA'/\Ov base H'.t X HA'/\HA'.next=HA.next/\H'.next=HA.next:=by
 obtain⟨x,y,h1,h2,rfl⟩:=Ma.1 h;exact⟨setBlk HA e.blk y,Ma.2 ⟨x,y,ho.up h1,h2,rfl⟩,ho.setBlk h1 _,rfl,rfl⟩
theorem NY:∀ {l:List RE} {t:Tr sA} {HA:wA} {H':wA},Ov base t X HA->Dy C l ⟨HA.next,t⟩=some H'->∃HA',Dy C l HA=some HA'/\Ov base H'.t X HA'
 | [],t,HA,H',ho,h=>by cases h;exact⟨HA,rfl,ho⟩
 | e::l,t,HA,H',ho,h=>by
  unfold Dy at h ⊢;rw[rA]at h;obtain⟨H1,h1,h⟩:=h;obtain⟨HA1,g1,g2,g3,g4⟩:=za3 ho h1;rw[g1,pA];obtain⟨n1,t1⟩:=H1;have g4:n1=HA.next:=g4;subst g4;rw[<- g3]at h;exact NY g2 h
theorem TL(ho:Ov base t X HA){e:RE}(h:Fp C ⟨HA.next,t⟩ e=true):Fp C HA e=true:=by
 cases e with
 | st b off l=>
  change (!sH (zJ C ⟨HA.next,t⟩ b off l))=true at h;show(!sH (zJ C HA b off l))=true
  cases hs:zJ C ⟨HA.next,t⟩ b off l with
  | none=>rw[hs]at h;cases h
  | some H'=>obtain⟨HA',g,_⟩:=Vg ho hs;rw[g];rfl
 | up b k v=>
  unfold Fp at h ⊢;rw[ybb]at h ⊢;refine⟨h.1,?_⟩;have h2:=h.2;split at h2
  ·rename_i hm;rw[Du ho.le hm]
  grind
theorem PS{es:List rL}:lR base (Er C es):=by
 intro t X HA v H' ho h;grind [Er,eY,rA,fB,NY,iI,TL]
theorem PN{ty:Nat}{l c:zA}:lR base (fJ C ty l c):=by
 intro t X HA v H' ho h;unfold fJ at h ⊢;simp only[rA,fB]at h;obtain⟨a,h1,b,h2,d,h3,n,h4,m,h5,h6,h7⟩:=h
 grind [bX,rA,fB]
theorem PJ{s d:Nat}{u:zA}:lR base (Sv C s d u):=by
 intro t X HA v H' ho h;unfold Sv at h ⊢;simp only[rA,fB]at h;obtain⟨a,h1,b,h2,c,h3,et,h4,k,h5,h6,l,h7,h8⟩:=h;cases h8;refine⟨uF HA (nW l) (some (.ty c)),?_,bX _ _ ho⟩
 grind [rA,fB]
theorem XI(h:HLe H HA){sz n:Nat}{u:zA}{l:List zA}(hx:pR H sz n u=some l):pR HA sz n u=some l:=by
 grind [pR,rA,lW]
theorem ZN(ho:Ov base t X HA){ty:eC}{a b:zA}{H':wA}(h:iW C ⟨HA.next,t⟩ ty a b=some (v,H')):∃HA',iW C HA ty a b=some (v,HA')/\Ov base H'.t X HA':=by
 unfold iW at h;simp only[rA]at h;obtain⟨el,h1,et,h2,n,h3,new,h4,h5⟩:=h;have h4':=XI ho.le h4
 suffices hs:∃HA',(match a.asSlice with
  | some s=>bif Nat.ble (s.2.2.1+n) s.2.2.2 then jY C HA et n new s else fY C HA el et n new s
  | none=>mB (Nat.beq a.tag 5) (tW HA el et n new))=some (v,HA')/\Ov base H'.t X HA' by
  grind [iW,rA]
 cases hs:a.asSlice with
 | some s=>
  rw[hs]at h5;simp only[]at h5 ⊢;rw[sD]at h5;split at h5
  ·rename_i hr;simp only[hr,cond_true];unfold jY at h5 ⊢
   grind [rA,Vg]
  ·rename_i hr;simp only[Bool.not_eq_true]at hr;simp only[hr,cond_false];unfold fY at h5 ⊢;rw[fB]at h5;obtain⟨gm,h5⟩:=h5;rw[fB]at h5;obtain⟨g0,h5⟩:=h5;rw[rA]at h5;obtain⟨c,g1,h5⟩:=h5;have g1':=lW ho.le g1;unfold oD at g1;rw[rA]at g1;obtain⟨y,g2,_⟩:=g1;split at h5
   ·rename_i hc;unfold Gs at h5;rw[rA]at h5;obtain⟨old,g3,g4⟩:=h5
    grind [bX,fB,rA,Gs]
   ·rename_i es hc;unfold Gt at h5;rw[fB]at h5;obtain⟨g3,g4⟩:=h5;cases g4;refine⟨⟨HA.next+1,(HA.t.del s.1).set HA.next (.cells (c.1.setMany new (s.2.2.1*et.size)) ((s.2.2.1+n)*et.size) (some es))⟩,?_,(ho.delBlk g2).newBlk _⟩
    grind [fB,rA,Gt]
 | none=>
  grind [fB,tW,bX]
theorem PW{ty u:Nat}{a b:zA}:lR base (vF C ty u a b):=by
 intro t X HA v H' ho h;grind [vF,rA,fB,ZN]
end
def Ic(ν:Nat->Nat)(ae:nM)(e:xD):Prop:=∀i p,tAd ae i=some p->wV i e=some (.ptr (ν p.1) p.2)
def Mh(base:Nat)(X0 X:Xt)(ν:Nat->Nat)(lo:Tr (List zA)):Prop:=∀d l,lo.get d=some l->X0 (ν d)=none/\base<=ν d/\∃c,X (ν d)=some (.cells c l.length none)/\∀j a,l[j]?=some a->c.get j=some a
theorem wE{base:Nat}{W J:pI}{α:Type}{x:Option α}{K:α->T}{t:Tr sA}{Q:wC}:lA base W J (tC x K) t Q ↔ ∃a,x=some a/\lA base W J (K a) t Q:=by
 cases x with
 | none=>exact⟨fun h=>(by cases h),fun⟨_,h,_⟩=>(by cases h)⟩
 | some a=>exact⟨fun h=>⟨a,rfl,h⟩,fun⟨_,h,k⟩=>(by cases h;exact k)⟩
def mM{base:Nat}{W J:pI}{b:Bool}{K:T}{t:Tr sA}{Q:wC}:lA base W J (mJ b K) t Q ↔ b=true/\lA base W J K t Q:=by
 cases b with
 | false=>exact⟨fun h=>(by cases h),fun⟨h,_⟩=>(by cases h)⟩
 | true=>exact⟨fun h=>⟨rfl,h⟩,fun⟨_,h⟩=>h⟩
theorem vV{base:Nat}{W J:pI}{x:Option zA}{K:zA->T}{t:Tr sA}{Q:wC}:lA base W J (.opt x K) t Q ↔ ∃a,x=some a/\lA base W J (K a) t Q:=cX
def Ei{base:Nat}{W J:pI}{x:Tr sA->Option zA}{K:zA->T}{t:Tr sA}{Q:wC}:lA base W J (.light x K) t Q ↔ ∃a,x t=some a/\lA base W J (K a) t Q:=cX
theorem Bu{ν:Nat->Nat}{ae:nM}{e:xD}(h:Ic ν ae e){x:Operand}{p:Nat × Nat}(hx:xAd ae x=some p):ev x e=some (.ptr (ν p.1) p.2):=by
 cases x with
 | tmp i=>exact h i p hx
 | const _=>cases hx
 | global _=>cases hx
 | func _=>cases hx
theorem HF{c:Tr zA}{l:List zA}(h:∀j a,l[j]?=some a->c.get j=some a):∀(n off:Nat),off+n<=l.length->c.many n off=some ((l.drop off).take n):=by
 intro n;induction n with
 | zero=>intro off _;simp;rfl
 | succ n ih=>
  intro off ho;have hlt:off<l.length:=by omega
  rw[Tr.many_succ,h off l[off] (ybd hlt),pA,ih (off+1) (by omega),pA];rw[ybl hlt,List.take_succ_cons]
section
variable {W J:pI}{t:Tr sA}{X X0:Xt}{HA:wA}{e eA:xD}{C:fA}{ν:Nat->Nat}{ae:nM}{lo:Tr (List zA)}{k:sL}{Q:wC}{R:zA->Prop}
theorem HN(ho:Ov C.base t X HA)(hl:Mh C.base X0 X ν lo){d off ty:Nat}{l:List zA}{y:eC}{v:zA}(h1:lo.get d=some l)(h2:C.tys.get ty=some y)(h3:Nat.ble (off+y.size) (kB l)=true)(h4:lO C ty l off=some v) :
  dA C ty HA (.ptr (ν d) off)=some v:=by
 obtain⟨_,_,c,hc,hg⟩:=hl d l h1;have hb:=(ho.ext _ _ hc).1;unfold dA;simp only[zA.asPtr,pA];rw[h2,pA];grind [oD,pA,sA.asCells,lO,xR,rF,jD,HF,sS,zU,nG]
theorem dQ(he:kR e eA){op:Op}(hp:xS op=true\/(∃s d x,op=.convert s d x/\(oH C d=1\/oH C s=2))\/(∃c,op=.call c/\(c.callee=.builtin .max\/c.callee=.builtin .min)))
  (h:lA C.base W J (jP C op e k) t Q) (hKd:∀v,lA C.base W J (k.Kd v) t Q->R v):∃v,(oF op).f C eA HA=some v/\R v:=by
 grind [jP,wE,zdo]
theorem PR{ty:Nat}{u v:zA}{H:wA}(ht:oH C ty=4)(h:aA u=some v):iR C ty H u=some v:=by
 unfold oH at ht
 cases hy:C.tys.get ty with
 | none=>simp_all
 | some y=>
  rw[hy]at ht;have ht:y.desc.tag=4:=ht;unfold iR;rw[hy,pA];unfold aA at h;unfold rS;cases u<;>simp only[zA.asSlice,zA.asStr,zA.asMap,zA.tag]at h ⊢ <;> (try (rw[fB]at h;exact absurd h.1 (by decide)))
  case nilslice=>
   rw[fB]at h;have hn:y.desc.asArr=none:=by cases hd:y.desc<;>rw[hd]at ht<;>first | rfl | (cases ht;done)
   simp_all [rA,fB]
  simp_all [rA,fB]
theorem WP{ty:Nat}{u v:zA}{H H':wA}(ht:oH C ty≠6)(h:iR C ty H u=some v):iR C ty H' u=some v:=by
 unfold iR at h ⊢;simp only[rA]at h ⊢;obtain⟨y,h1,n,h2,h3⟩:=h;refine⟨y,h1,n,?_,h3⟩;have ht:¬ Nat.beq y.desc.tag 6=true:=by
  grind [oH,bC]
 unfold rS at h2 ⊢;split at h2
 all_goals grind [fB]
theorem QY{ty:Nat}{a v:zA}{l h:Option zA}{H H':wA}(ht:oH C ty=2)(hx:zE C ty H a l h=some v):zE C ty H' a l h=some v:=by
 unfold zE at hx ⊢;rw[rA]at hx ⊢;obtain⟨y,h1,h2⟩:=hx;refine⟨y,h1,?_⟩;unfold oH at ht;rw[h1]at ht;have ht:y.desc.tag=2:=ht;unfold bL at h2 ⊢;have n1:y.desc.asSlice=none:=by cases hd:y.desc<;>rw[hd]at ht<;>first | rfl | (cases ht;done)
 have n2:y.desc.asArr=none:=by cases hd:y.desc<;>rw[hd]at ht<;>first | rfl | (cases ht;done)
 simp_all
theorem Xk{u:zA}(h:zA.one u=true):u.cells=[u]:=by
 cases u<;>first
  | rfl
  | (have:=lC.1 h;grind [zA.tag])
theorem XO{tyAt:Nat->Option Nat}(place:Nat->Option (Nat × Nat)):∀(vs:List (Nat × zA)) {q:List (Nat × zA × List zA) × List zA},Xd C tyAt vs=some q->nE zA.one q.2=true->∀cells l,Rd place q.1 cells=some l->iN place vs cells=some l:=by
 intro vs;induction vs with
 | nil=>intro q h _ cells l hl;cases h;exact hl
 | cons p vs ih=>
  intro q h h1 cells l hl;have h:(ob (tyAt p.1) fun t=>ob (C.tys.get t) fun ty=>ob (Xd C tyAt vs) fun r=>some (bif ty.desc.isAgg then((p.1,p.2,p.2.cells)::r.1,r.2)else((p.1,p.2,[p.2])::r.1,p.2::r.2)))=some q:=h;simp only[rA]at h;obtain⟨ty,_,y,_,r,h3,h4⟩:=h;have cC:∀(rest:List zA),nE zA.one r.2=true->(ob (place p.1) fun q=>ob (zjh cells q.1 q.2 p.2.cells) fun cells=>Rd place r.1 cells)=some l->iN place (p::vs) cells=some l:=by
   intro _ hr hl;show(ob (place p.1) fun q=>ob (Aw cells q.1 q.2 p.2) fun cells=>iN place vs cells)=some l;simp only[rA]at hl ⊢;obtain⟨a,g1,b,g2,g3⟩:=hl;exact⟨a,g1,b,g2,ih h3 hr _ _ g3⟩
  cases hb:y.desc.isAgg with
  | true=>
   rw[hb]at h4;cases h4;exact cC [] h1 hl
  | false=>
   rw[hb]at h4;cases h4;simp_all [iI,Rd,Xk]
theorem zg9(he:kR e eA)(ha:Ic ν ae eA)(ho:Ov C.base t X HA)(hl:Mh C.base X0 X ν lo){op:Op}(h:lA C.base W J (tL C op e ae lo k) t Q)
  (hK:∀v,lA C.base W J (k.K v) t Q->R v) (hKd:∀v,lA C.base W J (k.Kd v) t Q->R v) (hKA:∀d off,lA C.base W J (k.KA d off) t Q->R (.ptr (ν d) off)) :
  ∃v,(oF op).f C eA HA=some v/\R v:=by
 cases op<;>simp only[tL]at h<;>try (cases h;done)
 case move x=>
  unfold Ng at h;split at h
  ·rename_i p hp;exact⟨_,Bu ha hp,hKA _ _ h⟩
  ·exact dQ he (.inl rfl) h hKd
 case assign x=>
  unfold Ng at h;split at h
  ·rename_i p hp;exact⟨_,Bu ha hp,hKA _ _ h⟩
  ·exact dQ he (.inl rfl) h hKd
 case pick c a b=>exact dQ he (.inl rfl) h hKd
 case load ty a=>
  unfold tLoad at h;split at h
  ·rename_i p hp;simp only[wE,mM]at h;obtain⟨l,h1,y,h2,h3,v,h4,h5⟩:=h;refine⟨v,?_,hKd v h5⟩;show vU ty a C eA HA=some v
   grind [IL,Bu,pA,HN]
  ·rw[wE]at h;obtain⟨u,h1,h2⟩:=h;rw[Ei]at h2;obtain⟨v,h3,h4⟩:=h2;refine⟨v,?_,hK v h4⟩;show vU ty a C eA HA=some v;rw[IL,dE he h1,pA];exact It ho.le h3
 case nilCheck x=>
  unfold tNil at h;split at h
  ·rename_i p hp;refine⟨_,?_,hKA _ _ h⟩;show oY x C eA HA=_;rw[zfd (Bu ha hp)];rfl
  ·rw[wE]at h;obtain⟨u,h1,h2⟩:=h;rw[vV]at h2;obtain⟨v,h3,h4⟩:=h2;refine⟨v,?_,hK v h4⟩;show oY x C eA HA=_
   grind [zfd,dE]
 case binOp op ty x y u=>
  unfold tBin at h;rw[sD]at h;split at h
  ·exact dQ he (.inl rfl) h hKd
  ·simp only[wE,vV]at h;obtain⟨a,h1,b,h2,v,h3,h4⟩:=h;refine⟨v,?_,hK v h4⟩;show pU op ty x y C eA HA=_
   grind [lBin_v,dE]
 case unOp o ty x=>
  split at h
  ·simp only[wE,vV]at h;obtain⟨u,h1,v,h2,h3⟩:=h;refine⟨v,?_,hK v h3⟩;show lUn .xor x C eA HA=_;unfold lUn;rw[dE he h1];exact h2
  ·exact dQ he (.inl rfl) h hKd
 case convert s d x=>
  unfold zhb at h;rw[sD]at h;split at h
  ·rename_i hd;rw[sD]at h;split at h
   ·rename_i hs;exact dQ he (.inr (.inl ⟨s,d,x,rfl,.inr (bC.1 hs)⟩)) h hKd
   ·simp only[wE,Ei]at h;obtain⟨u,h1,v,h2,h3⟩:=h;refine⟨v,?_,hK v h3⟩;show mN s d x C eA HA=_;rw[IY (dE he h1)];exact PT ho.le h2
  ·rw[sD]at h;split at h
   ·rename_i hd;exact dQ he (.inr (.inl ⟨s,d,x,rfl,.inl (bC.1 hd)⟩)) h hKd
   ·cases h
 case makeInterface ty x=>exact dQ he (.inl rfl) h hKd
 case makeFunc fn a b=>exact dQ he (.inl rfl) h hKd
 case slice ty x lo' hi mx=>
  cases mx with
  | some _=>cases h
  | none=>
   simp only[zeg,wE]at h;obtain⟨a,h1,l,h2,r,h3,h4⟩:=h;rw[sD]at h4;show ∃v,qY ty x lo' hi C eA HA=some v/\R v;rw[zc0 (dE he h1) (LW he h2) (LW he h3)];split at h4
   ·grind [vV,QY,bC]
   ·rw[Ei]at h4;obtain⟨v,h5,h6⟩:=h4;exact⟨v,PM ho.le h5,hK v h6⟩
 case fieldAddr s x f=>
  unfold CR at h;show ∃v,rU s x f C eA HA=some v/\R v;split at h
  ·rename_i p hp;rw[wE]at h;obtain⟨o,h1,h2⟩:=h;refine⟨_,?_,hKA _ _ h2⟩;rw[IV (Bu ha hp)];unfold dC;rw[h1];rfl
  grind [wE,vV,IV,dE]
 case field ty x f=>exact dQ he (.inl rfl) h hKd
 case indexAddr ty x i=>
  unfold CP at h;show ∃v,tU ty x i C eA HA=some v/\R v;split at h
  ·rename_i p hp;simp only[wE]at h;obtain⟨iv,h1,n,h2,o,h3,h4⟩:=h;refine⟨_,?_,hKA _ _ h4⟩;rw[IQ (Bu ha hp) (dE he h1)];unfold BS at h3;simp only[rA,fB]at h3;obtain⟨y,g1,a,g2,et,g3,g4,g5⟩:=h3;cases g5;unfold rB;rw[g1,pA,h2,pA];simp only[zA.asSlice,zA.asPtr,pA];rw[g2,pA,g3,pA,g4];rfl
  grind [wE,vV,IQ,dE]
 case index ty x i=>
  rw[sD]at h;split at h
  ·exact dQ he (.inl rfl) h hKd
  ·simp only[wE,vV]at h;obtain⟨u,h1,w,h2,v,h3,h4⟩:=h;refine⟨v,?_,hK v h4⟩;show sU ty x i C eA HA=_
   grind [zc2,dE]
 case lookup ty x i ok=>
  simp only[wE,Ei]at h;obtain⟨m,h1,key,h2,v,h3,h4⟩:=h;refine⟨v,?_,hK v h4⟩;show wU ty x i ok C eA HA=_;rw[WG (dE he h1) (dE he h2)];exact PP ho.le h3
 case extract x i=>
  simp only[wE,vV]at h;obtain⟨u,h1,v,h2,h3⟩:=h;refine⟨v,?_,hK v h3⟩;show qU x i C eA HA=_
  grind [WH,dE]
 case typeAssert x a u ok=>
  simp only[wE,vV]at h;obtain⟨w,h1,v,h2,h3⟩:=h;refine⟨v,?_,hK v h3⟩;show oU x u ok C eA HA=_
  grind [WI,dE]
 case build ty ps=>
  unfold zei at h;simp only[wE,mM]at h;obtain⟨y,h1,hbd,vs,h2,q,h3,l,h4,h5⟩:=h;have h5:if nE zA.one q.2=true then lA C.base W J (k.Kd (.agg l)) t Q else False:=h5;split at h5
  ·rename_i hone;refine⟨_,?_,hKd _ h5⟩;show zW ty ps C eA HA=_;have hf:=XO (Fy C y) vs h3 hone y.zero l h4;unfold zW;rw[h1,pA,Zq he h2,pA]
   cases hs:y.desc.asStruct with
   | some fs=>
    simp only[];have:(fun i=>ob (uD fs i) fun x=>some (x.1,x.2.2))=Fy C y:=by funext i;unfold Fy;rw[hs]
    simp_all
   | none=>
    simp only[];unfold NP at hbd;rw[hs]at hbd;simp only[]at hbd
    cases ha:y.desc.asArr with
    | none=>simp_all
    | some a=>
     rw[ha]at hbd;simp only[]at hbd
     cases hy:C.tys.get a.2 with
     | none=>simp_all
     | some et=>
      simp only[pA];have:(fun i=>some (i*et.size,et.size))=Fy C y:=by funext i;unfold Fy;rw[hs];simp only[];rw[ha,pA,hy,pA]
      simp_all
  simp_all
 case call c=>
  split at h
  ·rename_i b hb;cases b<;>simp only[Je]at h<;>try (cases h;done)
   case len=>
    unfold tLen at h;simp only[wE]at h;obtain⟨ty,h1,x,h2,u,h3,h4⟩:=h;show ∃v,(vR c c.callee).f C eA HA=some v/\R v;rw[hb];show ∃v,hO c C eA HA=some v/\R v;rw[lLen_v h1 h2 (dE he h3)];rw[sD]at h4;split at h4
    ·grind [vV,PR,bC]
    ·rw[sD]at h4;split at h4
     ·rw[Ei]at h4;obtain⟨v,h5,h6⟩:=h4;exact⟨v,PQ ho.le h5,hK v h6⟩
     grind [wE,WP,bC]
   case max=>exact dQ he (.inr (.inr ⟨c,rfl,.inl hb⟩)) h hKd
   case min=>exact dQ he (.inr (.inr ⟨c,rfl,.inr hb⟩)) h hKd
  ·cases h
end
end
section
def Dq(C:fA)(A:Tr kD)(f:Nat)(args:List zA)(H:wA):dB:=
 bif Nat.blt f yo then
  match C.prims.get f with
  | some g=>g args H
  | none=>qD C A (.func f) args H
 else qD C A (.yld (f-yo)) args H
theorem Hf{C:fA}{A:Tr kD}{f:Nat}{args:List zA}{H:wA}(h:Nat.blt f yo=true):Dq C A f args H=(match C.prims.get f with
  | some g=>g args H
  | none=>qD C A (.func f) args H):=by grind [Dq]
theorem NK{C:fA}{A:Tr kD}{l:Nat}{args:List zA}{H:wA}:Dq C A (yo+l) args H=qD C A (.yld l) args H:=by
 unfold Dq;have:Nat.blt (yo+l) yo=false:=Bool.eq_false_iff.2 fun e=>by grind [lC]
 simp_all
def oC (base:Nat)(X0:Xt)(Q:wC)(d:dB):Prop:=∃v t' HA' X',d=some (v,HA')/\Ov base t' X' HA'/\sJ X0 X'/\Q v t'
theorem oC.mono{base:Nat}{X0:Xt}{Q Q':wC}{d:dB}(h:oC base X0 Q d)(k:∀v t,Q v t->Q' v t):oC base X0 Q' d:=by
 obtain⟨v,t',HA',X',h1,h2,h3,h4⟩:=h;exact⟨v,t',HA',X',h1,h2,h3,k _ _ h4⟩
def yV(C:fA)(A:Tr kD)(W:pI):Prop:=∀f args t R,W f args t R->∀X HA,Ov C.base t X HA->oC C.base X R (Dq C A f args HA)
section
variable {W J:pI}{t:Tr sA}{X X0:Xt}{HA:wA}{e eA:xD}{C:fA}{A:Tr kD}{ν:Nat->Nat}{ae:nM}{lo:Tr (List zA)}{k:sL}{kl:KLo}{Q:wC}
def eK{f:bI}{H:wA}{v:zA}(h:f C e H=some v):lv f C e H=.val v H:=by unfold lv;rw[h]
def za6{op:Op}{H:wA}{v:zA}(h:(oF op).f C e H=some v):(xG op).f C e H=.val v H:=by
 cases op
 case move x=>exact eK h
 case assign x=>exact eK h
 case pick c a b=>exact eK h
 case load t a=>exact eK h
 case nilCheck x=>exact eK h
 case binOp op t x y u=>exact eK h
 case unOp op t x=>exact eK h
 case makeInterface t x=>exact eK h
 case makeFunc fn a b=>exact eK h
 case slice t x lo hi mx=>exact eK h
 case fieldAddr s x f=>exact eK h
 case field t x f=>exact eK h
 case indexAddr t x i=>exact eK h
 case index t x i=>exact eK h
 case extract t i=>exact eK h
 case build t ps=>exact eK h
 case typeAssert x t u ok=>exact eK h
 case lookup t x i ok=>exact eK h
 case convert s d x=>
  show vW s d x C e H=_;have h:mN s d x C e H=some v:=h;unfold vW;rw[h]
 case call c=>
  have h:(vR c c.callee).f C e H=some v:=h;show(Gq c c.callee).f C e H=_
  cases hc:c.callee with
  | value f=>rw[hc]at h;cases h
  | invoke a b=>rw[hc]at h;cases h
  | builtin b=>
   rw[hc]at h;cases b
   case len=>exact eK (f:=hO c) h
   case max=>exact eK (f:=xU c) h
   case min=>exact eK (f:=yU c) h
   all_goals exact absurd (show(none:Option zA)=some v from h) (by simp)
 all_goals exact absurd (show(none:Option zA)=some v from h) (by simp)
def aZ{x:Option (zA × wA)}{v:zA}{H':wA}{kd:zA->wA->dB}{φ:pH}(h:x=some (v,H')):rG φ (nL x) HA kd=kd v H':=by subst h;rfl
theorem kS(ho:Ov C.base t X HA){x:wA->Option (zA × wA)}(hx:lR C.base x){K:zA->T}(h:lA C.base W J (.heavy x K) t Q){kd:zA->wA->dB}{φ:pH}
  (hK:∀v t' HA' X',Ov C.base t' X' HA'->sJ X X'->lA C.base W J (K v) t' Q->oC C.base X0 Q (kd v HA')) {r:nK} (hr:∀p,x HA=some p->rG φ r HA kd=kd p.1 p.2):oC C.base X0 Q (rG φ r HA kd):=by
 have h:=h HA.next ho.nextT ho.base;rw[cX]at h;obtain⟨⟨v,H'⟩,h1,h2⟩:=h;obtain⟨HA',h3,h4⟩:=hx _ _ _ _ _ ho h1
 grind [sJ.refl]
theorem AJ(hW:yV C A W)(ho:Ov C.base t X HA){f:Nat}(hf:Nat.blt f yo=true){args:List zA}{K:zA->T}(h:W f args t fun v t'=>lA C.base W J (K v) t' Q){kd:zA->wA->dB}
  (hK:∀v t' HA' X',Ov C.base t' X' HA'->sJ X X'->lA C.base W J (K v) t' Q->oC C.base X0 Q (kd v HA')):oC C.base X0 Q (rG (qD C A) (Hg C HA args f (C.prims.get f)) HA kd):=by
 obtain⟨v,t',HA',X',h1,h2,h3,h4⟩:=hW _ _ _ _ h X HA ho;rw[Hf hf]at h1;unfold Hg
 cases hp:C.prims.get f with
 | some g=>
  rw[hp]at h1;simp only[h1];exact hK _ _ _ _ h2 h3 h4
 | none=>
  rw[hp]at h1;have h1:qD C A (.func f) args HA=some (v,HA'):=h1;show oC C.base X0 Q (ob (qD C A (.func f) args HA) fun p=>kd p.1 p.2);rw[h1];exact hK _ _ _ _ h2 h3 h4
def zb7(hW:yV C A W)(ho:Ov C.base t X HA){l:Nat}{args:List zA}{K:zA->T}(h:W (yo+l) args t fun v t'=>lA C.base W J (K v) t' Q){kd:zA->wA->dB}
  (hK:∀v t' HA' X',Ov C.base t' X' HA'->sJ X X'->lA C.base W J (K v) t' Q->oC C.base X0 Q (kd v HA')):oC C.base X0 Q (rG (qD C A) (.round l args) HA kd):=by
 obtain⟨v,t',HA',X',h1,h2,h3,h4⟩:=hW _ _ _ _ h X HA ho;rw[NK]at h1;show oC C.base X0 Q (ob (qD C A (.yld l) args HA) fun p=>kd p.1 p.2);rw[h1];exact hK _ _ _ _ h2 h3 h4
theorem Ov.setX{base:Nat}(h:Ov base t X HA){b:Nat}{y:sA}(hb:X b=some y)(z:sA):Ov base t (fun c=>if c=b then some z else X c) (Am.setBlk HA b z):=by
 obtain⟨g1,g2,g3⟩:=h.ext b y hb;refine⟨h.base,fun c hc=>?_,fun c u hc=>?_,h.lt⟩
 ·split at hc
  ·cases hc
  ·rename_i hne;show(HA.t.set b z).get c=_;rw[Tr.get_set,yaa hne];exact h.same c hc
 ·show(HA.t.set b z).get c=_/\_/\c<HA.next;rw[Tr.get_set];split at hc
  ·simp_all
  ·rename_i hne;rw[yaa hne];exact h.ext c u hc
theorem Ov.newX{base:Nat}(h:Ov base t X HA)(z:sA):Ov base t (fun c=>if c=HA.next then some z else X c) (Am.newBlk HA z):=by
 refine⟨Nat.le_succ_of_le h.base,fun c hc=>?_,fun c u hc=>?_,fun b y hb=>Nat.lt_succ_of_lt (h.lt b y hb)⟩
 ·split at hc
  ·cases hc
  ·rename_i hne;show(HA.t.set HA.next z).get c=_;rw[Tr.get_set,yaa hne];exact h.same c hc
 ·show(HA.t.set HA.next z).get c=_/\_/\c<HA.next+1;rw[Tr.get_set];split at hc
  ·rename_i e;cases hc;subst e;rw[yab rfl];exact⟨rfl,h.nextT,Nat.lt_succ_self _⟩
  ·rename_i hne;rw[yaa hne];have:=h.ext c u hc;grind
theorem VU(ho:Ov C.base t X HA)(hl:Mh C.base X0 X ν lo){d off:Nat}{l l':List zA}{u:zA}{sz:Nat}(h1:lo.get d=some l)(h2:Aw l off sz u=some l')(h3:nE zA.one u.cells=true) :
  Nat.beq (kB u.cells) sz=true/\l'.length=l.length/\∃c',zJ C HA (ν d) off u.cells=some (setBlk HA (ν d) (.cells c' l.length none))/\∀j a,l'[j]?=some a->c'.get j=some a:=by
 obtain⟨_,hb,c,hc,hg⟩:=hl d l h1;have hx:=(ho.ext _ _ hc).1;unfold Aw at h2;simp only[fB,ybb,rF,jD,zH,sS,zU,Option.some.injEq]at h2;obtain⟨⟨g1,g2⟩,g3⟩:=h2;subst g3;refine⟨by grind [jD],?_,c.setMany u.cells off,?_,?_⟩
 ·grind
 ·grind [zJ,Nat.blt,oD,fB,pA,sA.asCells,rF,jD]
 ·intro j a hj;rw[Tr.get_setMany];grind
theorem zax{y:eC}{u:zA}(h:nE zA.one (He y u)=true):He y u=u.cells:=by
 grind [He,iI,Xk]
theorem TG{op:Op}{v:zA}{kd:zA->wA->dB}{φ:pH}(h:(oF op).f C eA HA=some v):rG φ ((xG op).f C eA HA) HA kd=kd v HA:=by rw[za6 h];rfl
theorem WF{la:List Nat}{dst:Option Nat}{d:Nat}(h:laOf la dst=some d):dst=some d:=by
 unfold laOf at h;grind
theorem tH_ok(hW:yV C A W)(he:kR e eA)(ha:Ic ν ae eA)(ho:Ov C.base t X HA)(hl:Mh C.base X0 X ν lo){la:List Nat}{dst:Option Nat}{op:Op}
  (h:lA C.base W J (tH C la dst op e ae lo k kl) t Q) {kd:zA->wA->dB}
  (hK:∀v t' HA' X',Ov C.base t' X' HA'->sJ X X'->lA C.base W J (k.K v) t' Q->oC C.base X0 Q (kd v HA'))
  (hKd:∀v t' HA' X',Ov C.base t' X' HA'->sJ X X'->lA C.base W J (k.Kd v) t' Q->oC C.base X0 Q (kd v HA'))
  (hKA:∀d off,lA C.base W J (k.KA d off) t Q->oC C.base X0 Q (kd (.ptr (ν d) off) HA))
  (hnew:∀d l,laOf la dst=some d->lA C.base W J (kl.new d l) t Q->oC C.base X0 Q (kd (.ptr HA.next 0) (uF HA l none)))
  (hset:∀d l l' c',lo.get d=some l->l'.length=l.length->(∀j a,l'[j]?=some a->c'.get j=some a)->lA C.base W J (kl.set d l') t Q->oC C.base X0 Q (kd vE (setBlk HA (ν d) (.cells c' l.length none)))) :
  oC C.base X0 Q (rG (qD C A) ((xG op).f C eA HA) HA kd):=by
 have light:∀(op:Op),lA C.base W J (tL C op e ae lo k) t Q->oC C.base X0 Q (rG (qD C A) ((xG op).f C eA HA) HA kd):=by
  intro op h;obtain⟨v,h1,h2⟩:=zg9 (R:=fun v=>oC C.base X0 Q (kd v HA)) he ha ho hl h (fun v h=>hK v _ _ _ ho (sJ.refl _) h) (fun v h=>hKd v _ _ _ ho (sJ.refl _) h) hKA
  grind [TG]
 cases op<;>simp only[tH]at h<;>try (exact light _ h)
 case alloc ty=>
  show oC C.base X0 Q (rG _ (Ar ty C eA HA) HA kd);rw[sD]at h;split at h
  ·rename_i ht;have ht:vK C ty=none:=by
    cases hx:vK C ty with
    | none=>rfl
    | some _=>rw[hx]at ht;cases ht
   split at h
   ·rename_i d hd;rw[wE]at h;obtain⟨y,h1,h2⟩:=h;unfold Ar;rw[h1,ht];exact hnew d _ hd h2
   ·refine kS ho PX h hK fun p hp=>?_;unfold Ar;rw[ht];have hp:(ob (C.tys.get ty) fun ty=>some (.ptr HA.next 0,uF HA ty.zero none))=some p:=hp;rw[hp];rfl
  ·refine kS ho PY h hK fun p hp=>?_;unfold Ar;unfold Cc at hp;rw[hp];rfl
 case box ty x=>
  rw[sD]at h;show oC C.base X0 Q (rG _ (kY ty x C eA HA) HA kd);unfold kY;split at h
  ·rename_i ht;have ht:vK C ty=none:=by
    cases hx:vK C ty with
    | none=>rfl
    | some _=>rw[hx]at ht;cases ht
   rw[wE]at h;obtain⟨v,h1,h⟩:=h;rw[dE he h1,ht];split at h
   ·rename_i d hd;rw[wE]at h;obtain⟨y,_,h⟩:=h;rw[sD]at h;split at h
    ·exact hnew d _ hd h
    ·have h:if zA.one v=true then lA C.base W J (kl.new d [v]) t Q else False:=h;split at h
     ·rename_i h1;have:=hnew d _ hd h;rw[<- Xk h1]at this;exact this
     simp_all
   ·refine kS ho zgz h hK fun p hp=>?_;cases hp;rfl
  ·rw[wE]at h;obtain⟨v,h1,h⟩:=h;rw[dE he h1];refine kS ho zbi h hK fun p hp=>?_;cases hp;rfl
 case buildSlice ty n ps=>
  rw[wE]at h;obtain⟨vs,h1,h⟩:=h;show oC C.base X0 Q (rG _ (Aq ty n ps C eA HA) HA kd);refine kS ho PU h hK fun p hp=>?_;refine aZ (v:=p.1) (H':=p.2) ?_;rw[Zq he h1];exact hp
 case makeMap ty r=>
  cases r with
  | some _=>simp_all
  | none=>
   simp only[]at h;show oC C.base X0 Q (rG _ (Lj none C eA HA) HA kd);refine kS ho PO h hK fun p hp=>?_;cases hp;rfl
 case makeSlice ty l c=>
  simp only[wE]at h;obtain⟨a,h1,b,h2,h⟩:=h;show oC C.base X0 Q (rG _ (Zf ty l c C eA HA) HA kd);refine kS ho PN h hK fun p hp=>?_;refine aZ (v:=p.1) (H':=p.2) ?_
  grind [dE,fJ,pA]
 case store ty a x=>
  unfold zef at h;show oC C.base X0 Q (rG _ (Li ty a x C eA HA) HA kd);split at h
  ·rename_i p hp;simp only[wE]at h;obtain⟨u,h1,y,h2,l,h3,l',h4,h5⟩:=h;have h5:if nE zA.one (He y u)=true then lA C.base W J (kl.set p.1 l') t Q else False:=h5;split at h5
   ·rename_i hone;have hcell:=zax hone;rw[hcell]at hone h4;have h4:Aw l p.2 y.size u=some l':=h4;obtain⟨g1,g2,c',g3,g4⟩:=VU ho hl h3 h4 hone;have:=hset p.1 l l' c' h3 g2 g4 h5;have e1:rG (qD C A) (Li ty a x C eA HA) HA kd=kd vE (setBlk HA (ν p.1) (.cells c' l.length none)):=by
     refine aZ ?_;rw[h2,pA,Bu ha hp,pA];simp only[zA.asPtr,pA];rw[dE he h1,pA,g1,g3];rfl
    simp_all
   simp_all
  ·simp only[wE]at h;obtain⟨av,h1,u,h2,h⟩:=h;refine kS ho PK h hKd fun p hp=>?_;refine aZ (v:=p.1) (H':=p.2) ?_
   grind [dE,pE,pA]
 case convert s d x=>
  rw[sD]at h;split at h
  ·rename_i hd;rw[wE]at h;obtain⟨u,h1,h⟩:=h;show oC C.base X0 Q (rG _ (vW s d x C eA HA) HA kd);have hn:mN s d x C eA HA=none:=by
    rw[IY (dE he h1)]
    cases hq:kK C s d HA u with
    | none=>rfl
    | some q=>
     exfalso;unfold kK at hq;simp only[rA]at hq;obtain⟨sy,g1,dy,g2,g3⟩:=hq;have hd:=bC.1 hd;unfold oH at hd;rw[g2]at hd;have hd:dy.desc.tag=4:=hd;unfold tQ at g3;have n1:dy.desc.asInt=none:=by cases hz:dy.desc<;>rw[hz]at hd<;>first | rfl | (cases hd;done)
     have n2:dy.desc.isString=false:=by unfold lD.isString;rw[hd];rfl
     rw[n1,n2]at g3;cases g3
   unfold vW;rw[hn];simp only[];refine kS ho PJ h hK fun p hp=>?_;refine aZ (v:=p.1) (H':=p.2) ?_;rw[dE he h1];exact hp
  grind [tL]
 case insert ty m key x=>
  simp only[wE]at h;obtain⟨mv,h1,kv,h2,u,h3,h⟩:=h;show oC C.base X0 Q (rG _ (Ap ty m key x C eA HA) HA kd);refine kS ho BR h hKd fun p hp=>?_;refine aZ (v:=p.1) (H':=p.2) ?_;rw[dE he h1,dE he h2,dE he h3];exact hp
 case mapUpdate ty m key x=>
  simp only[wE]at h;obtain⟨mv,h1,kv,h2,u,h3,h⟩:=h;show oC C.base X0 Q (rG _ (Ap ty m key x C eA HA) HA kd);refine kS ho BR h hKd fun p hp=>?_;refine aZ (v:=p.1) (H':=p.2) ?_;rw[dE he h1,dE he h2,dE he h3];exact hp
 case call c=>
  show oC C.base X0 Q (rG _ ((Gq c c.callee).f C eA HA) HA kd);split at h
  ·rename_i f hc;rw[hc];show oC C.base X0 Q (rG _ (Df f c.args C eA HA) HA kd);have cC:∀ {fv:zA} {aq:List zA},ev f e=some fv->uQ c.args.toList e=some aq->lA C.base W J (.callv fv aq k.K) t Q->oC C.base X0 Q (rG (qD C A) (Df f c.args C eA HA) HA kd):=by
    intro fv aq h1 h2 h;have h:oE (cS fv aq) fun p=>W p.1 p.2 t fun v t'=>lA C.base W J (k.K v) t' Q:=h;rw[cX]at h;obtain⟨⟨g,aq'⟩,h3,h4⟩:=h;unfold cS at h3;rw[rA]at h3;obtain⟨p,h5,h6⟩:=h3;have e0:Df f c.args C eA HA=zjy C HA (iD p.2.1 aq) p.2.2 p.1:=by
     unfold Df jT;rw[dE he h1,pA,h5,pA,LV he h2,pA,pA];rfl
    rw[e0]
    cases hp:p.1 with
    | func g'=>
     rw[hp]at h6;simp only[fB]at h6;obtain⟨hg,h6⟩:=h6;cases h6;exact AJ hW ho hg h4 hK
    | yld l=>
     rw[hp]at h6;simp only[fB,ybb]at h6;obtain⟨⟨ha,hb⟩,h6⟩:=h6;cases h6;have ea:p.2.1=[]:=by cases hx:p.2.1 with | nil=>rfl | cons _ _=>rw[hx]at ha;cases ha
     have eb:p.2.2=[]:=by cases hx:p.2.2 with | nil=>rfl | cons _ _=>rw[hx]at hb;cases hb
     rw[ea,eb];exact zb7 hW ho h4 hK
   unfold zeh at h;split at h
   ·rename_i g;rw[mM,wE]at h;obtain⟨hg,aq,h1,h⟩:=h;refine cC (fv:=.func (.func g) [] []) rfl h1 ?_;show oE (cS (.func (.func g) [] []) aq) _;have e2:cS (.func (.func g) [] []) aq=some (g,aq):=by
     show mB (Nat.blt g yo) (some (g,iD (iD [] aq) []))=_;rw[hg,zH,zH];simp[mB]
    rw[e2];exact h
   grind [wE]
  ·rename_i b hb;rw[hb];have lt:lA C.base W J (Je C c e k b) t Q->oC C.base X0 Q (rG (qD C A) ((Gq c (.builtin b)).f C eA HA) HA kd):=by
    intro h;have:=light (.call c) (by show lA C.base W J (match c.callee with | .builtin b=>Je C c e k b | _=>.fail) t Q;simp_all)
    have e1:(xG (.call c)).f C eA HA=(Gq c c.callee).f C eA HA:=rfl
    simp_all
   unfold CQ at h;split at h
   ·simp only[wE,two']at h;obtain⟨ty,h1,u,h2,p,h3,h⟩:=h;show oC C.base X0 Q (rG _ (Gr c C eA HA) HA kd);refine kS ho PW h hK fun q hq=>?_;refine aZ (v:=q.1) (H':=q.2) ?_
    grind [vF,rA,fB,Tb]
   grind
  ·cases h
end
end
section
structure gF (base:Nat) (X0:Xt) (kf:Nat) (ν:Nat->Nat) (X:Xt) (st:lG) (tm:Tm) (HA:wA) (t:Tr sA):Prop where
 ov:Ov base t X HA
 le:sJ X0 X
 k:st.tm.k=kf
 kA:tm.k=kf
 tms:∀i v,st.tm.get i=some v->tm.get i=some v
 ads:∀i p,qK i st.ad=some p->tm.get i=some (.ptr (ν p.1) p.2)
 lo:Mh base X0 X ν st.lo
 inj:∀d d' l l',st.lo.get d=some l->st.lo.get d'=some l'->ν d=ν d'->d=d'
theorem Hu{i:Nat}{a:Nat × Nat × Nat}{l:List (Nat × Nat × Nat)}:qK i (a::l)=if i=a.1 then some a.2 else qK i l:=by
 grind [qK,kJ,bC]
theorem za9{i:Nat}{p:Nat × Nat}:∀ {l:List (Nat × Nat × Nat)},qK i l=some p->(i,p.1,p.2)∈l:=by
 intro l;induction l with
 | nil=>intro h;cases h
 | cons a l ih=>
  grind [Hu]
theorem Om{n:Nat}{tm:Tm}{dst:Option Nat}{v:zA}:(putA n tm dst v).k=tm.k:=by
 unfold putA putB
 cases dst with
 | none=>rfl
 | some d=>
  grind [Ol,Tm.set,kJ]
theorem Tm.set_k{tm:Tm}{i:Nat}{v:zA}:(tm.set i v).k=tm.k:=by unfold Tm.set;rw[kJ];split<;>rfl
section
variable {W J:pI}{t:Tr sA}{X X0:Xt}{HA:wA}{C:fA}{A:Tr kD}{ν:Nat->Nat}{Q:wC}{kf n:Nat}{st:lG}{tm:Tm}
theorem gF.put(h:gF C.base X0 kf ν X st tm HA t){dst:Option Nat}{v:zA}{lt:Bool}{κ:KT}(hw:lA C.base W J (kP n dst v lt st κ) t Q) :
  ∃st',gF C.base X0 kf ν X st' (putA n tm dst v) HA t/\lA C.base W J (κ st') t Q:=by
 unfold kP at hw
 cases dst with
 | none=>exact⟨st,h,hw⟩
 | some d=>
  simp only[sD]at hw;split at hw
  ·rename_i hd;rw[mM]at hw;obtain⟨h1,h2⟩:=hw;refine⟨_,?_,h2⟩;refine⟨h.ov,h.le,(by grind [k,Tm.set_k]),by rw[Om];exact h.kA,?_,?_,h.lo,h.inj⟩
   ·intro i u hi;have hi2:(st.tm.set d v).get i=some u:=hi;rw[Tm.get_set]at hi2;rw[aJ];split at hi2
    ·simp_all
    ·rename_i e;rw[yaa (fun hh=>e (by simp_all))];exact h.tms i u hi2
   ·intro i p hi;rw[aJ,yaa]
    ·exact h.ads i p hi
    ·rintro⟨e,_⟩;injection e with e;subst e;rw[hi]at h1;cases h1
  ·rename_i hd;refine⟨st,?_,hw⟩
   simp_all [putA,putB,Ol,sD,yaa]
theorem gF.putA(h:gF C.base X0 kf ν X st tm HA t){dst:Option Nat}{d off:Nat}{κ:KT}(hw:lA C.base W J (zg8 n dst d off st κ) t Q) :
  ∃st',gF C.base X0 kf ν X st' (Am.putA n tm dst (.ptr (ν d) off)) HA t/\lA C.base W J (κ st') t Q:=by
 unfold zg8 at hw;rw[wE]at hw;obtain⟨i,h1,hw⟩:=hw;subst h1;simp only[mM]at hw;obtain⟨h2,h3,h4⟩:=hw;refine⟨_,?_,h4⟩;refine⟨h.ov,h.le,h.k,by rw[Om];exact h.kA,?_,?_,h.lo,h.inj⟩
 ·intro j u hj;rw[aJ,yaa]
  ·exact h.tms j u hj
  ·rintro⟨e,_⟩;injection e with e;subst e;have hj:st.tm.get i=some u:=hj;rw[hj]at h3;cases h3
 ·intro j p hj;have hj:qK j ((i,d,off)::st.ad)=some p:=hj;rw[Hu]at hj;rw[aJ];split at hj
  ·rename_i e;cases hj;rw[yab ⟨by rw[e],by simp_all⟩]
  ·rename_i e;rw[yaa (fun hh=>e (by simp_all))];exact h.ads j p hj
theorem gF.new(h:gF C.base X0 kf ν X st tm HA t){d:Nat}{l:List zA}{κ:KT}(hw:lA C.base W J (tNew n d l st κ) t Q) :
  ∃st' ν' X',gF C.base X0 kf ν' X' st' (Am.putA n tm (some d) (.ptr HA.next 0)) (uF HA l none) t/\lA C.base W J (κ st') t Q:=by
 unfold tNew at hw;simp only[mM]at hw;obtain⟨h1,h2,h3,h4⟩:=hw;have hx:=h.ov.nextX;refine⟨_,fun c=>if c=d then HA.next else ν c,fun c=>if c=HA.next then some (.cells (Tr.ofList l) (kB l) none)else X c,?_,h4⟩;refine⟨h.ov.newX _,?_,h.k,by rw[Om];exact h.kA,?_,?_,?_,?_⟩
 ·intro b y hb;have:X b=some y:=h.le b y hb
  grind
 ·intro j u hj;rw[aJ,yaa]
  ·exact h.tms j u hj
  ·rintro⟨e,_⟩;injection e with e;subst e;have hj:st.tm.get d=some u:=hj;rw[hj]at h2;cases h2
 ·intro j p hj;have hj:qK j ((d,d,0)::st.ad)=some p:=hj;rw[Hu]at hj;rw[aJ];split at hj
  ·rename_i e;cases hj;rw[yab ⟨by rw[e],by simp_all⟩];show some (zA.ptr HA.next 0)=some (zA.ptr (if d=d then HA.next else ν d) 0);rw[yab rfl]
  ·rename_i e;rw[yaa (fun hh=>e (by simp_all))];have hm:=za9 hj;unfold ze8 at h3;rw[iI,ycb]at h3;have:=h3 _ hm;simp only[sD]at this;have hne:p.1≠d:=by
    simp_all
   show Tm.get tm j=some (zA.ptr (if p.1=d then HA.next else ν p.1) p.2);rw[yaa hne];exact h.ads j p hj
 ·intro c m hc;have hc:(st.lo.set d l).get c=some m:=hc;rw[Tr.get_set]at hc;show X0 (if c=d then HA.next else ν c)=none/\C.base<=(if c=d then HA.next else ν c)/\∃c',(if (if c=d then HA.next else ν c)=HA.next then some (sA.cells (Tr.ofList l) (kB l) none)else X (if c=d then HA.next else ν c))=some (.cells c' m.length none)/\∀j a,m[j]?=some a->c'.get j=some a;split at hc
  ·rename_i e;cases hc;simp only[e,if_true];refine⟨?_,h.ov.base,Tr.ofList l,by rw[jD],fun j a hj=>by grind [Tr.get_ofList]⟩
   cases hq:X0 HA.next with
   | none=>rfl
   | some z=>have:=h.le _ _ hq;simp_all
  ·rename_i e;simp only[yaa e];obtain⟨g1,g2,c',g3,g4⟩:=h.lo c m hc
   grind
 ·intro c c' m m' hc hc' he;have hc:(st.lo.set d l).get c=some m:=hc;have hc':(st.lo.set d l).get c'=some m':=hc';have he:(if c=d then HA.next else ν c)=(if c'=d then HA.next else ν c'):=he;rw[Tr.get_set]at hc hc';split at hc<;>split at hc'
  ·rename_i e1 e2;rw[e1,e2]
  ·rename_i e1 e2;rw[yab e1,yaa e2]at he;obtain⟨_,_,_,g3,_⟩:=h.lo c' m' hc'
   simp_all
  ·rename_i e1 e2;rw[yaa e1,yab e2]at he;obtain⟨_,_,_,g3,_⟩:=h.lo c m hc
   simp_all
  ·rename_i e1 e2;rw[yaa e1,yaa e2]at he;exact h.inj c c' m m' hc hc' he
theorem gF.setLo(h:gF C.base X0 kf ν X st tm HA t){d:Nat}{l l':List zA}{c':Tr zA}(h1:st.lo.get d=some l)(h2:l'.length=l.length)(h3:∀j a,l'[j]?=some a->c'.get j=some a) :
  ∃X',gF C.base X0 kf ν X' ⟨st.tm,st.ad,st.lo.set d l',st.lit⟩ tm (setBlk HA (ν d) (.cells c' l.length none)) t:=by
 obtain⟨g1,g2,c,g3,g4⟩:=h.lo d l h1;refine⟨_,h.ov.setX g3 _,?_,h.k,h.kA,h.tms,h.ads,?_,?_⟩
 ·intro b y hb;show(if b=ν d then _ else X b)=some y;rw[yaa]
  ·exact h.le b y hb
  grind
 ·intro e m he;have he:(st.lo.set d l').get e=some m:=he;rw[Tr.get_set]at he;split at he
  ·simp_all
  ·rename_i e1;obtain⟨k1,k2,k3,k4,k5⟩:=h.lo e m he;refine⟨k1,k2,k3,?_,k5⟩;show(if ν e=ν d then _ else X (ν e))=_;rw[yaa,k4];intro e2;exact e1 (h.inj e d m l he h1 e2)
 ·intro e e' m m' he he' hv;have he:(st.lo.set d l').get e=some m:=he;have he':(st.lo.set d l').get e'=some m':=he';rw[Tr.get_set]at he he';have x1:∃q,st.lo.get e=some q:=by
   grind
  have x2:∃q,st.lo.get e'=some q:=by
   grind
  exact h.inj e e' _ _ x1.choose_spec x2.choose_spec hv
def gF.later(h:gF C.base X0 kf ν X st tm HA t){X':Xt}{HA':wA}{t':Tr sA}(ho:Ov C.base t' X' HA')(hx:sJ X X'):gF C.base X0 kf ν X' st tm HA' t':=
 ⟨ho,h.le.trans hx,h.k,h.kA,h.tms,h.ads,fun d l hd=>by
  obtain⟨g1,g2,c,g3,g4⟩:=h.lo d l hd;exact⟨g1,g2,c,hx _ _ g3,g4⟩,h.inj⟩
theorem Rb{ty:Nat}{v:zA}(h:fitB C ty v=true):cY C ty v:=by
 unfold fitB at h;unfold cY
 cases hy:C.tys.get ty with
 | none=>trivial
 | some y=>
  rw[hy]at h;simp only at h ⊢;unfold fitD;cases hd:y.desc<;>rw[hd]at h<;>simp only at h ⊢
  case bool=>
   have:=bC.1 h;cases v<;>simp only[zA.tag]at this<;>first
    | exact⟨_,rfl⟩
    | (cases this;done)
  case int k=>
   cases v<;>simp only[zA.asIntK]at h<;>first
    | exact⟨_,by rw[dK.1 h]⟩
    | (cases h;done)
  case string=>
   have:=bC.1 h;cases v<;>simp only[zA.tag]at this<;>first
    | exact⟨_,rfl⟩
    | (cases this;done)
theorem Zk{ty:Nat}{v:zA}(h:(!Nat.ble (oH C ty) 2)=true):cY C ty v:=by
 unfold cY;unfold oH at h
 cases hy:C.tys.get ty with
 | none=>trivial
 | some y=>
  rw[hy]at h;simp only at h ⊢;unfold fitD;cases hd:y.desc<;>rw[hd]at h<;>first
   | trivial
   | (simp only[lD.tag]at h;exact absurd h (by decide))
def Lm:∀(zs l:List zA) (pre:List zA),cO zs l=true->wJ zs (cellsOf (pre++l)) pre.length=l:=by
 intro zs;induction zs with
 | nil=>intro l pre h;cases l with
  | nil=>rfl
  | cons a l=>cases h
 | cons z zs ih=>
  intro l pre h
  cases l with
  | nil=>cases h
  | cons a l=>
   unfold cO at h;rw[ybb]at h;show Kl z (cellsOf (pre++a::l)) pre.length::wJ zs (cellsOf (pre++a::l)) (pre.length+1)=a::l;have e2:=ih l (pre++[a]) h.2;rw[ybz]at e2;simp only[List.cons_append,yah,ybg,ybn,ybx]at e2;rw[e2];congr 1;have hg:(pre++a::l)[pre.length]?=some a:=by simp
   have h1:=h.1;cases z<;>simp only[fU]at h1<;>simp only[Kl,cellsOf,xZ,Lc,Nn,gZ,hg]<;>try (cases h1;done)
   case bool=>
    have:=bC.1 h1;cases a<;>simp only[zA.tag]at this<;>first
     | rfl
     | (cases this;done)
   case int k _=>
    cases a<;>simp only[zA.asIntK]at h1<;>first
     | (rw[dK.1 h1];done)
     | (cases h1;done)
   case str=>
    have:=bC.1 h1;cases a<;>simp only[zA.tag]at this<;>first
     | rfl
     | (cases this;done)
theorem CO{ty:Nat}{v:zA}{K:zA->T}(h:lA C.base W J (Jd C ty v K) t Q):cY C ty v/\lA C.base W J (K v) t Q:=by
 unfold Jd at h;unfold cY;have agg:∀zs,lA C.base W J (bif Nat.ble (kB zs) 40 then .asG zs v fun X=>K (.agg (wJ zs X 0))else K v) t Q->lA C.base W J (K v) t Q:=by
  intro zs h;rw[sD]at h;split at h
  ·have h:oE (cN zs v) fun X=>lA C.base W J (K (.agg (wJ zs X 0))) t Q:=h;rw[cX]at h;obtain⟨X,h1,h2⟩:=h;unfold cN at h1;simp only[rA,fB]at h1;obtain⟨l,h3,h4,h5⟩:=h1;cases h5;have:=Lm zs l [] h4
   grind [Ho]
  ·exact h
 grind [fitD,lA,cX,Bh,Dc,rA,fB,cU,dK,dU]
theorem Nf{g lt:Bool}{v:zA}{K:zA->Bool->T}(h:lA C.base W J (Fa g lt v K) t Q):∃lt',lA C.base W J (K v lt') t Q:=by
 grind [Fa,wE,Bh,lA]
theorem Io(h:gF C.base X0 kf ν X st tm HA t){g:Option (Nat × Bool)}{all:Array Oper}{w:Bool}(hw:iF g all st.tm=some w):iF g all tm=some w:=by
 unfold iF Iq at hw ⊢
 cases g with
 | none=>exact hw
 | some jw=>
  simp only[Ip]at hw ⊢;rw[rA]at hw ⊢;obtain⟨d,h1,hw⟩:=hw;refine⟨d,h1,?_⟩;rw[rA]at hw ⊢;obtain⟨v,h2,hw⟩:=hw;exact⟨v,h.tms _ _ h2,hw⟩
def SK (C:fA)(W J:pI)(X0:Xt)(kf:Nat)(Q:wC)(κ:KT)(m:Tm->wA->dB):Prop:=∀st tm HA t X ν,gF C.base X0 kf ν X st tm HA t->lA C.base W J (κ st) t Q->oC C.base X0 Q (m tm HA)
theorem oC.norm{ty:Nat}{v:zA}{K:zA->dB}(hf:cY C ty v)(h:oC C.base X0 Q (K v)):oC C.base X0 Q (gK C ty v K):=by
 obtain⟨u,t',HA',X',h1,h2⟩:=h;exact⟨u,t',HA',X',bP.2 ⟨hf,h1⟩,h2⟩
theorem oC.ob{α:Type}{x:Option α}{a:α}{K:α->dB}(hx:x=some a)(h:oC C.base X0 Q (K a)):oC C.base X0 Q (Am.ob x K):=by simp_all
theorem DH(hW:yV C A W){e eA:xD}{ae:nM}(he:kR e eA)(ha:Ic ν ae eA)(hst:gF C.base X0 kf ν X st tm HA t){la:List Nat}{all:Array Oper}{o:Oper}{κ:KT}{m:Tm->wA->dB}
  (hκ:∀st' tm' HA' t' X' ν',(la=[]->ν'=ν)->gF C.base X0 kf ν' X' st' tm' HA' t'->(∃v,tm'=putA n tm o.dst v)->lA C.base W J (κ st') t' Q->oC C.base X0 Q (m tm' HA'))
  (h:lA C.base W J (tH C la o.dst o.op e ae st.lo (kop C all n o e st κ) (klo C n o st κ)) t Q) :
  oC C.base X0 Q (rG (qD C A) ((xG o.op).f C eA HA) HA fun v H'=>gK C o.type v fun v=>m (putA n tm o.dst v) H'):=by
 refine tH_ok hW he ha hst.ov hst.lo h ?_ ?_ ?_ ?_ ?_
 ·intro v t' HA' X' ho hx hk;have hk:lA C.base W J (Jd C o.type v fun v=>Fa (Qi all.toList o.dst all.toList) (Pr o.op e st.lit) v fun v lt=>kP n o.dst v lt st κ) t' Q:=hk;obtain⟨h1,h2⟩:=CO hk;obtain⟨lt',h3⟩:=Nf h2;obtain⟨st',h4,h5⟩:=(hst.later ho hx).put h3
  grind [oC.norm]
 ·intro v t' HA' X' ho hx hk;obtain⟨h1,h2⟩:=mM.1 hk;obtain⟨lt',h3⟩:=Nf h2;obtain⟨st',h4,h5⟩:=(hst.later ho hx).put h3
  grind [oC.norm,Rb]
 ·intro d off hk;obtain⟨h1,h2⟩:=mM.1 hk;obtain⟨st',h4,h5⟩:=hst.putA h2
  grind [oC.norm,Zk]
 ·intro d l hd hk;obtain⟨h1,h2⟩:=mM.1 hk;obtain⟨st',ν',X',h4,h5⟩:=hst.new h2;have e:=WF hd;rw[e];refine oC.norm (Zk h1) (hκ _ _ _ _ _ _ (fun hl=>?_) h4 ⟨_,by rw[e]⟩ h5);rw[hl,e]at hd;cases hd
 ·intro d l l' c' h1 h2 h3 hk;obtain⟨h4,h5⟩:=mM.1 hk;obtain⟨X',h6⟩:=hst.setLo h1 h2 h3;obtain⟨st',h7,h8⟩:=h6.put h5
  grind [oC.norm,Rb]
def Pj(h:gF C.base X0 kf ν X st tm HA t):kR (.now st.tm) (.now tm)/\Ic ν (.now st.ad) (.now tm):=⟨h.tms,h.ads⟩
def zg3(hW:yV C A W){la:List Nat}{all:Array Oper}{κ:KT}{m:Tm->wA->dB}(hκ:SK C W J X0 kf Q κ m):∀(l:List Oper),SK C W J X0 kf Q (tops C la all n κ l) (pN C (qD C A) all n m l):=by
 intro l;induction l with
 | nil=>exact hκ
 | cons o l ih=>
  intro st tm HA t X ν hst h;have h:lA C.base W J (tC (iF o.guard all st.tm) fun w=>Bool.rec (motive:=fun _=>T) (kP n o.dst vE false st (tops C la all n κ l))
   (tH C la o.dst o.op (.now st.tm) (.now st.ad) st.lo (kop C all n o (.now st.tm) st (tops C la all n κ l)) (klo C n o st (tops C la all n κ l))) w) t Q:=h
  rw[wE]at h;obtain⟨w,h1,h2⟩:=h;rw[Cs];refine oC.ob (Io hst h1) ?_
  cases w with
  | false=>
   rw[yaa (by simp)];obtain⟨st',h3,h4⟩:=hst.put h2;exact ih _ _ _ _ _ _ h3 h4
  | true=>
   rw[yab rfl];exact DH hW (Pj hst).1 (Pj hst).2 hst (fun st' tm' HA' t' X' ν' _ hs _ hw=>ih _ _ _ _ _ _ hs hw) h2
end
end
end Go.Am
