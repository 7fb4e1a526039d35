/- Code as a tree: what a piece of code asks of memory and of its calls, with the local blocks of a function kept out of memory. -/
import Derived.Test.YtmmedgeabnpnhaaGreatDoorA04
set_option linter.all false
noncomputable section
namespace Go.Am
open Go Go.RowKit
section
def aA(C:oA)(t:Nat)(H:xA)(v:zA):Option zA:=ob v.asPtr fun p=>ob (C.tys.get t) fun ty=>ob (aC H p.1) fun c=>vP ty c.1 p.2
def nJ(C:oA)(s d:Nat)(H:xA)(a:zA):Option zA:=ob (C.tys.get s) fun s=>ob (C.tys.get d) fun d=>tO C s d a H
def tE(C:oA)(t:Nat)(H:xA)(a:zA)(l h:Option zA):Option zA:=ob (C.tys.get t) fun ty=>iK C H ty a l h
def Fb(C:oA)(s f:Nat):Option Nat:=ob (C.tys.get s) fun ty=>ob ty.desc.asStruct fun fs=>ob (fC fs f) fun fd=>xB (!Nat.beq fd.2.2 0) (some fd.1)
def zE(C:oA)(s f:Nat)(v:zA):Option zA:=ob (Fb C s f) fun k=>ob v.asPtr fun p=>some (.ptr p.1 (p.2+k))
def jB(C:oA)(t:Nat)(v i:zA):Option zA:=
 ob (C.tys.get t) fun ty=>ob i.asNat fun i=>
  match v.asSlice with
  | some s=>ob ty.desc.asSlice fun el=>ob (C.tys.get el) fun et=>xB (Nat.blt i s.2.2.1) (some (.ptr s.1 (s.2.1+i*et.size)))
  | none=>ob v.asPtr fun p=>ob ty.desc.asArr fun a=>ob (C.tys.get a.2) fun et=>xB (Nat.blt i a.1) (some (.ptr p.1 (p.2+i*et.size)))
def Xg(C:oA)(t i:Nat):Option Nat:=ob (C.tys.get t) fun ty=>ob ty.desc.asArr fun a=>ob (C.tys.get a.2) fun et=>xB (Nat.blt i a.1) (some (i*et.size))
def cP(C:oA)(t:Nat)(v i:zA):Option zA:=
 ob (C.tys.get t) fun ty=>ob i.asNat fun i=>
  match v.asStr with
  | some s=>xB ty.desc.isString (ob (fC s i) fun b=>some (.int .u8 (.ofNat b)))
  | none=>ob v.asAgg fun l=>ob ty.desc.asArr fun a=>ob (C.tys.get a.2) fun et=>xB (Nat.blt i a.1) (mM C a.2 l (i*et.size))
def gI(i:Nat)(v:zA):Option zA:=ob v.asTup fun l=>fC l i
def dP (C:oA)(t:Nat)(H:xA)(v:zA):Option zA:=ob (C.tys.get t) fun ty=>ob (rQ H ty v) fun n=>some (.int .i64 (.ofNat n))
def vB(v:zA):Option zA:=
 match v.asSlice with
 | some s=>some (.int .i64 (.ofNat s.2.2.1))
 | none=>xB (Nat.beq v.tag 5) (some (.int .i64 (.ofNat 0)))
def Bn (v:zA):Option zA:=xB (Nat.beq v.tag 4||Nat.beq v.tag 9) (some v)
def Pa(C:oA)(u:Nat)(ok:Bool)(v:zA):Option zA:=
 ob (C.tys.get u) fun ty=>xB (Nat.blt ty.desc.tag 9) (
  match v.asIface with
  | some p=>bif Nat.beq p.1 u then some (bif ok then .tup [p.2,.bool true]else p.2)else xB ok (some (.tup [lS ty,.bool false]))
  | none=>xB (Nat.beq v.tag 12&&ok) (some (.tup [lS ty,.bool false])))
def iS(C:oA)(t:Nat)(H:xA)(m k:zA)(ok:Bool):Option zA:=
 ob (C.tys.get t) fun ty=>ob ty.desc.asMap fun ke=>ob (C.tys.get ke.1) fun kty=>xB (pQ C kty) (ob (C.tys.get ke.2) fun ety=>
  ob (oR H m) fun es=>xB (xO C kty k) (ob (yJ k es) fun r=>
   match r with
   | some v=>some (bif ok then .tup [v,.bool true]else v)
   | none=>some (bif ok then .tup [lS ety,.bool false]else lS ety)))
def mU(C:oA)(t:Nat)(H:xA):Option (zA × xA):=ob (C.tys.get t) fun ty=>some (.ptr H.next 0,sE H ty.zero none)
def bP (v:zA)(H:xA):Option (zA × xA):=some (.ptr H.next 0,sE H v.cells none)
def Je(C:oA)(t:Nat)(H:xA):Option (zA × xA):=ob (C.tys.get t) fun ty=>some (.ptr H.next 0,sE H ty.zero (mJ C t))
def Bq(C:oA)(t:Nat)(v:zA)(H:xA):Option (zA × xA):=some (.ptr H.next 0,sE H v.cells (mJ C t))
def bE(C:oA)(t len:Nat)(ps:List (Nat × zA))(H:xA):Option (zA × xA):=
 ob (C.tys.get t) fun ty=>ob ty.desc.asSlice fun el=>ob (C.tys.get el) fun et=>
  xB (Nat.blt (len*et.size) 1000000&&Nat.beq (rB et.zero) et.size) (ob (yM (fun i=>some (i*et.size,et.size)) ps (pI et.zero len)) fun l=>some (.slice H.next 0 len len,sE H l none))
def kE(C:oA)(t:Nat)(a v:zA)(H:xA):Option (zA × xA):=ob (C.tys.get t) fun ty=>ob a.asPtr fun p=>xB (Nat.beq (rB v.cells) ty.size) (ob (xI C H p.1 p.2 v.cells) fun H'=>some (lD,H'))
def Jc(H:xA):Option (zA × xA):=some (.map H.next,newBlk H (.map []))
def eO(C:oA)(t:Nat)(m k v:zA)(H:xA):Option (zA × xA):=
 ob (C.tys.get t) fun ty=>ob ty.desc.asMap fun ke=>ob (C.tys.get ke.1) fun kty=>xB (pQ C kty)
  (ob m.asMap fun b=>xB (!Nat.blt b C.base) (ob (xJ H b) fun l=>xB (xO C kty k) (ob (eK k v l) fun l'=>some (lD,setBlk H b (.map l')))))
def sK(C:oA)(t:Nat)(l c:zA)(H:xA):Option (zA × xA):=
 ob (C.tys.get t) fun ty=>ob ty.desc.asSlice fun el=>ob (C.tys.get el) fun et=>ob l.asNat fun l=>ob c.asNat fun c=>
  xB (Nat.ble l c&&Nat.blt c 1000000&&Nat.blt (c*et.bytes) 1000000000&&Nat.beq (rB et.zero) et.size) (some (.slice H.next 0 l c,sE H (pI et.zero c) none))
def Oz(C:oA)(s d:Nat)(v:zA)(H:xA):Option (zA × xA):=
 ob (C.tys.get s) fun _=>ob (C.tys.get d) fun ty=>ob ty.desc.asSlice fun el=>ob (C.tys.get el) fun et=>ob et.desc.asInt fun k=>xB (bL k .u8) (ob v.asStr fun l=>
  some (.slice H.next 0 (rB l) (rB l),sE H (cT l) (some (.ty el))))
def nF(C:oA)(t u:Nat)(a b:zA)(H:xA):Option (zA × xA):=ob (C.tys.get t) fun ty=>ob (C.tys.get u) fun uty=>xB (!Nat.beq uty.desc.tag 1) (xU C H ty a b)
def vNext(v:zA)(H:xA):Option (zA × xA):=ob v.asPtr fun p=>xB (Nat.beq p.2 0) (ob (ob (H.t.get p.1) sA.asIter) fun x=>
 match fC x.1 x.2 with
 | some c=>xB (Nat.blt c 128) (some (.tup [.bool true,.int .i64 (.ofNat x.2),.int .i32 (.ofNat c)],setBlk H p.1 (.siter x.1 (x.2+1))))
 | none=>some (.tup [.bool false],H))
structure jI where
 b:Nat->Bool
 i:Nat->Int
 s:Nat->List Nat
 v:Nat->zA
inductive T where
 | ret (v:zA)
 | fail
 | ite (b:Bool) (x y:T)
 | opt (x:Option zA) (K:zA->T)
 | light (x:Tr sA->Option zA) (K:zA->T)
 | heavy (x:xA->Option (zA × xA)) (K:zA->T)
 | call (f:Nat) (args:List zA) (K:zA->T)
 | callv (f:zA) (args:List zA) (K:zA->T)
 | asI (k:IntKind) (v:zA) (K:Int->T)
 | asB (v:zA) (K:Bool->T)
 | asS (v:zA) (K:List Nat->T)
 | asG (zs:List zA) (v:zA) (K:jI->T)
 | jump (i:Nat) (vals:List zA)
 | range (np:Nat->Bool) (f:zA) (i m:Nat) (vals:List zA) (K R:T)
def yo:Nat:=1099511627776
def Gw(z:zA)(X:jI)(j:Nat):zA:=
 match z with
 | .bool _=>.bool (X.b j)
 | .int k _=>.int k (X.i j)
 | .str _=>.str (X.s j)
 | _=>X.v j
def iJ(zs:List zA)(X:jI):Nat->List zA:=
 List.rec (motive:=fun _=>Nat->List zA) (fun _=>[]) (fun z _ g j=>Gw z X j::g (j+1)) zs
def Aq(l:List zA)(j:Nat):Bool:=match l[j]? with | some (.bool b)=>b | _=>false
def Mk(l:List zA)(j:Nat):Int:=match l[j]? with | some (.int _ n)=>n | _=>0
def Rb(l:List zA)(j:Nat):List Nat:=match l[j]? with | some (.str s)=>s | _=>[]
def Bm(l:List zA)(j:Nat):zA:=match l[j]? with | some v=>v | _=>.nilptr
def cellsOf(l:List zA):jI:=⟨Aq l,Mk l,Rb l,Bm l⟩
def bV (z a:zA):Bool:=
 match z with
 | .bool _=>Nat.beq a.tag 0
 | .int k _=>match a.asIntK with | some p=>bL p.1 k | none=>false
 | .str _=>Nat.beq a.tag 2
 | .nilptr=>Nat.beq a.tag 3||Nat.beq a.tag 4
 | .nilslice=>Nat.beq a.tag 5||Nat.beq a.tag 6
 | .nilmap=>Nat.beq a.tag 7||Nat.beq a.tag 8
 | .nilfunc=>Nat.beq a.tag 10||Nat.beq a.tag 9
 | .niliface=>Nat.beq a.tag 12||Nat.beq a.tag 11
 | _=>false
def wO:List zA->List zA->Bool
 | [],[]=>true
 | z::zs,a::l=>bV z a&&wO zs l
 | _,_=>false
structure dF where
 tm:Tm
 ad:List (Nat × Nat × Nat)
 lo:Tr (List zA)
 lit:List Nat
abbrev KT:=dF->T
structure KtT where
 norm:KT
 exit:Nat->KT
 ret:KT
def aB {α:Type}(x:Option α)(K:α->T):T:=Option.rec (motive:=fun _=>T) .fail K x
def nI (b:Bool)(K:T):T:=Bool.rec (motive:=fun _=>T) .fail K b
def uJ(i:Nat)(l:List (Nat × Nat × Nat)):Option (Nat × Nat):=
 List.rec (motive:=fun _=>Option (Nat × Nat)) none (fun a _ g=>Bool.rec (motive:=fun _=>Option (Nat × Nat)) g (some a.2) (Nat.beq i a.1)) l
inductive vL where
 | now (ad:List (Nat × Nat × Nat))
 | mixed (ad old:List (Nat × Nat × Nat)) (olds names:List Nat)
def tAd (e:vL)(t:Nat):Option (Nat × Nat):=
 match e with
 | .now ad=>uJ t ad
 | .mixed ad old olds names=>bif qH t names then uJ t (bif qH t olds then old else ad)else none
def xAd (e:vL)(x:Operand):Option (Nat × Nat):=
 match x with
 | .tmp t=>tAd e t
 | _=>none
def eQ:xA:=⟨0,.leaf⟩
def oG (C:oA)(t:Nat):Nat:=
 match C.tys.get t with
 | some ty=>ty.desc.tag
 | none=>10
def Up(x:Operand):Bool:=
 match x with
 | .const _=>true
 | _=>false
def JD(x:Operand):Bool:=
 match x with
 | .const (.int _ n) => !iA n 0
 | _=>false
def binDir(C:oA)(op:BinOp)(t:Nat)(y:Operand):Bool:=
 match op with
 | .add=>Nat.beq (oG C t) 1
 | .sub=>true
 | .mul=>true
 | .quo=>JD y
 | .rem=>JD y
 | .shl=>Up y
 | .shr=>Up y
 | .eql=>Nat.ble (oG C t) 2
 | .neq=>Nat.ble (oG C t) 2
 | .lss=>Nat.ble (oG C t) 2
 | .leq=>Nat.ble (oG C t) 2
 | .gtr=>Nat.ble (oG C t) 2
 | .geq=>Nat.ble (oG C t) 2
 | _=>false
structure vK where
 K:zA->T
 Kd:zA->T
 KA:Nat->Nat->T
def kN (C:oA)(op:Op)(e:jC)(k:vK):T:=aB ((nE op).f C e eQ) k.Kd
def Jo(C:oA)(op:Op)(x:Operand)(e:jC)(ae:vL)(k:vK):T:=
 match xAd ae x with
 | some p=>k.KA p.1 p.2
 | none=>kN C op e k
def tLoad(C:oA)(t:Nat)(a:Operand)(e:jC)(ae:vL)(lo:Tr (List zA))(k:vK):T:=
 match xAd ae a with
 | some p=>aB (lo.get p.1) fun l=>aB (C.tys.get t) fun ty=>nI (Nat.ble (p.2+ty.size) (rB l)) (aB (mM C t l p.2) k.Kd)
 | none=>aB (ev a e) fun v=>.light (fun m=>aA C t ⟨0,m⟩ v) k.K
def Yj(C:oA)(s:Nat)(x:Operand)(f:Nat)(e:jC)(ae:vL)(k:vK):T:=
 match xAd ae x with
 | some p=>aB (Fb C s f) fun o=>k.KA p.1 (p.2+o)
 | none=>aB (ev x e) fun v=>.opt (zE C s f v) k.K
def Yh(C:oA)(t:Nat)(x i:Operand)(e:jC)(ae:vL)(k:vK):T:=
 match xAd ae x with
 | some p=>aB (ev i e) fun i=>aB i.asNat fun i=>aB (Xg C t i) fun o=>k.KA p.1 (p.2+o)
 | none=>aB (ev x e) fun v=>aB (ev i e) fun i=>.opt (jB C t v i) k.K
def tNil (x:Operand)(e:jC)(ae:vL)(k:vK):T:=
 match xAd ae x with
 | some p=>k.KA p.1 p.2
 | none=>aB (ev x e) fun v=>.opt (Bn v) k.K
def tLen (C:oA)(c:Call)(e:jC)(k:vK):T:=
 aB (fC c.argTypes.toList 0) fun t=>aB (fC c.args.toList 0) fun x=>aB (ev x e) fun v=>
  bif Nat.beq (oG C t) 4 then .opt (vB v) k.K else bif Nat.beq (oG C t) 6 then .light (fun m=>dP C t ⟨0,m⟩ v) k.K else aB (dP C t eQ v) k.Kd
def tBin (C:oA)(op:BinOp)(t:Nat)(x y:Operand)(u:Nat)(e:jC)(k:vK):T:=
 bif binDir C op t y then kN C (.binOp op t x y u) e k else aB (ev x e) fun a=>aB (ev y e) fun b=>.opt ((Du op).f C t x y a b) k.K
def Pm(C:oA)(s d:Nat)(x:Operand)(e:jC)(k:vK):T:=
 bif Nat.beq (oG C d) 2 then(bif Nat.beq (oG C s) 2 then kN C (.convert s d x) e k else aB (ev x e) fun v=>.light (fun m=>nJ C s d ⟨0,m⟩ v) k.K)else bif Nat.beq (oG C d) 1 then kN C (.convert s d x) e k else .fail
def Yf(C:oA)(t:Nat)(x:Operand)(lo hi:Option Operand)(e:jC)(k:vK):T:=
 aB (ev x e) fun a=>aB (kP lo e) fun l=>aB (kP hi e) fun h=>
  bif Nat.beq (oG C t) 2 then .opt (tE C t eQ a l h) k.K else .light (fun m=>tE C t ⟨0,m⟩ a l h) k.K
def Fq(C:oA)(c:Call)(e:jC)(k:vK):Builtin->T
 | .len=>tLen C c e k
 | .max=>kN C (.call c) e k
 | .min=>kN C (.call c) e k
 | _=>.fail
def Dk(ty:pC)(v:zA):List zA:=bif ty.desc.isAgg then v.cells else [v]
def zef(cells:List zA)(off size:Nat)(vc:List zA):Option (List zA):=
 xB (Nat.beq (rB vc) size&&Nat.ble (off+rB vc) (rB cells)) (some (uD (uV cells off) (uD vc (yO cells (off+rB vc)))))
def So(C:oA)(tyAt:Nat->Option Nat):List (Nat × zA)->Option (List (Nat × zA × List zA) × List zA):=
 List.rec (motive:=fun _=>Option (List (Nat × zA × List zA) × List zA)) (some ([],[]))
  (fun p _ g=>ob (tyAt p.1) fun t=>ob (C.tys.get t) fun ty=>ob g fun r=>some (bif ty.desc.isAgg then((p.1,p.2,p.2.cells)::r.1,r.2)else((p.1,p.2,[p.2])::r.1,p.2::r.2)))
def Mz(place:Nat->Option (Nat × Nat)):List (Nat × zA × List zA)->List zA->Option (List zA):=
 List.rec (motive:=fun _=>List zA->Option (List zA)) (fun cells=>some cells) (fun p _ g cells=>ob (place p.1) fun q=>ob (zef cells q.1 q.2 p.2.2) fun cells=>g cells)
def tyAtS(ty:pC)(i:Nat):Option Nat:=
 match ty.desc.asStruct with
 | some fs=>ob (fC fs i) fun x=>some x.2.1
 | none=>ob ty.desc.asArr fun a=>some a.2
def Ch(C:oA)(ty:pC)(i:Nat):Option (Nat × Nat):=
 match ty.desc.asStruct with
 | some fs=>ob (fC fs i) fun x=>some (x.1,x.2.2)
 | none=>ob ty.desc.asArr fun a=>ob (C.tys.get a.2) fun et=>some (i*et.size,et.size)
def JW(C:oA)(ty:pC):Bool:=
 match ty.desc.asStruct with
 | some _=>true
 | none=>match ty.desc.asArr with
  | some a=>(match C.tys.get a.2 with | some _=>true | none=>false)
  | none=>false
def Yl(C:oA)(t:Nat)(ps:Array (Nat × Operand))(e:jC)(k:vK):T:=
 aB (C.tys.get t) fun ty=>nI (JW C ty) <| aB (lP ps.toList e) fun vs=>aB (So C (tyAtS ty) vs) fun q=>aB (Mz (Ch C ty) q.1 ty.zero) fun l=>.ite (vF zA.one q.2) (k.Kd (.agg l)) .fail
def tL (C:oA)(op:Op)(e:jC)(ae:vL)(lo:Tr (List zA))(k:vK):T:=
 match op with
 | .move x=>Jo C (.move x) x e ae k
 | .assign x=>Jo C (.assign x) x e ae k
 | .load t a=>tLoad C t a e ae lo k
 | .fieldAddr s x f=>Yj C s x f e ae k
 | .indexAddr t x i=>Yh C t x i e ae k
 | .nilCheck x=>tNil x e ae k
 | .binOp op t x y u=>tBin C op t x y u e k
 | .convert s d x=>Pm C s d x e k
 | .slice t x lo hi none=>Yf C t x lo hi e k
 | .index t x i=>bif Up i&&Nat.beq (oG C t) 5 then kN C (.index t x i) e k else aB (ev x e) fun v=>aB (ev i e) fun i=>.opt (cP C t v i) k.K
 | .extract t i=>aB (ev t e) fun v=>.opt (gI i v) k.K
 | .typeAssert x _ u ok=>aB (ev x e) fun v=>.opt (Pa C u ok v) k.K
 | .lookup t x i ok=>aB (ev x e) fun m=>aB (ev i e) fun key=>.light (fun h=>iS C t ⟨0,h⟩ m key ok) k.K
 | .call c=>match c.callee with
  | .builtin b=>Fq C c e k b
  | _=>.fail
 | .pick c a b=>kN C (.pick c a b) e k
 | .unOp o t x=>(match o with
  | .xor=>aB (ev x e) fun v=>.opt (zZ v) k.K
  | o=>kN C (.unOp o t x) e k)
 | .makeInterface t x=>kN C (.makeInterface t x) e k
 | .makeFunc fn a b=>kN C (.makeFunc fn a b) e k
 | .field t x f=>kN C (.field t x f) e k
 | .build t ps=>Yl C t ps e k
 | _=>.fail
def laOf (la:List Nat)(dst:Option Nat):Option Nat:=
 match dst with
 | some d=>bif qH d la then some d else none
 | none=>none
structure KLo where
 new:Nat->List zA->T
 set:Nat->List zA->T
def Yk(f:Operand)(args:Array Operand)(e:jC)(k:vK):T:=
 match f with
 | .func g=>nI (Nat.blt g yo) (aB (uO args.toList e) fun aq=>.call g aq k.K)
 | f=>aB (ev f e) fun fv=>aB (uO args.toList e) fun aq=>.callv fv aq k.K
def two' (c:Call)(e:jC)(K:zA->zA->T):T:=aB (two c e) fun p=>K p.1 p.2
def Yi(C:oA)(c:Call)(e:jC)(k:vK):Builtin->T
 | .append=>aB (fC c.argTypes.toList 0) fun t=>aB (fC c.argTypes.toList 1) fun u=>two' c e fun a b=>.heavy (nF C t u a b) k.K
 | b=>Fq C c e k b
def Ye(C:oA)(t:Nat)(a x:Operand)(e:jC)(ae:vL)(lo:Tr (List zA))(k:vK)(kl:KLo):T:=
 match xAd ae a with
 | some p=>aB (ev x e) fun v=>aB (C.tys.get t) fun ty=>aB (lo.get p.1) fun l=>aB (zef l p.2 ty.size (Dk ty v)) fun l'=>.ite (vF zA.one (Dk ty v)) (kl.set p.1 l') .fail
 | none=>aB (ev a e) fun a=>aB (ev x e) fun v=>.heavy (kE C t a v) k.Kd
def tH (C:oA)(la:List Nat)(dst:Option Nat)(op:Op)(e:jC)(ae:vL)(lo:Tr (List zA))(k:vK)(kl:KLo):T:=
 match op with
 | .box t x=>bif rG (mJ C t)then aB (ev x e) fun v=>(match laOf la dst with
  | some d=>aB (C.tys.get t) fun ty=>bif ty.desc.isAgg then kl.new d v.cells else .ite (zA.one v) (kl.new d [v]) .fail
  | none=>.heavy (bP v) k.K)else aB (ev x e) fun v=>.heavy (Bq C t v) k.K
 | .alloc t=>bif rG (mJ C t)then(match laOf la dst with
  | some d=>aB (C.tys.get t) fun ty=>kl.new d ty.zero
  | none=>.heavy (mU C t) k.K)else .heavy (Je C t) k.K
 | .store t a x=>Ye C t a x e ae lo k kl
 | .buildSlice t len ps=>aB (lP ps.toList e) fun ps=>.heavy (bE C t len ps) k.K
 | .makeMap _ none=>.heavy Jc k.K
 | .insert t m key x=>aB (ev m e) fun m=>aB (ev key e) fun key=>aB (ev x e) fun v=>.heavy (eO C t m key v) k.Kd
 | .mapUpdate t m key x=>aB (ev m e) fun m=>aB (ev key e) fun key=>aB (ev x e) fun v=>.heavy (eO C t m key v) k.Kd
 | .makeSlice t l c=>aB (ev l e) fun l=>aB (ev c e) fun c=>.heavy (sK C t l c) k.K
 | .convert s d x=>bif Nat.beq (oG C d) 4 then aB (ev x e) fun v=>.heavy (Oz C s d v) k.K else Pm C s d x e k
 | .call c=>match c.callee with
  | .value f=>Yk f c.args e k
  | .builtin b=>Yi C c e k b
  | _=>.fail
 | op=>tL C op e ae lo k
def rmNat(i:Nat)(l:List Nat):List Nat:=List.rec (motive:=fun _=>List Nat) [] (fun j _ g=>bif Nat.beq i j then g else j::g) l
def lN (n:Nat)(dst:Option Nat)(v:zA)(lt:Bool)(st:dF)(κ:KT):T:=
 match dst with
 | none=>κ st
 | some d=>bif Nat.blt d n then nI (rG (uJ d st.ad)) (κ ⟨st.tm.set d v,st.ad,st.lo,bif lt then d::rmNat d st.lit else rmNat d st.lit⟩)else κ st
def Pk(n:Nat)(dst:Option Nat)(d off:Nat)(st:dF)(κ:KT):T:=
 aB dst fun i=>nI (Nat.blt i n) (nI (rG (st.tm.get i)) (κ ⟨st.tm,(i,d,off)::st.ad,st.lo,st.lit⟩))
def DH(d:Nat)(ad:List (Nat × Nat × Nat)):Bool:=vF (fun a=>bif Nat.beq a.2.1 d then Nat.beq a.1 d else true) ad
def tNew (n:Nat)(d:Nat)(l:List zA)(st:dF)(κ:KT):T:=
 nI (Nat.blt d n) (nI (rG (st.tm.get d)) (nI (DH d st.ad) (κ ⟨st.tm,(d,d,0)::st.ad,st.lo.set d l,st.lit⟩)))
def Db (C:oA)(t:Nat)(v:zA):Bool:=
 match C.tys.get t with
 | some ty=>(match ty.desc with
  | .bool=>Nat.beq v.tag 0
  | .int k=>(match v.asIntK with | some p=>bL p.1 k | none=>false)
  | .string=>Nat.beq v.tag 2
  | _=>true)
 | none=>true
def Fp(C:oA)(t:Nat)(v:zA)(K:zA->T):T:=
 match C.tys.get t with
 | some ty=>(match ty.desc with
  | .bool=>.asB v fun b=>K (.bool b)
  | .int k=>.asI k v fun n=>K (.int k n)
  | .string=>.asS v fun s=>K (.str s)
  | .struct _=>bif Nat.ble (rB ty.zero) 40 then .asG ty.zero v fun X=>K (.agg (iJ ty.zero X 0))else K v
  | .arr _ _=>bif Nat.ble (rB ty.zero) 40 then .asG ty.zero v fun X=>K (.agg (iJ ty.zero X 0))else K v
  | _=>K v)
 | none=>K v
def tX (x:Operand)(lit:List Nat):Bool:=
 match x with
 | .tmp t=>lit.contains t
 | .const _=>true
 | _=>false
def Ls(op:Op)(e:jC)(lit:List Nat):Bool:=
 match op with
 | .move x=>tX x lit
 | .assign x=>tX x lit
 | .unOp _ _ x=>tX x lit
 | .pick c a b=>bif tX c lit then(match ob (ev c e) zA.asBool with
  | some w=>bif w then tX a lit else tX b lit
  | none=>false)else false
 | _=>false
def Mi(all:List Oper)(dst:Option Nat)(l:List Oper):Bool:=
 match dst with
 | none=>false
 | some d => !vF (fun o=>match o.guard with
  | some g=>(match ob (fC all g.1) fun p=>p.dst with | some i => !Nat.beq i d | none=>true)
  | none=>true) l
def Bt(g lt:Bool)(v:zA)(K:zA->Bool->T):T:=
 bif g then(bif lt then K v true else aB v.asBool fun b=>.ite b (K (.bool true) true) (K (.bool false) true))else K v lt
def kop (C:oA)(all:Array Oper)(n:Nat)(o:Oper)(e:jC)(st:dF)(κ:KT):vK:=
 ⟨fun v=>Fp C o.type v fun v=>Bt (Mi all.toList o.dst all.toList) (Ls o.op e st.lit) v fun v lt=>lN n o.dst v lt st κ,
  fun v=>nI (Db C o.type v) (Bt (Mi all.toList o.dst all.toList) (Ls o.op e st.lit) v fun v lt=>lN n o.dst v lt st κ),
  fun d off=>nI (!Nat.ble (oG C o.type) 2) (Pk n o.dst d off st κ)⟩
def klo (C:oA)(n:Nat)(o:Oper)(st:dF)(κ:KT):KLo:=
 ⟨fun d l=>nI (!Nat.ble (oG C o.type) 2) (tNew n d l st κ),
  fun d l=>nI (Db C o.type lD) (lN n o.dst lD false ⟨st.tm,st.ad,st.lo.set d l,st.lit⟩ κ)⟩
def jC.adCut(k:Nat)(l:List (Nat × Nat × Nat)):List (Nat × Nat × Nat):=l.filter fun a=>Nat.blt a.1 k
def dF.cut(st:dF):dF:=⟨st.tm.cut,jC.adCut st.tm.k st.ad,st.lo,st.lit⟩
def Fl (C:oA)(la:List Nat)(all:Array Oper)(n:Nat)(κ:KT)(l:List Oper):KT:=
 List.rec (motive:=fun _=>KT) κ
  (fun o _ g st=>aB (cE o.guard all st.tm) fun w=>Bool.rec (motive:=fun _=>T) (lN n o.dst lD false st g)
   (tH C la o.dst o.op (.now st.tm) (.now st.ad) st.lo (kop C all n o (.now st.tm) st g) (klo C n o st g)) w) l
def jM (st old:dF)(olds:List Nat)(op:Op):jC:=.mixed st.tm old.tm olds (sG op)
def vV (st old:dF)(olds:List Nat)(op:Op):vL:=.mixed st.ad old.ad olds (sG op)
def dO(C:oA)(all:Array Oper)(n:Nat)(old:dF)(olds:List (Nat × List Nat))(κ:KT)(l:List Nat):KT:=
 List.rec (motive:=fun _=>KT) κ
  (fun i _ g st=>aB (fC all.toList i) fun o=>aB (cE o.guard all st.tm) fun w=>Bool.rec (motive:=fun _=>T) (lN n o.dst lD false st g)
   (tL C o.op (jM st old (wE i olds) o.op) (vV st old (wE i olds) o.op) st.lo (kop C all n o (jM st old (wE i olds) o.op) st g)) w) l
def dS(C:oA)(all:Array Oper)(old:dF)(olds:List (Nat × List Nat))(st:dF)(k:T)(l:List Nat):T:=
 List.rec (motive:=fun _=>T) k
  (fun i _ g=>aB (fC all.toList i) fun o=>aB o.dst fun d=>aB (cE o.guard all st.tm) fun w=>Bool.rec (motive:=fun _=>T) g
   (aB (st.tm.get d) fun u=>nI (Db C o.type u) (tL C o.op (jM st old (wE i olds) o.op) (vV st old (wE i olds) o.op) st.lo ⟨fun v=>.ite (same 10 v u) g .fail,fun v=>.ite (same 10 v u) g .fail,fun _ _=>.fail⟩)) w) l
def Bp(C:oA)(es:List tK)(H:xA):Option (zA × xA):=ob (dV C es H) fun H'=>some (lD,H')
def tEff (op:Op)(e:jC)(ae:vL):Option tK:=
 match op with
 | .store t a x=>(match xAd ae a with
  | some _=>none
  | none=>yW (.store t a x) e)
 | op=>yW op e
def Jp(all:Array Oper)(old:dF)(olds:List (Nat × List Nat))(st:dF)(l:List Nat):Option (List tK):=
 aF (fun i=>ob (fC all.toList i) fun o=>ob (cE o.guard all st.tm) fun w=>xB w (tEff o.op (jM st old (wE i olds) o.op) (vV st old (wE i olds) o.op))) l
def eW(C:oA)(all:Array Oper)(n:Nat)(old:dF)(olds:List (Nat × List Nat))(κ:KT)(l:List aD):KT:=
 List.rec (motive:=fun _=>KT) κ
  (fun s _ g st=>Bool.rec (motive:=fun _=>T) (aB (fC all.toList (pK all s.heavy)) fun o=>aB (bQ C all s.heavy o st.tm) fun w=>
   (fun cont:KT=>Bool.rec (motive:=fun _=>T) (lN n o.dst lD false st cont)
    (tH C [] o.dst o.op (jM st old (wE (pK all s.heavy) olds) o.op) (vV st old (wE (pK all s.heavy) olds) o.op) st.lo (kop C all n o (jM st old (wE (pK all s.heavy) olds) o.op) st cont) (klo C n o st cont)) w)
   (fun st'=>dS C all old olds st' (dO C all n old olds g s.lights st') s.again))
   (nI (uT C all) (aB (Jp all old olds st s.again) fun es=>.heavy (Bp C es) fun _=>dO C all n old olds g s.lights st)) (nQ all s)) l
def Xs(C:oA)(la:List Nat)(fn n:Nat)(κ:KT)(id:Nat)(all:Array Oper)(draw:Bool):KT:=
 Bool.rec (motive:=fun _=>KT) (fun st=>Fl C la all n κ all.toList st.cut)
  (fun st=>aB (ob (C.plans.get fn) fun t=>t.get id) fun p=>nI (vQ all p) (dO C all n st.cut p.olds (eW C all n st.cut p.olds κ p.stages) p.first st.cut)) draw
def Bj(st:dF)(ll:List (Nat × Nat)):Option (List zA):=
 List.rec (motive:=fun _=>Option (List zA)) (some []) (fun p _ g=>ob (uJ p.1 st.ad) fun a=>xB (Nat.beq a.1 p.1&&Nat.beq a.2 0) (ob (st.lo.get p.1) fun l=>xB (Nat.beq (rB l) p.2) (ob g fun r=>some (uD l r)))) ll
def Bi(p:PI)(st:dF):Option (List zA):=ob (aF (fun i=>st.tm.get i) p.pl) fun a=>ob (Bj st p.ll) fun b=>some (uD a b)
def bS (ll:List (Nat × Nat)):List zA->Tr (List zA):=
 List.rec (motive:=fun _=>List zA->Tr (List zA)) (fun _=>.leaf) (fun p _ g vals=>(g (yO vals p.2)).set p.1 (uV vals p.2)) ll
def nM (pl:List Nat):List zA->Tr zA:=
 List.rec (motive:=fun _=>List zA->Tr zA) (fun _=>.leaf) (fun i _ g vals=>List.rec (motive:=fun _=>Tr zA) .leaf (fun v vals _=>(g vals).set i v) vals) pl
def Ft (ll:List (Nat × Nat)):List (Nat × Nat × Nat):=List.rec (motive:=fun _=>List (Nat × Nat × Nat)) [] (fun p _ g=>(p.1,p.1,0)::g) ll
def aS (k:Nat)(p:PI)(vals:List zA):dF:=⟨⟨k,nM p.pl vals,[]⟩,Ft p.ll,bS p.ll (yO vals (rB p.pl)),[]⟩
def npC (C:oA)(g:Nat):Bool:=rG (C.prims.get g)
def Zv(pl:List Nat)(st:dF):Option (List zA):=aF (fun i=>st.tm.get i) pl
def BV(k n:Nat)(pl ps:List Nat)(ops:List Oper)(c:xD):Bool:=
 vF (fun p=>Nat.blt p k&&Nat.blt p n && !qH p pl) ps&&Nat.ble (rB ps) 1&&Gj ops&&(match sR c with | []=>true | _=>false)
def rdT:KtT:=⟨fun _=>.ret (.bool true),fun _ _=>.fail,fun _=>.ret (.bool false)⟩
def Sg(C:oA)(n:Nat)(κ:KtT)(i:Nat)(pl:List Nat)(f:Operand)(ps:List Nat)(ops:List Oper)(c:xD)(st:dF):T:=
 nI (BV st.tm.k n pl ps ops c) (aB (Zv pl st) fun vals=>aB (ev f (.now st.tm)) fun fv=>.range (npC C) fv i (rB ps) vals (κ.norm st) (κ.ret st))
def oM (C:oA)(la:List Nat)(fn n:Nat)(c:xD):KtT->KT:=
 xD.rec (motive:=fun _=>KtT->KT)
  (fun κ st=>κ.norm st)
  (fun id all draw κ=>Xs C la fn n κ.norm id all draw)
  (fun _ _ ga gb κ=>ga ⟨gb κ,κ.exit,κ.ret⟩)
  (fun c _ _ gx gy κ st=>aB (ob (ev c (.now st.tm)) zA.asBool) fun b=>bif tX c st.lit then Bool.rec (motive:=fun _=>T) (gy κ st) (gx κ st) b else .ite b (gx κ st) (gy κ st))
  (fun id _ g κ=>g ⟨κ.norm,fun i st=>Bool.rec (motive:=fun _=>T) (κ.exit i st) (κ.norm st) (Nat.beq id i),κ.ret⟩)
  (fun p _ _ _ st=>aB (Bi p st) fun vals=>.jump p.id vals)
  (fun id κ st=>κ.exit id st)
  (fun κ st=>κ.ret st)
  (fun p _ _ _ st=>aB (Bi p st) fun vals=>.jump p.id vals)
  (fun i pl f ps _ ops c _ κ st=>Sg C n κ i pl f ps.toList ops.toList c st) c
structure PtT where
 p:PI
 tree:List zA->T
def Cr(p:PI):KT:=fun st=>aB (Bi p st) fun vals=>.jump p.id vals
def yX(C:oA)(la:List Nat)(fn n k:Nat)(c:xD):KtT->List PtT:=
 xD.rec (motive:=fun _=>KtT->List PtT)
  (fun _=>[])
  (fun _ _ _ _=>[])
  (fun _ b ga gb κ=>uD (ga ⟨oM C la fn n b κ,κ.exit,κ.ret⟩) (gb κ))
  (fun _ _ _ gx gy κ=>uD (gx κ) (gy κ))
  (fun id _ g κ=>g ⟨κ.norm,fun i st=>Bool.rec (motive:=fun _=>T) (κ.exit i st) (κ.norm st) (Nat.beq id i),κ.ret⟩)
  (fun p c g κ=>⟨p,fun vals=>oM C la fn n c ⟨Cr p,κ.exit,κ.ret⟩ (aS k p vals)⟩::g ⟨Cr p,κ.exit,κ.ret⟩)
  (fun _ _=>[])
  (fun _=>[])
  (fun p c g κ=>⟨p,fun vals=>oM C la fn n c κ (aS k p vals)⟩::g κ)
  (fun i pl _ ps id ops c g _=>⟨⟨i,uD pl ps.toList,[]⟩,fun vals=>oM C la fn n (.seq (.region id ops false) c) rdT (aS k ⟨i,uD pl ps.toList,[]⟩ vals)⟩::g rdT) c
def Cb (C:oA)(st:dF)(l:List ResultVar):(List zA->T)->T:=
 List.rec (motive:=fun _=>(List zA->T)->T) (fun K=>K [])
  (fun r _ g K=>match r with
   | .tmp t=>aB (st.tm.get t) fun v=>g fun l=>K (v::l)
   | .cell a t=>match uJ a st.ad with
    | some p=>aB (st.lo.get p.1) fun l=>aB (C.tys.get t) fun ty=>nI (Nat.ble (p.2+ty.size) (rB l)) (aB (mM C t l p.2) fun v=>g fun l=>K (v::l))
    | none=>aB (st.tm.get a) fun a=>.light (fun m=>aA C t ⟨0,m⟩ a) fun v=>g fun l=>K (v::l)) l
def endT (C:oA)(fn:Func):KT:=fun st=>Cb C st fn.results.toList fun l=>.ret (yZ l)
def Fm (C:oA)(fn:Func):KtT:=⟨endT C fn,fun _ _=>.fail,endT C fn⟩
structure wF where
 code:xD
 la:List Nat
def entT (C:oA)(fn:Func)(k:Nat)(f:Nat)(A:wF)(args:List zA):T:=oM C A.la f fn.ntmps A.code (Fm C fn) ⟨⟨k,Tr.ofList args,[]⟩,[],.leaf,[]⟩
def ptsT (C:oA)(fn:Func)(k:Nat)(f:Nat)(A:wF):List PtT:=yX C A.la f fn.ntmps k A.code (Fm C fn)
def Gk(l:List PtT)(i:Nat)(vals:List zA):List T:=List.rec (motive:=fun _=>List T) [] (fun p _ g=>bif Nat.beq p.p.id i then p.tree vals::g else g) l
end
section
def oE {α:Type}(x:Option α)(P:α->Prop):Prop:=
 match x with
 | some a=>P a
 | none=>False
theorem zV{α:Type}{x:Option α}{P:α->Prop}:oE x P ↔ ∃a,x=some a/\P a:=by
 cases x with
 | none=>simp[oE]
 | some a=>simp[oE]
@[simp] theorem wA {α:Type} {a:α} {P:α->Prop}:oE (some a) P=P a:=rfl
@[simp] theorem optP_none {α:Type} {P:α->Prop}:oE (none:Option α) P=False:=rfl
abbrev dB:=zA->Tr sA->Prop
abbrev oH:=Nat->List zA->Tr sA->dB->Prop
def zcj{α:Type}:List α->Bool | []=>true | _::_=>false
def pS(f:zA)(args:List zA):Option (Nat × List zA):=ob f.asFunc fun p=>match p.1 with
 | .func g=>xB (Nat.blt g yo) (some (g,uD (uD p.2.1 args) p.2.2))
 | .yld l=>xB (zcj p.2.1&&zcj p.2.2) (some (yo+l,args))
def Km(np:Nat->Bool)(f:zA)(l:Nat):Option (Nat × List zA):=ob f.asFunc fun p=>match p.1 with
 | .func g=>xB (Nat.blt g yo&&np g) (some (g,uD p.2.1 (.func (.yld l) [] []::p.2.2)))
 | .yld _=>none
def aZ (k:IntKind)(v:zA):Option Int:=ob v.asIntK fun p=>xB (bL p.1 k) (some p.2)
def oO (zs:List zA)(v:zA):Option jI:=ob v.asAgg fun l=>xB (wO zs l) (some (cellsOf l))
def qA (base:Nat)(W:oH)(J:oH):T->Tr sA->dB->Prop
 | .ret v,t,Q=>Q v t
 | .fail,_,_=>False
 | .ite b x y,t,Q=>if b=true then qA base W J x t Q else qA base W J y t Q
 | .opt x K,t,Q=>oE x fun v=>qA base W J (K v) t Q
 | .light x K,t,Q=>oE (x t) fun v=>qA base W J (K v) t Q
 | .heavy x K,t,Q=>∀b,t.get b=none->base<=b->oE (x ⟨b,t⟩) fun p=>qA base W J (K p.1) p.2.t Q
 | .call f args K,t,Q=>W f args t fun v t'=>qA base W J (K v) t' Q
 | .callv f args K,t,Q=>oE (pS f args) fun p=>W p.1 p.2 t fun v t'=>qA base W J (K v) t' Q
 | .asI k v K,t,Q=>oE (aZ k v) fun n=>qA base W J (K n) t Q
 | .asB v K,t,Q=>oE v.asBool fun n=>qA base W J (K n) t Q
 | .asS v K,t,Q=>oE v.asStr fun n=>qA base W J (K n) t Q
 | .asG zs v K,t,Q=>oE (oO zs v) fun X=>qA base W J (K X) t Q
 | .jump i vals,t,Q=>J i vals t Q
 | .range np f i m vals K R,t,Q=>256<=base/\∀l r,t.get l=none->base<=l->r.state=.ready->r.pending=none →
   (∀args t1 Q1,args.length=m->t1.get l=some (.loop r)->J i (vals++args) (t1.del l) (fun v t2=>t2.get l=none->∃b,v=.bool b/\Q1 v (t2.set l (.loop (qV b r))))->W (yo+l) args t1 Q1) →
   oE (Km np f l) fun p=>W p.1 p.2 (t.set l (.loop r)) fun _ t'=>(t'.get l=some (.loop r)/\qA base W J K (t'.del l) Q)\/(t'.get l=some (.loop (qV false r))/\qA base W J R (t'.del l) Q)
abbrev Xt:=Nat->Option sA
def tI (X Y:Xt):Prop:=∀b y,X b=some y->Y b=some y
theorem tI.refl(X:Xt):tI X X:=fun _ _ h=>h
def tI.trans{X Y Z:Xt}(h:tI X Y)(k:tI Y Z):tI X Z:=fun b y e=>k b y (h b y e)
structure Ov (base:Nat) (t:Tr sA) (X:Xt) (H:xA):Prop where
 base:base<=H.next
 same:∀b,X b=none->H.t.get b=t.get b
 ext:∀b y,X b=some y->H.t.get b=some y/\t.get b=none/\b<H.next
 lt:∀b y,t.get b=some y->b<H.next
def HLe (H H':xA):Prop:=∀b y,H.t.get b=some y->H'.t.get b=some y
def eP(e e':jC):Prop:=∀i v,kS i e=some v->kS i e'=some v
section
variable {base:Nat}{t:Tr sA}{X:Xt}{H HA:xA}{e e':jC}{C:oA}{v:zA}
theorem Ov.notX(h:Ov base t X HA){b:Nat}{y:sA}(hb:t.get b=some y):X b=none:=by
 cases hx:X b with
 | none=>rfl
 | some z=>have:=(h.ext b z hx).2.1;simp_all
theorem Ov.up(h:Ov base t X HA){b:Nat}{y:sA}(hb:t.get b=some y):HA.t.get b=some y:=by rw[h.same b (h.notX hb)];exact hb
def Ov.le(h:Ov base t X HA){n:Nat}:HLe ⟨n,t⟩ HA:=fun _ _ hb=>h.up hb
def Ov.nextX(h:Ov base t X HA):X HA.next=none:=by
 cases hx:X HA.next with
 | none=>rfl
 | some z=>exact absurd (h.ext _ z hx).2.2 (Nat.lt_irrefl _)
def Ov.nextT(h:Ov base t X HA):t.get HA.next=none:=by
 cases hx:t.get HA.next with
 | none=>rfl
 | some z=>exact absurd (h.lt _ z hx) (Nat.lt_irrefl _)
theorem aT(h:HLe H HA){b:Nat}{p:Tr zA × Nat × Option Lo}(hb:aC H b=some p):aC HA b=some p:=by
 unfold aC at hb ⊢;rw[uA]at hb ⊢;obtain⟨y,h1,h2⟩:=hb;exact⟨y,h _ _ h1,h2⟩
theorem Ar(h:HLe H HA){b:Nat}{p:List (zA × zA)}(hb:xJ H b=some p):xJ HA b=some p:=by
 unfold xJ at hb ⊢;rw[uA]at hb ⊢;obtain⟨y,h1,h2⟩:=hb;exact⟨y,h _ _ h1,h2⟩
theorem eD(h:eP e e'){x:Operand}(hx:ev x e=some v):ev x e'=some v:=by
 cases x with
 | tmp i=>exact h i v hx
 | const c=>exact hx
 | global g=>exact hx
 | func f=>exact hx
theorem IE(h:eP e e'){l:List Operand}{vs:List zA}(hx:uO l e=some vs):uO l e'=some vs:=Lp l (fun _ _ k=>eD h k) hx
theorem IF(h:eP e e'){x:Option Operand}{r:Option zA}(hx:kP x e=some r):kP x e'=some r:=by
 cases x with
 | none=>exact hx
 | some x=>
  have hx:ob (ev x e) (fun v=>some (some v))=some r:=hx;show ob (ev x e') (fun v=>some (some v))=some r
  grind [uA,eD]
theorem Vi(h:eP e e'){l:List (Nat × Operand)}{vs:List (Nat × zA)}(hx:lP l e=some vs):lP l e'=some vs:=
 Lp l (fun a b k=>by grind [uA,eD]) hx
theorem Pe(h:eP e e'){c:Call}{p:zA × zA}(hx:two c e=some p):two c e'=some p:=by
 grind [two,uA,eD]
theorem Jd(h:HLe H HA){ty:Nat}{a:zA}(hx:aA C ty H a=some v):aA C ty HA a=some v:=by
 grind [aA,uA,aT]
theorem Vt(h:HLe H HA){s d:pC}{a:zA}(hx:tO C s d a H=some v):tO C s d a HA=some v:=by
 unfold tO at hx ⊢;split at hx
 ·omega
 ·rename_i hk;rw[oB]at hx ⊢;refine⟨hx.1,?_⟩;have hx:=hx.2;rw[eC]at hx ⊢;split at hx
  all_goals grind [uA,oB,An,aT]
theorem MH(h:HLe H HA){s d:Nat}{a:zA}(hx:nJ C s d H a=some v):nJ C s d HA a=some v:=by
 grind [nJ,uA,Vt]
theorem Ri(h:HLe H HA){ty:pC}{a:zA}{l r:Option zA}(hx:iK C H ty a l r=some v):iK C HA ty a l r=some v:=by
 have row:∀ {arr e b off len cap},gL C H arr e b off len cap l r=some v->gL C HA arr e b off len cap l r=some v:=by
  intro arr e b off len cap hx;unfold gL at hx ⊢;simp only[uA]at hx ⊢;obtain⟨a1,h1,b1,h2,hx⟩:=hx;refine⟨a1,h1,b1,h2,?_⟩
  cases hb:aC H b with
  | none=>
   have e1:rK H b a1.size cap b1.1 arr=false:=by unfold rK;rw[hb]
   have e2:jK H b a1.size cap b1.1 arr=false:=by unfold jK;rw[hb]
   rw[e1,e2,yay,yay]at hx;cases hx
  | some c=>
   grind [rK,aT,jK]
 grind [iK,uA]
theorem MA(h:HLe H HA){ty:Nat}{a:zA}{l r:Option zA}(hx:tE C ty H a l r=some v):tE C ty HA a l r=some v:=by
 grind [tE,uA,Ri]
theorem Tf(h:HLe H HA){m:zA}{l:List (zA × zA)}(hx:oR H m=some l):oR HA m=some l:=by
 grind [oR,Ar]
theorem MD(h:HLe H HA){ty:Nat}{m k:zA}{ok:Bool}(hx:iS C ty H m k ok=some v):iS C ty HA m k ok=some v:=by
 unfold iS at hx ⊢;simp only[uA,oB]at hx ⊢
 grind [Tf]
theorem Tt(h:HLe H HA){ty:pC}{a:zA}{n:Nat}(hx:rQ H ty a=some n):rQ HA ty a=some n:=by
 unfold rQ at hx ⊢;split at hx
 all_goals grind [oB,uA,Ar]
theorem ME(h:HLe H HA){ty:Nat}{a:zA}(hx:dP C ty H a=some v):dP C ty HA a=some v:=by
 grind [dP,uA,Tt]
theorem EW{ty:Nat}{a:Operand}:jR ty a C e H=ob (ev a e) fun v=>aA C ty H v:=rfl
theorem FI{s d:Nat}{x:Operand}{u:zA}(hx:ev x e=some u):cL s d x C e H=nJ C s d H u:=by simp_all [cL,nJ]
def zaa{ty:Nat}{x:Operand}{lo hi:Option Operand}{a:zA}{l r:Option zA}(h1:ev x e=some a)(h2:kP lo e=some l)(h3:kP hi e=some r):oV ty x lo hi C e H=tE C ty H a l r:=by unfold oV tE;rw[h1,tA,h2,tA,h3,tA]
theorem FF{s f:Nat}{x:Operand}{u:zA}(hx:ev x e=some u):eR s x f C e H=zE C s f u:=by
 unfold eR zE Fb;rw[hx]
 cases C.tys.get s with
 | none=>rfl
 | some ty=>
  simp only[tA]
  cases ty.desc.asStruct with
  | none=>rfl
  | some fs=>
   simp only[tA]
   cases fC fs f with
   | none=>rfl
   | some fd=>simp only[tA];cases hb:(!Nat.beq fd.2.2 0)<;>rfl
theorem FA{ty:Nat}{x i:Operand}{u w:zA}(hx:ev x e=some u)(hi:ev i e=some w):iR ty x i C e H=jB C ty u w:=by unfold iR jB;rw[hx,hi];rfl
theorem zac{ty:Nat}{x i:Operand}{u w:zA}(hx:ev x e=some u)(hi:ev i e=some w):fR ty x i C e H=cP C ty u w:=by unfold fR cP;rw[hx,hi];rfl
theorem zbl{x:Operand}{u:zA}(hx:ev x e=some u):mV x C e H=Bn u:=by simp_all [mV,Bn]
theorem VA{x:Operand}{i:Nat}{u:zA}(hx:ev x e=some u):dR x i C e H=gI i u:=by simp_all [dR,gI]
theorem lBin_v{op:BinOp}{ty:Nat}{x y:Operand}{u w:zA}(hx:ev x e=some u)(hy:ev y e=some w):bR op ty x y C e H=(Du op).f C ty x y u w:=by simp_all [bR]
theorem VB{x:Operand}{a:Nat}{ok:Bool}{u:zA}(hx:ev x e=some u):aR x a ok C e H=Pa C a ok u:=by
 unfold aR Pa;rw[hx];rfl
def UZ{ty:Nat}{x i:Operand}{ok:Bool}{m k:zA}(hx:ev x e=some m)(hi:ev i e=some k):kR ty x i ok C e H=iS C ty H m k ok:=by unfold kR iS;rw[hx,hi];rfl
theorem lLen_v{c:Call}{ty:Nat}{x:Operand}{u:zA}(h1:fC c.argTypes.toList 0=some ty)(h2:fC c.args.toList 0=some x)(hx:ev x e=some u):iM c C e H=dP C ty H u:=by grind [iM,dP,tA]
theorem zax(he:eP e e'){op:Op}(hp:yQ op=true\/(∃s d x,op=.convert s d x/\(oG C d=1\/oG C s=2))\/(∃c,op=.call c/\(c.callee=.builtin .max\/c.callee=.builtin .min))){H':xA}(h:(nE op).f C e H=some v):(nE op).f C e' H'=some v:=by
 rcases hp with hp | hp | hp
 ·cases op<;>simp only[yQ]at hp<;>try (cases hp;done)
  case move x=>exact eD he h
  case assign x=>exact eD he h
  case pick c a b=>
   have h:ob (ev c e) (fun c=>ob c.asBool fun c=>bif c then ev a e else ev b e)=some v:=h;show ob (ev c e') (fun c=>ob c.asBool fun c=>bif c then ev a e' else ev b e')=some v
   grind [uA,eD]
  case nilCheck x=>
   have h:ob (ev x e) (fun u=>xB (Nat.beq u.tag 4||Nat.beq u.tag 9) (some u))=some v:=h;show ob (ev x e') (fun u=>xB (Nat.beq u.tag 4||Nat.beq u.tag 9) (some u))=some v
   grind [uA,eD]
  case binOp op t x y u=>
   have h:bR op t x y C e H=some v:=h;show bR op t x y C e' H'=some v
   grind [bR,uA,eD]
  case unOp op t x=>
   have h:lUn op x C e H=some v:=h;show lUn op x C e' H'=some v
   grind [lUn,uA,eD]
  case makeInterface t x=>
   have h:sX t x C e H=some v:=h;show sX t x C e' H'=some v
   grind [sX,uA,oB,eD]
  case makeFunc fn a b=>
   have h:(rX fn a b).f C e H=some v:=h;show(rX fn a b).f C e' H'=some v;unfold rX at h ⊢;split at h
   ·grind [Md,uA,IE]
   ·cases h
  case fieldAddr s x f=>
   have h:eR s x f C e H=some v:=h;show eR s x f C e' H'=some v;unfold eR at h ⊢;simp only[uA,oB]at h ⊢;obtain⟨a,h1,b,h2,c,h3,h4,u,h5,h6⟩:=h;exact⟨a,h1,b,h2,c,h3,h4,u,eD he h5,h6⟩
  case field t x f=>
   have h:qX t x f C e H=some v:=h;show qX t x f C e' H'=some v
   grind [qX,uA,eD]
  case indexAddr t x i=>
   have h:iR t x i C e H=some v:=h;show iR t x i C e' H'=some v;unfold iR at h ⊢;simp only[uA]at h ⊢
   grind [eD]
  case index t x i=>
   have h:fR t x i C e H=some v:=h;show fR t x i C e' H'=some v;unfold fR at h ⊢;simp only[uA]at h ⊢
   grind [eD]
  case extract t i=>
   have h:dR t i C e H=some v:=h;show dR t i C e' H'=some v
   grind [dR,uA,eD]
  case build t ps=>
   have h:qT t ps C e H=some v:=h;show qT t ps C e' H'=some v
   grind [qT,uA,Vi]
  case typeAssert x t u ok=>
   have h:aR x u ok C e H=some v:=h;show aR x u ok C e' H'=some v
   grind [aR,uA,oB,eD]
 ·obtain⟨s,d,x,rfl,hp⟩:=hp;have h:cL s d x C e H=some v:=h;show cL s d x C e' H'=some v;unfold cL at h ⊢;simp only[uA]at h ⊢;obtain⟨u,h1,sy,h2,dy,h3,h4⟩:=h;refine⟨u,eD he h1,sy,h2,dy,h3,?_⟩;unfold tO at h4 ⊢;split at h4
  ·exact h4
  ·rename_i hd;rw[oB]at h4 ⊢;refine⟨h4.1,?_⟩;have h4:=h4.2;rw[eC]at h4 ⊢;split at h4
   ·simp_all
   ·rename_i e;exfalso;rcases hp with hp | hp
    ·unfold oG at hp;rw[h3]at hp;have hp:dy.desc.tag=1:=hp;cases hx:dy.desc<;>rw[hx]at hp hd<;>first
      | (cases hp;done)
      | (cases hd;done)
    ·unfold oG at hp;rw[h2]at hp;have hp:sy.desc.tag=2:=hp;simp only[uA]at h4;obtain⟨el,h5,_⟩:=h4;cases hx:sy.desc<;>rw[hx]at hp h5<;>first
      | (cases hp;done)
      | (cases h5;done)
 ·obtain⟨c,rfl,hc⟩:=hp;rcases hc with hc | hc
  ·have h:(tP c c.callee).f C e H=some v:=h;show(tP c c.callee).f C e' H'=some v;rw[hc]at h ⊢;have h:lR c C e H=some v:=h;show lR c C e' H'=some v
   grind [lR,uA,Pe]
  ·have h:(tP c c.callee).f C e H=some v:=h;show(tP c c.callee).f C e' H'=some v;rw[hc]at h ⊢;have h:mR c C e H=some v:=h;show mR c C e' H'=some v
   grind [mR,uA,Pe]
end
end
section
section
variable {base:Nat}{t:Tr sA}{X:Xt}{H HA:xA}{e e':jC}{C:oA}{v:zA}
theorem Ov.newBlk(h:Ov base t X HA)(y:sA):Ov base (t.set HA.next y) X (newBlk HA y):=by
 refine⟨Nat.le_succ_of_le h.base,fun b hb=>?_,fun b z hb=>?_,fun b z hb=>?_⟩
 ·show(HA.t.set HA.next y).get b=_;rw[Tr.get_set,Tr.get_set];split
  ·rfl
  ·exact h.same b hb
 ·obtain⟨h1,h2,h3⟩:=h.ext b z hb;have hne:b≠HA.next:=Nat.ne_of_lt h3;refine⟨?_,?_,Nat.lt_succ_of_lt h3⟩
  ·show(HA.t.set HA.next y).get b=_
   grind [Tr.get_set]
  grind [Tr.get_set]
 ·rw[Tr.get_set]at hb;show b<HA.next+1;split at hb
  ·omega
  ·exact Nat.lt_succ_of_lt (h.lt _ _ hb)
theorem Ov.setBlk(h:Ov base t X HA){b:Nat}{y:sA}(hb:t.get b=some y)(z:sA):Ov base (t.set b z) X (setBlk HA b z):=by
 refine⟨h.base,fun c hc=>?_,fun c u hc=>?_,fun c u hc=>?_⟩
 ·show(HA.t.set b z).get c=_;rw[Tr.get_set,Tr.get_set];split
  ·rfl
  ·exact h.same c hc
 ·obtain⟨h1,h2,h3⟩:=h.ext c u hc;have hne:c≠b:=fun e=>by simp_all
  refine⟨?_,?_,h3⟩
  ·show(HA.t.set b z).get c=_
   grind [Tr.get_set]
  grind [Tr.get_set]
 ·rw[Tr.get_set]at hc;show c<HA.next;split at hc
  ·rename_i e;rw[e];exact h.lt _ _ hb
  ·exact h.lt _ _ hc
theorem Ov.delBlk(h:Ov base t X HA){b:Nat}{y:sA}(hb:t.get b=some y):Ov base (t.del b) X ⟨HA.next,HA.t.del b⟩:=by
 refine⟨h.base,fun c hc=>?_,fun c u hc=>?_,fun c u hc=>?_⟩
 ·show(HA.t.del b).get c=_;rw[Tr.get_del,Tr.get_del];split
  ·rfl
  ·exact h.same c hc
 ·obtain⟨h1,h2,h3⟩:=h.ext c u hc
  grind [Tr.get_del]
 ·rw[Tr.get_del]at hc;show c<HA.next;split at hc
  ·cases hc
  ·exact h.lt _ _ hc
def gP (base:Nat)(x:xA->Option (zA × xA)):Prop:=∀t X HA v H',Ov base t X HA->x ⟨HA.next,t⟩=some (v,H')->∃HA',x HA=some (v,HA')/\Ov base H'.t X HA'
theorem yV(l:List zA)(lo:Option Lo)(h:Ov base t X HA):Ov base (sE ⟨HA.next,t⟩ l lo).t X (sE HA l lo):=h.newBlk _
theorem ML{ty:Nat}:gP base (mU C ty):=by
 intro t X HA v H' ho h;unfold mU at h ⊢;rw[uA]at h;obtain⟨y,h1,h2⟩:=h;cases h2;simp_all [yV]
def zcy{u:zA}:gP base (bP u):=by
 intro t X HA v H' ho h;cases h;exact⟨_,rfl,yV _ _ ho⟩
theorem MM{ty:Nat}:gP base (Je C ty):=by
 intro t X HA v H' ho h;unfold Je at h ⊢;rw[uA]at h;obtain⟨y,h1,h3⟩:=h
 grind [tA,yV]
theorem MJ{ty:Nat}{u:zA}:gP base (Bq C ty u):=by
 intro t X HA v H' ho h;grind [Bq,yV]
theorem MI{ty n:Nat}{ps:List (Nat × zA)}:gP base (bE C ty n ps):=by
 intro t X HA v H' ho h;unfold bE at h ⊢;simp only[uA,oB]at h;obtain⟨a,h1,b,h2,c,h3,h4,l,h5,h6⟩:=h
 grind [yV,uA,oB]
theorem Rc(ho:Ov base t X HA){b off:Nat}{l:List zA}{H':xA}(h:xI C ⟨HA.next,t⟩ b off l=some H'):∃HA',xI C HA b off l=some HA'/\Ov base H'.t X HA':=by
 unfold xI at h ⊢;simp only[uA,oB]at h;obtain⟨h1,c,h2,h3,h4⟩:=h;cases h4;have h2':=h2;unfold aC at h2';rw[uA]at h2';obtain⟨y,h5,_⟩:=h2';refine⟨_,?_,ho.setBlk h5 _⟩;simp only[uA,oB];exact⟨h1,c,aT ho.le h2,h3,rfl⟩
theorem LZ{ty:Nat}{a u:zA}:gP base (kE C ty a u):=by
 intro t X HA v H' ho h;unfold kE at h ⊢;simp only[uA,oB]at h;obtain⟨y,h1,p,h2,h3,H1,h4,h5⟩:=h
 grind [Rc,uA,oB]
def MC:gP base Jc:=by
 intro t X HA v H' ho h;cases h;exact⟨_,rfl,ho.newBlk _⟩
def Xf{ty:Nat}{m k u:zA}:gP base (eO C ty m k u):=by
 intro t X HA v H' ho h;unfold eO at h ⊢;simp only[uA,oB]at h;obtain⟨a,h1,b,h2,c,h3,h4,d,h5,h6,l,h7,h8,l',h9,h10⟩:=h;cases h10;have h7':=h7;unfold xJ at h7';rw[uA]at h7';obtain⟨y,h11,_⟩:=h7';refine⟨_,?_,ho.setBlk h11 _⟩;simp only[uA,oB];exact⟨a,h1,b,h2,c,h3,h4,d,h5,h6,l,Ar ho.le h7,h8,l',h9,rfl⟩
def ZF(ho:Ov base t X HA){e:RE}{H':xA}(h:sW C ⟨HA.next,t⟩ e=some H'):∃HA',sW C HA e=some HA'/\Ov base H'.t X HA'/\HA'.next=HA.next/\H'.next=HA.next:=by
 obtain⟨x,y,h1,h2,rfl⟩:=Ie.1 h;exact⟨setBlk HA e.blk y,Ie.2 ⟨x,y,ho.up h1,h2,rfl⟩,ho.setBlk h1 _,rfl,rfl⟩
theorem KF:∀ {l:List RE} {t:Tr sA} {HA:xA} {H':xA},Ov base t X HA->Aw C l ⟨HA.next,t⟩=some H'->∃HA',Aw C l HA=some HA'/\Ov base H'.t X HA'
 | [],t,HA,H',ho,h=>by cases h;exact⟨HA,rfl,ho⟩
 | e::l,t,HA,H',ho,h=>by
  unfold Aw at h ⊢;rw[uA]at h;obtain⟨H1,h1,h⟩:=h;obtain⟨HA1,g1,g2,g3,g4⟩:=ZF ho h1;rw[g1,tA];obtain⟨n1,t1⟩:=H1;have g4:n1=HA.next:=g4;subst g4;rw[<- g3]at h;exact KF g2 h
theorem RJ(ho:Ov base t X HA){e:RE}(h:Cd C ⟨HA.next,t⟩ e=true):Cd C HA e=true:=by
 cases e with
 | st b off l=>
  change (!rG (xI C ⟨HA.next,t⟩ b off l))=true at h;show(!rG (xI C HA b off l))=true
  cases hs:xI C ⟨HA.next,t⟩ b off l with
  | none=>rw[hs]at h;cases h
  | some H'=>obtain⟨HA',g,_⟩:=Rc ho hs;rw[g];rfl
 | up b k v=>
  unfold Cd at h ⊢;rw[ybb]at h ⊢;refine⟨h.1,?_⟩;have h2:=h.2;split at h2
  ·rename_i hm;rw[Ar ho.le hm]
  grind
theorem MG{es:List tK}:gP base (Bp C es):=by
 intro t X HA v H' ho h;grind [Bp,dV,uA,oB,KF,aI,RJ]
theorem MB{ty:Nat}{l c:zA}:gP base (sK C ty l c):=by
 intro t X HA v H' ho h;unfold sK at h ⊢;simp only[uA,oB]at h;obtain⟨a,h1,b,h2,d,h3,n,h4,m,h5,h6,h7⟩:=h
 grind [yV,uA,oB]
theorem LY{s d:Nat}{u:zA}:gP base (Oz C s d u):=by
 intro t X HA v H' ho h;unfold Oz at h ⊢;simp only[uA,oB]at h;obtain⟨a,h1,b,h2,c,h3,et,h4,k,h5,h6,l,h7,h8⟩:=h;cases h8;refine⟨sE HA (cT l) (some (.ty c)),?_,yV _ _ ho⟩
 grind [uA,oB]
theorem WF(h:HLe H HA){sz n:Nat}{u:zA}{l:List zA}(hx:nP H sz n u=some l):nP HA sz n u=some l:=by
 grind [nP,uA,aT]
theorem ZI(ho:Ov base t X HA){ty:pC}{a b:zA}{H':xA}(h:xU C ⟨HA.next,t⟩ ty a b=some (v,H')):∃HA',xU C HA ty a b=some (v,HA')/\Ov base H'.t X HA':=by
 unfold xU at h;simp only[uA]at h;obtain⟨el,h1,et,h2,n,h3,new,h4,h5⟩:=h;have h4':=WF ho.le h4
 suffices hs:∃HA',(match a.asSlice with
  | some s=>bif Nat.ble (s.2.2.1+n) s.2.2.2 then gV C HA et n new s else eV C HA el et n new s
  | none=>xB (Nat.beq a.tag 5) (kT HA el et n new))=some (v,HA')/\Ov base H'.t X HA' by
  grind [xU,uA]
 cases hs:a.asSlice with
 | some s=>
  rw[hs]at h5;simp only[]at h5 ⊢;rw[eC]at h5;split at h5
  ·rename_i hr;simp only[hr,cond_true];unfold gV at h5 ⊢
   grind [uA,Rc]
  ·rename_i hr;simp only[Bool.not_eq_true]at hr;simp only[hr,cond_false];unfold eV at h5 ⊢;rw[oB]at h5;obtain⟨gm,h5⟩:=h5;rw[oB]at h5;obtain⟨g0,h5⟩:=h5;rw[uA]at h5;obtain⟨c,g1,h5⟩:=h5;have g1':=aT ho.le g1;unfold aC at g1;rw[uA]at g1;obtain⟨y,g2,_⟩:=g1;split at h5
   ·rename_i hc;unfold Cx at h5;rw[uA]at h5;obtain⟨old,g3,g4⟩:=h5
    grind [yV,oB,uA,Cx]
   ·rename_i es hc;unfold Cy at h5;rw[oB]at h5;obtain⟨g3,g4⟩:=h5;cases g4;refine⟨⟨HA.next+1,(HA.t.del s.1).set HA.next (.cells (c.1.setMany new (s.2.2.1*et.size)) ((s.2.2.1+n)*et.size) (some es))⟩,?_,(ho.delBlk g2).newBlk _⟩
    grind [oB,uA,Cy]
 | none=>
  grind [oB,kT,yV]
theorem MK{ty u:Nat}{a b:zA}:gP base (nF C ty u a b):=by
 intro t X HA v H' ho h;grind [nF,uA,oB,ZI]
end
def Em(ν:Nat->Nat)(ae:vL)(e:jC):Prop:=∀i p,tAd ae i=some p->kS i e=some (.ptr (ν p.1) p.2)
def Ip(base:Nat)(X0 X:Xt)(ν:Nat->Nat)(lo:Tr (List zA)):Prop:=∀d l,lo.get d=some l->X0 (ν d)=none/\base<=ν d/\∃c,X (ν d)=some (.cells c l.length none)/\∀j a,l[j]?=some a->c.get j=some a
theorem mD{base:Nat}{W J:oH}{α:Type}{x:Option α}{K:α->T}{t:Tr sA}{Q:dB}:qA base W J (aB x K) t Q ↔ ∃a,x=some a/\qA base W J (K a) t Q:=by
 cases x with
 | none=>exact⟨fun h=>(by cases h),fun⟨_,h,_⟩=>(by cases h)⟩
 | some a=>exact⟨fun h=>⟨a,rfl,h⟩,fun⟨_,h,k⟩=>(by cases h;exact k)⟩
def sL{base:Nat}{W J:oH}{b:Bool}{K:T}{t:Tr sA}{Q:dB}:qA base W J (nI b K) t Q ↔ b=true/\qA base W J K t Q:=by
 cases b with
 | false=>exact⟨fun h=>(by cases h),fun⟨h,_⟩=>(by cases h)⟩
 | true=>exact⟨fun h=>⟨rfl,h⟩,fun⟨_,h⟩=>h⟩
theorem jS{base:Nat}{W J:oH}{x:Option zA}{K:zA->T}{t:Tr sA}{Q:dB}:qA base W J (.opt x K) t Q ↔ ∃a,x=some a/\qA base W J (K a) t Q:=zV
def Bh{base:Nat}{W J:oH}{x:Tr sA->Option zA}{K:zA->T}{t:Tr sA}{Q:dB}:qA base W J (.light x K) t Q ↔ ∃a,x t=some a/\qA base W J (K a) t Q:=zV
theorem iY{ν:Nat->Nat}{ae:vL}{e:jC}(h:Em ν ae e){x:Operand}{p:Nat × Nat}(hx:xAd ae x=some p):ev x e=some (.ptr (ν p.1) p.2):=by
 cases x with
 | tmp i=>exact h i p hx
 | const _=>cases hx
 | global _=>cases hx
 | func _=>cases hx
theorem DP{c:Tr zA}{l:List zA}(h:∀j a,l[j]?=some a->c.get j=some a):∀(n off:Nat),off+n<=l.length->c.many n off=some ((l.drop off).take n):=by
 intro n;induction n with
 | zero=>intro off _;simp;rfl
 | succ n ih=>
  intro off ho;have hlt:off<l.length:=by omega
  rw[Tr.many_succ,h off l[off] (ybd hlt),tA,ih (off+1) (by omega),tA];rw[ybl hlt,List.take_succ_cons]
section
variable {W J:oH}{t:Tr sA}{X X0:Xt}{HA:xA}{e eA:jC}{C:oA}{ν:Nat->Nat}{ae:vL}{lo:Tr (List zA)}{k:vK}{Q:dB}{R:zA->Prop}
theorem EA(ho:Ov C.base t X HA)(hl:Ip C.base X0 X ν lo){d off ty:Nat}{l:List zA}{y:pC}{v:zA}(h1:lo.get d=some l)(h2:C.tys.get ty=some y)(h3:Nat.ble (off+y.size) (rB l)=true)(h4:mM C ty l off=some v) :
  aA C ty HA (.ptr (ν d) off)=some v:=by
 obtain⟨_,_,c,hc,hg⟩:=hl d l h1;have hb:=(ho.ext _ _ hc).1;unfold aA;simp only[zA.asPtr,tA];rw[h2,tA];grind [aC,tA,sA.asCells,mM,vP,rE,vD,DP,sQ,nR,eF]
theorem cO(he:eP e eA){op:Op}(hp:yQ op=true\/(∃s d x,op=.convert s d x/\(oG C d=1\/oG C s=2))\/(∃c,op=.call c/\(c.callee=.builtin .max\/c.callee=.builtin .min)))
  (h:qA C.base W J (kN C op e k) t Q) (hKd:∀v,qA C.base W J (k.Kd v) t Q->R v):∃v,(nE op).f C eA HA=some v/\R v:=by
 grind [kN,mD,zax]
theorem MF{ty:Nat}{u v:zA}{H:xA}(ht:oG C ty=4)(h:vB u=some v):dP C ty H u=some v:=by
 unfold oG at ht
 cases hy:C.tys.get ty with
 | none=>simp_all
 | some y=>
  rw[hy]at ht;have ht:y.desc.tag=4:=ht;unfold dP;rw[hy,tA];unfold vB at h;unfold rQ;cases u<;>simp only[zA.asSlice,zA.asStr,zA.asMap,zA.tag]at h ⊢ <;> (try (rw[oB]at h;exact absurd h.1 (by decide)))
  case nilslice=>
   rw[oB]at h;have hn:y.desc.asArr=none:=by cases hd:y.desc<;>rw[hd]at ht<;>first | rfl | (cases ht;done)
   simp_all [uA,oB]
  simp_all [uA,oB]
theorem VL{ty:Nat}{u v:zA}{H H':xA}(ht:oG C ty≠6)(h:dP C ty H u=some v):dP C ty H' u=some v:=by
 unfold dP at h ⊢;simp only[uA]at h ⊢;obtain⟨y,h1,n,h2,h3⟩:=h;refine⟨y,h1,n,?_,h3⟩;have ht:¬ Nat.beq y.desc.tag 6=true:=by
  grind [oG,oC]
 unfold rQ at h2 ⊢;split at h2
 all_goals grind [oB]
theorem NV{ty:Nat}{a v:zA}{l h:Option zA}{H H':xA}(ht:oG C ty=2)(hx:tE C ty H a l h=some v):tE C ty H' a l h=some v:=by
 unfold tE at hx ⊢;rw[uA]at hx ⊢;obtain⟨y,h1,h2⟩:=hx;refine⟨y,h1,?_⟩;unfold oG at ht;rw[h1]at ht;have ht:y.desc.tag=2:=ht;unfold iK at h2 ⊢;have n1:y.desc.asSlice=none:=by cases hd:y.desc<;>rw[hd]at ht<;>first | rfl | (cases ht;done)
 have n2:y.desc.asArr=none:=by cases hd:y.desc<;>rw[hd]at ht<;>first | rfl | (cases ht;done)
 simp_all
theorem Sw{u:zA}(h:zA.one u=true):u.cells=[u]:=by
 cases u<;>first
  | rfl
  | (have:=vC.1 h;grind [zA.tag])
theorem WL{tyAt:Nat->Option Nat}(place:Nat->Option (Nat × Nat)):∀(vs:List (Nat × zA)) {q:List (Nat × zA × List zA) × List zA},So C tyAt vs=some q->vF zA.one q.2=true->∀cells l,Mz place q.1 cells=some l->yM place vs cells=some l:=by
 intro vs;induction vs with
 | nil=>intro q h _ cells l hl;cases h;exact hl
 | cons p vs ih=>
  intro q h h1 cells l hl;have h:(ob (tyAt p.1) fun t=>ob (C.tys.get t) fun ty=>ob (So C tyAt vs) fun r=>some (bif ty.desc.isAgg then((p.1,p.2,p.2.cells)::r.1,r.2)else((p.1,p.2,[p.2])::r.1,p.2::r.2)))=some q:=h;simp only[uA]at h;obtain⟨ty,_,y,_,r,h3,h4⟩:=h;have uF:∀(rest:List zA),vF zA.one r.2=true->(ob (place p.1) fun q=>ob (zef cells q.1 q.2 p.2.cells) fun cells=>Mz place r.1 cells)=some l->yM place (p::vs) cells=some l:=by
   intro _ hr hl;show(ob (place p.1) fun q=>ob (jX cells q.1 q.2 p.2) fun cells=>yM place vs cells)=some l;simp only[uA]at hl ⊢;obtain⟨a,g1,b,g2,g3⟩:=hl;exact⟨a,g1,b,g2,ih h3 hr _ _ g3⟩
  cases hb:y.desc.isAgg with
  | true=>
   rw[hb]at h4;cases h4;exact uF [] h1 hl
  | false=>
   rw[hb]at h4;cases h4;simp_all [aI,Mz,Sw]
theorem Pl(he:eP e eA)(ha:Em ν ae eA)(ho:Ov C.base t X HA)(hl:Ip C.base X0 X ν lo){op:Op}(h:qA C.base W J (tL C op e ae lo k) t Q)
  (hK:∀v,qA C.base W J (k.K v) t Q->R v) (hKd:∀v,qA C.base W J (k.Kd v) t Q->R v) (hKA:∀d off,qA C.base W J (k.KA d off) t Q->R (.ptr (ν d) off)) :
  ∃v,(nE op).f C eA HA=some v/\R v:=by
 cases op<;>simp only[tL]at h<;>try (cases h;done)
 case move x=>
  unfold Jo at h;split at h
  ·rename_i p hp;exact⟨_,iY ha hp,hKA _ _ h⟩
  ·exact cO he (.inl rfl) h hKd
 case assign x=>
  unfold Jo at h;split at h
  ·rename_i p hp;exact⟨_,iY ha hp,hKA _ _ h⟩
  ·exact cO he (.inl rfl) h hKd
 case pick c a b=>exact cO he (.inl rfl) h hKd
 case load ty a=>
  unfold tLoad at h;split at h
  ·rename_i p hp;simp only[mD,sL]at h;obtain⟨l,h1,y,h2,h3,v,h4,h5⟩:=h;refine⟨v,?_,hKd v h5⟩;show jR ty a C eA HA=some v
   grind [EW,iY,tA,EA]
  ·rw[mD]at h;obtain⟨u,h1,h2⟩:=h;rw[Bh]at h2;obtain⟨v,h3,h4⟩:=h2;refine⟨v,?_,hK v h4⟩;show jR ty a C eA HA=some v;rw[EW,eD he h1,tA];exact Jd ho.le h3
 case nilCheck x=>
  unfold tNil at h;split at h
  ·rename_i p hp;refine⟨_,?_,hKA _ _ h⟩;show mV x C eA HA=_;rw[zbl (iY ha hp)];rfl
  ·rw[mD]at h;obtain⟨u,h1,h2⟩:=h;rw[jS]at h2;obtain⟨v,h3,h4⟩:=h2;refine⟨v,?_,hK v h4⟩;show mV x C eA HA=_
   grind [zbl,eD]
 case binOp op ty x y u=>
  unfold tBin at h;rw[eC]at h;split at h
  ·exact cO he (.inl rfl) h hKd
  ·simp only[mD,jS]at h;obtain⟨a,h1,b,h2,v,h3,h4⟩:=h;refine⟨v,?_,hK v h4⟩;show bR op ty x y C eA HA=_
   grind [lBin_v,eD]
 case unOp o ty x=>
  split at h
  ·simp only[mD,jS]at h;obtain⟨u,h1,v,h2,h3⟩:=h;refine⟨v,?_,hK v h3⟩;show lUn .xor x C eA HA=_;unfold lUn;rw[eD he h1];exact h2
  ·exact cO he (.inl rfl) h hKd
 case convert s d x=>
  unfold Pm at h;rw[eC]at h;split at h
  ·rename_i hd;rw[eC]at h;split at h
   ·rename_i hs;exact cO he (.inr (.inl ⟨s,d,x,rfl,.inr (oC.1 hs)⟩)) h hKd
   ·simp only[mD,Bh]at h;obtain⟨u,h1,v,h2,h3⟩:=h;refine⟨v,?_,hK v h3⟩;show cL s d x C eA HA=_;rw[FI (eD he h1)];exact MH ho.le h2
  ·rw[eC]at h;split at h
   ·rename_i hd;exact cO he (.inr (.inl ⟨s,d,x,rfl,.inl (oC.1 hd)⟩)) h hKd
   ·cases h
 case makeInterface ty x=>exact cO he (.inl rfl) h hKd
 case makeFunc fn a b=>exact cO he (.inl rfl) h hKd
 case slice ty x lo' hi mx=>
  cases mx with
  | some _=>cases h
  | none=>
   simp only[Yf,mD]at h;obtain⟨a,h1,l,h2,r,h3,h4⟩:=h;rw[eC]at h4;show ∃v,oV ty x lo' hi C eA HA=some v/\R v;rw[zaa (eD he h1) (IF he h2) (IF he h3)];split at h4
   ·grind [jS,NV,oC]
   ·rw[Bh]at h4;obtain⟨v,h5,h6⟩:=h4;exact⟨v,MA ho.le h5,hK v h6⟩
 case fieldAddr s x f=>
  unfold Yj at h;show ∃v,eR s x f C eA HA=some v/\R v;split at h
  ·rename_i p hp;rw[mD]at h;obtain⟨o,h1,h2⟩:=h;refine⟨_,?_,hKA _ _ h2⟩;rw[FF (iY ha hp)];unfold zE;rw[h1];rfl
  grind [mD,jS,FF,eD]
 case field ty x f=>exact cO he (.inl rfl) h hKd
 case indexAddr ty x i=>
  unfold Yh at h;show ∃v,iR ty x i C eA HA=some v/\R v;split at h
  ·rename_i p hp;simp only[mD]at h;obtain⟨iv,h1,n,h2,o,h3,h4⟩:=h;refine⟨_,?_,hKA _ _ h4⟩;rw[FA (iY ha hp) (eD he h1)];unfold Xg at h3;simp only[uA,oB]at h3;obtain⟨y,g1,a,g2,et,g3,g4,g5⟩:=h3;cases g5;unfold jB;rw[g1,tA,h2,tA];simp only[zA.asSlice,zA.asPtr,tA];rw[g2,tA,g3,tA,g4];rfl
  grind [mD,jS,FA,eD]
 case index ty x i=>
  rw[eC]at h;split at h
  ·exact cO he (.inl rfl) h hKd
  ·simp only[mD,jS]at h;obtain⟨u,h1,w,h2,v,h3,h4⟩:=h;refine⟨v,?_,hK v h4⟩;show fR ty x i C eA HA=_
   grind [zac,eD]
 case lookup ty x i ok=>
  simp only[mD,Bh]at h;obtain⟨m,h1,key,h2,v,h3,h4⟩:=h;refine⟨v,?_,hK v h4⟩;show kR ty x i ok C eA HA=_;rw[UZ (eD he h1) (eD he h2)];exact MD ho.le h3
 case extract x i=>
  simp only[mD,jS]at h;obtain⟨u,h1,v,h2,h3⟩:=h;refine⟨v,?_,hK v h3⟩;show dR x i C eA HA=_
  grind [VA,eD]
 case typeAssert x a u ok=>
  simp only[mD,jS]at h;obtain⟨w,h1,v,h2,h3⟩:=h;refine⟨v,?_,hK v h3⟩;show aR x u ok C eA HA=_
  grind [VB,eD]
 case build ty ps=>
  unfold Yl at h;simp only[mD,sL]at h;obtain⟨y,h1,hbd,vs,h2,q,h3,l,h4,h5⟩:=h;have h5:if vF zA.one q.2=true then qA C.base W J (k.Kd (.agg l)) t Q else False:=h5;split at h5
  ·rename_i hone;refine⟨_,?_,hKd _ h5⟩;show qT ty ps C eA HA=_;have hf:=WL (Ch C y) vs h3 hone y.zero l h4;unfold qT;rw[h1,tA,Vi he h2,tA]
   cases hs:y.desc.asStruct with
   | some fs=>
    simp only[];have:(fun i=>ob (fC fs i) fun x=>some (x.1,x.2.2))=Ch C y:=by funext i;unfold Ch;rw[hs]
    simp_all
   | none=>
    simp only[];unfold JW at hbd;rw[hs]at hbd;simp only[]at hbd
    cases ha:y.desc.asArr with
    | none=>simp_all
    | some a=>
     rw[ha]at hbd;simp only[]at hbd
     cases hy:C.tys.get a.2 with
     | none=>simp_all
     | some et=>
      simp only[tA];have:(fun i=>some (i*et.size,et.size))=Ch C y:=by funext i;unfold Ch;rw[hs];simp only[];rw[ha,tA,hy,tA]
      simp_all
  simp_all
 case call c=>
  split at h
  ·rename_i b hb;cases b<;>simp only[Fq]at h<;>try (cases h;done)
   case len=>
    unfold tLen at h;simp only[mD]at h;obtain⟨ty,h1,x,h2,u,h3,h4⟩:=h;show ∃v,(tP c c.callee).f C eA HA=some v/\R v;rw[hb];show ∃v,iM c C eA HA=some v/\R v;rw[lLen_v h1 h2 (eD he h3)];rw[eC]at h4;split at h4
    ·grind [jS,MF,oC]
    ·rw[eC]at h4;split at h4
     ·rw[Bh]at h4;obtain⟨v,h5,h6⟩:=h4;exact⟨v,ME ho.le h5,hK v h6⟩
     grind [mD,VL,oC]
   case max=>exact cO he (.inr (.inr ⟨c,rfl,.inl hb⟩)) h hKd
   case min=>exact cO he (.inr (.inr ⟨c,rfl,.inr hb⟩)) h hKd
  ·cases h
end
end
section
def Ao(C:oA)(A:Tr xD)(f:Nat)(args:List zA)(H:xA):kB:=
 bif Nat.blt f yo then
  match C.prims.get f with
  | some g=>g args H
  | none=>dC C A (.func f) args H
 else dC C A (.yld (f-yo)) args H
theorem Dl{C:oA}{A:Tr xD}{f:Nat}{args:List zA}{H:xA}(h:Nat.blt f yo=true):Ao C A f args H=(match C.prims.get f with
  | some g=>g args H
  | none=>dC C A (.func f) args H):=by grind [Ao]
theorem JS{C:oA}{A:Tr xD}{l:Nat}{args:List zA}{H:xA}:Ao C A (yo+l) args H=dC C A (.yld l) args H:=by
 unfold Ao;have:Nat.blt (yo+l) yo=false:=Bool.eq_false_iff.2 fun e=>by grind [vC]
 simp_all
def wC (base:Nat)(X0:Xt)(Q:dB)(d:kB):Prop:=∃v t' HA' X',d=some (v,HA')/\Ov base t' X' HA'/\tI X0 X'/\Q v t'
theorem wC.mono{base:Nat}{X0:Xt}{Q Q':dB}{d:kB}(h:wC base X0 Q d)(k:∀v t,Q v t->Q' v t):wC base X0 Q' d:=by
 obtain⟨v,t',HA',X',h1,h2,h3,h4⟩:=h;exact⟨v,t',HA',X',h1,h2,h3,k _ _ h4⟩
def mS(C:oA)(A:Tr xD)(W:oH):Prop:=∀f args t R,W f args t R->∀X HA,Ov C.base t X HA->wC C.base X R (Ao C A f args HA)
section
variable {W J:oH}{t:Tr sA}{X X0:Xt}{HA:xA}{e eA:jC}{C:oA}{A:Tr xD}{ν:Nat->Nat}{ae:vL}{lo:Tr (List zA)}{k:vK}{kl:KLo}{Q:dB}
def gJ{f:bH}{H:xA}{v:zA}(h:f C e H=some v):lv f C e H=.val v H:=by unfold lv;rw[h]
def ZK{op:Op}{H:xA}{v:zA}(h:(nE op).f C e H=some v):(pF op).f C e H=.val v H:=by
 cases op
 case move x=>exact gJ h
 case assign x=>exact gJ h
 case pick c a b=>exact gJ h
 case load t a=>exact gJ h
 case nilCheck x=>exact gJ h
 case binOp op t x y u=>exact gJ h
 case unOp op t x=>exact gJ h
 case makeInterface t x=>exact gJ h
 case makeFunc fn a b=>exact gJ h
 case slice t x lo hi mx=>exact gJ h
 case fieldAddr s x f=>exact gJ h
 case field t x f=>exact gJ h
 case indexAddr t x i=>exact gJ h
 case index t x i=>exact gJ h
 case extract t i=>exact gJ h
 case build t ps=>exact gJ h
 case typeAssert x t u ok=>exact gJ h
 case lookup t x i ok=>exact gJ h
 case convert s d x=>
  show lT s d x C e H=_;have h:cL s d x C e H=some v:=h;unfold lT;rw[h]
 case call c=>
  have h:(tP c c.callee).f C e H=some v:=h;show(Cv c c.callee).f C e H=_
  cases hc:c.callee with
  | value f=>rw[hc]at h;cases h
  | invoke a b=>rw[hc]at h;cases h
  | builtin b=>
   rw[hc]at h;cases b
   case len=>exact gJ (f:=iM c) h
   case max=>exact gJ (f:=lR c) h
   case min=>exact gJ (f:=mR c) h
   all_goals exact absurd (show(none:Option zA)=some v from h) (by simp)
 all_goals exact absurd (show(none:Option zA)=some v from h) (by simp)
def aW{x:Option (zA × xA)}{v:zA}{H':xA}{kd:zA->xA->kB}{φ:qG}(h:x=some (v,H')):lF φ (qK x) HA kd=kd v H':=by subst h;rfl
theorem mQ(ho:Ov C.base t X HA){x:xA->Option (zA × xA)}(hx:gP C.base x){K:zA->T}(h:qA C.base W J (.heavy x K) t Q){kd:zA->xA->kB}{φ:qG}
  (hK:∀v t' HA' X',Ov C.base t' X' HA'->tI X X'->qA C.base W J (K v) t' Q->wC C.base X0 Q (kd v HA')) {r:rJ} (hr:∀p,x HA=some p->lF φ r HA kd=kd p.1 p.2):wC C.base X0 Q (lF φ r HA kd):=by
 have h:=h HA.next ho.nextT ho.base;rw[zV]at h;obtain⟨⟨v,H'⟩,h1,h2⟩:=h;obtain⟨HA',h3,h4⟩:=hx _ _ _ _ _ ho h1
 grind [tI.refl]
theorem Vw(hW:mS C A W)(ho:Ov C.base t X HA){f:Nat}(hf:Nat.blt f yo=true){args:List zA}{K:zA->T}(h:W f args t fun v t'=>qA C.base W J (K v) t' Q){kd:zA->xA->kB}
  (hK:∀v t' HA' X',Ov C.base t' X' HA'->tI X X'->qA C.base W J (K v) t' Q->wC C.base X0 Q (kd v HA')):wC C.base X0 Q (lF (dC C A) (Dm C HA args f (C.prims.get f)) HA kd):=by
 obtain⟨v,t',HA',X',h1,h2,h3,h4⟩:=hW _ _ _ _ h X HA ho;rw[Dl hf]at h1;unfold Dm
 cases hp:C.prims.get f with
 | some g=>
  rw[hp]at h1;simp only[h1];exact hK _ _ _ _ h2 h3 h4
 | none=>
  rw[hp]at h1;have h1:dC C A (.func f) args HA=some (v,HA'):=h1;show wC C.base X0 Q (ob (dC C A (.func f) args HA) fun p=>kd p.1 p.2);rw[h1];exact hK _ _ _ _ h2 h3 h4
def QG(hW:mS C A W)(ho:Ov C.base t X HA){l:Nat}{args:List zA}{K:zA->T}(h:W (yo+l) args t fun v t'=>qA C.base W J (K v) t' Q){kd:zA->xA->kB}
  (hK:∀v t' HA' X',Ov C.base t' X' HA'->tI X X'->qA C.base W J (K v) t' Q->wC C.base X0 Q (kd v HA')):wC C.base X0 Q (lF (dC C A) (.round l args) HA kd):=by
 obtain⟨v,t',HA',X',h1,h2,h3,h4⟩:=hW _ _ _ _ h X HA ho;rw[JS]at h1;show wC C.base X0 Q (ob (dC C A (.yld l) args HA) fun p=>kd p.1 p.2);rw[h1];exact hK _ _ _ _ h2 h3 h4
theorem Ov.setX{base:Nat}(h:Ov base t X HA){b:Nat}{y:sA}(hb:X b=some y)(z:sA):Ov base t (fun c=>if c=b then some z else X c) (Am.setBlk HA b z):=by
 obtain⟨g1,g2,g3⟩:=h.ext b y hb;refine⟨h.base,fun c hc=>?_,fun c u hc=>?_,h.lt⟩
 ·split at hc
  ·cases hc
  ·rename_i hne;show(HA.t.set b z).get c=_;rw[Tr.get_set,yaa hne];exact h.same c hc
 ·show(HA.t.set b z).get c=_/\_/\c<HA.next;rw[Tr.get_set];split at hc
  ·simp_all
  ·rename_i hne;rw[yaa hne];exact h.ext c u hc
theorem Ov.newX{base:Nat}(h:Ov base t X HA)(z:sA):Ov base t (fun c=>if c=HA.next then some z else X c) (Am.newBlk HA z):=by
 refine⟨Nat.le_succ_of_le h.base,fun c hc=>?_,fun c u hc=>?_,fun b y hb=>Nat.lt_succ_of_lt (h.lt b y hb)⟩
 ·split at hc
  ·cases hc
  ·rename_i hne;show(HA.t.set HA.next z).get c=_;rw[Tr.get_set,yaa hne];exact h.same c hc
 ·show(HA.t.set HA.next z).get c=_/\_/\c<HA.next+1;rw[Tr.get_set];split at hc
  ·rename_i e;cases hc;subst e;rw[yab rfl];exact⟨rfl,h.nextT,Nat.lt_succ_self _⟩
  ·rename_i hne;rw[yaa hne];have:=h.ext c u hc;grind
theorem UD(ho:Ov C.base t X HA)(hl:Ip C.base X0 X ν lo){d off:Nat}{l l':List zA}{u:zA}{sz:Nat}(h1:lo.get d=some l)(h2:jX l off sz u=some l')(h3:vF zA.one u.cells=true) :
  Nat.beq (rB u.cells) sz=true/\l'.length=l.length/\∃c',xI C HA (ν d) off u.cells=some (setBlk HA (ν d) (.cells c' l.length none))/\∀j a,l'[j]?=some a->c'.get j=some a:=by
 obtain⟨_,hb,c,hc,hg⟩:=hl d l h1;have hx:=(ho.ext _ _ hc).1;unfold jX at h2;simp only[oB,ybb,rE,vD,wG,sQ,nR,Option.some.injEq]at h2;obtain⟨⟨g1,g2⟩,g3⟩:=h2;subst g3;refine⟨by grind [vD],?_,c.setMany u.cells off,?_,?_⟩
 ·grind
 ·grind [xI,Nat.blt,aC,oB,tA,sA.asCells,rE,vD]
 ·intro j a hj;rw[Tr.get_setMany];grind
theorem YG{y:pC}{u:zA}(h:vF zA.one (Dk y u)=true):Dk y u=u.cells:=by
 grind [Dk,aI,Sw]
theorem QZ{op:Op}{v:zA}{kd:zA->xA->kB}{φ:qG}(h:(nE op).f C eA HA=some v):lF φ ((pF op).f C eA HA) HA kd=kd v HA:=by rw[ZK h];rfl
theorem UY{la:List Nat}{dst:Option Nat}{d:Nat}(h:laOf la dst=some d):dst=some d:=by
 unfold laOf at h;grind
theorem tH_ok(hW:mS C A W)(he:eP e eA)(ha:Em ν ae eA)(ho:Ov C.base t X HA)(hl:Ip C.base X0 X ν lo){la:List Nat}{dst:Option Nat}{op:Op}
  (h:qA C.base W J (tH C la dst op e ae lo k kl) t Q) {kd:zA->xA->kB}
  (hK:∀v t' HA' X',Ov C.base t' X' HA'->tI X X'->qA C.base W J (k.K v) t' Q->wC C.base X0 Q (kd v HA'))
  (hKd:∀v t' HA' X',Ov C.base t' X' HA'->tI X X'->qA C.base W J (k.Kd v) t' Q->wC C.base X0 Q (kd v HA'))
  (hKA:∀d off,qA C.base W J (k.KA d off) t Q->wC C.base X0 Q (kd (.ptr (ν d) off) HA))
  (hnew:∀d l,laOf la dst=some d->qA C.base W J (kl.new d l) t Q->wC C.base X0 Q (kd (.ptr HA.next 0) (sE HA l none)))
  (hset:∀d l l' c',lo.get d=some l->l'.length=l.length->(∀j a,l'[j]?=some a->c'.get j=some a)->qA C.base W J (kl.set d l') t Q->wC C.base X0 Q (kd lD (setBlk HA (ν d) (.cells c' l.length none)))) :
  wC C.base X0 Q (lF (dC C A) ((pF op).f C eA HA) HA kd):=by
 have light:∀(op:Op),qA C.base W J (tL C op e ae lo k) t Q->wC C.base X0 Q (lF (dC C A) ((pF op).f C eA HA) HA kd):=by
  intro op h;obtain⟨v,h1,h2⟩:=Pl (R:=fun v=>wC C.base X0 Q (kd v HA)) he ha ho hl h (fun v h=>hK v _ _ _ ho (tI.refl _) h) (fun v h=>hKd v _ _ _ ho (tI.refl _) h) hKA
  grind [QZ]
 cases op<;>simp only[tH]at h<;>try (exact light _ h)
 case alloc ty=>
  show wC C.base X0 Q (lF _ (lX ty C eA HA) HA kd);rw[eC]at h;split at h
  ·rename_i ht;have ht:mJ C ty=none:=by
    cases hx:mJ C ty with
    | none=>rfl
    | some _=>rw[hx]at ht;cases ht
   split at h
   ·rename_i d hd;rw[mD]at h;obtain⟨y,h1,h2⟩:=h;unfold lX;rw[h1,ht];exact hnew d _ hd h2
   ·refine mQ ho ML h hK fun p hp=>?_;unfold lX;rw[ht];have hp:(ob (C.tys.get ty) fun ty=>some (.ptr HA.next 0,sE HA ty.zero none))=some p:=hp;rw[hp];rfl
  ·refine mQ ho MM h hK fun p hp=>?_;unfold lX;unfold Je at hp;rw[hp];rfl
 case box ty x=>
  rw[eC]at h;show wC C.base X0 Q (lF _ (iV ty x C eA HA) HA kd);unfold iV;split at h
  ·rename_i ht;have ht:mJ C ty=none:=by
    cases hx:mJ C ty with
    | none=>rfl
    | some _=>rw[hx]at ht;cases ht
   rw[mD]at h;obtain⟨v,h1,h⟩:=h;rw[eD he h1,ht];split at h
   ·rename_i d hd;rw[mD]at h;obtain⟨y,_,h⟩:=h;rw[eC]at h;split at h
    ·exact hnew d _ hd h
    ·have h:if zA.one v=true then qA C.base W J (kl.new d [v]) t Q else False:=h;split at h
     ·rename_i h1;have:=hnew d _ hd h;rw[<- Sw h1]at this;exact this
     simp_all
   ·refine mQ ho zcy h hK fun p hp=>?_;cases hp;rfl
  ·rw[mD]at h;obtain⟨v,h1,h⟩:=h;rw[eD he h1];refine mQ ho MJ h hK fun p hp=>?_;cases hp;rfl
 case buildSlice ty n ps=>
  rw[mD]at h;obtain⟨vs,h1,h⟩:=h;show wC C.base X0 Q (lF _ (mX ty n ps C eA HA) HA kd);refine mQ ho MI h hK fun p hp=>?_;refine aW (v:=p.1) (H':=p.2) ?_;rw[Vi he h1];exact hp
 case makeMap ty r=>
  cases r with
  | some _=>simp_all
  | none=>
   simp only[]at h;show wC C.base X0 Q (lF _ (Hq none C eA HA) HA kd);refine mQ ho MC h hK fun p hp=>?_;cases hp;rfl
 case makeSlice ty l c=>
  simp only[mD]at h;obtain⟨a,h1,b,h2,h⟩:=h;show wC C.base X0 Q (lF _ (Uu ty l c C eA HA) HA kd);refine mQ ho MB h hK fun p hp=>?_;refine aW (v:=p.1) (H':=p.2) ?_
  grind [eD,sK,tA]
 case store ty a x=>
  unfold Ye at h;show wC C.base X0 Q (lF _ (Hp ty a x C eA HA) HA kd);split at h
  ·rename_i p hp;simp only[mD]at h;obtain⟨u,h1,y,h2,l,h3,l',h4,h5⟩:=h;have h5:if vF zA.one (Dk y u)=true then qA C.base W J (kl.set p.1 l') t Q else False:=h5;split at h5
   ·rename_i hone;have hcell:=YG hone;rw[hcell]at hone h4;have h4:jX l p.2 y.size u=some l':=h4;obtain⟨g1,g2,c',g3,g4⟩:=UD ho hl h3 h4 hone;have:=hset p.1 l l' c' h3 g2 g4 h5;have e1:lF (dC C A) (Hp ty a x C eA HA) HA kd=kd lD (setBlk HA (ν p.1) (.cells c' l.length none)):=by
     refine aW ?_;rw[h2,tA,iY ha hp,tA];simp only[zA.asPtr,tA];rw[eD he h1,tA,g1,g3];rfl
    simp_all
   simp_all
  ·simp only[mD]at h;obtain⟨av,h1,u,h2,h⟩:=h;refine mQ ho LZ h hKd fun p hp=>?_;refine aW (v:=p.1) (H':=p.2) ?_
   grind [eD,kE,tA]
 case convert s d x=>
  rw[eC]at h;split at h
  ·rename_i hd;rw[mD]at h;obtain⟨u,h1,h⟩:=h;show wC C.base X0 Q (lF _ (lT s d x C eA HA) HA kd);have hn:cL s d x C eA HA=none:=by
    rw[FI (eD he h1)]
    cases hq:nJ C s d HA u with
    | none=>rfl
    | some q=>
     exfalso;unfold nJ at hq;simp only[uA]at hq;obtain⟨sy,g1,dy,g2,g3⟩:=hq;have hd:=oC.1 hd;unfold oG at hd;rw[g2]at hd;have hd:dy.desc.tag=4:=hd;unfold tO at g3;have n1:dy.desc.asInt=none:=by cases hz:dy.desc<;>rw[hz]at hd<;>first | rfl | (cases hd;done)
     have n2:dy.desc.isString=false:=by unfold sD.isString;rw[hd];rfl
     rw[n1,n2]at g3;cases g3
   unfold lT;rw[hn];simp only[];refine mQ ho LY h hK fun p hp=>?_;refine aW (v:=p.1) (H':=p.2) ?_;rw[eD he h1];exact hp
  grind [tL]
 case insert ty m key x=>
  simp only[mD]at h;obtain⟨mv,h1,kv,h2,u,h3,h⟩:=h;show wC C.base X0 Q (lF _ (nX ty m key x C eA HA) HA kd);refine mQ ho Xf h hKd fun p hp=>?_;refine aW (v:=p.1) (H':=p.2) ?_;rw[eD he h1,eD he h2,eD he h3];exact hp
 case mapUpdate ty m key x=>
  simp only[mD]at h;obtain⟨mv,h1,kv,h2,u,h3,h⟩:=h;show wC C.base X0 Q (lF _ (nX ty m key x C eA HA) HA kd);refine mQ ho Xf h hKd fun p hp=>?_;refine aW (v:=p.1) (H':=p.2) ?_;rw[eD he h1,eD he h2,eD he h3];exact hp
 case call c=>
  show wC C.base X0 Q (lF _ ((Cv c c.callee).f C eA HA) HA kd);split at h
  ·rename_i f hc;rw[hc];show wC C.base X0 Q (lF _ (Ac f c.args C eA HA) HA kd);have uF:∀ {fv:zA} {aq:List zA},ev f e=some fv->uO c.args.toList e=some aq->qA C.base W J (.callv fv aq k.K) t Q->wC C.base X0 Q (lF (dC C A) (Ac f c.args C eA HA) HA kd):=by
    intro fv aq h1 h2 h;have h:oE (pS fv aq) fun p=>W p.1 p.2 t fun v t'=>qA C.base W J (k.K v) t' Q:=h;rw[zV]at h;obtain⟨⟨g,aq'⟩,h3,h4⟩:=h;unfold pS at h3;rw[uA]at h3;obtain⟨p,h5,h6⟩:=h3;have e0:Ac f c.args C eA HA=zeu C HA (uD p.2.1 aq) p.2.2 p.1:=by
     unfold Ac vR;rw[eD he h1,tA,h5,tA,IE he h2,tA,tA];rfl
    rw[e0]
    cases hp:p.1 with
    | func g'=>
     rw[hp]at h6;simp only[oB]at h6;obtain⟨hg,h6⟩:=h6;cases h6;exact Vw hW ho hg h4 hK
    | yld l=>
     rw[hp]at h6;simp only[oB,ybb]at h6;obtain⟨⟨ha,hb⟩,h6⟩:=h6;cases h6;have ea:p.2.1=[]:=by cases hx:p.2.1 with | nil=>rfl | cons _ _=>rw[hx]at ha;cases ha
     have eb:p.2.2=[]:=by cases hx:p.2.2 with | nil=>rfl | cons _ _=>rw[hx]at hb;cases hb
     rw[ea,eb];exact QG hW ho h4 hK
   unfold Yk at h;split at h
   ·rename_i g;rw[sL,mD]at h;obtain⟨hg,aq,h1,h⟩:=h;refine uF (fv:=.func (.func g) [] []) rfl h1 ?_;show oE (pS (.func (.func g) [] []) aq) _;have e2:pS (.func (.func g) [] []) aq=some (g,aq):=by
     show xB (Nat.blt g yo) (some (g,uD (uD [] aq) []))=_;rw[hg,wG,wG];simp[xB]
    rw[e2];exact h
   grind [mD]
  ·rename_i b hb;rw[hb];have lt:qA C.base W J (Fq C c e k b) t Q->wC C.base X0 Q (lF (dC C A) ((Cv c (.builtin b)).f C eA HA) HA kd):=by
    intro h;have:=light (.call c) (by show qA C.base W J (match c.callee with | .builtin b=>Fq C c e k b | _=>.fail) t Q;simp_all)
    have e1:(pF (.call c)).f C eA HA=(Cv c c.callee).f C eA HA:=rfl
    simp_all
   unfold Yi at h;split at h
   ·simp only[mD,two']at h;obtain⟨ty,h1,u,h2,p,h3,h⟩:=h;show wC C.base X0 Q (lF _ (Cw c C eA HA) HA kd);refine mQ ho MK h hK fun q hq=>?_;refine aW (v:=q.1) (H':=q.2) ?_
    grind [nF,uA,oB,Pe]
   grind
  ·cases h
end
end
section
structure zF (base:Nat) (X0:Xt) (kf:Nat) (ν:Nat->Nat) (X:Xt) (st:dF) (tm:Tm) (HA:xA) (t:Tr sA):Prop where
 ov:Ov base t X HA
 le:tI X0 X
 k:st.tm.k=kf
 kA:tm.k=kf
 tms:∀i v,st.tm.get i=some v->tm.get i=some v
 ads:∀i p,uJ i st.ad=some p->tm.get i=some (.ptr (ν p.1) p.2)
 lo:Ip base X0 X ν st.lo
 inj:∀d d' l l',st.lo.get d=some l->st.lo.get d'=some l'->ν d=ν d'->d=d'
theorem Dz{i:Nat}{a:Nat × Nat × Nat}{l:List (Nat × Nat × Nat)}:uJ i (a::l)=if i=a.1 then some a.2 else uJ i l:=by
 grind [uJ,mI,oC]
theorem ZU{i:Nat}{p:Nat × Nat}:∀ {l:List (Nat × Nat × Nat)},uJ i l=some p->(i,p.1,p.2)∈l:=by
 intro l;induction l with
 | nil=>intro h;cases h
 | cons a l ih=>
  grind [Dz]
theorem Kq{n:Nat}{tm:Tm}{dst:Option Nat}{v:zA}:(putA n tm dst v).k=tm.k:=by
 unfold putA putB
 cases dst with
 | none=>rfl
 | some d=>
  grind [Kp,Tm.set,mI]
theorem Tm.set_k{tm:Tm}{i:Nat}{v:zA}:(tm.set i v).k=tm.k:=by unfold Tm.set;rw[mI];split<;>rfl
section
variable {W J:oH}{t:Tr sA}{X X0:Xt}{HA:xA}{C:oA}{A:Tr xD}{ν:Nat->Nat}{Q:dB}{kf n:Nat}{st:dF}{tm:Tm}
theorem zF.put(h:zF C.base X0 kf ν X st tm HA t){dst:Option Nat}{v:zA}{lt:Bool}{κ:KT}(hw:qA C.base W J (lN n dst v lt st κ) t Q) :
  ∃st',zF C.base X0 kf ν X st' (putA n tm dst v) HA t/\qA C.base W J (κ st') t Q:=by
 unfold lN at hw
 cases dst with
 | none=>exact⟨st,h,hw⟩
 | some d=>
  simp only[eC]at hw;split at hw
  ·rename_i hd;rw[sL]at hw;obtain⟨h1,h2⟩:=hw;refine⟨_,?_,h2⟩;refine⟨h.ov,h.le,(by grind [k,Tm.set_k]),by rw[Kq];exact h.kA,?_,?_,h.lo,h.inj⟩
   ·intro i u hi;have hi2:(st.tm.set d v).get i=some u:=hi;rw[Tm.get_set]at hi2;rw[zJ];split at hi2
    ·simp_all
    ·rename_i e;rw[yaa (fun hh=>e (by simp_all))];exact h.tms i u hi2
   ·intro i p hi;rw[zJ,yaa]
    ·exact h.ads i p hi
    ·rintro⟨e,_⟩;injection e with e;subst e;rw[hi]at h1;cases h1
  ·rename_i hd;refine⟨st,?_,hw⟩
   simp_all [putA,putB,Kp,eC,yaa]
theorem zF.putA(h:zF C.base X0 kf ν X st tm HA t){dst:Option Nat}{d off:Nat}{κ:KT}(hw:qA C.base W J (Pk n dst d off st κ) t Q) :
  ∃st',zF C.base X0 kf ν X st' (Am.putA n tm dst (.ptr (ν d) off)) HA t/\qA C.base W J (κ st') t Q:=by
 unfold Pk at hw;rw[mD]at hw;obtain⟨i,h1,hw⟩:=hw;subst h1;simp only[sL]at hw;obtain⟨h2,h3,h4⟩:=hw;refine⟨_,?_,h4⟩;refine⟨h.ov,h.le,h.k,by rw[Kq];exact h.kA,?_,?_,h.lo,h.inj⟩
 ·intro j u hj;rw[zJ,yaa]
  ·exact h.tms j u hj
  ·rintro⟨e,_⟩;injection e with e;subst e;have hj:st.tm.get i=some u:=hj;rw[hj]at h3;cases h3
 ·intro j p hj;have hj:uJ j ((i,d,off)::st.ad)=some p:=hj;rw[Dz]at hj;rw[zJ];split at hj
  ·rename_i e;cases hj;rw[yab ⟨by rw[e],by simp_all⟩]
  ·rename_i e;rw[yaa (fun hh=>e (by simp_all))];exact h.ads j p hj
theorem zF.new(h:zF C.base X0 kf ν X st tm HA t){d:Nat}{l:List zA}{κ:KT}(hw:qA C.base W J (tNew n d l st κ) t Q) :
  ∃st' ν' X',zF C.base X0 kf ν' X' st' (Am.putA n tm (some d) (.ptr HA.next 0)) (sE HA l none) t/\qA C.base W J (κ st') t Q:=by
 unfold tNew at hw;simp only[sL]at hw;obtain⟨h1,h2,h3,h4⟩:=hw;have hx:=h.ov.nextX;refine⟨_,fun c=>if c=d then HA.next else ν c,fun c=>if c=HA.next then some (.cells (Tr.ofList l) (rB l) none)else X c,?_,h4⟩;refine⟨h.ov.newX _,?_,h.k,by rw[Kq];exact h.kA,?_,?_,?_,?_⟩
 ·intro b y hb;have:X b=some y:=h.le b y hb
  grind
 ·intro j u hj;rw[zJ,yaa]
  ·exact h.tms j u hj
  ·rintro⟨e,_⟩;injection e with e;subst e;have hj:st.tm.get d=some u:=hj;rw[hj]at h2;cases h2
 ·intro j p hj;have hj:uJ j ((d,d,0)::st.ad)=some p:=hj;rw[Dz]at hj;rw[zJ];split at hj
  ·rename_i e;cases hj;rw[yab ⟨by rw[e],by simp_all⟩];show some (zA.ptr HA.next 0)=some (zA.ptr (if d=d then HA.next else ν d) 0);rw[yab rfl]
  ·rename_i e;rw[yaa (fun hh=>e (by simp_all))];have hm:=ZU hj;unfold DH at h3;rw[aI,ycb]at h3;have:=h3 _ hm;simp only[eC]at this;have hne:p.1≠d:=by
    simp_all
   show Tm.get tm j=some (zA.ptr (if p.1=d then HA.next else ν p.1) p.2);rw[yaa hne];exact h.ads j p hj
 ·intro c m hc;have hc:(st.lo.set d l).get c=some m:=hc;rw[Tr.get_set]at hc;show X0 (if c=d then HA.next else ν c)=none/\C.base<=(if c=d then HA.next else ν c)/\∃c',(if (if c=d then HA.next else ν c)=HA.next then some (sA.cells (Tr.ofList l) (rB l) none)else X (if c=d then HA.next else ν c))=some (.cells c' m.length none)/\∀j a,m[j]?=some a->c'.get j=some a;split at hc
  ·rename_i e;cases hc;simp only[e,if_true];refine⟨?_,h.ov.base,Tr.ofList l,by rw[vD],fun j a hj=>by grind [Tr.get_ofList]⟩
   cases hq:X0 HA.next with
   | none=>rfl
   | some z=>have:=h.le _ _ hq;simp_all
  ·rename_i e;simp only[yaa e];obtain⟨g1,g2,c',g3,g4⟩:=h.lo c m hc
   grind
 ·intro c c' m m' hc hc' he;have hc:(st.lo.set d l).get c=some m:=hc;have hc':(st.lo.set d l).get c'=some m':=hc';have he:(if c=d then HA.next else ν c)=(if c'=d then HA.next else ν c'):=he;rw[Tr.get_set]at hc hc';split at hc<;>split at hc'
  ·rename_i e1 e2;rw[e1,e2]
  ·rename_i e1 e2;rw[yab e1,yaa e2]at he;obtain⟨_,_,_,g3,_⟩:=h.lo c' m' hc'
   simp_all
  ·rename_i e1 e2;rw[yaa e1,yab e2]at he;obtain⟨_,_,_,g3,_⟩:=h.lo c m hc
   simp_all
  ·rename_i e1 e2;rw[yaa e1,yaa e2]at he;exact h.inj c c' m m' hc hc' he
theorem zF.setLo(h:zF C.base X0 kf ν X st tm HA t){d:Nat}{l l':List zA}{c':Tr zA}(h1:st.lo.get d=some l)(h2:l'.length=l.length)(h3:∀j a,l'[j]?=some a->c'.get j=some a) :
  ∃X',zF C.base X0 kf ν X' ⟨st.tm,st.ad,st.lo.set d l',st.lit⟩ tm (setBlk HA (ν d) (.cells c' l.length none)) t:=by
 obtain⟨g1,g2,c,g3,g4⟩:=h.lo d l h1;refine⟨_,h.ov.setX g3 _,?_,h.k,h.kA,h.tms,h.ads,?_,?_⟩
 ·intro b y hb;show(if b=ν d then _ else X b)=some y;rw[yaa]
  ·exact h.le b y hb
  grind
 ·intro e m he;have he:(st.lo.set d l').get e=some m:=he;rw[Tr.get_set]at he;split at he
  ·simp_all
  ·rename_i e1;obtain⟨k1,k2,k3,k4,k5⟩:=h.lo e m he;refine⟨k1,k2,k3,?_,k5⟩;show(if ν e=ν d then _ else X (ν e))=_;rw[yaa,k4];intro e2;exact e1 (h.inj e d m l he h1 e2)
 ·intro e e' m m' he he' hv;have he:(st.lo.set d l').get e=some m:=he;have he':(st.lo.set d l').get e'=some m':=he';rw[Tr.get_set]at he he';have x1:∃q,st.lo.get e=some q:=by
   grind
  have x2:∃q,st.lo.get e'=some q:=by
   grind
  exact h.inj e e' _ _ x1.choose_spec x2.choose_spec hv
def zF.later(h:zF C.base X0 kf ν X st tm HA t){X':Xt}{HA':xA}{t':Tr sA}(ho:Ov C.base t' X' HA')(hx:tI X X'):zF C.base X0 kf ν X' st tm HA' t':=
 ⟨ho,h.le.trans hx,h.k,h.kA,h.tms,h.ads,fun d l hd=>by
  obtain⟨g1,g2,c,g3,g4⟩:=h.lo d l hd;exact⟨g1,g2,c,hx _ _ g3,g4⟩,h.inj⟩
theorem Mx{ty:Nat}{v:zA}(h:Db C ty v=true):aV C ty v:=by
 unfold Db at h;unfold aV
 cases hy:C.tys.get ty with
 | none=>trivial
 | some y=>
  rw[hy]at h;simp only at h ⊢;unfold Da;cases hd:y.desc<;>rw[hd]at h<;>simp only at h ⊢
  case bool=>
   have:=oC.1 h;cases v<;>simp only[zA.tag]at this<;>first
    | exact⟨_,rfl⟩
    | (cases this;done)
  case int k=>
   cases v<;>simp only[zA.asIntK]at h<;>first
    | exact⟨_,by rw[fJ.1 h]⟩
    | (cases h;done)
  case string=>
   have:=oC.1 h;cases v<;>simp only[zA.tag]at this<;>first
    | exact⟨_,rfl⟩
    | (cases this;done)
theorem Vd{ty:Nat}{v:zA}(h:(!Nat.ble (oG C ty) 2)=true):aV C ty v:=by
 unfold aV;unfold oG at h
 cases hy:C.tys.get ty with
 | none=>trivial
 | some y=>
  rw[hy]at h;simp only at h ⊢;unfold Da;cases hd:y.desc<;>rw[hd]at h<;>first
   | trivial
   | (simp only[sD.tag]at h;exact absurd h (by decide))
def HS:∀(zs l:List zA) (pre:List zA),wO zs l=true->iJ zs (cellsOf (pre++l)) pre.length=l:=by
 intro zs;induction zs with
 | nil=>intro l pre h;cases l with
  | nil=>rfl
  | cons a l=>cases h
 | cons z zs ih=>
  intro l pre h
  cases l with
  | nil=>cases h
  | cons a l=>
   unfold wO at h;rw[ybb]at h;show Gw z (cellsOf (pre++a::l)) pre.length::iJ zs (cellsOf (pre++a::l)) (pre.length+1)=a::l;have e2:=ih l (pre++[a]) h.2;rw[ybz]at e2;simp only[List.cons_append,yah,ybg,ybn,ybx]at e2;rw[e2];congr 1;have hg:(pre++a::l)[pre.length]?=some a:=by simp
   have h1:=h.1;cases z<;>simp only[bV]at h1<;>simp only[Gw,cellsOf,Aq,Mk,Rb,Bm,hg]<;>try (cases h1;done)
   case bool=>
    have:=oC.1 h1;cases a<;>simp only[zA.tag]at this<;>first
     | rfl
     | (cases this;done)
   case int k _=>
    cases a<;>simp only[zA.asIntK]at h1<;>first
     | (rw[fJ.1 h1];done)
     | (cases h1;done)
   case str=>
    have:=oC.1 h1;cases a<;>simp only[zA.tag]at this<;>first
     | rfl
     | (cases this;done)
theorem Yg{ty:Nat}{v:zA}{K:zA->T}(h:qA C.base W J (Fp C ty v K) t Q):aV C ty v/\qA C.base W J (K v) t Q:=by
 unfold Fp at h;unfold aV;have agg:∀zs,qA C.base W J (bif Nat.ble (rB zs) 40 then .asG zs v fun X=>K (.agg (iJ zs X 0))else K v) t Q->qA C.base W J (K v) t Q:=by
  intro zs h;rw[eC]at h;split at h
  ·have h:oE (oO zs v) fun X=>qA C.base W J (K (.agg (iJ zs X 0))) t Q:=h;rw[zV]at h;obtain⟨X,h1,h2⟩:=h;unfold oO at h1;simp only[uA,oB]at h1;obtain⟨l,h3,h4,h5⟩:=h1;cases h5;have:=HS zs l [] h4
   grind [Dw]
  ·exact h
 grind [Da,qA,zV,zY,aZ,uA,oB,qS,fJ,rS]
theorem Jn{g lt:Bool}{v:zA}{K:zA->Bool->T}(h:qA C.base W J (Bt g lt v K) t Q):∃lt',qA C.base W J (K v lt') t Q:=by
 grind [Bt,mD,zY,qA]
theorem Ew(h:zF C.base X0 kf ν X st tm HA t){g:Option (Nat × Bool)}{all:Array Oper}{w:Bool}(hw:cE g all st.tm=some w):cE g all tm=some w:=by
 unfold cE Ey at hw ⊢
 cases g with
 | none=>exact hw
 | some jw=>
  simp only[Ex]at hw ⊢;rw[uA]at hw ⊢;obtain⟨d,h1,hw⟩:=hw;refine⟨d,h1,?_⟩;rw[uA]at hw ⊢;obtain⟨v,h2,hw⟩:=hw;exact⟨v,h.tms _ _ h2,hw⟩
def SK (C:oA)(W J:oH)(X0:Xt)(kf:Nat)(Q:dB)(κ:KT)(m:Tm->xA->kB):Prop:=∀st tm HA t X ν,zF C.base X0 kf ν X st tm HA t->qA C.base W J (κ st) t Q->wC C.base X0 Q (m tm HA)
theorem wC.norm{ty:Nat}{v:zA}{K:zA->kB}(hf:aV C ty v)(h:wC C.base X0 Q (K v)):wC C.base X0 Q (kJ C ty v K):=by
 obtain⟨u,t',HA',X',h1,h2⟩:=h;exact⟨u,t',HA',X',cN.2 ⟨hf,h1⟩,h2⟩
theorem wC.ob{α:Type}{x:Option α}{a:α}{K:α->kB}(hx:x=some a)(h:wC C.base X0 Q (K a)):wC C.base X0 Q (Am.ob x K):=by simp_all
theorem Zp(hW:mS C A W){e eA:jC}{ae:vL}(he:eP e eA)(ha:Em ν ae eA)(hst:zF C.base X0 kf ν X st tm HA t){la:List Nat}{all:Array Oper}{o:Oper}{κ:KT}{m:Tm->xA->kB}
  (hκ:∀st' tm' HA' t' X' ν',(la=[]->ν'=ν)->zF C.base X0 kf ν' X' st' tm' HA' t'->(∃v,tm'=putA n tm o.dst v)->qA C.base W J (κ st') t' Q->wC C.base X0 Q (m tm' HA'))
  (h:qA C.base W J (tH C la o.dst o.op e ae st.lo (kop C all n o e st κ) (klo C n o st κ)) t Q) :
  wC C.base X0 Q (lF (dC C A) ((pF o.op).f C eA HA) HA fun v H'=>kJ C o.type v fun v=>m (putA n tm o.dst v) H'):=by
 refine tH_ok hW he ha hst.ov hst.lo h ?_ ?_ ?_ ?_ ?_
 ·intro v t' HA' X' ho hx hk;have hk:qA C.base W J (Fp C o.type v fun v=>Bt (Mi all.toList o.dst all.toList) (Ls o.op e st.lit) v fun v lt=>lN n o.dst v lt st κ) t' Q:=hk;obtain⟨h1,h2⟩:=Yg hk;obtain⟨lt',h3⟩:=Jn h2;obtain⟨st',h4,h5⟩:=(hst.later ho hx).put h3
  grind [wC.norm]
 ·intro v t' HA' X' ho hx hk;obtain⟨h1,h2⟩:=sL.1 hk;obtain⟨lt',h3⟩:=Jn h2;obtain⟨st',h4,h5⟩:=(hst.later ho hx).put h3
  grind [wC.norm,Mx]
 ·intro d off hk;obtain⟨h1,h2⟩:=sL.1 hk;obtain⟨st',h4,h5⟩:=hst.putA h2
  grind [wC.norm,Vd]
 ·intro d l hd hk;obtain⟨h1,h2⟩:=sL.1 hk;obtain⟨st',ν',X',h4,h5⟩:=hst.new h2;have e:=UY hd;rw[e];refine wC.norm (Vd h1) (hκ _ _ _ _ _ _ (fun hl=>?_) h4 ⟨_,by rw[e]⟩ h5);rw[hl,e]at hd;cases hd
 ·intro d l l' c' h1 h2 h3 hk;obtain⟨h4,h5⟩:=sL.1 hk;obtain⟨X',h6⟩:=hst.setLo h1 h2 h3;obtain⟨st',h7,h8⟩:=h6.put h5
  grind [wC.norm,Mx]
def Lj(h:zF C.base X0 kf ν X st tm HA t):eP (.now st.tm) (.now tm)/\Em ν (.now st.ad) (.now tm):=⟨h.tms,h.ads⟩
def zc1(hW:mS C A W){la:List Nat}{all:Array Oper}{κ:KT}{m:Tm->xA->kB}(hκ:SK C W J X0 kf Q κ m):∀(l:List Oper),SK C W J X0 kf Q (Fl C la all n κ l) (eL C (dC C A) all n m l):=by
 intro l;induction l with
 | nil=>exact hκ
 | cons o l ih=>
  intro st tm HA t X ν hst h;have h:qA C.base W J (aB (cE o.guard all st.tm) fun w=>Bool.rec (motive:=fun _=>T) (lN n o.dst lD false st (Fl C la all n κ l))
   (tH C la o.dst o.op (.now st.tm) (.now st.ad) st.lo (kop C all n o (.now st.tm) st (Fl C la all n κ l)) (klo C n o st (Fl C la all n κ l))) w) t Q:=h
  rw[mD]at h;obtain⟨w,h1,h2⟩:=h;rw[kZ];refine wC.ob (Ew hst h1) ?_
  cases w with
  | false=>
   rw[yaa (by simp)];obtain⟨st',h3,h4⟩:=hst.put h2;exact ih _ _ _ _ _ _ h3 h4
  | true=>
   rw[yab rfl];exact Zp hW (Lj hst).1 (Lj hst).2 hst (fun st' tm' HA' t' X' ν' _ hs _ hw=>ih _ _ _ _ _ _ hs hw) h2
end
end
end Go.Am
