/- Code as a function: all functions of a program; what a value is worth. -/
import Derived.Test.YtefajchlhjcgpaaGreatDoorB04
set_option linter.all false
noncomputable section
namespace Go.Am
open Go Go.RowKit
section
def dU (C:lA)(fn:Func)(tm:Tm)(H:xA):iB:=ob (jV C H tm fn.results.toList) fun l=>some (⟨Eo l,false⟩,H)
def rO (C:lA)(fn:Func):Kt:=⟨dU C fn,fun _ _ _=>none,dU C fn⟩
def Co(ops:List Oper):Bool:=fD (fun o=>match o.op with | .move _=>tE o.guard | .assign _=>tE o.guard | .alloc _=>tE o.guard | .store _ _ _=>tE o.guard | _=>false) ops
def Qw(l:List (Nat × Array Oper)):Bool:=match l with | []=>false | x::r=>fD (fun x=>Co x.2.toList) (x::r)
def Me(c:mC):Option Gv:=match yK c with | [q]=>some q | _=>none
def rdOk (r:fM)(q:Gv):Prop:=r.assign=asC q.as/\r.body=sE q.c/\r.params=q.ps.toList/\LoopState.tag r.state=0/\Qw q.as=true/\yK q.c=[]
def Gk(r:fM):fM:=⟨.busy,r.pending,r.fn,r.n,r.tm,r.params,r.assign,r.body,r.defers⟩
def hO(b:Bool)(r:fM):fM:=⟨if b then .ready else .done,if b then none else some .ret,r.fn,r.n,r.tm,r.params,r.assign,r.body,r.defers⟩
def rdK:Kt:=⟨fun _ H=>some (⟨.bool true,false⟩,H),fun _ _ _=>none,fun _ H=>some (⟨.bool false,false⟩,H)⟩
def zg5(C:lA)(φ:jE)(fn n:Nat)(q:Gv)(tm:Tm)(H:xA):iB:=nD C φ fn n (asA q.c q.as) rdK tm H
def Ey(C:lA)(A:Tr mC)(φ:jE)(l:Nat)(args:List zA)(H:xA):iB:=
 ob (fI H l) fun r=>ob (mZ r.n r.params args r.tm) fun tm=>ob (A.get r.fn) fun c=>ob (Me c) fun q=>@ite _ (rdOk r q/\l<H.next) (Classical.propDecidable _)
  (ob (zg5 C φ r.fn r.n q tm (setBlk H l (.loop (Gk r)))) fun x=>wB (!x.1.p) (ob (fI x.2 l) fun r2=>ob x.1.v.asBool fun b=>some (⟨.bool b,false⟩,setBlk x.2 l (.loop (hO b r2))))) none
def regO (c:mC):Option (Nat × Array Oper):=match c with
 | .region id ops false=>some (id,ops)
 | .cut _ (.region id ops false)=>some (id,ops)
 | _=>none
structure gP where
 i5:Nat
 o5:Array Oper
 d:Nat
 cl:Nat
 bs:List Operand
 i6:Nat
 o6:Array Oper
def Gf (l:List Oper):Option (Nat × Nat × List Operand):=match l with
 | [⟨some d,.makeFunc (.func cl) as bs,_,_,_,none⟩,⟨none,.defer cc,_,_,_,none⟩]=>(match as.toList,cc.callee,cc.args.toList with
  | [],.value (.tmp e),[]=>bif Nat.beq d e then some (d,cl,bs.toList)else none
  | _,_,_=>none)
 | _=>none
def Pv(c:mC):Option gP:=match c with
 | .seq a (.seq b .ret)=>ob (regO a) fun u=>ob (regO b) fun v=>ob (Gf u.2.toList) fun q=>some ⟨u.1,u.2,q.1,q.2.1,q.2.2,v.1,v.2⟩
 | _=>none
def lV(c:mC):Option (List mC × gP):=
 mC.rec (motive:=fun _=>Option (List mC × gP)) none (fun _ _ _=>none)
  (fun a b _ g=>match Pv (.seq a b)with | some q=>some ([],q) | none=>ob g fun p=>some (a::p.1,p.2))
  (fun _ _ _ _ _=>none) (fun _ _ _=>none) (fun _ _ _=>none) (fun _=>none) none (fun _ _ _=>none) (fun _ _ _ _ _ _ _=>none) c
def jX (l:List mC):mC:=List.rec (motive:=fun _=>mC) .skip (fun a _ g=>.seq a g) l
def recO (l:List Oper):Option (Nat × Nat):=match l with
 | [⟨some d,.call cc,_,_,_,none⟩,⟨some e,.assign (.tmp f),_,_,_,none⟩]=>(match cc.callee with
  | .builtin .recover=>bif Nat.beq d f then some (d,e)else none
  | _=>none)
 | _=>none
structure ClQ where
 i:Nat
 o:Array Oper
 d:Nat
 e:Nat
 c:mC
def Gi (c:mC):Option ClQ:=match c with
 | .seq a b=>ob (regO a) fun u=>ob (recO u.2.toList) fun p=>some ⟨u.1,u.2,p.1,p.2,b⟩
 | _=>none
def clTm (n:Nat)(q:ClQ)(tm:Tm)(v:zA):Tm:=putA n (putA n tm.cut (some q.d) v) (some q.e) v
def nS(C:lA)(A:Tr mC)(φ:jE)(cl:Nat)(cells:List zA)(v:zA)(H:xA):iB:=
 ob (C.fns.get cl) fun fc=>ob (A.get cl) fun cc=>ob (Gi cc) fun q=>wB (tE (C.prims.get cl)&&Nat.blt q.d fc.ntmps) (ob (eJ C cl cells true) fun g=>nD C φ cl fc.ntmps q.c (rO C fc) (clTm fc.ntmps q g.tm v) H)
def kM (C:lA)(A:Tr mC)(φ:jE)(fn:Func)(cl:Nat)(cells:List zA)(v:zA)(tm:Tm)(H:xA):iB:=
 ob (nS C A φ cl cells v H) fun y=>wB (!y.1.p) (dU C fn tm y.2)
def Oc(l:List ResultVar)(o6:List Oper):Bool:=fD (fun r=>match r with | .cell a _=>fD (fun o=>match o.dst with | some d => !Nat.beq d a | none=>true) o6 | .tmp _=>false) l
def sR(C:lA)(A:Tr mC)(φ:jE)(fn:Func)(q:gP)(tm:Tm)(H:xA):iB:=
 wB (Oc fn.results.toList q.o6.toList&&(Nat.ble tm.k q.d&&Nat.blt q.d fn.ntmps)) (ob (dN q.bs (.now tm.cut)) fun cells=>
  ob (xM C φ q.o6 fn.ntmps (fun tm' H'=>kM C A φ fn q.cl cells .niliface tm' H') q.o6.toList tm.cut H) fun x=>
   Bool.rec (motive:=fun _=>iB) (some x) (kM C A φ fn q.cl cells x.1.v tm.cut x.2) x.1.p)
def Ck (C:lA)(A:Tr mC)(φ:jE)(fn:Func)(q:gP):Kt:=⟨sR C A φ fn q,fun _ _ _=>none,dU C fn⟩
def bW(C:lA)(A:Tr mC)(φ:jE)(f:Nat)(fn:Func)(c:mC)(tm:Tm)(H:xA):iB:=
 match lV c with
 | none=>nD C φ f fn.ntmps c (rO C fn) tm H
 | some p=>nD C φ f fn.ntmps (jX p.1) (Ck C A φ fn p.2) tm H
def sS (C:lA)(A:Tr mC)(φ:jE)(f:Nat)(args:List zA)(H:xA):iB:=
 ob (A.get f) fun c=>ob (C.fns.get f) fun fn=>ob (eJ C f args false) fun g=>bW C A φ f fn c g.tm H
def Ep(C:lA)(A:Tr mC)(φ:jE):jE
 | .func f=>sS C A φ f
 | .yld l=>Ey C A φ l
def Cq (C:lA)(A:Tr mC):Nat->jE
 | 0=>fun _ _ _=>none
 | n+1=>Ep C A (Cq C A n)
def zD (C:lA)(A:Tr mC):jE:=fun f args H=>lim fun n=>Cq C A n f args H
section
variable {C:lA}{A:Tr mC}
theorem Ht{φ:jE}{l:Nat}{args:List zA}{H:xA}{x:wH × xA}:Ey C A φ l args H=some x ↔ ∃r tm c q y r2 b,fI H l=some r/\mZ r.n r.params args r.tm=some tm/\A.get r.fn=some c/\Me c=some q/\(rdOk r q/\l<H.next)/\zg5 C φ r.fn r.n q tm (setBlk H l (.loop (Gk r)))=some y/\fI y.2 l=some r2/\y.1=⟨.bool b,false⟩/\x=(⟨.bool b,false⟩,setBlk y.2 l (.loop (hO b r2))):=by
 have out:∀(o:wH) (b:Bool),o=⟨.bool b,false⟩ ↔ o.v=.bool b/\o.p=false:=fun o b=>by cases o;simp
 unfold Ey;grind [sA,Dl,vB]
theorem YN{φ φ':jE}(h:wO φ φ'){cl:Nat}{cells:List zA}{v:zA}{H:xA}{x:wH × xA}(hx:nS C A φ cl cells v H=some x):nS C A φ' cl cells v H=some x:=by
 unfold nS at hx ⊢
 simp only[sA,vB]at hx ⊢
 obtain⟨fc,h1,cc,h2,q,h3,h4,g,h5,h6⟩:=hx
 exact⟨fc,h1,cc,h2,q,h3,h4,g,h5,Az h _ _ _ (bO.refl _) _ _ _ h6⟩
theorem Nu{φ φ':jE}(h:wO φ φ'){fn:Func}{cl:Nat}{cells:List zA}{v:zA}{tm:Tm}{H:xA}{x:wH × xA}(hx:kM C A φ fn cl cells v tm H=some x):kM C A φ' fn cl cells v tm H=some x:=by
 grind [kM,sA,YN]
theorem DU{φ φ':jE}(h:wO φ φ'){fn:Func}{q:gP}:mJ (sR C A φ fn q) (sR C A φ' fn q):=by
 intro tm H x hx;unfold sR at hx ⊢
 simp only[vB,sA]at hx ⊢
 obtain⟨h1,cells,h2,y,h3,h4⟩:=hx
 refine⟨h1,cells,h2,y,Mc h (fun tm H x hx=>Nu h hx) _ _ _ _ h3,?_⟩
 cases hp:y.1.p with
 | false=>simp_all
 | true=>rw[hp]at h4;exact Nu h h4
def ZH{φ φ':jE}(h:wO φ φ'){f:Nat}{fn:Func}{c:mC}:mJ (bW C A φ f fn c) (bW C A φ' f fn c):=by
 intro tm H x hx;unfold bW at hx ⊢
 split at hx
 ·exact Az h c _ _ (bO.refl _) _ _ _ hx
 ·exact Az h _ (Ck C A φ fn _) (Ck C A φ' fn _) ⟨DU h,fun _ _ _ _ h=>h,fun _ _ _ h=>h⟩ _ _ _ hx
theorem OH{φs:Nat->jE}{φ:jE}(h:wV φs φ){fn:Func}{cl:Nat}{cells:List zA}{v:zA}:aN (fun n=>kM C A (φs n) fn cl cells v) (kM C A φ fn cl cells v):=by
 refine⟨fun n tm H x hx=>Nu (h.up n) hx,fun tm H x hx=>?_⟩
 unfold kM at hx;rw[sA]at hx;obtain⟨y,h1,h2⟩:=hx
 unfold nS at h1;simp only[sA,vB]at h1;obtain⟨fc,g1,cc,g2,q,g3,g4,g,g5,g6⟩:=h1
 have sup:Dq (fun _=>rO C fc) (rO C fc):=⟨⟨fun _ _ _ _ h=>h,fun _ _ _ h=>⟨0,h⟩⟩,fun i=>⟨fun _ _ _ _ h=>h,fun _ _ _ h=>⟨0,h⟩⟩,⟨fun _ _ _ _ h=>h,fun _ _ _ h=>⟨0,h⟩⟩⟩
 obtain⟨n,hn⟩:=(Ny h q.c _ _ sup).ex _ _ _ g6
 grind [kM,nS,sA,vB]
theorem zap{φs:Nat->jE}{φ:jE}(h:wV φs φ){fn:Func}{q:gP}:aN (fun n=>sR C A (φs n) fn q) (sR C A φ fn q):=by
 refine⟨fun n=>DU (h.up n),fun tm H x hx=>?_⟩
 unfold sR at hx;simp only[vB,sA]at hx;obtain⟨h1,cells,h2,y,h3,h4⟩:=hx
 obtain⟨n,hn⟩:=(ID h (OH h) _).ex _ _ _ h3
 have key:∀m,n<=m->xM C (φs m) q.o6 fn.ntmps (fun tm' H'=>kM C A (φs m) fn q.cl cells .niliface tm' H') q.o6.toList tm.cut H=some y:=
  fun m hm=>Mc (h.le hm) (fun tm H x hx=>Nu (h.le hm) hx) _ _ _ _ hn
 cases hp:y.1.p with
 | false=>
  rw[hp]at h4;refine⟨n,?_⟩
  simp_all [sR,vB]
 | true=>
  rw[hp]at h4;obtain⟨m,hm⟩:=(OH h).ex _ _ _ h4
  refine⟨max n m,?_⟩
  show sR C A (φs (max n m)) fn q tm H=some x
  unfold sR;simp only[vB,sA];exact⟨h1,cells,h2,y,key _ (Nat.le_max_left _ _),by rw[hp];exact Nu (h.le (Nat.le_max_right _ _)) hm⟩
def zc8{φs:Nat->jE}{φ:jE}(h:wV φs φ){f:Nat}{fn:Func}{c:mC}{tm:Tm}{H:xA}{x:wH × xA}(hx:bW C A φ f fn c tm H=some x):∃n,bW C A (φs n) f fn c tm H=some x:=by
 unfold bW at hx ⊢
 split at hx
 ·have sup:Dq (fun _=>rO C fn) (rO C fn):=⟨⟨fun _ _ _ _ h=>h,fun _ _ _ h=>⟨0,h⟩⟩,fun i=>⟨fun _ _ _ _ h=>h,fun _ _ _ h=>⟨0,h⟩⟩,⟨fun _ _ _ _ h=>h,fun _ _ _ h=>⟨0,h⟩⟩⟩
  exact(Ny h c _ _ sup).ex _ _ _ hx
 ·rename_i p _
  exact(Ny h (jX p.1) (fun n=>Ck C A (φs n) fn p.2) (Ck C A φ fn p.2) ⟨zap h,fun i=>⟨fun _ _ _ _ h=>h,fun _ _ _ h=>⟨0,h⟩⟩,⟨fun _ _ _ _ h=>h,fun _ _ _ h=>⟨0,h⟩⟩⟩).ex _ _ _ hx
def EY{φ φ':jE}(h:wO φ φ'):wO (Ep C A φ) (Ep C A φ'):=by
 intro f args H x hx
 cases f with
 | yld l=>
  have hx:Ey C A φ l args H=some x:=hx
  obtain⟨r,tm,c,q,y,r2,b,h1,h2,h3,h4,hq,h5,h6,h7,h8⟩:=Ht.1 hx
  exact Ht.2 ⟨r,tm,c,q,y,r2,b,h1,h2,h3,h4,hq,Az h _ _ _ (bO.refl _) _ _ _ h5,h6,h7,h8⟩
 | func f=>
 have hx:sS C A φ f args H=some x:=hx
 show sS C A φ' f args H=some x
 unfold sS at hx ⊢
 rw[sA]at hx ⊢
 obtain⟨c,h1,hx⟩:=hx
 refine⟨c,h1,?_⟩
 rw[sA]at hx ⊢
 obtain⟨fn,h2,hx⟩:=hx
 refine⟨fn,h2,?_⟩
 rw[sA]at hx ⊢
 obtain⟨g,h3,hx⟩:=hx
 exact⟨g,h3,ZH h _ _ _ hx⟩
def IL:∀n,wO (Cq C A n) (Cq C A (n+1)):=by
 intro n;induction n with
 | zero=>intro f args H x h;cases h
 | succ n ih=>exact EY ih
def Fz{f:AFn}{args:List zA}{H:xA}{x:wH × xA}:zD C A f args H=some x ↔ ∃n,Cq C A n f args H=some x:=
 Rt fun n _ hy=>IL n _ _ _ _ hy
def NI:wV (Cq C A) (zD C A):=⟨IL,fun _ _ _ _ h=>Fz.1 h⟩
theorem AL(f:AFn)(args:List zA)(H:xA):zD C A f args H=Ep C A (zD C A) f args H:=by
 have key:∀x,zD C A f args H=some x ↔ Ep C A (zD C A) f args H=some x:=by
  intro x;constructor
  ·intro h
   obtain⟨n,hn⟩:=Fz.1 h
   cases n with
   | zero=>cases hn
   | succ n=>exact EY (fun f a H y hy=>Fz.2 ⟨n,hy⟩) _ _ _ _ hn
  ·intro h
   cases f with
   | yld l=>
    have h:Ey C A (zD C A) l args H=some x:=h
    obtain⟨r,tm,c,q,y,r2,b,h1,h2,h3,h4,hq,h5,h6,h7,h8⟩:=Ht.1 h
    have sup:Dq (fun _=>rdK) rdK:=⟨⟨fun _ _ _ _ h=>h,fun _ _ _ h=>⟨0,h⟩⟩,fun i=>⟨fun _ _ _ _ h=>h,fun _ _ _ h=>⟨0,h⟩⟩,⟨fun _ _ _ _ h=>h,fun _ _ _ h=>⟨0,h⟩⟩⟩
    obtain⟨n,hn⟩:=(Ny NI _ _ _ sup).ex _ _ _ h5
    exact Fz.2 ⟨n+1,Ht.2 ⟨r,tm,c,q,y,r2,b,h1,h2,h3,h4,hq,hn,h6,h7,h8⟩⟩
   | func f=>
   have h:sS C A (zD C A) f args H=some x:=h
   unfold sS at h;rw[sA]at h;obtain⟨c,h1,h⟩:=h
   rw[sA]at h;obtain⟨fn,h2,h⟩:=h
   rw[sA]at h;obtain⟨g,h3,h⟩:=h
   obtain⟨n,hn⟩:=zc8 NI h
   refine Fz.2 ⟨n+1,?_⟩
   show sS C A (Cq C A n) f args H=some x
   grind [sS,qA]
 cases h:zD C A f args H with
 | some x=>grind
 | none=>
  cases h2:Ep C A (zD C A) f args H with
  | none=>rfl
  | some x=>simp_all
def tX(C:lA)(A:Tr mC):Prop:=∀f c,A.get f=some c->∃fn,C.fns.get f=some fn/\fn.body=some (sE c)
theorem XR{f:Nat}{args:List zA}{g:wC}(h:eJ C f args false=some g):∃fn c,C.fns.get f=some fn/\fn.body=some c/\g.todo=[.code c]/\g.R=⟨f,fn.ntmps,[],.run,false,none⟩:=by
 grind [eJ,sA,vB]
theorem Rq{α β:Type}{f g:α->Option β}:∀(l:List α) {r:List β},(∀a b,f a=some b->g a=some b)->aF f l=some r->aF g l=some r:=by
 intro l;induction l with
 | nil=>intro r _ h;exact h
 | cons a l ih=>
  grind [fN,sA]
def xR(C:lA)(f:Nat)(acs:List wC)(fl:Bool:=false):vX:=fun ds o x=>∃fr',o=.next ⟨fr',acs,x.2⟩/\iP C f ds fr' x.2 x.1 fl
def UM{H:xA}{tm:Tm}{r:Nat}{d e:Option (List vH)}(hr:H.t.get r=some (.deferred d)):∀(l:List ResultVar) vs,jV C H tm l=some vs->jV C (setBlk H r (.deferred e)) tm l=some vs:=by
 intro l vs h;refine Rq l (fun rv v h=>?_) h
 cases rv with
 | tmp t=>exact h
 | cell a t=>
  have h:(ob (ob (tm.get a) zA.asPtr) fun p=>ob (C.tys.get t) fun ty=>ob (qD H p.1) fun c=>aR ty c.1 p.2)=some v:=h
  show(ob (ob (tm.get a) zA.asPtr) fun p=>ob (C.tys.get t) fun ty=>ob (qD (setBlk H r (.deferred e)) p.1) fun c=>aR ty c.1 p.2)=some v
  simp only[sA]at h ⊢
  obtain⟨p,hp,ty,ht,c,hc,hv⟩:=h
  refine⟨p,hp,ty,ht,c,?_,hv⟩
  unfold qD at hc ⊢
  rw[sA]at hc ⊢
  obtain⟨y,h1,h2⟩:=hc
  refine⟨y,?_,h2⟩
  show(H.t.set r (.deferred e)).get p.1=some y
  rw[Tr.get_set,yaa fun e=>by rw[e,hr]at h1;cases h1;cases h2]
  exact h1
def iP.ret{f:Nat}{ds:List vH}{fr:wC}{H:xA}{o:wH}{fl:Bool}(h:iP C f ds fr H o fl)(hp:o.p=false):Gu C f ds fr H o.v fl:=by
 unfold iP at h;rwa [hp,yaa (by simp)]at h
theorem iP.of{f:Nat}{ds:List vH}{fr:wC}{H:xA}{o:wH}{fl:Bool}(h:Gu C f ds fr H o.v fl)(hp:o.p=false):iP C f ds fr H o fl:=by
 unfold iP;rwa [hp,yaa (by simp)]
def Ss{f N:Nat}{acs:List wC}{fl:Bool}(hfn:∃fn,C.fns.get f=some fn):Kb C (xR C f acs fl) (fun _=>True) f N none acs fl:=by
 refine⟨?_,fun _ _=>trivial,?_,fun ds todo tm x _ hp=>⟨_,rfl,by unfold iP;rw[yab hp];exact⟨⟨rfl,rfl,rfl,rfl⟩,hfn⟩⟩⟩
 ·rintro ds todo tm H x ⟨fr',h1,h2⟩
  cases h1;unfold iP at h2;split at h2
  ·have:=h2.1.1;cases this
  ·have:=h2.1;cases this
 ·rintro _ r ds o x hp ⟨fr',rfl,hE⟩ hd
  obtain⟨h1,h2,h3,h4,fn,l,h5,h6,h7⟩:=hE.ret hp
  obtain⟨todo,tm,ffn,n,defers,mode,deferred,round⟩:=fr'
  simp only at h1 h2 h3 h4 h6
  subst h1 h2 h3 h4
  have hr:x.2.t.get r=some (.deferred (some [])):=by
   unfold gW at hd;rw[vB,sA]at hd;obtain⟨_,y,e1,e2⟩:=hd
   cases y<;>cases e2
   exact e1
  refine⟨_,.step ?_,⟨⟨todo,tm,⟨ffn,n,ds,.returning,deferred,round⟩⟩,rfl,iP.of ⟨rfl,rfl,rfl,rfl,fn,l,h5,UM hr _ _ h6,h7⟩ hp⟩⟩
  show vK C (En C ⟨none,r,[]⟩ ds ⟨todo,tm,⟨ffn,n,⟨none,r,[]⟩::ds,.returning,deferred,round⟩⟩ acs x.2) _
  unfold En;simp only[hd,qA];exact .refl _
def Nt{f:Nat}{fn:Func}{acs:List wC}{x:wH × xA}{ds:List vH}{fl:Bool}(hf:C.fns.get f=some fn){tm:Tm}{H:xA}(h:dU C fn tm H=some x){todo:List qE}{N:Nat}
  (hs:qS C todo tm (RR f N none ds fl) acs H=.next ⟨lZ ⟨todo,tm,RR f N none ds fl⟩ .returning,acs,H⟩):Fin C (xR C f acs fl) ds (.next ⟨⟨todo,tm,RR f N none ds fl⟩,acs,H⟩) x:=by
 unfold dU at h;rw[sA]at h;obtain⟨l,h1,h2⟩:=h
 cases h2;refine .step ?_
 rw[gI rfl,hs];exact⟨_,.refl _,_,rfl,iP.of ⟨rfl,rfl,rfl,rfl,fn,l,hf,h1,rfl⟩ rfl⟩
def RdG (l:Nat)(c:wC):wH × xA->Prop:=fun x=>∃b r2 c',x.1=⟨.bool b,false⟩/\fI x.2 l=some r2/\pH c (.bool b)=some c'
def RdEnd(l:Nat)(c:wC)(acs:List wC):vX:=fun _ o x=>∃b r2 c',x.1=⟨.bool b,false⟩/\fI x.2 l=some r2/\pH c (.bool b)=some c'/\o=.next ⟨c',acs,setBlk x.2 l (.loop (hO b r2))⟩
def FS{l b:Nat}(h:b≠l)(t:Tr tA)(x y:tA):(t.set l x).set b y=(t.set b y).set l x:=Tr.set_comm t _ _ _ _ (fun e=>h e.symm)
theorem ZK{C:lA}{φ:jE}{all:Array Oper}{n:Nat}{κn:Tm->xA->iB}{l0:Nat}{r0 r1:fM}:∀(l:List Oper) (tm:Tm) (H:xA) (x:wH × xA),Co l=true->l0<H.next->H.t.get l0=some (.loop r0)->xM C φ all n κn l tm (setBlk H l0 (.loop r1))=some x →
  ∃tm' H',κn tm' (setBlk H' l0 (.loop r1))=some x/\l0<H'.next/\H'.t.get l0=some (.loop r0)/\∀(k:List qE) (R:jJ) (cs:List wC),R.n=n->zM C all k R cs l tm H=xGo k tm' R cs H':=by
 intro l;induction l with
 | nil=>intro tm H x _ h1 h2 h;exact⟨tm,H,h,h1,h2,fun _ _ _ _=>rfl⟩
 | cons o l ih=>
  intro tm H x hp hl hg h;have hp:(bif (match o.op with | .move _=>tE o.guard | .assign _=>tE o.guard | .alloc _=>tE o.guard | .store _ _ _=>tE o.guard | _=>false)then Co l else false)=true:=hp
  have hp1:(match o.op with | .move _=>tE o.guard | .assign _=>tE o.guard | .alloc _=>tE o.guard | .store _ _ _=>tE o.guard | _=>false)=true:=by
   simp_all
  rw[hp1]at hp;have hp:Co l=true:=hp
  have hw:kF o.guard all tm=some true:=by
   have:tE o.guard=true:=by cases ho:o.op<;>rw[ho]at hp1<;>first | exact hp1 | (cases hp1;done)
   cases hx:o.guard with
   | none=>rfl
   | some g=>rw[hx]at this;cases this
  rw[Cp,hw,qA,yab rfl]at h;have key:∃v H',(kE o.op).f C (.now tm) (setBlk H l0 (.loop r1))=.val v (setBlk H' l0 (.loop r1))/\(kE o.op).f C (.now tm) H=.val v H'/\l0<H'.next/\H'.t.get l0=some (.loop r0):=by
   cases ho:o.op<;>rw[ho]at hp1 h<;>try (cases hp1;done)
   case move u=>
    have e:∀H,(kE (.move u)).f C (.now tm) H=lv (pP u) C (.now tm) H:=fun _=>rfl
    rw[e]at h
    cases hv:ev u (.now tm)with
    | none=>
     have:lv (pP u) C (.now tm) (setBlk H l0 (.loop r1))=.fail:=by unfold lv pP;rw[hv]
     rw[this]at h;cases h
    | some v=>grind [lv,pP]
   case assign u=>
    have e:∀H,(kE (.assign u)).f C (.now tm) H=lv (pP u) C (.now tm) H:=fun _=>rfl
    rw[e]at h
    cases hv:ev u (.now tm)with
    | none=>
     have:lv (pP u) C (.now tm) (setBlk H l0 (.loop r1))=.fail:=by unfold lv pP;rw[hv]
     rw[this]at h;cases h
    | some v=>grind [lv,pP]
   case alloc t=>
    have e:∀H,(kE (.alloc t)).f C (.now tm) H=vL (ob (C.tys.get t) fun ty=>some (.ptr H.next 0,uF H ty.zero (aJ C t))):=fun _=>rfl
    rw[e]at h
    cases ht:C.tys.get t with
    | none=>rw[ht]at h;cases h
    | some ty=>
     refine⟨.ptr H.next 0,uF H ty.zero (aJ C t),?_,by rw[e,ht];rfl,Nat.lt_succ_of_lt hl,?_⟩
     ·rw[e,ht]
      show bJ.val (.ptr H.next 0) (uF (setBlk H l0 (.loop r1)) ty.zero (aJ C t))=_
      congr 1
      show(⟨H.next+1,(H.t.set l0 _).set H.next _⟩:xA)=⟨H.next+1,(H.t.set H.next _).set l0 _⟩
      rw[FS (by omega)]
     ·show(H.t.set H.next _).get l0=_
      rw[Tr.get_set,yaa (by omega),hg]
   case store t a u=>
    have e:∀H,(kE (.store t a u)).f C (.now tm) H=vL (ob (C.tys.get t) fun ty=>ob (ev a (.now tm)) fun a=>ob a.asPtr fun p=>ob (ev u (.now tm)) fun v=>wB (Nat.beq (aA v.cells) ty.size) (ob (yJ C H p.1 p.2 v.cells) fun H'=>some (pD,H'))):=fun _=>rfl
    rw[e]at h
    cases hs:(ob (C.tys.get t) fun ty=>ob (ev a (.now tm)) fun a=>ob a.asPtr fun p=>ob (ev u (.now tm)) fun v=>wB (Nat.beq (aA v.cells) ty.size) (ob (yJ C (setBlk H l0 (.loop r1)) p.1 p.2 v.cells) fun H'=>some (pD,H')))with
    | none=>rw[hs]at h;cases h
    | some q=>
     have hs0:=hs
     simp only[sA,vB]at hs;obtain⟨ty,h1,a',h2,p,h3,v,h4,h5,H1,h6,h7⟩:=hs
     unfold yJ at h6;simp only[sA,vB]at h6;obtain⟨g1,c,g2,g3,g4⟩:=h6
     have hne:p.1≠l0:=by
      intro e;unfold qD at g2;have:(setBlk H l0 (.loop r1)).t.get p.1=some (.loop r1):=by
       show(H.t.set l0 _).get p.1=_
       rw[Tr.get_set,yab e]
      rw[this,qA]at g2;cases g2
     have g2':qD H p.1=some c:=by
      grind [qD,setBlk,Tr.get_set]
     refine⟨pD,setBlk H p.1 (.cells (c.1.setMany v.cells p.2) c.2.1 c.2.2),?_,?_,hl,?_⟩
     ·rw[e,hs0,<- h7,<- yci g4]
      show bJ.val pD (setBlk (setBlk H l0 (.loop r1)) p.1 _)=_
      congr 1
      show(⟨H.next,(H.t.set l0 _).set p.1 _⟩:xA)=⟨H.next,(H.t.set p.1 _).set l0 _⟩
      rw[FS hne]
     ·rw[e,h1,qA,h2,qA,h3,qA,h4,qA,h5]
      unfold yJ;rw[g1,g2'];simp only[qA];rw[g3];rfl
     ·show(H.t.set p.1 _).get l0=_
      rw[Tr.get_set,yaa (fun e=>hne e.symm),hg]
  obtain⟨v,H',k1,k2,k3,k4⟩:=key
  rw[k1]at h;have h:qL C o.type v (fun v=>xM C φ all n κn l (putA n tm o.dst v) (setBlk H' l0 (.loop r1)))=some x:=h
  grind [rP,Cj,bJ.asVal]
theorem ZJ{C:lA}{φ:jE}{fn n:Nat}{κ:Kt}{c:mC}{l0:Nat}{r0 r1:fM}:∀(as:List (Nat × Array Oper)) (tm:Tm) (H:xA) (x:wH × xA),Qw as=true->l0<H.next->H.t.get l0=some (.loop r0)->nD C φ fn n (asA c as) κ tm (setBlk H l0 (.loop r1))=some x →
  ∃tm' H',nD C φ fn n c κ tm' (setBlk H' l0 (.loop r1))=some x/\H'.t.get l0=some (.loop r0)/\∀(k:List qE) (R:jJ) (cs:List wC),R.n=n->R.mode.running=true->vK C (.next ⟨⟨.code (asC as)::k,tm,R⟩,cs,H⟩) (.next ⟨⟨k,tm',R⟩,cs,H'⟩):=by
 intro as;induction as with
 | nil=>intro _ _ _ h;cases h
 | cons z as ih=>
  intro tm H x hp hl hg h;have hp:(bif Co z.2.toList then fD (fun x=>Co x.2.toList) as else false)=true:=hp
  have hp1:Co z.2.toList=true:=by simp_all
  have h:xM C φ z.2 n (nD C φ fn n (asA c as) κ) z.2.toList tm.cut (setBlk H l0 (.loop r1))=some x:=h
  obtain⟨tm1,H1,h1,h2,h3,h4⟩:=ZK _ _ _ _ hp1 hl hg h
  cases as with
  | nil=>
   refine⟨tm1,H1,h1,h3,fun k R cs hR hm=>.step ?_⟩
   rw[gI hm];show vK C (zM C z.2 k R cs z.2.toList tm.cut H) _
   rw[h4 _ _ _ hR];exact .refl _
  | cons w as=>
   have hp2:Qw (w::as)=true:=by
    show fD (fun x=>Co x.2.toList) (w::as)=true
    simp_all
   obtain⟨tm2,H2,g1,g2,g3⟩:=ih tm1 H1 x hp2 h2 h3 h1
   refine⟨tm2,H2,g1,g2,fun k R cs hR hm=>.step ?_⟩
   rw[gI hm];show vK C (zM C z.2 (.code (asC (w::as))::k) R cs z.2.toList tm.cut H) _
   rw[h4 _ _ _ hR];exact g3 _ _ _ hR hm
theorem UI{φ:jE}(hφ:aQ C φ){l:Nat}{args:List zA}{H:xA}{x:wH × xA}(h:Ey C A φ l args H=some x) :
  ∃r tm,fI H l=some r/\mZ r.n r.params args r.tm=some tm/\x.1.p=false/\∀c acs c',pH c x.1.v=some c'->vK C (.next ⟨Xs r l tm,c::acs,H⟩) (.next ⟨c',acs,x.2⟩):=by
 obtain⟨r,tm,cc,q,y,r2,b,h1,h2,h3,h4,⟨⟨q1,q2,q3,q4,q5,q6⟩,hlt⟩,h5,h6,h7,rfl⟩:=Ht.1 h
 refine⟨r,tm,h1,h2,rfl,fun c acs c' hc=>?_⟩
 have hg:H.t.get l=some (.loop r):=by
  unfold fI at h1;rw[vB,sA]at h1;obtain⟨_,y,e1,e2⟩:=h1
  cases y<;>cases e2
  exact e1
 have h256:256<=l:=by
  grind [fI,vB,fE]
 have h5:nD C φ r.fn r.n (asA q.c q.as) rdK tm (setBlk H l (.loop (Gk r)))=some y:=h5
 obtain⟨tm',H',h8,hg',h9⟩:=ZJ _ _ _ _ q5 hlt hg h5
 have h1':fI H' l=some r:=by
  grind [fI]
 unfold Xs;rw[q1,q2];refine(h9 [.beginRound,.code (sE q.c)] _ _ rfl rfl).trans (.step ?_)
 show vK C (qS C (.beginRound::[.code (sE q.c)]) tm' ⟨r.fn,r.n,[],.run,false,some l⟩ (c::acs) H') _
 have hb:qS C (.beginRound::[.code (sE q.c)]) tm' ⟨r.fn,r.n,[],.run,false,some l⟩ (c::acs) H'=.next ⟨⟨[.code (sE q.c)],tm',RR r.fn r.n (some l) []⟩,c::acs,setBlk H' l (.loop (Gk r))⟩:=by
  show Kl C [.code (sE q.c)] tm' _ (c::acs) H'=_
  unfold Kl;simp only[qA];rw[h1',qA,q4];rfl
 rw[hb];have hc:pH c (.bool b)=some c':=hc
 have hE:Kb C (RdEnd l c acs) (RdG l c) r.fn r.n (some l) (c::acs):=by
  refine⟨?_,fun e=>(by cases e),fun e=>(by cases e),?_⟩
  ·rintro ds todo tm H x ⟨b,r2,c',_,_,_,e⟩
   simp_all
  ·rintro ds todo tm x ⟨b,r2,c',e,_,_⟩ hp
   simp_all
 have hK:Jw C (RdEnd l c acs) (RdG l c) r.fn r.n (some l) (c::acs) rdK []:=by
  refine⟨?_,fun _ _ _ _ _ _ h=>(by cases h),?_⟩
  ·rintro ds x tm H ⟨b,r2,c',g1,g2,g3⟩ h
   cases h
   cases g1
   refine .step ?_
   rw[gI rfl];have:qS C [] tm (RR r.fn r.n (some l) ds) (c::acs) H=.next ⟨c',acs,setBlk H l (.loop (hO true r2))⟩:=by
    have e0:qS C [] tm (RR r.fn r.n (some l) ds) (c::acs) H=rT none C ⟨[],tm,RR r.fn r.n (some l) ds⟩ (c::acs) H:=rfl
    rw[e0];unfold rT;simp only[g2,qA];show pL (ob (pH c (.bool true)) _) 7=_
    rw[g3];rfl
   rw[this];exact⟨_,.refl _,true,r2,c',rfl,g2,g3,rfl⟩
  ·rintro ds x tm H ⟨b,r2,c',g1,g2,g3⟩ h k'
   cases h
   cases g1
   refine .step ?_
   rw[gI rfl];have:qS C (.code .ret::k') tm (RR r.fn r.n (some l) ds) (c::acs) H=.next ⟨c',acs,setBlk H l (.loop (hO false r2))⟩:=by
    have e0:qS C (.code .ret::k') tm (RR r.fn r.n (some l) ds) (c::acs) H=rT (some .ret) C ⟨.code .ret::k',tm,RR r.fn r.n (some l) ds⟩ (c::acs) H:=rfl
    rw[e0];unfold rT;simp only[g2,qA];show pL (ob (pH c (.bool false)) _) 7=_
    rw[g3];rfl
   rw[this];exact⟨_,.refl _,false,r2,c',rfl,g2,g3,rfl⟩
 obtain⟨o',k1,b',r2',c'',k2,k3,k4,rfl⟩:=Ti hφ hE q.c rdK [] (Or.inr q6) hK [] y tm' _ ⟨b,r2,c',h7,h6,hc⟩ h8
 simp_all
theorem GX{c:mC}{i:Nat}{o:Array Oper}(h:regO c=some (i,o)):sE c=.region i o false:=by
 cases c with
 | region id ops d=>cases d<;>cases h;rfl
 | cut p c=>
  cases c with
  | region id ops d=>cases d<;>cases h;rfl
  | _=>cases h
 | _=>cases h
theorem SV{c:mC}{q:gP}(h:Pv c=some q):sE c=.seq (.region q.i5 q.o5 false) (.seq (.region q.i6 q.o6 false) .ret)/\Gf q.o5.toList=some (q.d,q.cl,q.bs):=by
 unfold Pv at h;grind [sA,sE,GX]
def Nk(l:List mC)(e:Code):Code:=List.rec (motive:=fun _=>Code) e (fun a _ g=>.seq (sE a) g) l
def TQ:∀(c:mC) {l:List mC} {q:gP},lV c=some (l,q)->sE c=Nk l (.seq (.region q.i5 q.o5 false) (.seq (.region q.i6 q.o6 false) .ret))/\Gf q.o5.toList=some (q.d,q.cl,q.bs):=by
 intro c;induction c with
 | seq a b _ ih=>
  intro l q h;have h:(match Pv (.seq a b)with | some q=>some ([],q) | none=>ob (lV b) fun p=>some (a::p.1,p.2))=some (l,q):=h
  split at h
  ·rename_i h1
   cases h;exact SV h1
  ·rw[sA]at h
   obtain⟨p,h1,h2⟩:=h
   cases h2;obtain⟨g1,g2⟩:=ih h1
   exact⟨by show Code.seq (sE a) (sE b)=_;rw[g1];rfl,g2⟩
 | _=>intro l q h;cases h
theorem zcz{c:mC}{q:ClQ}(h:Gi c=some q):sE c=.seq (.region q.i q.o false) (sE q.c)/\recO q.o.toList=some (q.d,q.e):=by
 unfold Gi at h;grind [sA,sE,GX]
theorem zco{l:List Oper}{d cl:Nat}{bs:List Operand}(h:Gf l=some (d,cl,bs)):∃as' bs' t p a cc t' p' a',l=[⟨some d,.makeFunc (.func cl) as' bs',t,p,a,none⟩,⟨none,.defer cc,t',p',a',none⟩]/\as'.toList=[]/\bs'.toList=bs/\cc.callee=.value (.tmp d)/\cc.args.toList=[]:=by
 unfold Gf at h;grind [fC]
theorem za0{l:List Oper}{d e:Nat}(h:recO l=some (d,e)):∃cc t p a t' p' a',l=[⟨some d,.call cc,t,p,a,none⟩,⟨some e,.assign (.tmp d),t',p',a',none⟩]/\cc.callee=.builtin .recover:=by
 unfold recO at h;grind [fC]
theorem VK{φ:jE}(hφ:aQ C φ){E:vX}{ds:List vH}{x:wH × xA}{R:jJ}{acs:List wC}{k:List qE}{all:Array Oper}{N:Nat}{I:Tm->Prop}(hR:R.mode.running=true)(hN:R.n=N)(hP:∀l tm,I tm->x.1.p=true->E ds (.next ⟨gV ⟨.ops all l::k,tm,R⟩ [⟨x.1.v,false⟩],acs,x.2⟩) x){κn:Tm->xA->iB}(hκ:∀tm H,I tm->κn tm H=some x->Fin C E ds (.next ⟨⟨k,tm,R⟩,acs,H⟩) x) :
  ∀(l:List Oper) (tm:Tm) (H:xA),(∀o∈l,∀tm v,I tm->I (putA N tm o.dst v))->I tm->xM C φ all N κn l tm H=some x->Fin C E ds (zM C all k R acs l tm H) x:=by
 intro l;induction l with
 | nil=>exact fun tm H _ hI h=>hκ tm H hI h
 | cons o l ih=>
  intro tm H hd hI h;have hd1:=fun tm v h=>hd o yby tm v h
  have ih:=fun tm H=>ih tm H fun o ho=>hd o (ybr _ ho)
  rw[Cp,sA]at h;obtain⟨w,h1,h⟩:=h
  rw[Cj,h1]
  cases w with
  | false=>
   simp_all
  | true=>
   rw[yab rfl]at h;simp only[];generalize (kE o.op).f C (.now tm) H=r at h
   cases hv:r.asVal with
   | some p=>
    have e:r=.val p.1 p.2:=by cases r<;>simp[bJ.asVal]at hv;rw[<- hv]
    grind [xG,rP]
   | none=>
    simp only[if_true];refine Xx hφ h (fun v H' c' hc hK=>?_) (fun v=>⟨⟨.ops all l::k,putA R.n tm o.dst v,R⟩,by unfold pH;simp only[hR,cond_true];rfl⟩) (Hq hR) (hP _ _ hI)
    unfold pH at hc;simp only[hR,cond_true]at hc;have hc:some (⟨.ops all l::k,putA R.n tm o.dst v,R⟩:wC)=some c':=hc
    cases hc;refine .step ?_
    rw[gI hR,hN];rw[rP]at hK;exact ih _ _ (hd1 _ _ hI) hK.2
theorem cutK{n:Nat}{tm:Tm}{d:Nat}{v:zA}(h:tm.k<=d):(putA n tm (some d) v).cut=tm.cut:=by
 show(Hz d n tm v).cut=_
 unfold Hz;simp only[rD];split
 ·unfold Tm.set
  rw[dJ,yaa (by simp_all)]
  rfl
 ·rfl
theorem zcn{l:List Oper}{d cl:Nat}{bs:List Operand}{cells:List zA}(h:Gf l=some (d,cl,bs)){tm:Tm}{H:xA}(he:dN bs (.now tm)=some cells){f n:Nat}{ds:List vH}{acs:List wC}{k:List qE}{all:Array Oper}(hd:d<n) :
  zM C all k (RR f n none ds) acs l tm H=.next ⟨⟨.ops all []::k,putA n tm (some d) (.func (.func cl) [] cells),RR f n none (⟨some (.func cl),0,cells⟩::ds)⟩,acs,H⟩:=by
 obtain⟨as',bs',t,p,a,cc,t',p',a',rfl,e1,e2,e3,e4⟩:=zco h
 subst e2;obtain⟨ca,cargs,caty⟩:=cc
 simp only at e3 e4
 subst e3;have f1:(kE (.makeFunc (.func cl) as' bs')).f C (.now tm) H=.val (.func (.func cl) [] cells) H:=by
  show lv (Io cl as' bs') C (.now tm) H=_
  unfold lv Io;rw[e1];show(match ob (some []) _ with | some v=>bJ.val v H | none=>.fail)=_
  simp_all
 have f2:(kE (.defer ⟨.value (.tmp d),cargs,caty⟩)).f C (.now (putA n tm (some d) (.func (.func cl) [] cells))) H=.defer ⟨some (.func cl),0,cells⟩:=by
  show jZ (ob (nR (.tmp d) cargs (.now (putA n tm (some d) (.func (.func cl) [] cells)))) fun p=>some (.defer ⟨some p.1,0,dD p.2.1 p.2.2⟩))=_
  have:nR (.tmp d) cargs (.now (putA n tm (some d) (.func (.func cl) [] cells)))=some (.func cl,[],cells):=by
   unfold nR;rw[e4,show ev (.tmp d) (.now (putA n tm (some d) (.func (.func cl) [] cells)))=(putA n tm (some d) (.func (.func cl) [] cells)).get d from rfl,eI,yab ⟨rfl,hd⟩]
   rfl
  rw[this];rfl
 rw[Cj];show(match ((kE (.makeFunc (.func cl) as' bs')).f C (.now tm) H).asVal with | some p=>_ | none=>_)=_
 rw[f1];show zM C all k (RR f n none ds) acs _ (putA n tm (some d) (.func (.func cl) [] cells)) H=_
 rw[Cj];show(match ((kE (.defer ⟨.value (.tmp d),cargs,caty⟩)).f C (.now (putA n tm (some d) (.func (.func cl) [] cells))) H).asVal with | some p=>_ | none=>_)=_
 rw[f2];rfl
theorem UR{φ:jE}{E:vX}{l:List Oper}{d e:Nat}(h:recO l=some (d,e)){tm:Tm}{H:xA}{f n:Nat}{ds:List vH}{acs:List wC}{k:List qE}{all:Array Oper}{x:wH × xA}(hd:d<n){c c':wC}{v:zA}
  (hc:(c.R.mode=.returning/\v=.niliface/\c'=c)\/(c.R.mode=.panicking [⟨v,false⟩]/\c'=lZ c (.panicking [⟨v,true⟩]))) (hf:Fin C E ds (.next ⟨⟨k,putA n (putA n tm (some d) v) (some e) v,RR f n none ds true⟩,c'::acs,H⟩) x) :
  Fin C E ds (zM C all k (RR f n none ds true) (c::acs) l tm H) x:=by
 obtain⟨cc,t,p,a,t',p',a',rfl,e1⟩:=za0 h
 obtain⟨ca,cargs,caty⟩:=cc
 simp only at e1
 subst e1;have f1:(kE (.call ⟨.builtin .recover,cargs,caty⟩)).f C (.now tm) H=.recover:=rfl
 rw[Cj];have f3:zM C all k (RR f n none ds true) (c'::acs) [⟨some e,.assign (.tmp d),t',p',a',none⟩] (putA n tm (some d) v) H=.next ⟨⟨k,putA n (putA n tm (some d) v) (some e) v,RR f n none ds true⟩,c'::acs,H⟩:=by
  rw[Cj];show(match ((kE (.assign (.tmp d))).f C (.now (putA n tm (some d) v)) H).asVal with | some p=>_ | none=>_)=_
  have:(kE (.assign (.tmp d))).f C (.now (putA n tm (some d) v)) H=.val v H:=by
   show lv (pP (.tmp d)) C (.now (putA n tm (some d) v)) H=_
   unfold lv pP;rw[show ev (.tmp d) (.now (putA n tm (some d) v))=(putA n tm (some d) v).get d from rfl,eI,yab ⟨rfl,hd⟩]
  rw[this];rfl
 have f4:Lu C ⟨.ops all (⟨some d,.call ⟨.builtin .recover,cargs,caty⟩,t,p,a,none⟩::[⟨some e,.assign (.tmp d),t',p',a',none⟩])::k,tm,RR f n none ds true⟩ (c::acs) H=.next ⟨⟨.ops all [⟨some e,.assign (.tmp d),t',p',a',none⟩]::k,putA n tm (some d) v,RR f n none ds true⟩,c'::acs,H⟩:=by
  obtain⟨ctodo,ctm,cfn,cn,cdefers,cmode,cdef,cround⟩:=c
  rcases hc with⟨h1,rfl,rfl⟩ | ⟨h1,rfl⟩
  ·simp only at h1
   subst h1;rfl
  ·simp only at h1
   subst h1;rfl
 show Fin C E ds (Lu C ⟨.ops all (⟨some d,.call ⟨.builtin .recover,cargs,caty⟩,t,p,a,none⟩::[⟨some e,.assign (.tmp d),t',p',a',none⟩])::k,tm,RR f n none ds true⟩ (c::acs) H) x
 rw[f4];refine .step ?_
 rw[gI rfl];show Fin C E ds (zM C all k (RR f n none ds true) (c'::acs) [⟨some e,.assign (.tmp d),t',p',a',none⟩] (putA n tm (some d) v) H) x
 simp_all
theorem YM(hA:tX C A){φ:jE}(hφ:aQ C φ){cl:Nat}{cells:List zA}{v:zA}{H:xA}{y:wH × xA}{acs:List wC}{c c':wC}
  (hc:(c.R.mode=.returning/\v=.niliface/\c'=c)\/(c.R.mode=.panicking [⟨v,false⟩]/\c'=lZ c (.panicking [⟨v,true⟩]))) (h:nS C A φ cl cells v H=some y) (hy:y.1.p=false) :
  C.prims.get cl=none/\∃g,eJ C cl cells true=some g/\∃fr',vK C (.next ⟨g,c::acs,H⟩) (.next ⟨fr',c'::acs,y.2⟩)/\Gu C cl [] fr' y.2 y.1.v true:=by
 unfold nS at h;simp only[sA,vB,ybb]at h;obtain⟨fc,h1,cc,h2,q,h3,⟨h4,h5⟩,g,h6,h7⟩:=h
 have hpr:C.prims.get cl=none:=by
  cases hx:C.prims.get cl with
  | none=>rfl
  | some u=>rw[hx]at h4;cases h4
 refine⟨hpr,g,h6,?_⟩
 obtain⟨fc',g1,g2⟩:=hA _ _ h2
 rw[h1]at g1
 cases g1
 obtain⟨g3,g4⟩:=zcz h3
 have g5:g.todo=[.code (sE cc)]/\g.R=⟨cl,fc.ntmps,[],.run,true,none⟩:=by
  grind [eJ,sA,vB]
 obtain⟨gt,gtm,gR⟩:=g
 obtain⟨rfl,rfl⟩:=g5
 have hK:Jw C (xR C cl (c'::acs) true) (fun _=>True) cl fc.ntmps none (c'::acs) (rO C fc) [] true:=⟨fun ds x tm H _ h=>Nt h1 h rfl,fun ds x i tm H _ h=>(by cases h),fun ds x tm H _ h k'=>Nt h1 h rfl⟩
 have k1:=Ti hφ (Ss (fl:=true) ⟨fc,h1⟩) q.c (rO C fc) [] (Or.inl rfl) hK [] y _ H trivial h7
 have k2:Fin C (xR C cl (c'::acs) true) [] (.next ⟨⟨[.code (sE cc)],gtm,RR cl fc.ntmps none [] true⟩,c::acs,H⟩) y:=by
  refine .step ?_
  rw[gI rfl,g3];exact UR (φ:=φ) g4 (nC.1 h5) hc k1
 obtain⟨o',k3,fr',rfl,k4⟩:=k2
 exact⟨fr',k3,k4.ret hy⟩
def zgy(hA:tX C A){φ:jE}(hφ:aQ C φ){cl:Nat}{cells:List zA}{v:zA}{H:xA}{y:wH × xA}{acs:List wC}{c:wC}{ds:List vH}(hd:c.R.defers=⟨some (.func cl),0,cells⟩::ds)
  (hm:(c.R.mode=.returning/\v=.niliface)\/c.R.mode=.panicking [⟨v,false⟩]) (h:nS C A φ cl cells v H=some y) (hy:y.1.p=false) :
  vK C (.next ⟨c,acs,H⟩) (.next ⟨⟨c.todo,c.tm,⟨c.R.fn,c.R.n,ds,.returning,c.R.deferred,c.R.roundOf⟩⟩,acs,y.2⟩):=by
 obtain⟨ctodo,ctm,cfn,cn,cdefers,cmode,cdef,cround⟩:=c
 simp only at hd hm
 subst hd;have hx:∀m:sV,((m=.returning/\v=.niliface)\/m=.panicking [⟨v,false⟩])->∀c':wC,c'=(⟨ctodo,ctm,⟨cfn,cn,ds,m,cdef,cround⟩⟩:wC)->∃c'':wC,((c'.R.mode=.returning/\v=.niliface/\c''=c')\/(c'.R.mode=.panicking [⟨v,false⟩]/\c''=lZ c' (.panicking [⟨v,true⟩])))/\∀fr' H,Gu C cl [] fr' H y.1.v true->aT C (.next ⟨fr',c''::acs,H⟩)=.next ⟨⟨ctodo,ctm,⟨cfn,cn,ds,.returning,cdef,cround⟩⟩,acs,H⟩:=by
  intro m hm c' hc';subst hc'
  have ret:∀(c'':wC),c''.R.mode=.returning\/c''.R.mode=.panicking [⟨v,true⟩]->∀fr' H,Gu C cl [] fr' H y.1.v true->aT C (.next ⟨fr',c''::acs,H⟩)=.next ⟨lZ c'' .returning,acs,H⟩:=by
   rintro c'' hcm fr' H ⟨h1,h2,h3,h4,fn,l,h5,h6,h7⟩
   obtain⟨todo,tm,ffn,n,defers,mode,deferred,round⟩:=fr'
   obtain⟨c2todo,c2tm,c2fn,c2n,c2defers,c2mode,c2def,c2round⟩:=c''
   simp only at h1 h2 h3 h4 h6 hcm
   subst h1 h2 h3 h4
   show Em C ⟨todo,tm,_⟩ (_::acs) H=_
   unfold Em;rw[h5,qA,h6];rcases hcm with rfl | rfl<;>rfl
  rcases hm with⟨rfl,rfl⟩ | rfl
  ·exact⟨_,.inl ⟨rfl,rfl,rfl⟩,fun fr' H hr=>ret _ (.inl rfl) fr' H hr⟩
  ·exact⟨_,.inr ⟨rfl,rfl⟩,fun fr' H hr=>ret _ (.inr rfl) fr' H hr⟩
 obtain⟨c'',h1,h2⟩:=hx cmode hm _ rfl
 obtain⟨hp,g,h3,fr',h4,h5⟩:=YM hA hφ (acs:=acs) h1 h hy
 refine .step ?_
 have e:aT C (.next ⟨⟨ctodo,ctm,⟨cfn,cn,⟨some (.func cl),0,cells⟩::ds,cmode,cdef,cround⟩⟩,acs,H⟩)=.next ⟨g,⟨ctodo,ctm,⟨cfn,cn,ds,cmode,cdef,cround⟩⟩::acs,H⟩:=by
  have e1:aT C (.next ⟨⟨ctodo,ctm,⟨cfn,cn,⟨some (.func cl),0,cells⟩::ds,cmode,cdef,cround⟩⟩,acs,H⟩)=En C ⟨some (.func cl),0,cells⟩ ds ⟨ctodo,ctm,⟨cfn,cn,⟨some (.func cl),0,cells⟩::ds,cmode,cdef,cround⟩⟩ acs H:=by
   rcases hm with⟨rfl,_⟩ | rfl<;>rfl
  rw[e1];unfold En;simp only[];rw[hp];simp only[];rw[h3];rfl
 rw[e];refine h4.trans (.step ?_)
 rw[h2 _ _ h5];exact .refl _
theorem UK{H:xA}{tm tm':Tm}:∀ {l:List ResultVar},(∀r∈l,∃a t,r=.cell a t/\tm'.get a=tm.get a)->jV C H tm' l=jV C H tm l:=by
 intro l;induction l with
 | nil=>exact fun _=>rfl
 | cons r l ih=>
  intro h;obtain⟨a,t,rfl,h1⟩:=h _ yby
  have ih:=ih fun r hr=>h r (ybr _ hr)
  show aF (oR C H tm') _=aF (oR C H tm) _
  rw[fN,fN];have e:oR C H tm' (.cell a t)=oR C H tm (.cell a t):=by
   show(ob (ob (tm'.get a) zA.asPtr) fun p=>ob (C.tys.get t) fun ty=>ob (qD H p.1) fun c=>aR ty c.1 p.2)=_
   rw[h1];rfl
  rw[e];have ih:aF (oR C H tm') l=aF (oR C H tm) l:=ih
  rw[ih]
theorem YT{l:List ResultVar}{o6:List Oper}(h:Oc l o6=true):∀r∈l,∃a t,r=.cell a t/\∀o∈o6,o.dst≠some a:=by
 unfold Oc at h;rw[vI,ycb]at h;intro r hr;have:=h r hr
 cases r with
 | tmp t=>cases this
 | cell a t=>
  refine⟨a,t,rfl,fun o ho e=>?_⟩
  have this:fD (fun o=>match o.dst with | some d => !Nat.beq d a | none=>true) o6=true:=this
  rw[vI,ycb]at this;have:=this o ho
  simp_all
theorem SW(hA:tX C A){φ:jE}(hφ:aQ C φ){f:Nat}{fn:Func}{q:gP}(hf:C.fns.get f=some fn)(hq:Gf q.o5.toList=some (q.d,q.cl,q.bs)){acs:List wC}{ds:List vH}{tm:Tm}{H:xA}{x:wH × xA}(h:sR C A φ fn q tm H=some x) :
  Fin C (xR C f acs) ds (.next ⟨⟨[.code (.seq (.region q.i5 q.o5 false) (.seq (.region q.i6 q.o6 false) .ret))],tm,RR f fn.ntmps none ds⟩,acs,H⟩) x:=by
 unfold sR at h;simp only[vB,sA,ybb]at h;obtain⟨⟨h1,h2,h3⟩,cells,h4,y,h5,h6⟩:=h
 have hc:=YT h1
 let I:Tm->Prop:=fun tm'=>∀r∈fn.results.toList,∃a t,r=.cell a t/\tm'.get a=tm.cut.get a
 let D:vH:=⟨some (.func q.cl),0,cells⟩
 let E6:vX:=fun _ o y=>if y.1.p=true then ∃fr,o=.next ⟨fr,acs,y.2⟩/\fr.R=⟨f,fn.ntmps,D::ds,.panicking [⟨y.1.v,false⟩],false,none⟩/\I fr.tm else xR C f acs false ds o y
 have close:∀(c:wC) (H:xA) (v:zA) (tm0:Tm) (z:wH × xA),c.R=⟨f,fn.ntmps,D::ds,c.R.mode,false,none⟩->((c.R.mode=.returning/\v=.niliface)\/c.R.mode=.panicking [⟨v,false⟩])->(∀r∈fn.results.toList,∃a t,r=.cell a t/\c.tm.get a=tm0.get a)->kM C A φ fn q.cl cells v tm0 H=some z->z.1.p=false/\∃o',vK C (.next ⟨c,acs,H⟩) o'/\xR C f acs false ds o' z:=by
  intro c H v tm0 z e1 e2 e3 e4;unfold kM at e4;rw[sA]at e4;obtain⟨w,e5,e6⟩:=e4
  rw[vB]at e6;unfold dU at e6;rw[sA]at e6;obtain⟨e7,l,e8,e9⟩:=e6
  cases e9
  have hd:c.R.defers=D::ds:=by rw[e1]
  have r1:=zgy hA hφ (acs:=acs) hd e2 e5 (by grind)
  refine⟨rfl,_,r1,_,rfl,iP.of ⟨rfl,rfl,by rw[e1],by rw[e1],fn,l,hf,?_,rfl⟩ rfl⟩
  grind [UK]
 refine .step ?_
 rw[gI rfl];show Fin C (xR C f acs) ds (zM C q.o5 [.code (.seq (.region q.i6 q.o6 false) .ret)] (RR f fn.ntmps none ds) acs q.o5.toList tm.cut H) x
 rw[zcn hq h4 (nC.1 h3)]
 refine .step ?_
 rw[gI rfl];show Fin C (xR C f acs) ds (.next ⟨⟨[.code (.seq (.region q.i6 q.o6 false) .ret)],putA fn.ntmps tm.cut (some q.d) (.func (.func q.cl) [] cells),RR f fn.ntmps none (D::ds)⟩,acs,H⟩) x
 refine .step ?_
 rw[gI rfl];show Fin C (xR C f acs) ds (zM C q.o6 [.code .ret] (RR f fn.ntmps none (D::ds)) acs q.o6.toList (putA fn.ntmps tm.cut (some q.d) (.func (.func q.cl) [] cells)).cut H) x
 rw[cutK (show tm.cut.k<=q.d from fE.1 h2)]
 have r6:Fin C E6 (D::ds) (zM C q.o6 [.code .ret] (RR f fn.ntmps none (D::ds)) acs q.o6.toList tm.cut.cut H) y:=by
  refine VK hφ (I:=I) (N:=fn.ntmps) rfl rfl (fun l tm' hI hp=>?_) (fun tm' H' hI hy=>?_) _ _ _ (fun o ho tm' v hI r hr=>?_) (fun r hr=>?_) h5
  ·show if y.1.p=true then _ else _
   rw[yab hp];exact⟨_,rfl,rfl,hI⟩
  ·have:aT C (.next ⟨⟨[.code .ret],tm',RR f fn.ntmps none (D::ds)⟩,acs,H'⟩)=.next ⟨⟨[.code .ret],tm',⟨f,fn.ntmps,D::ds,.returning,false,none⟩⟩,acs,H'⟩:=rfl
   refine .step ?_
   rw[this];obtain⟨z1,o',z2,z3⟩:=close ⟨[.code .ret],tm',⟨f,fn.ntmps,D::ds,.returning,false,none⟩⟩ H' .niliface tm' y rfl (.inl ⟨rfl,rfl⟩) (fun r hr=>by grind) hy
   refine⟨o',z2,?_⟩
   grind
  ·grind [eI]
  ·obtain⟨a,t,rfl,_⟩:=hc r hr
   exact⟨a,t,rfl,rfl⟩
 obtain⟨o',g1,g2⟩:=r6
 have g2:if y.1.p=true then ∃fr,o'=.next ⟨fr,acs,y.2⟩/\fr.R=⟨f,fn.ntmps,D::ds,.panicking [⟨y.1.v,false⟩],false,none⟩/\I fr.tm else xR C f acs false ds o' y:=g2
 cases hp:y.1.p with
 | false=>
  rw[hp]at h6 g2;rw[yaa (by simp)]at g2
  have h6:some y=some x:=h6
  cases h6;exact⟨o',g1,g2⟩
 | true=>
  rw[hp]at h6 g2;rw[yab rfl]at g2;have h6:kM C A φ fn q.cl cells y.1.v tm.cut y.2=some x:=h6
  obtain⟨fr,rfl,e1,e2⟩:=g2
  obtain⟨_,o'',z2,z3⟩:=close fr y.2 y.1.v tm.cut x (by rw[e1]) (.inr (by rw[e1])) e2 h6
  exact⟨o'',g1.trans z2,z3⟩
theorem ZG(hA:tX C A){φ:jE}(hφ:aQ C φ){f:Nat}{fn:Func}{c:mC}(hf:C.fns.get f=some fn){acs:List wC}{tm:Tm}{H:xA}{x:wH × xA}(h:bW C A φ f fn c tm H=some x) :
  Fin C (xR C f acs) [] (.next ⟨⟨[.code (sE c)],tm,RR f fn.ntmps none []⟩,acs,H⟩) x:=by
 unfold bW at h;split at h
 ·have hK:Jw C (xR C f acs) (fun _=>True) f fn.ntmps none acs (rO C fn) []:=⟨fun ds x tm H _ h=>Nt hf h rfl,fun ds x i tm H _ h=>(by cases h),fun ds x tm H _ h k'=>Nt hf h rfl⟩
  exact Ti hφ (Ss ⟨fn,hf⟩) c (rO C fn) [] (Or.inl rfl) hK [] x tm H trivial h
 ·rename_i p hp
  obtain⟨l,q⟩:=p
  obtain⟨h1,h2⟩:=TQ c hp
  rw[h1];clear h1 hp
  have key:∀(l:List mC) ds x tm H,nD C φ f fn.ntmps (jX l) (Ck C A φ fn q) tm H=some x->Fin C (xR C f acs) ds (.next ⟨⟨[.code (Nk l (.seq (.region q.i5 q.o5 false) (.seq (.region q.i6 q.o6 false) .ret)))],tm,RR f fn.ntmps none ds⟩,acs,H⟩) x:=by
   intro l;induction l with
   | nil=>exact fun ds x tm H h=>SW hA hφ hf h2 h
   | cons a l ih=>
    intro ds x tm H h;refine Sw (Ss ⟨fn,hf⟩) (t1:=[.code (Nk (a::l) _)]) rfl (t2:=.code (sE a)::[.code (Nk l (.seq (.region q.i5 q.o5 false) (.seq (.region q.i6 q.o6 false) .ret)))]) (fun _ _=>rfl) ?_
    have hK:Jw C (xR C f acs) (fun _=>True) f fn.ntmps none acs ⟨nD C φ f fn.ntmps (jX l) (Ck C A φ fn q),fun _ _ _=>none,dU C fn⟩ [.code (Nk l (.seq (.region q.i5 q.o5 false) (.seq (.region q.i6 q.o6 false) .ret)))]:=
     ⟨fun ds x tm H _ h=>ih ds x tm H h,fun ds x i tm H _ h=>(by cases h),fun ds x tm H _ h k'=>Nt hf h rfl⟩
    exact Ti hφ (Ss ⟨fn,hf⟩) a _ _ (Or.inl rfl) hK ds x tm H trivial h
  simp_all
theorem TK(hA:tX C A){φ:jE}(hφ:aQ C φ):aQ C (Ep C A φ):=by
 refine⟨fun f args H x h=>?_,fun l args H x h=>UI hφ h⟩
 have h:sS C A φ f args H=some x:=h
 unfold sS at h;rw[sA]at h;obtain⟨c,h1,h⟩:=h
 rw[sA]at h;obtain⟨fn,h2,h⟩:=h
 rw[sA]at h;obtain⟨g,h3,h⟩:=h
 refine⟨g,h3,fun acs=>?_⟩
 obtain⟨fn',c',e1,e2,e3,e4⟩:=XR h3
 rw[h2]at e1;cases e1
 obtain⟨fn',e5,e6⟩:=hA f c h1
 rw[h2]at e5;cases e5
 rw[e2]at e6;cases e6
 obtain⟨gt,gtm,gR⟩:=g
 simp only at e3 e4 h
 subst e3 e4
 obtain⟨o',k1,fr',rfl,k2⟩:=ZG hA hφ h2 (acs:=acs) h
 grind
def IM(hA:tX C A):∀n,aQ C (Cq C A n):=by
 intro n;induction n with
 | zero=>exact⟨fun f args H x h=>(by cases h),fun l args H x h=>(by cases h)⟩
 | succ n ih=>exact TK hA ih
def zb9(hA:tX C A):aQ C (zD C A):=by
 refine⟨fun f args H x h=>?_,fun f args H x h=>?_⟩
 ·obtain⟨n,hn⟩:=Fz.1 h
  exact(IM hA n).fn _ _ _ _ hn
 ·obtain⟨n,hn⟩:=Fz.1 h
  exact(IM hA n).rd _ _ _ _ hn
theorem YU{P:Program}{B N:Nat}{I:World->Prop}{μ:Mu}{w:World}(hS:cJ P C B N I)(hI:I w)(hA:tX C A){f:Nat}{args:List zA}{args':Array Value}{H H':xA}{v:zA}(hH:tB B N μ H w)(hl:oB μ args args'.toList)
  (h:zD C A (.func f) args H=some (⟨v,false⟩,H')):Calls P f args' w fun e w'=>∃v' μ',e=.returned v'/\μ.lw μ'/\uA μ' v v'/\tB B N μ' H' w'/\Below N w w':=by
 intro base;obtain⟨g,he,hr⟩:=(zb9 hA).fn _ _ _ _ h
 obtain⟨fr',r1,hE⟩:=hr []
 obtain⟨h1,h2,h3,h4,fn,l,h5,h6,rfl⟩:=hE.ret rfl
 have h0:bD P C B N μ base (lone (Frame.enter P f args' .normal) base w) w (.next ⟨g,[],H⟩):=Xe hS.fns hH hl he
 obtain⟨μ',b,cs,w',s1,s2,s3,s4,s5,s6⟩:=bD.reach hS hI r1 h0
 cases s6
 have hb:=s5.body
 rw[yaa (by grind [sV.running])]at hb
 obtain⟨v',q1,q2⟩:=GR hS.tys s4 hb h6
 have hm:=s5.rest.mode
 rw[h1]at hm;have hbm:b.mode=.returning:=by
  cases hb:b.mode with
  | returning=>rfl
  | _=>rw[hb]at hm;exact hm.elim
 have hd:=s5.rest.defers
 rw[h2]at hd;have hbd:b.defers=[]:=by
  generalize hx:b.defers=bd at hd
  cases hd;rfl
 have hk:=s5.rest.kind
 rw[h3]at hk;have hfn:b.fn=f:=by rw[s5.rest.fn,h4]
 exact⟨.returned v',w',b,⟨v',μ',rfl,s2,q2,s4,s3⟩,s1,hfn,hbm,hbd,hk,fn,by rw[hfn];exact(hS.fns _ _ h5).1,q1⟩
end
end
section
def iA(C:lA)(t:Nat)(H:xA)(v:zA):Option zA:=ob v.asPtr fun p=>ob (C.tys.get t) fun ty=>ob (qD H p.1) fun c=>aR ty c.1 p.2
def xP(C:lA)(s d:Nat)(H:xA)(a:zA):Option zA:=ob (C.tys.get s) fun s=>ob (C.tys.get d) fun d=>oS C s d a H
def iD(C:lA)(t:Nat)(H:xA)(a:zA)(l h:Option zA):Option zA:=ob (C.tys.get t) fun ty=>dM C H ty a l h
def Kv(C:lA)(s f:Nat):Option Nat:=ob (C.tys.get s) fun ty=>ob ty.desc.asStruct fun fs=>ob (tD fs f) fun fd=>wB (!Nat.beq fd.2.2 0) (some fd.1)
def pC(C:lA)(s f:Nat)(v:zA):Option zA:=ob (Kv C s f) fun k=>ob v.asPtr fun p=>some (.ptr p.1 (p.2+k))
def tC(C:lA)(t:Nat)(v i:zA):Option zA:=
 ob (C.tys.get t) fun ty=>ob i.asNat fun i=>
  match v.asSlice with
  | some s=>ob ty.desc.asSlice fun el=>ob (C.tys.get el) fun et=>wB (Nat.blt i s.2.2.1) (some (.ptr s.1 (s.2.1+i*et.size)))
  | none=>ob v.asPtr fun p=>ob ty.desc.asArr fun a=>ob (C.tys.get a.2) fun et=>wB (Nat.blt i a.1) (some (.ptr p.1 (p.2+i*et.size)))
def CY(C:lA)(t i:Nat):Option Nat:=ob (C.tys.get t) fun ty=>ob ty.desc.asArr fun a=>ob (C.tys.get a.2) fun et=>wB (Nat.blt i a.1) (some (i*et.size))
def bG(C:lA)(t:Nat)(v i:zA):Option zA:=
 ob (C.tys.get t) fun ty=>ob i.asNat fun i=>
  match v.asStr with
  | some s=>wB ty.desc.isString (ob (tD s i) fun b=>some (.int .u8 (.ofNat b)))
  | none=>ob v.asAgg fun l=>ob ty.desc.asArr fun a=>ob (C.tys.get a.2) fun et=>wB (Nat.blt i a.1) (xQ C a.2 l (i*et.size))
def iI(i:Nat)(v:zA):Option zA:=ob v.asTup fun l=>tD l i
def cT (C:lA)(t:Nat)(H:xA)(v:zA):Option zA:=ob (C.tys.get t) fun ty=>ob (pU H ty v) fun n=>some (.int .i64 (.ofNat n))
def qC(v:zA):Option zA:=
 match v.asSlice with
 | some s=>some (.int .i64 (.ofNat s.2.2.1))
 | none=>wB (Nat.beq v.tag 5) (some (.int .i64 (.ofNat 0)))
def Bx (v:zA):Option zA:=wB (Nat.beq v.tag 4||Nat.beq v.tag 9) (some v)
def Pm(C:lA)(u:Nat)(ok:Bool)(v:zA):Option zA:=
 ob (C.tys.get u) fun ty=>wB (Nat.blt ty.desc.tag 9) (
  match v.asIface with
  | some p=>bif Nat.beq p.1 u then some (bif ok then .tup [p.2,.bool true]else p.2)else wB ok (some (.tup [sX ty,.bool false]))
  | none=>wB (Nat.beq v.tag 12&&ok) (some (.tup [sX ty,.bool false])))
def mX(C:lA)(t:Nat)(H:xA)(m k:zA)(ok:Bool):Option zA:=
 ob (C.tys.get t) fun ty=>ob ty.desc.asMap fun ke=>ob (C.tys.get ke.1) fun kty=>wB (mU C kty) (ob (C.tys.get ke.2) fun ety=>
  ob (fV H m) fun es=>wB (wS C kty k) (ob (jK k es) fun r=>
   match r with
   | some v=>some (bif ok then .tup [v,.bool true]else v)
   | none=>some (bif ok then .tup [sX ety,.bool false]else sX ety)))
def yI(C:lA)(t:Nat)(H:xA):Option (zA × xA):=ob (C.tys.get t) fun ty=>some (.ptr H.next 0,uF H ty.zero none)
def zL (v:zA)(H:xA):Option (zA × xA):=some (.ptr H.next 0,uF H v.cells none)
def Pn(C:lA)(t:Nat)(H:xA):Option (zA × xA):=ob (C.tys.get t) fun ty=>some (.ptr H.next 0,uF H ty.zero (aJ C t))
def Hf(C:lA)(t:Nat)(v:zA)(H:xA):Option (zA × xA):=some (.ptr H.next 0,uF H v.cells (aJ C t))
def wE(C:lA)(t len:Nat)(ps:List (Nat × zA))(H:xA):Option (zA × xA):=
 ob (C.tys.get t) fun ty=>ob ty.desc.asSlice fun el=>ob (C.tys.get el) fun et=>
  wB (Nat.blt (len*et.size) 1000000&&Nat.beq (aA et.zero) et.size) (ob (kL (fun i=>some (i*et.size,et.size)) ps (xI et.zero len)) fun l=>some (.slice H.next 0 len len,uF H l none))
def sC(C:lA)(t:Nat)(a v:zA)(H:xA):Option (zA × xA):=ob (C.tys.get t) fun ty=>ob a.asPtr fun p=>wB (Nat.beq (aA v.cells) ty.size) (ob (yJ C H p.1 p.2 v.cells) fun H'=>some (pD,H'))
def Pk(H:xA):Option (zA × xA):=some (.map H.next,newBlk H (.map []))
def cS(C:lA)(t:Nat)(m k v:zA)(H:xA):Option (zA × xA):=
 ob (C.tys.get t) fun ty=>ob ty.desc.asMap fun ke=>ob (C.tys.get ke.1) fun kty=>wB (mU C kty)
  (ob m.asMap fun b=>wB (!Nat.blt b C.base) (ob (fK H b) fun l=>wB (wS C kty k) (ob (kN k v l) fun l'=>some (pD,setBlk H b (.map l')))))
def yP(C:lA)(t:Nat)(l c:zA)(H:xA):Option (zA × xA):=
 ob (C.tys.get t) fun ty=>ob ty.desc.asSlice fun el=>ob (C.tys.get el) fun et=>ob l.asNat fun l=>ob c.asNat fun c=>
  wB (Nat.ble l c&&Nat.blt c 1000000&&Nat.blt (c*et.bytes) 1000000000&&Nat.beq (aA et.zero) et.size) (some (.slice H.next 0 l c,uF H (xI et.zero c) none))
def Uv(C:lA)(s d:Nat)(v:zA)(H:xA):Option (zA × xA):=
 ob (C.tys.get s) fun _=>ob (C.tys.get d) fun ty=>ob ty.desc.asSlice fun el=>ob (C.tys.get el) fun et=>ob et.desc.asInt fun k=>wB (zN k .u8) (ob v.asStr fun l=>
  some (.slice H.next 0 (aA l) (aA l),uF H (mY l) (some (.ty el))))
def aG(C:lA)(t u:Nat)(a b:zA)(H:xA):Option (zA × xA):=ob (C.tys.get t) fun ty=>ob (C.tys.get u) fun uty=>wB (!Nat.beq uty.desc.tag 1) (iY C H ty a b)
def vNext(v:zA)(H:xA):Option (zA × xA):=ob v.asPtr fun p=>wB (Nat.beq p.2 0) (ob (ob (H.t.get p.1) tA.asIter) fun x=>
 match tD x.1 x.2 with
 | some c=>wB (Nat.blt c 128) (some (.tup [.bool true,.int .i64 (.ofNat x.2),.int .i32 (.ofNat c)],setBlk H p.1 (.siter x.1 (x.2+1))))
 | none=>some (.tup [.bool false],H))
structure jI where
 b:Nat->Bool
 i:Nat->Int
 s:Nat->List Nat
 v:Nat->zA
inductive T where
 | ret (v:zA)
 | fail
 | ite (b:Bool) (x y:T)
 | opt (x:Option zA) (K:zA->T)
 | light (x:Tr tA->Option zA) (K:zA->T)
 | heavy (x:xA->Option (zA × xA)) (K:zA->T)
 | call (f:Nat) (args:List zA) (K:zA->T)
 | callv (f:zA) (args:List zA) (K:zA->T)
 | asI (k:IntKind) (v:zA) (K:Int->T)
 | asB (v:zA) (K:Bool->T)
 | asS (v:zA) (K:List Nat->T)
 | asG (zs:List zA) (v:zA) (K:jI->T)
 | jump (i:Nat) (vals:List zA)
 | range (np:Nat->Bool) (f:zA) (i m:Nat) (vals:List zA) (K R:T)
def yo:Nat:=1099511627776
def pn:Nat:=1099511627775
def Yv(z:zA)(X:jI)(j:Nat):zA:=
 match z with
 | .bool _=>.bool (X.b j)
 | .int k _=>.int k (X.i j)
 | .str _=>.str (X.s j)
 | _=>X.v j
def bZ(zs:List zA)(X:jI):Nat->List zA:=
 List.rec (motive:=fun _=>Nat->List zA) (fun _=>[]) (fun z _ g j=>Yv z X j::g (j+1)) zs
def Gl(l:List zA)(j:Nat):Bool:=match l[j]? with | some (.bool b)=>b | _=>false
def Si(l:List zA)(j:Nat):Int:=match l[j]? with | some (.int _ n)=>n | _=>0
def zk4(l:List zA)(j:Nat):List Nat:=match l[j]? with | some (.str s)=>s | _=>[]
def Hd(l:List zA)(j:Nat):zA:=match l[j]? with | some v=>v | _=>.nilptr
def cellsOf(l:List zA):jI:=⟨Gl l,Si l,zk4 l,Hd l⟩
def Au (z a:zA):Bool:=
 match z with
 | .bool _=>Nat.beq a.tag 0
 | .int k _=>match a.asIntK with | some p=>zN p.1 k | none=>false
 | .str _=>Nat.beq a.tag 2
 | .nilptr=>Nat.beq a.tag 3||Nat.beq a.tag 4
 | .nilslice=>Nat.beq a.tag 5||Nat.beq a.tag 6
 | .nilmap=>Nat.beq a.tag 7||Nat.beq a.tag 8
 | .nilfunc=>Nat.beq a.tag 10||Nat.beq a.tag 9
 | .niliface=>Nat.beq a.tag 12||Nat.beq a.tag 11
 | _=>false
def rS:List zA->List zA->Bool
 | [],[]=>true
 | z::zs,a::l=>Au z a&&rS zs l
 | _,_=>false
structure jG where
 tm:Tm
 ad:List (Nat × Nat × Nat)
 lo:Tr (List zA)
 lit:List Nat
abbrev KT:=jG->T
structure KtT where
 norm:KT
 exit:Nat->KT
 ret:KT
def uC {α:Type}(x:Option α)(K:α->T):T:=Option.rec (motive:=fun _=>T) .fail K x
def xK (b:Bool)(K:T):T:=Bool.rec (motive:=fun _=>T) .fail K b
def iL(i:Nat)(l:List (Nat × Nat × Nat)):Option (Nat × Nat):=
 List.rec (motive:=fun _=>Option (Nat × Nat)) none (fun a _ g=>Bool.rec (motive:=fun _=>Option (Nat × Nat)) g (some a.2) (Nat.beq i a.1)) l
inductive uO where
 | now (ad:List (Nat × Nat × Nat))
 | mixed (ad old:List (Nat × Nat × Nat)) (olds names:List Nat)
def tAd (e:uO)(t:Nat):Option (Nat × Nat):=
 match e with
 | .now ad=>iL t ad
 | .mixed ad old olds names=>bif iH t names then iL t (bif iH t olds then old else ad)else none
def xAd (e:uO)(x:Operand):Option (Nat × Nat):=
 match x with
 | .tmp t=>tAd e t
 | _=>none
def iG:xA:=⟨0,.leaf⟩
def gH (C:lA)(t:Nat):Nat:=
 match C.tys.get t with
 | some ty=>ty.desc.tag
 | none=>10
def AD(x:Operand):Bool:=
 match x with
 | .const _=>true
 | _=>false
def PE(x:Operand):Bool:=
 match x with
 | .const (.int _ n) => !kB n 0
 | _=>false
def binDir(C:lA)(op:BinOp)(t:Nat)(y:Operand):Bool:=
 match op with
 | .add=>Nat.beq (gH C t) 1
 | .sub=>true
 | .mul=>true
 | .quo=>PE y
 | .rem=>PE y
 | .shl=>AD y
 | .shr=>AD y
 | .eql=>Nat.ble (gH C t) 2
 | .neq=>Nat.ble (gH C t) 2
 | .lss=>Nat.ble (gH C t) 2
 | .leq=>Nat.ble (gH C t) 2
 | .gtr=>Nat.ble (gH C t) 2
 | .geq=>Nat.ble (gH C t) 2
 | _=>false
structure gM where
 K:zA->T
 Kd:zA->T
 KA:Nat->Nat->T
def qR (C:lA)(op:Op)(e:vD)(k:gM):T:=uC ((qF op).f C e iG) k.Kd
def Py(C:lA)(op:Op)(x:Operand)(e:vD)(ae:uO)(k:gM):T:=
 match xAd ae x with
 | some p=>k.KA p.1 p.2
 | none=>qR C op e k
def tLoad(C:lA)(t:Nat)(a:Operand)(e:vD)(ae:uO)(lo:Tr (List zA))(k:gM):T:=
 match xAd ae a with
 | some p=>uC (lo.get p.1) fun l=>uC (C.tys.get t) fun ty=>xK (Nat.ble (p.2+ty.size) (aA l)) (uC (xQ C t l p.2) k.Kd)
 | none=>uC (ev a e) fun v=>.light (fun m=>iA C t ⟨0,m⟩ v) k.K
def DZ(C:lA)(s:Nat)(x:Operand)(f:Nat)(e:vD)(ae:uO)(k:gM):T:=
 match xAd ae x with
 | some p=>uC (Kv C s f) fun o=>k.KA p.1 (p.2+o)
 | none=>uC (ev x e) fun v=>.opt (pC C s f v) k.K
def DX(C:lA)(t:Nat)(x i:Operand)(e:vD)(ae:uO)(k:gM):T:=
 match xAd ae x with
 | some p=>uC (ev i e) fun i=>uC i.asNat fun i=>uC (CY C t i) fun o=>k.KA p.1 (p.2+o)
 | none=>uC (ev x e) fun v=>uC (ev i e) fun i=>.opt (tC C t v i) k.K
def tNil (x:Operand)(e:vD)(ae:uO)(k:gM):T:=
 match xAd ae x with
 | some p=>k.KA p.1 p.2
 | none=>uC (ev x e) fun v=>.opt (Bx v) k.K
def tLen (C:lA)(c:Call)(e:vD)(k:gM):T:=
 uC (tD c.argTypes.toList 0) fun t=>uC (tD c.args.toList 0) fun x=>uC (ev x e) fun v=>
  bif Nat.beq (gH C t) 4 then .opt (qC v) k.K else bif Nat.beq (gH C t) 6 then .light (fun m=>cT C t ⟨0,m⟩ v) k.K else uC (cT C t iG v) k.Kd
def tBin (C:lA)(op:BinOp)(t:Nat)(x y:Operand)(u:Nat)(e:vD)(k:gM):T:=
 bif binDir C op t y then qR C (.binOp op t x y u) e k else uC (ev x e) fun a=>uC (ev y e) fun b=>.opt ((Bk op).f C t x y a b) k.K
def zky(C:lA)(s d:Nat)(x:Operand)(e:vD)(k:gM):T:=
 bif Nat.beq (gH C d) 2 then(bif Nat.beq (gH C s) 2 then qR C (.convert s d x) e k else uC (ev x e) fun v=>.light (fun m=>xP C s d ⟨0,m⟩ v) k.K)else bif Nat.beq (gH C d) 1 then qR C (.convert s d x) e k else .fail
def zho(C:lA)(t:Nat)(x:Operand)(lo hi:Option Operand)(e:vD)(k:gM):T:=
 uC (ev x e) fun a=>uC (evo lo e) fun l=>uC (evo hi e) fun h=>
  bif Nat.beq (gH C t) 2 then .opt (iD C t iG a l h) k.K else .light (fun m=>iD C t ⟨0,m⟩ a l h) k.K
def Le(C:lA)(c:Call)(e:vD)(k:gM):Builtin->T
 | .len=>tLen C c e k
 | .max=>qR C (.call c) e k
 | .min=>qR C (.call c) e k
 | _=>.fail
def Jk(ty:mD)(v:zA):List zA:=bif ty.desc.isAgg then v.cells else [v]
def zm8(cells:List zA)(off size:Nat)(vc:List zA):Option (List zA):=
 wB (Nat.beq (aA vc) size&&Nat.ble (off+aA vc) (aA cells)) (some (dD (Ab cells off) (dD vc (nQ cells (off+aA vc)))))
def Ye(C:lA)(tyAt:Nat->Option Nat):List (Nat × zA)->Option (List (Nat × zA × List zA) × List zA):=
 List.rec (motive:=fun _=>Option (List (Nat × zA × List zA) × List zA)) (some ([],[]))
  (fun p _ g=>ob (tyAt p.1) fun t=>ob (C.tys.get t) fun ty=>ob g fun r=>some (bif ty.desc.isAgg then((p.1,p.2,p.2.cells)::r.1,r.2)else((p.1,p.2,[p.2])::r.1,p.2::r.2)))
def Sy(place:Nat->Option (Nat × Nat)):List (Nat × zA × List zA)->List zA->Option (List zA):=
 List.rec (motive:=fun _=>List zA->Option (List zA)) (fun cells=>some cells) (fun p _ g cells=>ob (place p.1) fun q=>ob (zm8 cells q.1 q.2 p.2.2) fun cells=>g cells)
def tyAtS(ty:mD)(i:Nat):Option Nat:=
 match ty.desc.asStruct with
 | some fs=>ob (tD fs i) fun x=>some x.2.1
 | none=>ob ty.desc.asArr fun a=>some a.2
def Ib(C:lA)(ty:mD)(i:Nat):Option (Nat × Nat):=
 match ty.desc.asStruct with
 | some fs=>ob (tD fs i) fun x=>some (x.1,x.2.2)
 | none=>ob ty.desc.asArr fun a=>ob (C.tys.get a.2) fun et=>some (i*et.size,et.size)
def QD(C:lA)(ty:mD):Bool:=
 match ty.desc.asStruct with
 | some _=>true
 | none=>match ty.desc.asArr with
  | some a=>(match C.tys.get a.2 with | some _=>true | none=>false)
  | none=>false
def zhq(C:lA)(t:Nat)(ps:Array (Nat × Operand))(e:vD)(k:gM):T:=
 uC (C.tys.get t) fun ty=>xK (QD C ty) <| uC (evp ps.toList e) fun vs=>uC (Ye C (tyAtS ty) vs) fun q=>uC (Sy (Ib C ty) q.1 ty.zero) fun l=>.ite (fD zA.one q.2) (k.Kd (.agg l)) .fail
def tL (C:lA)(op:Op)(e:vD)(ae:uO)(lo:Tr (List zA))(k:gM):T:=
 match op with
 | .move x=>Py C (.move x) x e ae k
 | .assign x=>Py C (.assign x) x e ae k
 | .load t a=>tLoad C t a e ae lo k
 | .fieldAddr s x f=>DZ C s x f e ae k
 | .indexAddr t x i=>DX C t x i e ae k
 | .nilCheck x=>tNil x e ae k
 | .binOp op t x y u=>tBin C op t x y u e k
 | .convert s d x=>zky C s d x e k
 | .slice t x lo hi none=>zho C t x lo hi e k
 | .index t x i=>bif AD i&&Nat.beq (gH C t) 5 then qR C (.index t x i) e k else uC (ev x e) fun v=>uC (ev i e) fun i=>.opt (bG C t v i) k.K
 | .extract t i=>uC (ev t e) fun v=>.opt (iI i v) k.K
 | .typeAssert x _ u ok=>uC (ev x e) fun v=>.opt (Pm C u ok v) k.K
 | .lookup t x i ok=>uC (ev x e) fun m=>uC (ev i e) fun key=>.light (fun h=>mX C t ⟨0,h⟩ m key ok) k.K
 | .call c=>match c.callee with
  | .builtin b=>Le C c e k b
  | _=>.fail
 | .pick c a b=>qR C (.pick c a b) e k
 | .unOp o t x=>(match o with
  | .xor=>uC (ev x e) fun v=>.opt (El v) k.K
  | o=>qR C (.unOp o t x) e k)
 | .makeInterface t x=>qR C (.makeInterface t x) e k
 | .makeFunc fn a b=>qR C (.makeFunc fn a b) e k
 | .field t x f=>qR C (.field t x f) e k
 | .build t ps=>zhq C t ps e k
 | _=>.fail
def laOf (la:List Nat)(dst:Option Nat):Option Nat:=
 match dst with
 | some d=>bif iH d la then some d else none
 | none=>none
structure KLo where
 new:Nat->List zA->T
 set:Nat->List zA->T
def zhp(f:Operand)(args:Array Operand)(e:vD)(k:gM):T:=
 match f with
 | .func g=>xK (Nat.blt g pn) (uC (dN args.toList e) fun aq=>.call g aq k.K)
 | f=>uC (ev f e) fun fv=>uC (dN args.toList e) fun aq=>.callv fv aq k.K
def two' (c:Call)(e:vD)(K:zA->zA->T):T:=uC (two c e) fun p=>K p.1 p.2
def DY(C:lA)(c:Call)(e:vD)(k:gM):Builtin->T
 | .append=>uC (tD c.argTypes.toList 0) fun t=>uC (tD c.argTypes.toList 1) fun u=>two' c e fun a b=>.heavy (aG C t u a b) k.K
 | b=>Le C c e k b
def zhn(C:lA)(t:Nat)(a x:Operand)(e:vD)(ae:uO)(lo:Tr (List zA))(k:gM)(kl:KLo):T:=
 match xAd ae a with
 | some p=>uC (ev x e) fun v=>uC (C.tys.get t) fun ty=>uC (lo.get p.1) fun l=>uC (zm8 l p.2 ty.size (Jk ty v)) fun l'=>.ite (fD zA.one (Jk ty v)) (kl.set p.1 l') .fail
 | none=>uC (ev a e) fun a=>uC (ev x e) fun v=>.heavy (sC C t a v) k.Kd
def tH (C:lA)(la:List Nat)(dst:Option Nat)(op:Op)(e:vD)(ae:uO)(lo:Tr (List zA))(k:gM)(kl:KLo):T:=
 match op with
 | .box t x=>bif tE (aJ C t)then uC (ev x e) fun v=>(match laOf la dst with
  | some d=>uC (C.tys.get t) fun ty=>bif ty.desc.isAgg then kl.new d v.cells else .ite (zA.one v) (kl.new d [v]) .fail
  | none=>.heavy (zL v) k.K)else uC (ev x e) fun v=>.heavy (Hf C t v) k.K
 | .alloc t=>bif tE (aJ C t)then(match laOf la dst with
  | some d=>uC (C.tys.get t) fun ty=>kl.new d ty.zero
  | none=>.heavy (yI C t) k.K)else .heavy (Pn C t) k.K
 | .store t a x=>zhn C t a x e ae lo k kl
 | .buildSlice t len ps=>uC (evp ps.toList e) fun ps=>.heavy (wE C t len ps) k.K
 | .makeMap _ none=>.heavy Pk k.K
 | .insert t m key x=>uC (ev m e) fun m=>uC (ev key e) fun key=>uC (ev x e) fun v=>.heavy (cS C t m key v) k.Kd
 | .mapUpdate t m key x=>uC (ev m e) fun m=>uC (ev key e) fun key=>uC (ev x e) fun v=>.heavy (cS C t m key v) k.Kd
 | .makeSlice t l c=>uC (ev l e) fun l=>uC (ev c e) fun c=>.heavy (yP C t l c) k.K
 | .convert s d x=>bif Nat.beq (gH C d) 4 then uC (ev x e) fun v=>.heavy (Uv C s d v) k.K else zky C s d x e k
 | .call c=>match c.callee with
  | .value f=>zhp f c.args e k
  | .builtin b=>DY C c e k b
  | _=>.fail
 | .panic x=>uC (ev x e) fun v=>uC v.asIface fun p=>.call pn [.iface p.1 p.2] k.K
 | op=>tL C op e ae lo k
def rmNat(i:Nat)(l:List Nat):List Nat:=List.rec (motive:=fun _=>List Nat) [] (fun j _ g=>bif Nat.beq i j then g else j::g) l
def rR (n:Nat)(dst:Option Nat)(v:zA)(lt:Bool)(st:jG)(κ:KT):T:=
 match dst with
 | none=>κ st
 | some d=>bif Nat.blt d n then xK (tE (iL d st.ad)) (κ ⟨st.tm.set d v,st.ad,st.lo,bif lt then d::rmNat d st.lit else rmNat d st.lit⟩)else κ st
def zkv(n:Nat)(dst:Option Nat)(d off:Nat)(st:jG)(κ:KT):T:=
 uC dst fun i=>xK (Nat.blt i n) (xK (tE (st.tm.get i)) (κ ⟨st.tm,(i,d,off)::st.ad,st.lo,st.lit⟩))
def zii(d:Nat)(ad:List (Nat × Nat × Nat)):Bool:=fD (fun a=>bif Nat.beq a.2.1 d then Nat.beq a.1 d else true) ad
def tNew (n:Nat)(d:Nat)(l:List zA)(st:jG)(κ:KT):T:=
 xK (Nat.blt d n) (xK (tE (st.tm.get d)) (xK (zii d st.ad) (κ ⟨st.tm,(d,d,0)::st.ad,st.lo.set d l,st.lit⟩)))
def fitB (C:lA)(t:Nat)(v:zA):Bool:=
 match C.tys.get t with
 | some ty=>(match ty.desc with
  | .bool=>Nat.beq v.tag 0
  | .int k=>(match v.asIntK with | some p=>zN p.1 k | none=>false)
  | .string=>Nat.beq v.tag 2
  | _=>true)
 | none=>true
def Ld(C:lA)(t:Nat)(v:zA)(K:zA->T):T:=
 match C.tys.get t with
 | some ty=>(match ty.desc with
  | .bool=>.asB v fun b=>K (.bool b)
  | .int k=>.asI k v fun n=>K (.int k n)
  | .string=>.asS v fun s=>K (.str s)
  | .struct _=>bif Nat.ble (aA ty.zero) 40 then .asG ty.zero v fun X=>K (.agg (bZ ty.zero X 0))else K v
  | .arr _ _=>bif Nat.ble (aA ty.zero) 40 then .asG ty.zero v fun X=>K (.agg (bZ ty.zero X 0))else K v
  | _=>K v)
 | none=>K v
def Cs (x:Operand)(lit:List Nat):Bool:=
 match x with
 | .tmp t=>lit.contains t
 | .const _=>true
 | _=>false
def Rr(op:Op)(e:vD)(lit:List Nat):Bool:=
 match op with
 | .move x=>Cs x lit
 | .assign x=>Cs x lit
 | .unOp _ _ x=>Cs x lit
 | .pick c a b=>bif Cs c lit then(match ob (ev c e) zA.asBool with
  | some w=>bif w then Cs a lit else Cs b lit
  | none=>false)else false
 | _=>false
def Sg(all:List Oper)(dst:Option Nat)(l:List Oper):Bool:=
 match dst with
 | none=>false
 | some d => !fD (fun o=>match o.guard with
  | some g=>(match ob (tD all g.1) fun p=>p.dst with | some i => !Nat.beq i d | none=>true)
  | none=>true) l
def Hj(g lt:Bool)(v:zA)(K:zA->Bool->T):T:=
 bif g then(bif lt then K v true else uC v.asBool fun b=>.ite b (K (.bool true) true) (K (.bool false) true))else K v lt
def kop (C:lA)(all:Array Oper)(n:Nat)(o:Oper)(e:vD)(st:jG)(κ:KT):gM:=
 ⟨fun v=>Ld C o.type v fun v=>Hj (Sg all.toList o.dst all.toList) (Rr o.op e st.lit) v fun v lt=>rR n o.dst v lt st κ,
  fun v=>xK (fitB C o.type v) (Hj (Sg all.toList o.dst all.toList) (Rr o.op e st.lit) v fun v lt=>rR n o.dst v lt st κ),
  fun d off=>xK (!Nat.ble (gH C o.type) 2) (zkv n o.dst d off st κ)⟩
def klo (C:lA)(n:Nat)(o:Oper)(st:jG)(κ:KT):KLo:=
 ⟨fun d l=>xK (!Nat.ble (gH C o.type) 2) (tNew n d l st κ),
  fun d l=>xK (fitB C o.type pD) (rR n o.dst pD false ⟨st.tm,st.ad,st.lo.set d l,st.lit⟩ κ)⟩
def vD.adCut(k:Nat)(l:List (Nat × Nat × Nat)):List (Nat × Nat × Nat):=l.filter fun a=>Nat.blt a.1 k
def jG.cut(st:jG):jG:=⟨st.tm.cut,vD.adCut st.tm.k st.ad,st.lo,st.lit⟩
def tops (C:lA)(la:List Nat)(all:Array Oper)(n:Nat)(κ:KT)(l:List Oper):KT:=
 List.rec (motive:=fun _=>KT) κ
  (fun o _ g st=>uC (kF o.guard all st.tm) fun w=>Bool.rec (motive:=fun _=>T) (rR n o.dst pD false st g)
   (tH C la o.dst o.op (.now st.tm) (.now st.ad) st.lo (kop C all n o (.now st.tm) st g) (klo C n o st g)) w) l
def sQ (st old:jG)(olds:List Nat)(op:Op):vD:=.mixed st.tm old.tm olds (jH op)
def aZ (st old:jG)(olds:List Nat)(op:Op):uO:=.mixed st.ad old.ad olds (jH op)
def zT(C:lA)(all:Array Oper)(n:Nat)(old:jG)(olds:List (Nat × List Nat))(κ:KT)(l:List Nat):KT:=
 List.rec (motive:=fun _=>KT) κ
  (fun i _ g st=>uC (tD all.toList i) fun o=>uC (kF o.guard all st.tm) fun w=>Bool.rec (motive:=fun _=>T) (rR n o.dst pD false st g)
   (tL C o.op (sQ st old (vF i olds) o.op) (aZ st old (vF i olds) o.op) st.lo (kop C all n o (sQ st old (vF i olds) o.op) st g)) w) l
def lX(C:lA)(all:Array Oper)(old:jG)(olds:List (Nat × List Nat))(st:jG)(k:T)(l:List Nat):T:=
 List.rec (motive:=fun _=>T) k
  (fun i _ g=>uC (tD all.toList i) fun o=>uC o.dst fun d=>uC (kF o.guard all st.tm) fun w=>Bool.rec (motive:=fun _=>T) g
   (uC (st.tm.get d) fun u=>xK (fitB C o.type u) (tL C o.op (sQ st old (vF i olds) o.op) (aZ st old (vF i olds) o.op) st.lo ⟨fun v=>.ite (same 10 v u) g .fail,fun v=>.ite (same 10 v u) g .fail,fun _ _=>.fail⟩)) w) l
def He(C:lA)(es:List qN)(H:xA):Option (zA × xA):=ob (Ar C es H) fun H'=>some (pD,H')
def tEff (op:Op)(e:vD)(ae:uO):Option qN:=
 match op with
 | .store t a x=>(match xAd ae a with
  | some _=>none
  | none=>Ay (.store t a x) e)
 | op=>Ay op e
def Pz(all:Array Oper)(old:jG)(olds:List (Nat × List Nat))(st:jG)(l:List Nat):Option (List qN):=
 aF (fun i=>ob (tD all.toList i) fun o=>ob (kF o.guard all st.tm) fun w=>wB w (tEff o.op (sQ st old (vF i olds) o.op) (aZ st old (vF i olds) o.op))) l
def Ca(C:lA)(all:Array Oper)(n:Nat)(old:jG)(olds:List (Nat × List Nat))(κ:KT)(l:List vG):KT:=
 List.rec (motive:=fun _=>KT) κ
  (fun s _ g st=>Bool.rec (motive:=fun _=>T) (uC (tD all.toList (xN all s.heavy)) fun o=>uC (rV C all s.heavy o st.tm) fun w=>
   (fun cont:KT=>Bool.rec (motive:=fun _=>T) (rR n o.dst pD false st cont)
    (tH C [] o.dst o.op (sQ st old (vF (xN all s.heavy) olds) o.op) (aZ st old (vF (xN all s.heavy) olds) o.op) st.lo (kop C all n o (sQ st old (vF (xN all s.heavy) olds) o.op) st cont) (klo C n o st cont)) w)
   (fun st'=>lX C all old olds st' (zT C all n old olds g s.lights st') s.again))
   (xK (aX C all) (uC (Pz all old olds st s.again) fun es=>.heavy (He C es) fun _=>zT C all n old olds g s.lights st)) (kU all s)) l
def DI(C:lA)(la:List Nat)(fn n:Nat)(κ:KT)(id:Nat)(all:Array Oper)(draw:Bool):KT:=
 Bool.rec (motive:=fun _=>KT) (fun st=>tops C la all n κ all.toList st.cut)
  (fun st=>uC (ob (C.plans.get fn) fun t=>t.get id) fun p=>xK (tU all p) (zT C all n st.cut p.olds (Ca C all n st.cut p.olds κ p.stages) p.first st.cut)) draw
def Ha(st:jG)(ll:List (Nat × Nat)):Option (List zA):=
 List.rec (motive:=fun _=>Option (List zA)) (some []) (fun p _ g=>ob (iL p.1 st.ad) fun a=>wB (Nat.beq a.1 p.1&&Nat.beq a.2 0) (ob (st.lo.get p.1) fun l=>wB (Nat.beq (aA l) p.2) (ob g fun r=>some (dD l r)))) ll
def Eh(p:PI)(st:jG):Option (List zA):=ob (aF (fun i=>st.tm.get i) p.pl) fun a=>ob (Ha st p.ll) fun b=>some (dD a b)
def mV (ll:List (Nat × Nat)):List zA->Tr (List zA):=
 List.rec (motive:=fun _=>List zA->Tr (List zA)) (fun _=>.leaf) (fun p _ g vals=>(g (nQ vals p.2)).set p.1 (Ab vals p.2)) ll
def oO (pl:List Nat):List zA->Tr zA:=
 List.rec (motive:=fun _=>List zA->Tr zA) (fun _=>.leaf) (fun i _ g vals=>List.rec (motive:=fun _=>Tr zA) .leaf (fun v vals _=>(g vals).set i v) vals) pl
def stAd (ll:List (Nat × Nat)):List (Nat × Nat × Nat):=List.rec (motive:=fun _=>List (Nat × Nat × Nat)) [] (fun p _ g=>(p.1,p.1,0)::g) ll
def bL (k:Nat)(p:PI)(vals:List zA):jG:=⟨⟨k,oO p.pl vals,[]⟩,stAd p.ll,mV p.ll (nQ vals (aA p.pl)),[]⟩
def uQ (C:lA)(g:Nat):Bool:=tE (C.prims.get g)
def zh8(pl:List Nat)(st:jG):Option (List zA):=aF (fun i=>st.tm.get i) pl
def psOk:List Nat->Bool
 | []=>true
 | [_]=>true
 | [p,q] => !Nat.beq p q
 | _=>false
def HD(k n:Nat)(pl ps:List Nat)(ops:List (Nat × Array Oper))(c:mC):Bool:=
 fD (fun p=>Nat.blt p k&&Nat.blt p n && !iH p pl) ps&&psOk ps&&Qw ops&&(match yK c with | []=>true | _=>false)
def rdT:KtT:=⟨fun _=>.ret (.bool true),fun _ _=>.fail,fun _=>.ret (.bool false)⟩
def Xz(C:lA)(n:Nat)(κ:KtT)(i:Nat)(pl:List Nat)(f:Operand)(ps:List Nat)(ops:List (Nat × Array Oper))(c:mC)(st:jG):T:=
 xK (HD st.tm.k n pl ps ops c) (uC (zh8 pl st) fun vals=>uC (ev f (.now st.tm)) fun fv=>.range (uQ C) fv i (aA ps) vals (κ.norm st) (κ.ret st))
def cL (C:lA)(la:List Nat)(fn n:Nat)(c:mC):KtT->KT:=
 mC.rec (motive:=fun _=>KtT->KT)
  (fun κ st=>κ.norm st)
  (fun id all draw κ=>DI C la fn n κ.norm id all draw)
  (fun _ _ ga gb κ=>ga ⟨gb κ,κ.exit,κ.ret⟩)
  (fun c _ _ gx gy κ st=>uC (ob (ev c (.now st.tm)) zA.asBool) fun b=>bif Cs c st.lit then Bool.rec (motive:=fun _=>T) (gy κ st) (gx κ st) b else .ite b (gx κ st) (gy κ st))
  (fun id _ g κ=>g ⟨κ.norm,fun i st=>Bool.rec (motive:=fun _=>T) (κ.exit i st) (κ.norm st) (Nat.beq id i),κ.ret⟩)
  (fun p _ _ _ st=>uC (Eh p st) fun vals=>.jump p.id vals)
  (fun id κ st=>κ.exit id st)
  (fun κ st=>κ.ret st)
  (fun p _ _ _ st=>uC (Eh p st) fun vals=>.jump p.id vals)
  (fun i pl f ps ops c _ κ st=>Xz C n κ i pl f ps.toList ops c st) c
structure PtT where
 p:PI
 tree:List zA->T
def yY(p:PI):KT:=fun st=>uC (Eh p st) fun vals=>.jump p.id vals
def Cn(C:lA)(la:List Nat)(fn n k:Nat)(c:mC):KtT->List PtT:=
 mC.rec (motive:=fun _=>KtT->List PtT)
  (fun _=>[])
  (fun _ _ _ _=>[])
  (fun _ b ga gb κ=>dD (ga ⟨cL C la fn n b κ,κ.exit,κ.ret⟩) (gb κ))
  (fun _ _ _ gx gy κ=>dD (gx κ) (gy κ))
  (fun id _ g κ=>g ⟨κ.norm,fun i st=>Bool.rec (motive:=fun _=>T) (κ.exit i st) (κ.norm st) (Nat.beq id i),κ.ret⟩)
  (fun p c g κ=>⟨p,fun vals=>cL C la fn n c ⟨yY p,κ.exit,κ.ret⟩ (bL k p vals)⟩::g ⟨yY p,κ.exit,κ.ret⟩)
  (fun _ _=>[])
  (fun _=>[])
  (fun p c g κ=>⟨p,fun vals=>cL C la fn n c κ (bL k p vals)⟩::g κ)
  (fun i pl _ ps ops c g _=>⟨⟨i,dD pl ps.toList,[]⟩,fun vals=>cL C la fn n (asA c ops) rdT (bL k ⟨i,dD pl ps.toList,[]⟩ vals)⟩::g rdT) c
def resT (C:lA)(st:jG)(l:List ResultVar):(List zA->T)->T:=
 List.rec (motive:=fun _=>(List zA->T)->T) (fun K=>K [])
  (fun r _ g K=>match r with
   | .tmp t=>uC (st.tm.get t) fun v=>g fun l=>K (v::l)
   | .cell a t=>match iL a st.ad with
    | some p=>uC (st.lo.get p.1) fun l=>uC (C.tys.get t) fun ty=>xK (Nat.ble (p.2+ty.size) (aA l)) (uC (xQ C t l p.2) fun v=>g fun l=>K (v::l))
    | none=>uC (st.tm.get a) fun a=>.light (fun m=>iA C t ⟨0,m⟩ a) fun v=>g fun l=>K (v::l)) l
def endT (C:lA)(fn:Func):KT:=fun st=>resT C st fn.results.toList fun l=>.ret (Eo l)
def Cc (C:lA)(fn:Func):KtT:=⟨endT C fn,fun _ _=>.fail,endT C fn⟩
structure aD where
 code:mC
 la:List Nat
def entT (C:lA)(fn:Func)(k:Nat)(f:Nat)(A:aD)(args:List zA):T:=cL C A.la f fn.ntmps A.code (Cc C fn) ⟨⟨k,Tr.ofList args,[]⟩,[],.leaf,[]⟩
def ptsT (C:lA)(fn:Func)(k:Nat)(f:Nat)(A:aD):List PtT:=Cn C A.la f fn.ntmps k A.code (Cc C fn)
def Ff(l:List PtT)(i:Nat)(vals:List zA):List T:=List.rec (motive:=fun _=>List T) [] (fun p _ g=>bif Nat.beq p.p.id i then p.tree vals::g else g) l
end
section
variable {b d n s ty:Nat}{y:tA}{i x:Operand}{l r:Option zA}{c:Call}{a k m u w:zA}{ok:Bool}
def oD {α:Type}(x:Option α)(P:α->Prop):Prop:=
 match x with
 | some a=>P a
 | none=>False
theorem eZ{α:Type}{x:Option α}{P:α->Prop}:oD x P ↔ ∃a,x=some a/\P a:=by
 cases x with
 | none=>simp[oD]
 | some a=>simp[oD]
@[simp] theorem vA {α:Type} {a:α} {P:α->Prop}:oD (some a) P=P a:=rfl
@[simp] theorem optP_none {α:Type} {P:α->Prop}:oD (none:Option α) P=False:=rfl
abbrev mB:=zA->Tr tA->Prop
abbrev mF:=Nat->List zA->Tr tA->mB->Prop
def zjl{α:Type}:List α->Bool | []=>true | _::_=>false
def eK(f:zA)(args:List zA):Option (Nat × List zA):=ob f.asFunc fun p=>match p.1 with
 | .func g=>wB (Nat.blt g pn) (some (g,dD (dD p.2.1 args) p.2.2))
 | .yld l=>wB (zjl p.2.1&&zjl p.2.2) (some (yo+l,args))
def Cm(np:Nat->Bool)(f:zA)(l:Nat):Option (Nat × List zA):=ob f.asFunc fun p=>match p.1 with
 | .func g=>wB (Nat.blt g pn&&np g) (some (g,dD p.2.1 (.func (.yld l) [] []::p.2.2)))
 | .yld _=>none
def intK (k:IntKind)(v:zA):Option Int:=ob v.asIntK fun p=>wB (zN p.1 k) (some p.2)
def wK (zs:List zA)(v:zA):Option jI:=ob v.asAgg fun l=>wB (rS zs l) (some (cellsOf l))
def oA (base:Nat)(W:mF)(J:mF):T->Tr tA->mB->Prop
 | .ret v,t,Q=>Q v t
 | .fail,_,_=>False
 | .ite b x y,t,Q=>if b=true then oA base W J x t Q else oA base W J y t Q
 | .opt x K,t,Q=>oD x fun v=>oA base W J (K v) t Q
 | .light x K,t,Q=>oD (x t) fun v=>oA base W J (K v) t Q
 | .heavy x K,t,Q=>∀b,t.get b=none->base<=b->oD (x ⟨b,t⟩) fun p=>oA base W J (K p.1) p.2.t Q
 | .call f args K,t,Q=>W f args t fun v t'=>oA base W J (K v) t' Q
 | .callv f args K,t,Q=>oD (eK f args) fun p=>W p.1 p.2 t fun v t'=>oA base W J (K v) t' Q
 | .asI k v K,t,Q=>oD (intK k v) fun n=>oA base W J (K n) t Q
 | .asB v K,t,Q=>oD v.asBool fun n=>oA base W J (K n) t Q
 | .asS v K,t,Q=>oD v.asStr fun n=>oA base W J (K n) t Q
 | .asG zs v K,t,Q=>oD (wK zs v) fun X=>oA base W J (K X) t Q
 | .jump i vals,t,Q=>J i vals t Q
 | .range np f i m vals K R,t,Q=>256<=base/\∀l r,t.get l=none->base<=l->r.state=.ready->r.pending=none →
   (∀args t1 Q1,args.length=m->t1.get l=some (.loop r)->J i (vals++args) (t1.del l) (fun v t2=>t2.get l=none->∃b,v=.bool b/\Q1 v (t2.set l (.loop (hO b r))))->W (yo+l) args t1 Q1) →
   oD (Cm np f l) fun p=>W p.1 p.2 (t.set l (.loop r)) fun _ t'=>(t'.get l=some (.loop r)/\oA base W J K (t'.del l) Q)\/(t'.get l=some (.loop (hO false r))/\oA base W J R (t'.del l) Q)
abbrev Xt:=Nat->Option tA
def pI (X Y:Xt):Prop:=∀b y,X b=some y->Y b=some y
theorem pI.refl(X:Xt):pI X X:=fun _ _ h=>h
def pI.trans{X Y Z:Xt}(h:pI X Y)(k:pI Y Z):pI X Z:=fun b y e=>k b y (h b y e)
structure Ov (base:Nat) (t:Tr tA) (X:Xt) (H:xA):Prop where
 base:base<=H.next
 same:∀b,X b=none->H.t.get b=t.get b
 ext:∀b y,X b=some y->H.t.get b=some y/\t.get b=none/\b<H.next
 lt:∀b y,t.get b=some y->b<H.next
def HLe (H H':xA):Prop:=∀b y,H.t.get b=some y->H'.t.get b=some y
def gT(e e':vD):Prop:=∀i v,qX i e=some v->qX i e'=some v
section
variable {base:Nat}{t:Tr tA}{X:Xt}{H HA:xA}{e e':vD}{C:lA}{v:zA}
theorem Ov.notX(h:Ov base t X HA)  (hb:t.get b=some y):X b=none:=by
 cases hx:X b with
 | none=>rfl
 | some z=>have:=(h.ext b z hx).2.1;simp_all
theorem Ov.up(h:Ov base t X HA)  (hb:t.get b=some y):HA.t.get b=some y:=by rw[h.same b (h.notX hb)];exact hb
def Ov.le(h:Ov base t X HA)  : HLe ⟨n,t⟩ HA:=fun _ _ hb=>h.up hb
def Ov.nextX(h:Ov base t X HA):X HA.next=none:=by
 cases hx:X HA.next with
 | none=>rfl
 | some z=>exact absurd (h.ext _ z hx).2.2 (Nat.lt_irrefl _)
def Ov.nextT(h:Ov base t X HA):t.get HA.next=none:=by
 cases hx:t.get HA.next with
 | none=>rfl
 | some z=>exact absurd (h.lt _ z hx) (Nat.lt_irrefl _)
theorem lY(h:HLe H HA) {p:Tr zA × Nat × Option Lo}(hb:qD H b=some p):qD HA b=some p:=by
 unfold qD at hb ⊢;rw[sA]at hb ⊢;obtain⟨y,h1,h2⟩:=hb;exact⟨y,h _ _ h1,h2⟩
theorem Gm(h:HLe H HA) {p:List (zA × zA)}(hb:fK H b=some p):fK HA b=some p:=by
 unfold fK at hb ⊢;rw[sA]at hb ⊢;obtain⟨y,h1,h2⟩:=hb;exact⟨y,h _ _ h1,h2⟩
theorem aE(h:gT e e') (hx:ev x e=some v):ev x e'=some v:=by
 cases x with
 | tmp i=>exact h i v hx
 | const c=>exact hx
 | global g=>exact hx
 | func f=>exact hx
theorem AY(h:gT e e'){l:List Operand}{vs:List zA}(hx:dN l e=some vs):dN l e'=some vs:=Rq l (fun _ _ k=>aE h k) hx
theorem OC(h:gT e e'){x:Option Operand} (hx:evo x e=some r):evo x e'=some r:=by
 cases x with
 | none=>exact hx
 | some x=>
  have hx:ob (ev x e) (fun v=>some (some v))=some r:=hx
  show ob (ev x e') (fun v=>some (some v))=some r
  grind [sA,aE]
theorem AZ(h:gT e e'){l:List (Nat × Operand)}{vs:List (Nat × zA)}(hx:evp l e=some vs):evp l e'=some vs:=
 Rq l (fun a b k=>by grind [sA,aE]) hx
theorem Vc(h:gT e e') {p:zA × zA}(hx:two c e=some p):two c e'=some p:=by
 grind [two,sA,aE]
theorem Pl(h:HLe H HA)  (hx:iA C ty H a=some v):iA C ty HA a=some v:=by
 grind [iA,sA,lY]
theorem BQ(h:HLe H HA){s d:mD} (hx:oS C s d a H=some v):oS C s d a HA=some v:=by
 unfold oS at hx ⊢
 split at hx
 ·omega
 ·rename_i hk
  rw[vB]at hx ⊢
  refine⟨hx.1,?_⟩
  have hx:=hx.2
  rw[rD]at hx ⊢
  split at hx
  all_goals grind [sA,vB,Gh,lY]
theorem SC(h:HLe H HA)  (hx:xP C s d H a=some v):xP C s d HA a=some v:=by
 grind [xP,sA,BQ]
theorem Xh(h:HLe H HA){ty:mD}  (hx:dM C H ty a l r=some v):dM C HA ty a l r=some v:=by
 have row:∀ {arr e b off len cap},wP C H arr e b off len cap l r=some v->wP C HA arr e b off len cap l r=some v:=by
  intro arr e b off len cap hx;unfold wP at hx ⊢
  simp only[sA]at hx ⊢
  obtain⟨a1,h1,b1,h2,hx⟩:=hx
  refine⟨a1,h1,b1,h2,?_⟩
  cases hb:qD H b with
  | none=>
   have e1:eM H b a1.size cap b1.1 arr=false:=by unfold eM;rw[hb]
   have e2:lN H b a1.size cap b1.1 arr=false:=by unfold lN;rw[hb]
   rw[e1,e2,yay,yay]at hx
   cases hx
  | some c=>
   grind [eM,lY,lN]
 grind [dM,sA]
theorem RX(h:HLe H HA)   (hx:iD C ty H a l r=some v):iD C ty HA a l r=some v:=by
 grind [iD,sA,Xh]
theorem Yy(h:HLe H HA) {l:List (zA × zA)}(hx:fV H m=some l):fV HA m=some l:=by
 grind [fV,Gm]
theorem SA(h:HLe H HA)   (hx:mX C ty H m k ok=some v):mX C ty HA m k ok=some v:=by
 unfold mX at hx ⊢
 simp only[sA,vB]at hx ⊢
 grind [Yy]
theorem Zi(h:HLe H HA){ty:mD}  (hx:pU H ty a=some n):pU HA ty a=some n:=by
 unfold pU at hx ⊢
 split at hx
 all_goals grind [vB,sA,Gm]
theorem zae(h:HLe H HA)  (hx:cT C ty H a=some v):cT C ty HA a=some v:=by
 grind [cT,sA,Zi]
theorem KO {a:Operand}:xW ty a C e H=ob (ev a e) fun v=>iA C ty H v:=rfl
theorem LC   (hx:ev x e=some u):oP s d x C e H=xP C s d H u:=by simp_all [oP,xP]
def zfk  {lo hi:Option Operand}  (h1:ev x e=some a)(h2:evo lo e=some l)(h3:evo hi e=some r):Ae ty x lo hi C e H=iD C ty H a l r:=by unfold Ae iD;rw[h1,qA,h2,qA,h3,qA]
theorem KY{f:Nat}  (hx:ev x e=some u):tW s x f C e H=pC C s f u:=by
 unfold tW pC Kv;rw[hx]
 cases C.tys.get s with
 | none=>rfl
 | some ty=>
  simp only[qA]
  cases ty.desc.asStruct with
  | none=>rfl
  | some fs=>
   simp only[qA]
   cases tD fs f with
   | none=>rfl
   | some fd=>simp only[qA];cases hb:(!Nat.beq fd.2.2 0)<;>rfl
theorem KS   (hx:ev x e=some u)(hi:ev i e=some w):wW ty x i C e H=tC C ty u w:=by unfold wW tC;rw[hx,hi];rfl
theorem zfm   (hx:ev x e=some u)(hi:ev i e=some w):vW ty x i C e H=bG C ty u w:=by unfold vW bG;rw[hx,hi];rfl
theorem zin  (hx:ev x e=some u):Ag x C e H=Bx u:=by simp_all [Ag,Bx]
theorem WN {i:Nat} (hx:ev x e=some u):sW x i C e H=iI i u:=by simp_all [sW,iI]
theorem lBin_v{op:BinOp} {y:Operand} (hx:ev x e=some u)(hy:ev y e=some w):rW op ty x y C e H=(Bk op).f C ty x y u w:=by simp_all [rW]
theorem zbv {a:Nat}  (hx:ev x e=some u):qW x a ok C e H=Pm C a ok u:=by
 unfold qW Pm;rw[hx];rfl
def zbu    (hx:ev x e=some m)(hi:ev i e=some k):yW ty x i ok C e H=mX C ty H m k ok:=by unfold yW mX;rw[hx,hi];rfl
theorem lLen_v    (h1:tD c.argTypes.toList 0=some ty)(h2:tD c.args.toList 0=some x)(hx:ev x e=some u):mQ c C e H=cT C ty H u:=by grind [mQ,cT,qA]
theorem zge(he:gT e e'){op:Op}(hp:xU op=true\/(∃s d x,op=.convert s d x/\(gH C d=1\/gH C s=2))\/(∃c,op=.call c/\(c.callee=.builtin .max\/c.callee=.builtin .min))){H':xA}(h:(qF op).f C e H=some v):(qF op).f C e' H'=some v:=by
 rcases hp with hp | hp | hp
 ·cases op<;>simp only[xU]at hp<;>try (cases hp;done)
  case move x=>exact aE he h
  case assign x=>exact aE he h
  case pick c a b=>
   have h:ob (ev c e) (fun c=>ob c.asBool fun c=>bif c then ev a e else ev b e)=some v:=h
   show ob (ev c e') (fun c=>ob c.asBool fun c=>bif c then ev a e' else ev b e')=some v
   grind [sA,aE]
  case nilCheck x=>
   have h:ob (ev x e) (fun u=>wB (Nat.beq u.tag 4||Nat.beq u.tag 9) (some u))=some v:=h
   show ob (ev x e') (fun u=>wB (Nat.beq u.tag 4||Nat.beq u.tag 9) (some u))=some v
   grind [sA,aE]
  case binOp op t x y u=>
   have h:rW op t x y C e H=some v:=h
   show rW op t x y C e' H'=some v
   grind [rW,sA,aE]
  case unOp op t x=>
   have h:lUn op x C e H=some v:=h
   show lUn op x C e' H'=some v
   grind [lUn,sA,aE]
  case makeInterface t x=>
   have h:Cu t x C e H=some v:=h
   show Cu t x C e' H'=some v
   grind [Cu,sA,vB,aE]
  case makeFunc fn a b=>
   have h:(Cv fn a b).f C e H=some v:=h
   show(Cv fn a b).f C e' H'=some v
   unfold Cv at h ⊢
   split at h
   ·grind [Io,sA,AY]
   ·cases h
  case fieldAddr s x f=>
   have h:tW s x f C e H=some v:=h
   show tW s x f C e' H'=some v
   unfold tW at h ⊢
   simp only[sA,vB]at h ⊢
   obtain⟨a,h1,b,h2,c,h3,h4,u,h5,h6⟩:=h
   exact⟨a,h1,b,h2,c,h3,h4,u,aE he h5,h6⟩
  case field t x f=>
   have h:Cw t x f C e H=some v:=h
   show Cw t x f C e' H'=some v
   grind [Cw,sA,aE]
  case indexAddr t x i=>
   have h:wW t x i C e H=some v:=h
   show wW t x i C e' H'=some v
   unfold wW at h ⊢
   simp only[sA]at h ⊢
   grind [aE]
  case index t x i=>
   have h:vW t x i C e H=some v:=h
   show vW t x i C e' H'=some v
   unfold vW at h ⊢
   simp only[sA]at h ⊢
   grind [aE]
  case extract t i=>
   have h:sW t i C e H=some v:=h
   show sW t i C e' H'=some v
   grind [sW,sA,aE]
  case build t ps=>
   have h:zY t ps C e H=some v:=h
   show zY t ps C e' H'=some v
   grind [zY,sA,AZ]
  case typeAssert x t u ok=>
   have h:qW x u ok C e H=some v:=h
   show qW x u ok C e' H'=some v
   grind [qW,sA,vB,aE]
 ·obtain⟨s,d,x,rfl,hp⟩:=hp
  have h:oP s d x C e H=some v:=h
  show oP s d x C e' H'=some v
  unfold oP at h ⊢
  simp only[sA]at h ⊢
  obtain⟨u,h1,sy,h2,dy,h3,h4⟩:=h
  refine⟨u,aE he h1,sy,h2,dy,h3,?_⟩
  unfold oS at h4 ⊢
  split at h4
  ·exact h4
  ·rename_i hd
   rw[vB]at h4 ⊢
   refine⟨h4.1,?_⟩
   have h4:=h4.2
   rw[rD]at h4 ⊢
   split at h4
   ·simp_all
   ·rename_i e
    exfalso
    rcases hp with hp | hp
    ·unfold gH at hp
     rw[h3]at hp;have hp:dy.desc.tag=1:=hp
     cases hx:dy.desc<;>rw[hx]at hp hd<;>first
      | (cases hp;done)
      | (cases hd;done)
    ·unfold gH at hp
     rw[h2]at hp;have hp:sy.desc.tag=2:=hp
     simp only[sA]at h4;obtain⟨el,h5,_⟩:=h4
     cases hx:sy.desc<;>rw[hx]at hp h5<;>first
      | (cases hp;done)
      | (cases h5;done)
 ·obtain⟨c,rfl,hc⟩:=hp
  rcases hc with hc | hc
  ·have h:(oT c c.callee).f C e H=some v:=h
   show(oT c c.callee).f C e' H'=some v
   rw[hc]at h ⊢
   have h:aV c C e H=some v:=h
   show aV c C e' H'=some v
   grind [aV,sA,Vc]
  ·have h:(oT c c.callee).f C e H=some v:=h
   show(oT c c.callee).f C e' H'=some v
   rw[hc]at h ⊢
   have h:bV c C e H=some v:=h
   show bV c C e' H'=some v
   grind [bV,sA,Vc]
end
end
section
variable {b d n off ty:Nat}{a u:zA}{l:List zA}{H':xA}{K:zA->T}{op:Op}
section
variable {base:Nat}{t:Tr tA}{X:Xt}{H HA:xA}{e e':vD}{C:lA}{v:zA}
theorem Ov.newBlk(h:Ov base t X HA)(y:tA):Ov base (t.set HA.next y) X (newBlk HA y):=by
 refine⟨Nat.le_succ_of_le h.base,fun b hb=>?_,fun b z hb=>?_,fun b z hb=>?_⟩
 ·show(HA.t.set HA.next y).get b=_
  rw[Tr.get_set,Tr.get_set];split
  ·rfl
  ·exact h.same b hb
 ·obtain⟨h1,h2,h3⟩:=h.ext b z hb
  have hne:b≠HA.next:=Nat.ne_of_lt h3
  refine⟨?_,?_,Nat.lt_succ_of_lt h3⟩
  ·show(HA.t.set HA.next y).get b=_
   grind [Tr.get_set]
  grind [Tr.get_set]
 ·rw[Tr.get_set]at hb
  show b<HA.next+1
  split at hb
  ·omega
  ·exact Nat.lt_succ_of_lt (h.lt _ _ hb)
theorem Ov.setBlk(h:Ov base t X HA){b:Nat}{y:tA}(hb:t.get b=some y)(z:tA):Ov base (t.set b z) X (setBlk HA b z):=by
 refine⟨h.base,fun c hc=>?_,fun c u hc=>?_,fun c u hc=>?_⟩
 ·show(HA.t.set b z).get c=_
  rw[Tr.get_set,Tr.get_set];split
  ·rfl
  ·exact h.same c hc
 ·obtain⟨h1,h2,h3⟩:=h.ext c u hc
  have hne:c≠b:=fun e=>by simp_all
  refine⟨?_,?_,h3⟩
  ·show(HA.t.set b z).get c=_
   grind [Tr.get_set]
  grind [Tr.get_set]
 ·rw[Tr.get_set]at hc
  show c<HA.next
  split at hc
  ·rename_i e;rw[e];exact h.lt _ _ hb
  ·exact h.lt _ _ hc
theorem Ov.delBlk(h:Ov base t X HA) {y:tA}(hb:t.get b=some y):Ov base (t.del b) X ⟨HA.next,HA.t.del b⟩:=by
 refine⟨h.base,fun c hc=>?_,fun c u hc=>?_,fun c u hc=>?_⟩
 ·show(HA.t.del b).get c=_
  rw[Tr.get_del,Tr.get_del];split
  ·rfl
  ·exact h.same c hc
 ·obtain⟨h1,h2,h3⟩:=h.ext c u hc
  grind [Tr.get_del]
 ·rw[Tr.get_del]at hc
  show c<HA.next
  split at hc
  ·cases hc
  ·exact h.lt _ _ hc
def jT (base:Nat)(x:xA->Option (zA × xA)):Prop:=∀t X HA v H',Ov base t X HA->x ⟨HA.next,t⟩=some (v,H')->∃HA',x HA=some (v,HA')/\Ov base H'.t X HA'
theorem cZ(l:List zA)(lo:Option Lo)(h:Ov base t X HA):Ov base (uF ⟨HA.next,t⟩ l lo).t X (uF HA l lo):=h.newBlk _
theorem zah  : jT base (yI C ty):=by
 intro t X HA v H' ho h;unfold yI at h ⊢
 rw[sA]at h;obtain⟨y,h1,h2⟩:=h
 cases h2;simp_all [cZ]
def zkg  : jT base (zL u):=by
 intro t X HA v H' ho h
 cases h;exact⟨_,rfl,cZ _ _ ho⟩
theorem SF  : jT base (Pn C ty):=by
 intro t X HA v H' ho h;unfold Pn at h ⊢
 rw[sA]at h;obtain⟨y,h1,h3⟩:=h
 grind [qA,cZ]
theorem zdx   : jT base (Hf C ty u):=by
 intro t X HA v H' ho h;grind [Hf,cZ]
theorem SD {ps:List (Nat × zA)}:jT base (wE C ty n ps):=by
 intro t X HA v H' ho h;unfold wE at h ⊢
 simp only[sA,vB]at h;obtain⟨a,h1,b,h2,c,h3,h4,l,h5,h6⟩:=h
 grind [cZ,sA,vB]
theorem Xb(ho:Ov base t X HA)   (h:yJ C ⟨HA.next,t⟩ b off l=some H'):∃HA',yJ C HA b off l=some HA'/\Ov base H'.t X HA':=by
 unfold yJ at h ⊢
 simp only[sA,vB]at h;obtain⟨h1,c,h2,h3,h4⟩:=h
 cases h4;have h2':=h2
 unfold qD at h2';rw[sA]at h2'
 obtain⟨y,h5,_⟩:=h2'
 refine⟨_,?_,ho.setBlk h5 _⟩
 simp only[sA,vB];exact⟨h1,c,lY ho.le h2,h3,rfl⟩
theorem zad   : jT base (sC C ty a u):=by
 intro t X HA v H' ho h;unfold sC at h ⊢
 simp only[sA,vB]at h;obtain⟨y,h1,p,h2,h3,H1,h4,h5⟩:=h
 grind [Xb,sA,vB]
def RZ:jT base Pk:=by
 intro t X HA v H' ho h
 cases h;exact⟨_,rfl,ho.newBlk _⟩
def CX {m k:zA}:jT base (cS C ty m k u):=by
 intro t X HA v H' ho h;unfold cS at h ⊢
 simp only[sA,vB]at h;obtain⟨a,h1,b,h2,c,h3,h4,d,h5,h6,l,h7,h8,l',h9,h10⟩:=h
 cases h10;have h7':=h7
 unfold fK at h7';rw[sA]at h7'
 obtain⟨y,h11,_⟩:=h7'
 refine⟨_,?_,ho.setBlk h11 _⟩
 simp only[sA,vB];exact⟨a,h1,b,h2,c,h3,h4,d,h5,h6,l,Gm ho.le h7,h8,l',h9,rfl⟩
def zdd(ho:Ov base t X HA){e:RE} (h:Bn C ⟨HA.next,t⟩ e=some H'):∃HA',Bn C HA e=some HA'/\Ov base H'.t X HA'/\HA'.next=HA.next/\H'.next=HA.next:=by
 obtain⟨x,y,h1,h2,rfl⟩:=Og.1 h
 exact⟨setBlk HA e.blk y,Og.2 ⟨x,y,ho.up h1,h2,rfl⟩,ho.setBlk h1 _,rfl,rfl⟩
theorem QK:∀ {l:List RE} {t:Tr tA} {HA:xA} {H':xA},Ov base t X HA->Gr C l ⟨HA.next,t⟩=some H'->∃HA',Gr C l HA=some HA'/\Ov base H'.t X HA'
 | [],t,HA,H',ho,h=>by cases h;exact⟨HA,rfl,ho⟩
 | e::l,t,HA,H',ho,h=>by
  unfold Gr at h ⊢
  rw[sA]at h;obtain⟨H1,h1,h⟩:=h
  obtain⟨HA1,g1,g2,g3,g4⟩:=zdd ho h1
  rw[g1,qA];obtain⟨n1,t1⟩:=H1
  have g4:n1=HA.next:=g4
  subst g4;rw[<- g3]at h;exact QK g2 h
theorem za2(ho:Ov base t X HA){e:RE}(h:Hw C ⟨HA.next,t⟩ e=true):Hw C HA e=true:=by
 cases e with
 | st b off l=>
  change (!tE (yJ C ⟨HA.next,t⟩ b off l))=true at h
  show(!tE (yJ C HA b off l))=true
  cases hs:yJ C ⟨HA.next,t⟩ b off l with
  | none=>rw[hs]at h;cases h
  | some H'=>obtain⟨HA',g,_⟩:=Xb ho hs;rw[g];rfl
 | up b k v=>
  unfold Hw at h ⊢
  rw[ybb]at h ⊢
  refine⟨h.1,?_⟩
  have h2:=h.2
  split at h2
  ·rename_i hm;rw[Gm ho.le hm]
  grind
theorem zag{es:List qN}:jT base (He C es):=by
 intro t X HA v H' ho h;grind [He,Ar,sA,vB,QK,vI,za2]
theorem RY {l c:zA}:jT base (yP C ty l c):=by
 intro t X HA v H' ho h;unfold yP at h ⊢
 simp only[sA,vB]at h;obtain⟨a,h1,b,h2,d,h3,n,h4,m,h5,h6,h7⟩:=h
 grind [cZ,sA,vB]
theorem RW{s:Nat}  : jT base (Uv C s d u):=by
 intro t X HA v H' ho h;unfold Uv at h ⊢
 simp only[sA,vB]at h;obtain⟨a,h1,b,h2,c,h3,et,h4,k,h5,h6,l,h7,h8⟩:=h
 cases h8;refine⟨uF HA (mY l) (some (.ty c)),?_,cZ _ _ ho⟩
 grind [sA,vB]
theorem XD(h:HLe H HA){sz:Nat}  (hx:fU H sz n u=some l):fU HA sz n u=some l:=by
 grind [fU,sA,lY]
theorem ZR(ho:Ov base t X HA){ty:mD}{b:zA} (h:iY C ⟨HA.next,t⟩ ty a b=some (v,H')):∃HA',iY C HA ty a b=some (v,HA')/\Ov base H'.t X HA':=by
 unfold iY at h;simp only[sA]at h;obtain⟨el,h1,et,h2,n,h3,new,h4,h5⟩:=h
 have h4':=XD ho.le h4
 suffices hs:∃HA',(match a.asSlice with
  | some s=>bif Nat.ble (s.2.2.1+n) s.2.2.2 then Ao C HA et n new s else Aq C HA el et n new s
  | none=>wB (Nat.beq a.tag 5) (vY HA el et n new))=some (v,HA')/\Ov base H'.t X HA' by
  grind [iY,sA]
 cases hs:a.asSlice with
 | some s=>
  rw[hs]at h5;simp only[]at h5 ⊢
  rw[rD]at h5;split at h5
  ·rename_i hr
   simp only[hr,cond_true];unfold Ao at h5 ⊢
   grind [sA,Xb]
  ·rename_i hr
   simp only[Bool.not_eq_true]at hr;simp only[hr,cond_false];unfold Aq at h5 ⊢
   rw[vB]at h5;obtain⟨gm,h5⟩:=h5
   rw[vB]at h5;obtain⟨g0,h5⟩:=h5
   rw[sA]at h5;obtain⟨c,g1,h5⟩:=h5
   have g1':=lY ho.le g1
   unfold qD at g1;rw[sA]at g1;obtain⟨y,g2,_⟩:=g1
   split at h5
   ·rename_i hc
    unfold Iy at h5;rw[sA]at h5;obtain⟨old,g3,g4⟩:=h5
    grind [cZ,vB,sA,Iy]
   ·rename_i es hc
    unfold Iz at h5;rw[vB]at h5;obtain⟨g3,g4⟩:=h5
    cases g4
    refine⟨⟨HA.next+1,(HA.t.del s.1).set HA.next (.cells (c.1.setMany new (s.2.2.1*et.size)) ((s.2.2.1+n)*et.size) (some es))⟩,?_,(ho.delBlk g2).newBlk _⟩
    grind [vB,sA,Iz]
 | none=>
  grind [vB,vY,cZ]
theorem SE{u:Nat}{b:zA}:jT base (aG C ty u a b):=by
 intro t X HA v H' ho h;grind [aG,sA,vB,ZR]
end
def Kf(ν:Nat->Nat)(ae:uO)(e:vD):Prop:=∀i p,tAd ae i=some p->qX i e=some (.ptr (ν p.1) p.2)
def Ot(base:Nat)(X0 X:Xt)(ν:Nat->Nat)(lo:Tr (List zA)):Prop:=∀d l,lo.get d=some l->X0 (ν d)=none/\base<=ν d/\∃c,X (ν d)=some (.cells c l.length none)/\∀j a,l[j]?=some a->c.get j=some a
theorem nE{base:Nat}{W J:mF}{α:Type}{x:Option α}{K:α->T}{t:Tr tA}{Q:mB}:oA base W J (uC x K) t Q ↔ ∃a,x=some a/\oA base W J (K a) t Q:=by
 cases x with
 | none=>exact⟨fun h=>(by cases h),fun⟨_,h,_⟩=>(by cases h)⟩
 | some a=>exact⟨fun h=>⟨a,rfl,h⟩,fun⟨_,h,k⟩=>(by cases h;exact k)⟩
def tO{base:Nat}{W J:mF}{b:Bool}{K:T}{t:Tr tA}{Q:mB}:oA base W J (xK b K) t Q ↔ b=true/\oA base W J K t Q:=by
 cases b with
 | false=>exact⟨fun h=>(by cases h),fun⟨h,_⟩=>(by cases h)⟩
 | true=>exact⟨fun h=>⟨rfl,h⟩,fun⟨_,h⟩=>h⟩
theorem oX{base:Nat}{W J:mF}{x:Option zA} {t:Tr tA}{Q:mB}:oA base W J (.opt x K) t Q ↔ ∃a,x=some a/\oA base W J (K a) t Q:=eZ
def Gz{base:Nat}{W J:mF}{x:Tr tA->Option zA} {t:Tr tA}{Q:mB}:oA base W J (.light x K) t Q ↔ ∃a,x t=some a/\oA base W J (K a) t Q:=eZ
theorem Ec{ν:Nat->Nat}{ae:uO}{e:vD}(h:Kf ν ae e){x:Operand}{p:Nat × Nat}(hx:xAd ae x=some p):ev x e=some (.ptr (ν p.1) p.2):=by
 cases x with
 | tmp i=>exact h i p hx
 | const _=>cases hx
 | global _=>cases hx
 | func _=>cases hx
theorem JH{c:Tr zA} (h:∀j a,l[j]?=some a->c.get j=some a):∀(n off:Nat),off+n<=l.length->c.many n off=some ((l.drop off).take n):=by
 intro n;induction n with
 | zero=>intro off _;simp;rfl
 | succ n ih=>
  intro off ho;have hlt:off<l.length:=by omega
  rw[Tr.many_succ,h off l[off] (ybd hlt),qA,ih (off+1) (by omega),qA]
  rw[ybl hlt,List.take_succ_cons]
section
variable {W J:mF}{t:Tr tA}{X X0:Xt}{HA:xA}{e eA:vD}{C:lA}{ν:Nat->Nat}{ae:uO}{lo:Tr (List zA)}{k:gM}{Q:mB}{R:zA->Prop}
theorem JS(ho:Ov C.base t X HA)(hl:Ot C.base X0 X ν lo)  {y:mD}{v:zA}(h1:lo.get d=some l)(h2:C.tys.get ty=some y)(h3:Nat.ble (off+y.size) (aA l)=true)(h4:xQ C ty l off=some v) :
  iA C ty HA (.ptr (ν d) off)=some v:=by
 obtain⟨_,_,c,hc,hg⟩:=hl d l h1
 have hb:=(ho.ext _ _ hc).1
 unfold iA;simp only[zA.asPtr,qA];rw[h2,qA];grind [qD,qA,tA.asCells,xQ,aR,fE,lD,JH,bR,oQ,lG]
theorem yT(he:gT e eA) (hp:xU op=true\/(∃s d x,op=.convert s d x/\(gH C d=1\/gH C s=2))\/(∃c,op=.call c/\(c.callee=.builtin .max\/c.callee=.builtin .min)))
  (h:oA C.base W J (qR C op e k) t Q) (hKd:∀v,oA C.base W J (k.Kd v) t Q->R v):∃v,(qF op).f C eA HA=some v/\R v:=by
 grind [qR,nE,zge]
theorem zaf {v:zA}{H:xA}(ht:gH C ty=4)(h:qC u=some v):cT C ty H u=some v:=by
 unfold gH at ht
 cases hy:C.tys.get ty with
 | none=>simp_all
 | some y=>
  rw[hy]at ht;have ht:y.desc.tag=4:=ht
  unfold cT;rw[hy,qA];unfold qC at h;unfold pU
  cases u<;>simp only[zA.asSlice,zA.asStr,zA.asMap,zA.tag]at h ⊢ <;> (try (rw[vB]at h;exact absurd h.1 (by decide)))
  case nilslice=>
   rw[vB]at h;have hn:y.desc.asArr=none:=by cases hd:y.desc<;>rw[hd]at ht<;>first | rfl | (cases ht;done)
   simp_all [sA,vB]
  simp_all [sA,vB]
theorem zb0 {v:zA}{H:xA}(ht:gH C ty≠6)(h:cT C ty H u=some v):cT C ty H' u=some v:=by
 unfold cT at h ⊢
 simp only[sA]at h ⊢
 obtain⟨y,h1,n,h2,h3⟩:=h
 refine⟨y,h1,n,?_,h3⟩
 have ht:¬ Nat.beq y.desc.tag 6=true:=by
  grind [gH,fC]
 unfold pU at h2 ⊢
 split at h2
 all_goals grind [vB]
theorem zas {v:zA}{l h:Option zA}{H:xA}(ht:gH C ty=2)(hx:iD C ty H a l h=some v):iD C ty H' a l h=some v:=by
 unfold iD at hx ⊢
 rw[sA]at hx ⊢
 obtain⟨y,h1,h2⟩:=hx
 refine⟨y,h1,?_⟩
 unfold gH at ht;rw[h1]at ht;have ht:y.desc.tag=2:=ht
 unfold dM at h2 ⊢
 have n1:y.desc.asSlice=none:=by cases hd:y.desc<;>rw[hd]at ht<;>first | rfl | (cases ht;done)
 have n2:y.desc.asArr=none:=by cases hd:y.desc<;>rw[hd]at ht<;>first | rfl | (cases ht;done)
 simp_all
theorem Ym (h:zA.one u=true):u.cells=[u]:=by
 cases u<;>first
  | rfl
  | (have:=nC.1 h;grind [zA.tag])
theorem XJ{tyAt:Nat->Option Nat}(place:Nat->Option (Nat × Nat)):∀(vs:List (Nat × zA)) {q:List (Nat × zA × List zA) × List zA},Ye C tyAt vs=some q->fD zA.one q.2=true->∀cells l,Sy place q.1 cells=some l->kL place vs cells=some l:=by
 intro vs;induction vs with
 | nil=>intro q h _ cells l hl;cases h;exact hl
 | cons p vs ih=>
  intro q h h1 cells l hl;have h:(ob (tyAt p.1) fun t=>ob (C.tys.get t) fun ty=>ob (Ye C tyAt vs) fun r=>some (bif ty.desc.isAgg then((p.1,p.2,p.2.cells)::r.1,r.2)else((p.1,p.2,[p.2])::r.1,p.2::r.2)))=some q:=h
  simp only[sA]at h;obtain⟨ty,_,y,_,r,h3,h4⟩:=h
  have oH:∀(rest:List zA),fD zA.one r.2=true->(ob (place p.1) fun q=>ob (zm8 cells q.1 q.2 p.2.cells) fun cells=>Sy place r.1 cells)=some l->kL place (p::vs) cells=some l:=by
   intro _ hr hl;show(ob (place p.1) fun q=>ob (eU cells q.1 q.2 p.2) fun cells=>kL place vs cells)=some l
   simp only[sA]at hl ⊢
   obtain⟨a,g1,b,g2,g3⟩:=hl
   exact⟨a,g1,b,g2,ih h3 hr _ _ g3⟩
  cases hb:y.desc.isAgg with
  | true=>
   rw[hb]at h4
   cases h4;exact oH [] h1 hl
  | false=>
   rw[hb]at h4
   cases h4;simp_all [vI,Sy,Ym]
theorem zkw(he:gT e eA)(ha:Kf ν ae eA)(ho:Ov C.base t X HA)(hl:Ot C.base X0 X ν lo) (h:oA C.base W J (tL C op e ae lo k) t Q)
  (hK:∀v,oA C.base W J (k.K v) t Q->R v) (hKd:∀v,oA C.base W J (k.Kd v) t Q->R v) (hKA:∀d off,oA C.base W J (k.KA d off) t Q->R (.ptr (ν d) off)) :
  ∃v,(qF op).f C eA HA=some v/\R v:=by
 cases op<;>simp only[tL]at h<;>try (cases h;done)
 case move x=>
  unfold Py at h;split at h
  ·rename_i p hp
   exact⟨_,Ec ha hp,hKA _ _ h⟩
  ·exact yT he (.inl rfl) h hKd
 case assign x=>
  unfold Py at h;split at h
  ·rename_i p hp
   exact⟨_,Ec ha hp,hKA _ _ h⟩
  ·exact yT he (.inl rfl) h hKd
 case pick c a b=>exact yT he (.inl rfl) h hKd
 case load ty a=>
  unfold tLoad at h;split at h
  ·rename_i p hp
   simp only[nE,tO]at h;obtain⟨l,h1,y,h2,h3,v,h4,h5⟩:=h
   refine⟨v,?_,hKd v h5⟩
   show xW ty a C eA HA=some v
   grind [KO,Ec,qA,JS]
  ·rw[nE]at h
   obtain⟨u,h1,h2⟩:=h
   rw[Gz]at h2;obtain⟨v,h3,h4⟩:=h2
   refine⟨v,?_,hK v h4⟩
   show xW ty a C eA HA=some v
   rw[KO,aE he h1,qA];exact Pl ho.le h3
 case nilCheck x=>
  unfold tNil at h;split at h
  ·rename_i p hp
   refine⟨_,?_,hKA _ _ h⟩
   show Ag x C eA HA=_
   rw[zin (Ec ha hp)];rfl
  ·rw[nE]at h
   obtain⟨u,h1,h2⟩:=h
   rw[oX]at h2;obtain⟨v,h3,h4⟩:=h2
   refine⟨v,?_,hK v h4⟩
   show Ag x C eA HA=_
   grind [zin,aE]
 case binOp op ty x y u=>
  unfold tBin at h;rw[rD]at h;split at h
  ·exact yT he (.inl rfl) h hKd
  ·simp only[nE,oX]at h
   obtain⟨a,h1,b,h2,v,h3,h4⟩:=h
   refine⟨v,?_,hK v h4⟩
   show rW op ty x y C eA HA=_
   grind [lBin_v,aE]
 case unOp o ty x=>
  split at h
  ·simp only[nE,oX]at h
   obtain⟨u,h1,v,h2,h3⟩:=h
   refine⟨v,?_,hK v h3⟩
   show lUn .xor x C eA HA=_
   unfold lUn;rw[aE he h1];exact h2
  ·exact yT he (.inl rfl) h hKd
 case convert s d x=>
  unfold zky at h;rw[rD]at h;split at h
  ·rename_i hd
   rw[rD]at h;split at h
   ·rename_i hs
    exact yT he (.inr (.inl ⟨s,d,x,rfl,.inr (fC.1 hs)⟩)) h hKd
   ·simp only[nE,Gz]at h
    obtain⟨u,h1,v,h2,h3⟩:=h
    refine⟨v,?_,hK v h3⟩
    show oP s d x C eA HA=_
    rw[LC (aE he h1)];exact SC ho.le h2
  ·rw[rD]at h
   split at h
   ·rename_i hd
    exact yT he (.inr (.inl ⟨s,d,x,rfl,.inl (fC.1 hd)⟩)) h hKd
   ·cases h
 case makeInterface ty x=>exact yT he (.inl rfl) h hKd
 case makeFunc fn a b=>exact yT he (.inl rfl) h hKd
 case slice ty x lo' hi mx=>
  cases mx with
  | some _=>cases h
  | none=>
   simp only[zho,nE]at h;obtain⟨a,h1,l,h2,r,h3,h4⟩:=h
   rw[rD]at h4;show ∃v,Ae ty x lo' hi C eA HA=some v/\R v
   rw[zfk (aE he h1) (OC he h2) (OC he h3)]
   split at h4
   ·grind [oX,zas,fC]
   ·rw[Gz]at h4
    obtain⟨v,h5,h6⟩:=h4
    exact⟨v,RX ho.le h5,hK v h6⟩
 case fieldAddr s x f=>
  unfold DZ at h;show ∃v,tW s x f C eA HA=some v/\R v
  split at h
  ·rename_i p hp
   rw[nE]at h;obtain⟨o,h1,h2⟩:=h
   refine⟨_,?_,hKA _ _ h2⟩
   rw[KY (Ec ha hp)]
   unfold pC;rw[h1];rfl
  grind [nE,oX,KY,aE]
 case field ty x f=>exact yT he (.inl rfl) h hKd
 case indexAddr ty x i=>
  unfold DX at h;show ∃v,wW ty x i C eA HA=some v/\R v
  split at h
  ·rename_i p hp
   simp only[nE]at h;obtain⟨iv,h1,n,h2,o,h3,h4⟩:=h
   refine⟨_,?_,hKA _ _ h4⟩
   rw[KS (Ec ha hp) (aE he h1)]
   unfold CY at h3;simp only[sA,vB]at h3;obtain⟨y,g1,a,g2,et,g3,g4,g5⟩:=h3
   cases g5
   unfold tC;rw[g1,qA,h2,qA];simp only[zA.asSlice,zA.asPtr,qA];rw[g2,qA,g3,qA,g4];rfl
  grind [nE,oX,KS,aE]
 case index ty x i=>
  rw[rD]at h;split at h
  ·exact yT he (.inl rfl) h hKd
  ·simp only[nE,oX]at h
   obtain⟨u,h1,w,h2,v,h3,h4⟩:=h
   refine⟨v,?_,hK v h4⟩
   show vW ty x i C eA HA=_
   grind [zfm,aE]
 case lookup ty x i ok=>
  simp only[nE,Gz]at h;obtain⟨m,h1,key,h2,v,h3,h4⟩:=h
  refine⟨v,?_,hK v h4⟩
  show yW ty x i ok C eA HA=_
  rw[zbu (aE he h1) (aE he h2)];exact SA ho.le h3
 case extract x i=>
  simp only[nE,oX]at h;obtain⟨u,h1,v,h2,h3⟩:=h
  refine⟨v,?_,hK v h3⟩
  show sW x i C eA HA=_
  grind [WN,aE]
 case typeAssert x a u ok=>
  simp only[nE,oX]at h;obtain⟨w,h1,v,h2,h3⟩:=h
  refine⟨v,?_,hK v h3⟩
  show qW x u ok C eA HA=_
  grind [zbv,aE]
 case build ty ps=>
  unfold zhq at h;simp only[nE,tO]at h;obtain⟨y,h1,hbd,vs,h2,q,h3,l,h4,h5⟩:=h
  have h5:if fD zA.one q.2=true then oA C.base W J (k.Kd (.agg l)) t Q else False:=h5
  split at h5
  ·rename_i hone
   refine⟨_,?_,hKd _ h5⟩
   show zY ty ps C eA HA=_
   have hf:=XJ (Ib C y) vs h3 hone y.zero l h4
   unfold zY;rw[h1,qA,AZ he h2,qA]
   cases hs:y.desc.asStruct with
   | some fs=>
    simp only[];have:(fun i=>ob (tD fs i) fun x=>some (x.1,x.2.2))=Ib C y:=by funext i;unfold Ib;rw[hs]
    simp_all
   | none=>
    simp only[];unfold QD at hbd;rw[hs]at hbd;simp only[]at hbd
    cases ha:y.desc.asArr with
    | none=>simp_all
    | some a=>
     rw[ha]at hbd;simp only[]at hbd
     cases hy:C.tys.get a.2 with
     | none=>simp_all
     | some et=>
      simp only[qA];have:(fun i=>some (i*et.size,et.size))=Ib C y:=by funext i;unfold Ib;rw[hs];simp only[];rw[ha,qA,hy,qA]
      simp_all
  simp_all
 case call c=>
  split at h
  ·rename_i b hb
   cases b<;>simp only[Le]at h<;>try (cases h;done)
   case len=>
    unfold tLen at h;simp only[nE]at h;obtain⟨ty,h1,x,h2,u,h3,h4⟩:=h
    show ∃v,(oT c c.callee).f C eA HA=some v/\R v
    rw[hb];show ∃v,mQ c C eA HA=some v/\R v
    rw[lLen_v h1 h2 (aE he h3)]
    rw[rD]at h4;split at h4
    ·grind [oX,zaf,fC]
    ·rw[rD]at h4
     split at h4
     ·rw[Gz]at h4
      obtain⟨v,h5,h6⟩:=h4
      exact⟨v,zae ho.le h5,hK v h6⟩
     grind [nE,zb0,fC]
   case max=>exact yT he (.inr (.inr ⟨c,rfl,.inl hb⟩)) h hKd
   case min=>exact yT he (.inr (.inr ⟨c,rfl,.inr hb⟩)) h hKd
  ·cases h
end
end
section
variable {base f l:Nat}{args:List zA}{H:xA}{d:iB}{u v:zA}{op:Op}{kd:zA->xA->iB}{φ:jE}{K:zA->T}{la:List Nat}{dst:Option Nat}
def Bd(C:lA)(A:Tr mC)(f:Nat)(args:List zA)(H:xA):iB:=
 bif Nat.blt f yo then
  match C.prims.get f with
  | some g=>ob (g args H) fun p=>some (⟨p.1,false⟩,p.2)
  | none=>zD C A (.func f) args H
 else zD C A (.yld (f-yo)) args H
theorem Gj{C:lA}{A:Tr mC}   (h:Nat.blt f yo=true):Bd C A f args H=(match C.prims.get f with
  | some g=>ob (g args H) fun p=>some (⟨p.1,false⟩,p.2)
  | none=>zD C A (.func f) args H):=by grind [Bd]
theorem PZ{C:lA}{A:Tr mC}    : Bd C A (yo+l) args H=zD C A (.yld l) args H:=by
 unfold Bd;have:Nat.blt (yo+l) yo=false:=Bool.eq_false_iff.2 fun e=>by grind [nC]
 simp_all
def vJ:mB:=fun _ _=>False
def xC (base:Nat)(X0:Xt)(E Q:mB)(d:iB):Prop:=∃o t' HA' X',d=some (o,HA')/\Ov base t' X' HA'/\pI X0 X'/\if o.p=true then E o.v t' else Q o.v t'
theorem xC.mono {X0:Xt}{E Q E' Q':mB} (h:xC base X0 E Q d)(k:∀v t,Q v t->Q' v t)(k':∀v t,E v t->E' v t:=by exact fun _ _ h=>h):xC base X0 E' Q' d:=by
 obtain⟨o,t',HA',X',h1,h2,h3,h4⟩:=h
 refine⟨o,t',HA',X',h1,h2,h3,?_⟩
 grind
theorem mO {X0:Xt}{Q:mB}  : xC base X0 vJ Q d ↔ ∃v t' HA' X',d=some (⟨v,false⟩,HA')/\Ov base t' X' HA'/\pI X0 X'/\Q v t':=by
 constructor
 ·rintro⟨⟨v,p⟩,t',HA',X',h1,h2,h3,h4⟩
  cases p with
  | true=>exact h4.elim
  | false=>grind
 ·rintro⟨v,t',HA',X',h1,h2,h3,h4⟩
  exact⟨_,t',HA',X',h1,h2,h3,h4⟩
structure fP (C:lA) (A:Tr mC) (E:mB) (W:mF):Prop where
 fn:∀f args t R,Nat.blt f pn=true->W f args t R->∀X HA,Ov C.base t X HA->xC C.base X E R (Bd C A f args HA)
 rd:∀l args t R,W (yo+l) args t R->∀X HA,Ov C.base t X HA->xC C.base X vJ R (Bd C A (yo+l) args HA)
 raise:∀args t R,W pn args t R->∃v,args=[v]/\E v t
section
variable {W J:mF}{t:Tr tA}{X X0:Xt}{HA:xA}{e eA:vD}{C:lA}{A:Tr mC}{ν:Nat->Nat}{ae:uO}{lo:Tr (List zA)}{k:gM}{kl:KLo}{Q E:mB}
def vM{f:lJ}  (h:f C e H=some v):lv f C e H=.val v H:=by unfold lv;rw[h]
def zdf   (h:(qF op).f C e H=some v):(kE op).f C e H=.val v H:=by
 cases op
 case move x=>exact vM h
 case assign x=>exact vM h
 case pick c a b=>exact vM h
 case load t a=>exact vM h
 case nilCheck x=>exact vM h
 case binOp op t x y u=>exact vM h
 case unOp op t x=>exact vM h
 case makeInterface t x=>exact vM h
 case makeFunc fn a b=>exact vM h
 case slice t x lo hi mx=>exact vM h
 case fieldAddr s x f=>exact vM h
 case field t x f=>exact vM h
 case indexAddr t x i=>exact vM h
 case index t x i=>exact vM h
 case extract t i=>exact vM h
 case build t ps=>exact vM h
 case typeAssert x t u ok=>exact vM h
 case lookup t x i ok=>exact vM h
 case convert s d x=>
  show wY s d x C e H=_
  have h:oP s d x C e H=some v:=h
  unfold wY;rw[h]
 case call c=>
  have h:(oT c c.callee).f C e H=some v:=h
  show(Iw c c.callee).f C e H=_
  cases hc:c.callee with
  | value f=>rw[hc]at h;cases h
  | invoke a b=>rw[hc]at h;cases h
  | builtin b=>
   rw[hc]at h
   cases b
   case len=>exact vM (f:=mQ c) h
   case max=>exact vM (f:=aV c) h
   case min=>exact vM (f:=bV c) h
   all_goals exact absurd (show(none:Option zA)=some v from h) (by simp)
 all_goals exact absurd (show(none:Option zA)=some v from h) (by simp)
def Cl{x:Option (zA × xA)} {H':xA}  (h:x=some (v,H')):xG φ (vL x) HA kd=kd v H':=by subst h;rfl
theorem gU(ho:Ov C.base t X HA){x:xA->Option (zA × xA)}(hx:jT C.base x) (h:oA C.base W J (.heavy x K) t Q)
  (hK:∀v t' HA' X',Ov C.base t' X' HA'->pI X X'->oA C.base W J (K v) t' Q->xC C.base X0 E Q (kd v HA')) {r:bJ} (hr:∀p,x HA=some p->xG φ r HA kd=kd p.1 p.2):xC C.base X0 E Q (xG φ r HA kd):=by
 have h:=h HA.next ho.nextT ho.base
 rw[eZ]at h;obtain⟨⟨v,H'⟩,h1,h2⟩:=h
 obtain⟨HA',h3,h4⟩:=hx _ _ _ _ _ ho h1
 grind [pI.refl]
theorem zjz (h:Nat.blt f pn=true):Nat.blt f yo=true/\f≠pn:=by
 grind [nC,pn,yo]
def BR(hW:fP C A E W)(ho:Ov C.base t X HA)(hX:pI X0 X) (hf:Nat.blt f pn=true)  (h:W f args t fun v t'=>oA C.base W J (K v) t' Q)
  (hK:∀v t' HA' X',Ov C.base t' X' HA'->pI X X'->oA C.base W J (K v) t' Q->xC C.base X0 E Q (kd v HA')):xC C.base X0 E Q (xG (zD C A) (Jl C HA args f (C.prims.get f)) HA kd):=by
 obtain⟨hf1,hf2⟩:=zjz hf
 obtain⟨⟨v,p⟩,t',HA',X',h1,h2,h3,h4⟩:=hW.fn _ _ _ _ hf h X HA ho
 rw[Gj hf1]at h1;unfold Jl
 cases hp:C.prims.get f with
 | some g=>
  rw[hp]at h1;rw[sA]at h1;obtain⟨q,h1,h5⟩:=h1
  cases h5;simp only[h1];exact hK _ _ _ _ h2 h3 h4
 | none=>
  rw[hp]at h1;have h1:zD C A (.func f) args HA=some (⟨v,p⟩,HA'):=h1
  show xC C.base X0 E Q (ob (zD C A (.func f) args HA) fun p=>bif p.1.p then some p else kd p.1.v p.2)
  rw[h1]
  cases p with
  | true=>exact⟨_,t',HA',X',rfl,h2,fun b y hb=>h3 b y (hX b y hb),h4⟩
  | false=>exact hK _ _ _ _ h2 h3 h4
def zem(hW:fP C A E W)(ho:Ov C.base t X HA)   (h:W (yo+l) args t fun v t'=>oA C.base W J (K v) t' Q)
  (hK:∀v t' HA' X',Ov C.base t' X' HA'->pI X X'->oA C.base W J (K v) t' Q->xC C.base X0 E Q (kd v HA')):xC C.base X0 E Q (xG (zD C A) (.round l args) HA kd):=by
 have h0:=hW.rd _ _ _ _ h X HA ho
 rw[mO]at h0;obtain⟨v,t',HA',X',h1,h2,h3,h4⟩:=h0
 rw[PZ]at h1;show xC C.base X0 E Q (ob (zD C A (.yld l) args HA) fun p=>wB (!p.1.p) (kd p.1.v p.2))
 rw[h1];exact hK _ _ _ _ h2 h3 h4
theorem Ov.setX (h:Ov base t X HA){b:Nat}{y:tA}(hb:X b=some y)(z:tA):Ov base t (fun c=>if c=b then some z else X c) (Am.setBlk HA b z):=by
 obtain⟨g1,g2,g3⟩:=h.ext b y hb
 refine⟨h.base,fun c hc=>?_,fun c u hc=>?_,h.lt⟩
 ·split at hc
  ·cases hc
  ·rename_i hne
   show(HA.t.set b z).get c=_
   rw[Tr.get_set,yaa hne];exact h.same c hc
 ·show(HA.t.set b z).get c=_/\_/\c<HA.next
  rw[Tr.get_set];split at hc
  ·simp_all
  ·rename_i hne;rw[yaa hne];exact h.ext c u hc
theorem Ov.newX (h:Ov base t X HA)(z:tA):Ov base t (fun c=>if c=HA.next then some z else X c) (Am.newBlk HA z):=by
 refine⟨Nat.le_succ_of_le h.base,fun c hc=>?_,fun c u hc=>?_,fun b y hb=>Nat.lt_succ_of_lt (h.lt b y hb)⟩
 ·split at hc
  ·cases hc
  ·rename_i hne
   show(HA.t.set HA.next z).get c=_
   rw[Tr.get_set,yaa hne];exact h.same c hc
 ·show(HA.t.set HA.next z).get c=_/\_/\c<HA.next+1
  rw[Tr.get_set];split at hc
  ·rename_i e;cases hc;subst e;rw[yab rfl];exact⟨rfl,h.nextT,Nat.lt_succ_self _⟩
  ·rename_i hne;rw[yaa hne];have:=h.ext c u hc;grind
theorem zbl(ho:Ov C.base t X HA)(hl:Ot C.base X0 X ν lo){d off:Nat}{l l':List zA} {sz:Nat}(h1:lo.get d=some l)(h2:eU l off sz u=some l')(h3:fD zA.one u.cells=true) :
  Nat.beq (aA u.cells) sz=true/\l'.length=l.length/\∃c',yJ C HA (ν d) off u.cells=some (setBlk HA (ν d) (.cells c' l.length none))/\∀j a,l'[j]?=some a->c'.get j=some a:=by
 obtain⟨_,hb,c,hc,hg⟩:=hl d l h1
 have hx:=(ho.ext _ _ hc).1
 unfold eU at h2;simp only[vB,ybb,fE,lD,kG,bR,oQ,Option.some.injEq]at h2;obtain⟨⟨g1,g2⟩,g3⟩:=h2
 subst g3;refine⟨by grind [lD],?_,c.setMany u.cells off,?_,?_⟩
 ·grind
 ·grind [yJ,Nat.blt,qD,vB,qA,tA.asCells,fE,lD]
 ·intro j a hj
  rw[Tr.get_setMany];grind
theorem zc3{y:mD} (h:fD zA.one (Jk y u)=true):Jk y u=u.cells:=by
 grind [Jk,vI,Ym]
theorem UO    (h:(qF op).f C eA HA=some v):xG φ ((kE op).f C eA HA) HA kd=kd v HA:=by rw[zdf h];rfl
theorem zbt  {d:Nat}(h:laOf la dst=some d):dst=some d:=by
 unfold laOf at h;grind
theorem tH_ok(hW:fP C A E W)(hX:pI X0 X)(he:gT e eA)(ha:Kf ν ae eA)(ho:Ov C.base t X HA)(hl:Ot C.base X0 X ν lo)
  (h:oA C.base W J (tH C la dst op e ae lo k kl) t Q)
  (hK:∀v t' HA' X',Ov C.base t' X' HA'->pI X X'->oA C.base W J (k.K v) t' Q->xC C.base X0 E Q (kd v HA'))
  (hKd:∀v t' HA' X',Ov C.base t' X' HA'->pI X X'->oA C.base W J (k.Kd v) t' Q->xC C.base X0 E Q (kd v HA'))
  (hKA:∀d off,oA C.base W J (k.KA d off) t Q->xC C.base X0 E Q (kd (.ptr (ν d) off) HA))
  (hnew:∀d l,laOf la dst=some d->oA C.base W J (kl.new d l) t Q->xC C.base X0 E Q (kd (.ptr HA.next 0) (uF HA l none)))
  (hset:∀d l l' c',lo.get d=some l->l'.length=l.length->(∀j a,l'[j]?=some a->c'.get j=some a)->oA C.base W J (kl.set d l') t Q->xC C.base X0 E Q (kd pD (setBlk HA (ν d) (.cells c' l.length none)))) :
  xC C.base X0 E Q (xG (zD C A) ((kE op).f C eA HA) HA kd):=by
 have light:∀(op:Op),oA C.base W J (tL C op e ae lo k) t Q->xC C.base X0 E Q (xG (zD C A) ((kE op).f C eA HA) HA kd):=by
  intro op h;obtain⟨v,h1,h2⟩:=zkw (R:=fun v=>xC C.base X0 E Q (kd v HA)) he ha ho hl h (fun v h=>hK v _ _ _ ho (pI.refl _) h) (fun v h=>hKd v _ _ _ ho (pI.refl _) h) hKA
  grind [UO]
 cases op<;>simp only[tH]at h<;>try (exact light _ h)
 case alloc ty=>
  show xC C.base X0 E Q (xG _ (Dc ty C eA HA) HA kd)
  rw[rD]at h;split at h
  ·rename_i ht
   have ht:aJ C ty=none:=by
    cases hx:aJ C ty with
    | none=>rfl
    | some _=>rw[hx]at ht;cases ht
   split at h
   ·rename_i d hd
    rw[nE]at h;obtain⟨y,h1,h2⟩:=h
    unfold Dc;rw[h1,ht];exact hnew d _ hd h2
   ·refine gU ho zah h hK fun p hp=>?_
    unfold Dc;rw[ht];have hp:(ob (C.tys.get ty) fun ty=>some (.ptr HA.next 0,uF HA ty.zero none))=some p:=hp
    rw[hp];rfl
  ·refine gU ho SF h hK fun p hp=>?_
   unfold Dc;unfold Pn at hp;rw[hp];rfl
 case box ty x=>
  rw[rD]at h;show xC C.base X0 E Q (xG _ (An ty x C eA HA) HA kd)
  unfold An;split at h
  ·rename_i ht
   have ht:aJ C ty=none:=by
    cases hx:aJ C ty with
    | none=>rfl
    | some _=>rw[hx]at ht;cases ht
   rw[nE]at h;obtain⟨v,h1,h⟩:=h
   rw[aE he h1,ht];split at h
   ·rename_i d hd
    rw[nE]at h;obtain⟨y,_,h⟩:=h
    rw[rD]at h;split at h
    ·exact hnew d _ hd h
    ·have h:if zA.one v=true then oA C.base W J (kl.new d [v]) t Q else False:=h
     split at h
     ·rename_i h1
      have:=hnew d _ hd h
      rw[<- Ym h1]at this;exact this
     simp_all
   ·refine gU ho zkg h hK fun p hp=>?_
    cases hp;rfl
  ·rw[nE]at h
   obtain⟨v,h1,h⟩:=h
   rw[aE he h1];refine gU ho zdx h hK fun p hp=>?_
   cases hp;rfl
 case buildSlice ty n ps=>
  rw[nE]at h;obtain⟨vs,h1,h⟩:=h
  show xC C.base X0 E Q (xG _ (Db ty n ps C eA HA) HA kd)
  refine gU ho SD h hK fun p hp=>?_
  refine Cl (v:=p.1) (H':=p.2) ?_
  rw[AZ he h1];exact hp
 case makeMap ty r=>
  cases r with
  | some _=>simp_all
  | none=>
   simp only[]at h;show xC C.base X0 E Q (xG _ (Nh none C eA HA) HA kd)
   refine gU ho RZ h hK fun p hp=>?_
   cases hp;rfl
 case makeSlice ty l c=>
  simp only[nE]at h;obtain⟨a,h1,b,h2,h⟩:=h
  show xC C.base X0 E Q (xG _ (AI ty l c C eA HA) HA kd)
  refine gU ho RY h hK fun p hp=>?_
  refine Cl (v:=p.1) (H':=p.2) ?_
  grind [aE,yP,qA]
 case store ty a x=>
  unfold zhn at h;show xC C.base X0 E Q (xG _ (Nf ty a x C eA HA) HA kd)
  split at h
  ·rename_i p hp
   simp only[nE]at h;obtain⟨u,h1,y,h2,l,h3,l',h4,h5⟩:=h
   have h5:if fD zA.one (Jk y u)=true then oA C.base W J (kl.set p.1 l') t Q else False:=h5
   split at h5
   ·rename_i hone
    have hcell:=zc3 hone
    rw[hcell]at hone h4;have h4:eU l p.2 y.size u=some l':=h4
    obtain⟨g1,g2,c',g3,g4⟩:=zbl ho hl h3 h4 hone
    have:=hset p.1 l l' c' h3 g2 g4 h5
    have e1:xG (zD C A) (Nf ty a x C eA HA) HA kd=kd pD (setBlk HA (ν p.1) (.cells c' l.length none)):=by
     refine Cl ?_
     rw[h2,qA,Ec ha hp,qA];simp only[zA.asPtr,qA];rw[aE he h1,qA,g1,g3];rfl
    simp_all
   simp_all
  ·simp only[nE]at h
   obtain⟨av,h1,u,h2,h⟩:=h
   refine gU ho zad h hKd fun p hp=>?_
   refine Cl (v:=p.1) (H':=p.2) ?_
   grind [aE,sC,qA]
 case convert s d x=>
  rw[rD]at h;split at h
  ·rename_i hd
   rw[nE]at h;obtain⟨u,h1,h⟩:=h
   show xC C.base X0 E Q (xG _ (wY s d x C eA HA) HA kd)
   have hn:oP s d x C eA HA=none:=by
    rw[LC (aE he h1)]
    cases hq:xP C s d HA u with
    | none=>rfl
    | some q=>
     exfalso
     unfold xP at hq;simp only[sA]at hq;obtain⟨sy,g1,dy,g2,g3⟩:=hq
     have hd:=fC.1 hd
     unfold gH at hd;rw[g2]at hd;have hd:dy.desc.tag=4:=hd
     unfold oS at g3;have n1:dy.desc.asInt=none:=by cases hz:dy.desc<;>rw[hz]at hd<;>first | rfl | (cases hd;done)
     have n2:dy.desc.isString=false:=by unfold xE.isString;rw[hd];rfl
     rw[n1,n2]at g3
     cases g3
   unfold wY;rw[hn];simp only[];refine gU ho RW h hK fun p hp=>?_
   refine Cl (v:=p.1) (H':=p.2) ?_
   rw[aE he h1];exact hp
  grind [tL]
 case insert ty m key x=>
  simp only[nE]at h;obtain⟨mv,h1,kv,h2,u,h3,h⟩:=h
  show xC C.base X0 E Q (xG _ (Da ty m key x C eA HA) HA kd)
  refine gU ho CX h hKd fun p hp=>?_
  refine Cl (v:=p.1) (H':=p.2) ?_
  rw[aE he h1,aE he h2,aE he h3];exact hp
 case mapUpdate ty m key x=>
  simp only[nE]at h;obtain⟨mv,h1,kv,h2,u,h3,h⟩:=h
  show xC C.base X0 E Q (xG _ (Da ty m key x C eA HA) HA kd)
  refine gU ho CX h hKd fun p hp=>?_
  refine Cl (v:=p.1) (H':=p.2) ?_
  rw[aE he h1,aE he h2,aE he h3];exact hp
 case panic x=>
  have h:oA C.base W J (uC (ev x e) fun v=>uC v.asIface fun p=>.call pn [.iface p.1 p.2] k.K) t Q:=h
  simp only[nE]at h;obtain⟨v,h1,p,h2,h3⟩:=h
  obtain⟨u,e1,e2⟩:=hW.raise _ _ _ h3
  cases e1
  show xC C.base X0 E Q (xG _ (Ng x C eA HA) HA kd)
  unfold Ng;rw[aE he h1,qA,h2,qA];exact⟨⟨_,true⟩,t,HA,X,rfl,ho,hX,e2⟩
 case call c=>
  show xC C.base X0 E Q (xG _ ((Iw c c.callee).f C eA HA) HA kd)
  split at h
  ·rename_i f hc
   rw[hc];show xC C.base X0 E Q (xG _ (Fx f c.args C eA HA) HA kd)
   have oH:∀ {fv:zA} {aq:List zA},ev f e=some fv->dN c.args.toList e=some aq->oA C.base W J (.callv fv aq k.K) t Q->xC C.base X0 E Q (xG (zD C A) (Fx f c.args C eA HA) HA kd):=by
    intro fv aq h1 h2 h;have h:oD (eK fv aq) fun p=>W p.1 p.2 t fun v t'=>oA C.base W J (k.K v) t' Q:=h
    rw[eZ]at h;obtain⟨⟨g,aq'⟩,h3,h4⟩:=h
    unfold eK at h3;rw[sA]at h3;obtain⟨p,h5,h6⟩:=h3
    have e0:Fx f c.args C eA HA=zn1 C HA (dD p.2.1 aq) p.2.2 p.1:=by
     unfold Fx nR;rw[aE he h1,qA,h5,qA,AY he h2,qA,qA];rfl
    rw[e0]
    cases hp:p.1 with
    | func g'=>
     rw[hp]at h6;simp only[vB]at h6;obtain⟨hg,h6⟩:=h6
     cases h6;exact BR hW ho hX hg h4 hK
    | yld l=>
     rw[hp]at h6;simp only[vB,ybb]at h6;obtain⟨⟨ha,hb⟩,h6⟩:=h6
     cases h6;have ea:p.2.1=[]:=by cases hx:p.2.1 with | nil=>rfl | cons _ _=>rw[hx]at ha;cases ha
     have eb:p.2.2=[]:=by cases hx:p.2.2 with | nil=>rfl | cons _ _=>rw[hx]at hb;cases hb
     rw[ea,eb];exact zem hW ho h4 hK
   unfold zhp at h;split at h
   ·rename_i g
    rw[tO,nE]at h;obtain⟨hg,aq,h1,h⟩:=h
    refine oH (fv:=.func (.func g) [] []) rfl h1 ?_
    show oD (eK (.func (.func g) [] []) aq) _
    have e2:eK (.func (.func g) [] []) aq=some (g,aq):=by
     show wB (Nat.blt g pn) (some (g,dD (dD [] aq) []))=_
     rw[hg,kG,kG];simp[wB]
    rw[e2];exact h
   grind [nE]
  ·rename_i b hb
   rw[hb];have lt:oA C.base W J (Le C c e k b) t Q->xC C.base X0 E Q (xG (zD C A) ((Iw c (.builtin b)).f C eA HA) HA kd):=by
    intro h;have:=light (.call c) (by show oA C.base W J (match c.callee with | .builtin b=>Le C c e k b | _=>.fail) t Q;simp_all)
    have e1:(kE (.call c)).f C eA HA=(Iw c c.callee).f C eA HA:=rfl
    simp_all
   unfold DY at h;split at h
   ·simp only[nE,two']at h
    obtain⟨ty,h1,u,h2,p,h3,h⟩:=h
    show xC C.base X0 E Q (xG _ (Ix c C eA HA) HA kd)
    refine gU ho SE h hK fun q hq=>?_
    refine Cl (v:=q.1) (H':=q.2) ?_
    grind [aG,sA,vB,Vc]
   grind
  ·cases h
end
end
end Go.Am
