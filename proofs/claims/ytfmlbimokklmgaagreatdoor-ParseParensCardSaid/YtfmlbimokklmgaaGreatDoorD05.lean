/- Code as a function: all functions of a program; what a value is worth. -/
import Derived.Test.YtfmlbimokklmgaaGreatDoorD04
set_option linter.all false
noncomputable section
namespace Go.Am
open Go Go.RowKit
section
def rV (C:cA)(fn:Func)(tm:Tm)(H:xA):iB:=ob (lU C H tm fn.results.toList) fun l=>some (⟨Ei l,false⟩,H)
def vP (C:cA)(fn:Func):Kt:=⟨rV C fn,fun _ _ _=>none,rV C fn⟩
def Ci(ops:List Oper):Bool:=zC (fun o=>match o.op with | .move _=>nE o.guard | .assign _=>nE o.guard | .alloc _=>nE o.guard | .store _ _ _=>nE o.guard | _=>false) ops
def Qm(l:List (Nat × Array Oper)):Bool:=match l with | []=>false | x::r=>zC (fun x=>Ci x.2.toList) (x::r)
def Lw(c:gC):Option Gq:=match cK c with | [q]=>some q | _=>none
def rdOk (r:kN)(q:Gq):Prop:=r.assign=asC q.as/\r.body=sE q.c/\r.params=q.ps.toList/\LoopState.tag r.state=0/\Qm q.as=true/\cK q.c=[]
def Gc(r:kN):kN:=⟨.busy,r.pending,r.fn,r.n,r.tm,r.params,r.assign,r.body,r.defers⟩
def nP(b:Bool)(r:kN):kN:=⟨if b then .ready else .done,if b then none else some .ret,r.fn,r.n,r.tm,r.params,r.assign,r.body,r.defers⟩
def rdK:Kt:=⟨fun _ H=>some (⟨.bool true,false⟩,H),fun _ _ _=>none,fun _ H=>some (⟨.bool false,false⟩,H)⟩
def Th(C:cA)(φ:xF)(fn n:Nat)(q:Gq)(tm:Tm)(H:xA):iB:=fD C φ fn n (asA q.c q.as) rdK tm H
def Er(C:cA)(A:Tr gC)(φ:xF)(l:Nat)(args:List zA)(H:xA):iB:=
 ob (pJ H l) fun r=>ob (oZ r.n r.params args r.tm) fun tm=>ob (A.get r.fn) fun c=>ob (Lw c) fun q=>@ite _ (rdOk r q/\l<H.next) (Classical.propDecidable _)
  (ob (Th C φ r.fn r.n q tm (setBlk H l (.loop (Gc r)))) fun x=>sB (!x.1.p) (ob (pJ x.2 l) fun r2=>ob x.1.v.asBool fun b=>some (⟨.bool b,false⟩,setBlk x.2 l (.loop (nP b r2))))) none
def regO (c:gC):Option (Nat × Array Oper):=match c with
 | .region id ops false=>some (id,ops)
 | .cut _ (.region id ops false)=>some (id,ops)
 | _=>none
structure fQ where
 i5:Nat
 o5:Array Oper
 d:Nat
 cl:Nat
 bs:List Operand
 i6:Nat
 o6:Array Oper
def Fw (l:List Oper):Option (Nat × Nat × List Operand):=match l with
 | [⟨some d,.makeFunc (.func cl) as bs,_,_,_,none⟩,⟨none,.defer cc,_,_,_,none⟩]=>(match as.toList,cc.callee,cc.args.toList with
  | [],.value (.tmp e),[]=>bif Nat.beq d e then some (d,cl,bs.toList)else none
  | _,_,_=>none)
 | _=>none
def Pm(c:gC):Option fQ:=match c with
 | .seq a (.seq b .ret)=>ob (regO a) fun u=>ob (regO b) fun v=>ob (Fw u.2.toList) fun q=>some ⟨u.1,u.2,q.1,q.2.1,q.2.2,v.1,v.2⟩
 | _=>none
def bV(c:gC):Option (List gC × fQ):=
 gC.rec (motive:=fun _=>Option (List gC × fQ)) none (fun _ _ _=>none)
  (fun a b _ g=>match Pm (.seq a b)with | some q=>some ([],q) | none=>ob g fun p=>some (a::p.1,p.2))
  (fun _ _ _ _ _=>none) (fun _ _ _=>none) (fun _ _ _=>none) (fun _=>none) none (fun _ _ _=>none) (fun _ _ _ _ _ _ _=>none) c
def tW (l:List gC):gC:=List.rec (motive:=fun _=>gC) .skip (fun a _ g=>.seq a g) l
def recO (l:List Oper):Option (Nat × Nat):=match l with
 | [⟨some d,.call cc,_,_,_,none⟩,⟨some e,.assign (.tmp f),_,_,_,none⟩]=>(match cc.callee with
  | .builtin .recover=>bif Nat.beq d f then some (d,e)else none
  | _=>none)
 | _=>none
structure ClQ where
 i:Nat
 o:Array Oper
 d:Nat
 e:Nat
 c:gC
def Fz (c:gC):Option ClQ:=match c with
 | .seq a b=>ob (regO a) fun u=>ob (recO u.2.toList) fun p=>some ⟨u.1,u.2,p.1,p.2,b⟩
 | _=>none
def clTm (n:Nat)(q:ClQ)(tm:Tm)(v:zA):Tm:=putA n (putA n tm.cut (some q.d) v) (some q.e) v
def kR(C:cA)(A:Tr gC)(φ:xF)(cl:Nat)(cells:List zA)(v:zA)(H:xA):iB:=
 ob (C.fns.get cl) fun fc=>ob (A.get cl) fun cc=>ob (Fz cc) fun q=>sB (nE (C.prims.get cl)&&Nat.blt q.d fc.ntmps) (ob (oK C cl cells true) fun g=>fD C φ cl fc.ntmps q.c (vP C fc) (clTm fc.ntmps q g.tm v) H)
def fM (C:cA)(A:Tr gC)(φ:xF)(fn:Func)(cl:Nat)(cells:List zA)(v:zA)(tm:Tm)(H:xA):iB:=
 ob (kR C A φ cl cells v H) fun y=>sB (!y.1.p) (rV C fn tm y.2)
def Nt(l:List ResultVar)(o6:List Oper):Bool:=zC (fun r=>match r with | .cell a _=>zC (fun o=>match o.dst with | some d => !Nat.beq d a | none=>true) o6 | .tmp _=>false) l
def aQ(C:cA)(A:Tr gC)(φ:xF)(fn:Func)(q:fQ)(tm:Tm)(H:xA):iB:=
 sB (Nt fn.results.toList q.o6.toList&&(Nat.ble tm.k q.d&&Nat.blt q.d fn.ntmps)) (ob (jO q.bs (.now tm.cut)) fun cells=>
  ob (iM C φ q.o6 fn.ntmps (fun tm' H'=>fM C A φ fn q.cl cells .niliface tm' H') q.o6.toList tm.cut H) fun x=>
   Bool.rec (motive:=fun _=>iB) (some x) (fM C A φ fn q.cl cells x.1.v tm.cut x.2) x.1.p)
def Ca (C:cA)(A:Tr gC)(φ:xF)(fn:Func)(q:fQ):Kt:=⟨aQ C A φ fn q,fun _ _ _=>none,rV C fn⟩
def qX(C:cA)(A:Tr gC)(φ:xF)(f:Nat)(fn:Func)(c:gC)(tm:Tm)(H:xA):iB:=
 match bV c with
 | none=>fD C φ f fn.ntmps c (vP C fn) tm H
 | some p=>fD C φ f fn.ntmps (tW p.1) (Ca C A φ fn p.2) tm H
def eS (C:cA)(A:Tr gC)(φ:xF)(f:Nat)(args:List zA)(H:xA):iB:=
 ob (A.get f) fun c=>ob (C.fns.get f) fun fn=>ob (oK C f args false) fun g=>qX C A φ f fn c g.tm H
def Ej(C:cA)(A:Tr gC)(φ:xF):xF
 | .func f=>eS C A φ f
 | .yld l=>Er C A φ l
def Cl (C:cA)(A:Tr gC):Nat->xF
 | 0=>fun _ _ _=>none
 | n+1=>Ej C A (Cl C A n)
def wD (C:cA)(A:Tr gC):xF:=fun f args H=>lim fun n=>Cl C A n f args H
section
variable {C:cA}{A:Tr gC}
theorem Hh{φ:xF}{l:Nat}{args:List zA}{H:xA}{x:eH × xA}:Er C A φ l args H=some x ↔ ∃r tm c q y r2 b,pJ H l=some r/\oZ r.n r.params args r.tm=some tm/\A.get r.fn=some c/\Lw c=some q/\(rdOk r q/\l<H.next)/\Th C φ r.fn r.n q tm (setBlk H l (.loop (Gc r)))=some y/\pJ y.2 l=some r2/\y.1=⟨.bool b,false⟩/\x=(⟨.bool b,false⟩,setBlk y.2 l (.loop (nP b r2))):=by
 have out:∀(o:eH) (b:Bool),o=⟨.bool b,false⟩ ↔ o.v=.bool b/\o.p=false:=fun o b=>by cases o;simp
 unfold Er;simp only[out];grind [sA,Dh,rB]
def YK{φ φ':xF}(h:bO φ φ'){cl:Nat}{cells:List zA}{v:zA}{H:xA}{x:eH × xA}(hx:kR C A φ cl cells v H=some x):kR C A φ' cl cells v H=some x:=by
 unfold kR at hx ⊢
 simp only[sA,rB]at hx ⊢
 obtain⟨fc,h1,cc,h2,q,h3,h4,g,h5,h6⟩:=hx
 exact⟨fc,h1,cc,h2,q,h3,h4,g,h5,Ax h _ _ _ (fP.refl _) _ _ _ h6⟩
def Nk{φ φ':xF}(h:bO φ φ'){fn:Func}{cl:Nat}{cells:List zA}{v:zA}{tm:Tm}{H:xA}{x:eH × xA}(hx:fM C A φ fn cl cells v tm H=some x):fM C A φ' fn cl cells v tm H=some x:=by
 unfold fM at hx ⊢
 rw[sA]at hx ⊢
 obtain⟨y,h1,h2⟩:=hx
 exact⟨y,YK h h1,h2⟩
def CU{φ φ':xF}(h:bO φ φ'){fn:Func}{q:fQ}:uK (aQ C A φ fn q) (aQ C A φ' fn q):=by
 intro tm H x hx;unfold aQ at hx ⊢
 simp only[rB,sA]at hx ⊢
 obtain⟨h1,cells,h2,y,h3,h4⟩:=hx
 refine⟨h1,cells,h2,y,Lv h (fun tm H x hx=>Nk h hx) _ _ _ _ h3,?_⟩
 cases hp:y.1.p with
 | false=>rw[hp]at h4;exact h4
 | true=>rw[hp]at h4;exact Nk h h4
def ZH{φ φ':xF}(h:bO φ φ'){f:Nat}{fn:Func}{c:gC}:uK (qX C A φ f fn c) (qX C A φ' f fn c):=by
 intro tm H x hx;unfold qX at hx ⊢
 split at hx
 ·exact Ax h c _ _ (fP.refl _) _ _ _ hx
 ·exact Ax h _ (Ca C A φ fn _) (Ca C A φ' fn _) ⟨CU h,fun _ _ _ _ h=>h,fun _ _ _ h=>h⟩ _ _ _ hx
def MF{φs:Nat->xF}{φ:xF}(h:mV φs φ){fn:Func}{cl:Nat}{cells:List zA}{v:zA}:eO (fun n=>fM C A (φs n) fn cl cells v) (fM C A φ fn cl cells v):=by
 refine⟨fun n tm H x hx=>Nk (h.up n) hx,fun tm H x hx=>?_⟩
 unfold fM at hx;rw[sA]at hx;obtain⟨y,h1,h2⟩:=hx
 unfold kR at h1;simp only[sA,rB]at h1;obtain⟨fc,g1,cc,g2,q,g3,g4,g,g5,g6⟩:=h1
 have sup:Dm (fun _=>vP C fc) (vP C fc):=⟨⟨fun _ _ _ _ h=>h,fun _ _ _ h=>⟨0,h⟩⟩,fun i=>⟨fun _ _ _ _ h=>h,fun _ _ _ h=>⟨0,h⟩⟩,⟨fun _ _ _ _ h=>h,fun _ _ _ h=>⟨0,h⟩⟩⟩
 obtain⟨n,hn⟩:=(Nl h q.c _ _ sup).ex _ _ _ g6
 refine⟨n,?_⟩
 show fM C A (φs n) fn cl cells v tm H=some x
 unfold fM kR;simp only[sA,rB];rw[rB]at h2;exact⟨y,⟨fc,g1,cc,g2,q,g3,g4,g,g5,hn⟩,h2⟩
def QK{φs:Nat->xF}{φ:xF}(h:mV φs φ){fn:Func}{q:fQ}:eO (fun n=>aQ C A (φs n) fn q) (aQ C A φ fn q):=by
 refine⟨fun n=>CU (h.up n),fun tm H x hx=>?_⟩
 unfold aQ at hx;simp only[rB,sA]at hx;obtain⟨h1,cells,h2,y,h3,h4⟩:=hx
 obtain⟨n,hn⟩:=(GN h (MF h) _).ex _ _ _ h3
 have key:∀m,n<=m->iM C (φs m) q.o6 fn.ntmps (fun tm' H'=>fM C A (φs m) fn q.cl cells .niliface tm' H') q.o6.toList tm.cut H=some y:=
  fun m hm=>Lv (h.le hm) (fun tm H x hx=>Nk (h.le hm) hx) _ _ _ _ hn
 cases hp:y.1.p with
 | false=>
  rw[hp]at h4;refine⟨n,?_⟩
  show aQ C A (φs n) fn q tm H=some x
  unfold aQ;simp only[rB,sA];exact⟨h1,cells,h2,y,hn,by rw[hp];exact h4⟩
 | true=>
  rw[hp]at h4;obtain⟨m,hm⟩:=(MF h).ex _ _ _ h4
  refine⟨max n m,?_⟩
  show aQ C A (φs (max n m)) fn q tm H=some x
  unfold aQ;simp only[rB,sA];exact⟨h1,cells,h2,y,key _ (Nat.le_max_left _ _),by rw[hp];exact Nk (h.le (Nat.le_max_right _ _)) hm⟩
def zbb{φs:Nat->xF}{φ:xF}(h:mV φs φ){f:Nat}{fn:Func}{c:gC}{tm:Tm}{H:xA}{x:eH × xA}(hx:qX C A φ f fn c tm H=some x):∃n,qX C A (φs n) f fn c tm H=some x:=by
 unfold qX at hx ⊢
 split at hx
 ·have sup:Dm (fun _=>vP C fn) (vP C fn):=⟨⟨fun _ _ _ _ h=>h,fun _ _ _ h=>⟨0,h⟩⟩,fun i=>⟨fun _ _ _ _ h=>h,fun _ _ _ h=>⟨0,h⟩⟩,⟨fun _ _ _ _ h=>h,fun _ _ _ h=>⟨0,h⟩⟩⟩
  exact(Nl h c _ _ sup).ex _ _ _ hx
 ·rename_i p _
  exact(Nl h (tW p.1) (fun n=>Ca C A (φs n) fn p.2) (Ca C A φ fn p.2) ⟨QK h,fun i=>⟨fun _ _ _ _ h=>h,fun _ _ _ h=>⟨0,h⟩⟩,⟨fun _ _ _ _ h=>h,fun _ _ _ h=>⟨0,h⟩⟩⟩).ex _ _ _ hx
def EA{φ φ':xF}(h:bO φ φ'):bO (Ej C A φ) (Ej C A φ'):=by
 intro f args H x hx
 cases f with
 | yld l=>
  have hx:Er C A φ l args H=some x:=hx
  obtain⟨r,tm,c,q,y,r2,b,h1,h2,h3,h4,hq,h5,h6,h7,h8⟩:=Hh.1 hx
  exact Hh.2 ⟨r,tm,c,q,y,r2,b,h1,h2,h3,h4,hq,Ax h _ _ _ (fP.refl _) _ _ _ h5,h6,h7,h8⟩
 | func f=>
 have hx:eS C A φ f args H=some x:=hx
 show eS C A φ' f args H=some x
 unfold eS at hx ⊢
 rw[sA]at hx ⊢
 obtain⟨c,h1,hx⟩:=hx
 refine⟨c,h1,?_⟩
 rw[sA]at hx ⊢
 obtain⟨fn,h2,hx⟩:=hx
 refine⟨fn,h2,?_⟩
 rw[sA]at hx ⊢
 obtain⟨g,h3,hx⟩:=hx
 exact⟨g,h3,ZH h _ _ _ hx⟩
def GY:∀n,bO (Cl C A n) (Cl C A (n+1)):=by
 intro n;induction n with
 | zero=>intro f args H x h;cases h
 | succ n ih=>exact EA ih
def Fo{f:AFn}{args:List zA}{H:xA}{x:eH × xA}:wD C A f args H=some x ↔ ∃n,Cl C A n f args H=some x:=
 Rj fun n _ hy=>GY n _ _ _ _ hy
def LC:mV (Cl C A) (wD C A):=⟨GY,fun _ _ _ _ h=>Fo.1 h⟩
theorem Zu(f:AFn)(args:List zA)(H:xA):wD C A f args H=Ej C A (wD C A) f args H:=by
 have key:∀x,wD C A f args H=some x ↔ Ej C A (wD C A) f args H=some x:=by
  intro x;constructor
  ·intro h
   obtain⟨n,hn⟩:=Fo.1 h
   cases n with
   | zero=>cases hn
   | succ n=>exact EA (fun f a H y hy=>Fo.2 ⟨n,hy⟩) _ _ _ _ hn
  ·intro h
   cases f with
   | yld l=>
    have h:Er C A (wD C A) l args H=some x:=h
    obtain⟨r,tm,c,q,y,r2,b,h1,h2,h3,h4,hq,h5,h6,h7,h8⟩:=Hh.1 h
    have sup:Dm (fun _=>rdK) rdK:=⟨⟨fun _ _ _ _ h=>h,fun _ _ _ h=>⟨0,h⟩⟩,fun i=>⟨fun _ _ _ _ h=>h,fun _ _ _ h=>⟨0,h⟩⟩,⟨fun _ _ _ _ h=>h,fun _ _ _ h=>⟨0,h⟩⟩⟩
    obtain⟨n,hn⟩:=(Nl LC _ _ _ sup).ex _ _ _ h5
    exact Fo.2 ⟨n+1,Hh.2 ⟨r,tm,c,q,y,r2,b,h1,h2,h3,h4,hq,hn,h6,h7,h8⟩⟩
   | func f=>
   have h:eS C A (wD C A) f args H=some x:=h
   unfold eS at h;rw[sA]at h;obtain⟨c,h1,h⟩:=h
   rw[sA]at h;obtain⟨fn,h2,h⟩:=h
   rw[sA]at h;obtain⟨g,h3,h⟩:=h
   obtain⟨n,hn⟩:=zbb LC h
   refine Fo.2 ⟨n+1,?_⟩
   show eS C A (Cl C A n) f args H=some x
   grind [eS,oA]
 cases h:wD C A f args H with
 | some x=>grind
 | none=>
  cases h2:Ej C A (wD C A) f args H with
  | none=>rfl
  | some x=>simp_all
def dX(C:cA)(A:Tr gC):Prop:=∀f c,A.get f=some c->∃fn,C.fns.get f=some fn/\fn.body=some (sE c)
theorem XQ{f:Nat}{args:List zA}{g:aB}(h:oK C f args false=some g):∃fn c,C.fns.get f=some fn/\fn.body=some c/\g.todo=[.code c]/\g.R=⟨f,fn.ntmps,[],.run,false,none⟩:=by
 grind [oK,sA,rB]
theorem Rf{α β:Type}{f g:α->Option β}:∀(l:List α) {r:List β},(∀a b,f a=some b->g a=some b)->mH f l=some r->mH g l=some r:=by
 intro l;induction l with
 | nil=>intro r _ h;exact h
 | cons a l ih=>
  grind [tQ,sA]
def bR(C:cA)(f:Nat)(acs:List aB)(fl:Bool:=false):eX:=fun ds o x=>∃fr',o=.next ⟨fr',acs,x.2⟩/\iQ C f ds fr' x.2 x.1 fl
def SQ{H:xA}{tm:Tm}{r:Nat}{d e:Option (List dH)}(hr:H.t.get r=some (.deferred d)):∀(l:List ResultVar) vs,lU C H tm l=some vs->lU C (setBlk H r (.deferred e)) tm l=some vs:=by
 intro l vs h;refine Rf l (fun rv v h=>?_) h
 cases rv with
 | tmp t=>exact h
 | cell a t=>
  have h:(ob (ob (tm.get a) zA.asPtr) fun p=>ob (C.tys.get t) fun ty=>ob (dD H p.1) fun c=>jS ty c.1 p.2)=some v:=h
  show(ob (ob (tm.get a) zA.asPtr) fun p=>ob (C.tys.get t) fun ty=>ob (dD (setBlk H r (.deferred e)) p.1) fun c=>jS ty c.1 p.2)=some v
  simp only[sA]at h ⊢
  obtain⟨p,hp,ty,ht,c,hc,hv⟩:=h
  refine⟨p,hp,ty,ht,c,?_,hv⟩
  unfold dD at hc ⊢
  rw[sA]at hc ⊢
  obtain⟨y,h1,h2⟩:=hc
  refine⟨y,?_,h2⟩
  show(H.t.set r (.deferred e)).get p.1=some y
  rw[Tr.get_set,yaa fun e=>by rw[e,hr]at h1;cases h1;cases h2]
  exact h1
def iQ.ret{f:Nat}{ds:List dH}{fr:aB}{H:xA}{o:eH}{fl:Bool}(h:iQ C f ds fr H o fl)(hp:o.p=false):Gp C f ds fr H o.v fl:=by
 unfold iQ at h;rwa [hp,yaa (by simp)]at h
def iQ.of{f:Nat}{ds:List dH}{fr:aB}{H:xA}{o:eH}{fl:Bool}(h:Gp C f ds fr H o.v fl)(hp:o.p=false):iQ C f ds fr H o fl:=by
 unfold iQ;rwa [hp,yaa (by simp)]
def Sg{f N:Nat}{acs:List aB}{fl:Bool}(hfn:∃fn,C.fns.get f=some fn):Jp C (bR C f acs fl) (fun _=>True) f N none acs fl:=by
 refine⟨?_,fun _ _=>trivial,?_,fun ds todo tm x _ hp=>⟨_,rfl,by unfold iQ;rw[yab hp];exact⟨⟨rfl,rfl,rfl,rfl⟩,hfn⟩⟩⟩
 ·rintro ds todo tm H x ⟨fr',h1,h2⟩
  cases h1;unfold iQ at h2;split at h2
  ·have:=h2.1.1;cases this
  ·have:=h2.1;cases this
 ·rintro _ r ds o x hp ⟨fr',rfl,hE⟩ hd
  obtain⟨h1,h2,h3,h4,fn,l,h5,h6,h7⟩:=hE.ret hp
  obtain⟨todo,tm,ffn,n,defers,mode,deferred,round⟩:=fr'
  simp only at h1 h2 h3 h4 h6
  subst h1 h2 h3 h4
  have hr:x.2.t.get r=some (.deferred (some [])):=by
   unfold vX at hd;rw[rB,sA]at hd;obtain⟨_,y,e1,e2⟩:=hd
   cases y<;>cases e2
   exact e1
  refine⟨_,.step ?_,⟨⟨todo,tm,⟨ffn,n,ds,.returning,deferred,round⟩⟩,rfl,iQ.of ⟨rfl,rfl,rfl,rfl,fn,l,h5,SQ hr _ _ h6,h7⟩ hp⟩⟩
  show vL C (Eh C ⟨none,r,[]⟩ ds ⟨todo,tm,⟨ffn,n,⟨none,r,[]⟩::ds,.returning,deferred,round⟩⟩ acs x.2) _
  unfold Eh;simp only[hd,oA];exact .refl _
def Nj{f:Nat}{fn:Func}{acs:List aB}{x:eH × xA}{ds:List dH}{fl:Bool}(hf:C.fns.get f=some fn){tm:Tm}{H:xA}(h:rV C fn tm H=some x){todo:List jE}{N:Nat}
  (hs:cS C todo tm (RR f N none ds fl) acs H=.next ⟨nZ ⟨todo,tm,RR f N none ds fl⟩ .returning,acs,H⟩):Fin C (bR C f acs fl) ds (.next ⟨⟨todo,tm,RR f N none ds fl⟩,acs,H⟩) x:=by
 unfold rV at h;rw[sA]at h;obtain⟨l,h1,h2⟩:=h
 cases h2;refine .step ?_
 rw[qJ rfl,hs];exact⟨_,.refl _,_,rfl,iQ.of ⟨rfl,rfl,rfl,rfl,fn,l,hf,h1,rfl⟩ rfl⟩
def RdG (l:Nat)(c:aB):eH × xA->Prop:=fun x=>∃b r2 c',x.1=⟨.bool b,false⟩/\pJ x.2 l=some r2/\cH c (.bool b)=some c'
def RdEnd(l:Nat)(c:aB)(acs:List aB):eX:=fun _ o x=>∃b r2 c',x.1=⟨.bool b,false⟩/\pJ x.2 l=some r2/\cH c (.bool b)=some c'/\o=.next ⟨c',acs,setBlk x.2 l (.loop (nP b r2))⟩
def EI{l b:Nat}(h:b≠l)(t:Tr uA)(x y:uA):(t.set l x).set b y=(t.set b y).set l x:=Tr.set_comm t _ _ _ _ (fun e=>h e.symm)
theorem ZK{C:cA}{φ:xF}{all:Array Oper}{n:Nat}{κn:Tm->xA->iB}{l0:Nat}{r0 r1:kN}:∀(l:List Oper) (tm:Tm) (H:xA) (x:eH × xA),Ci l=true->l0<H.next->H.t.get l0=some (.loop r0)->iM C φ all n κn l tm (setBlk H l0 (.loop r1))=some x →
  ∃tm' H',κn tm' (setBlk H' l0 (.loop r1))=some x/\l0<H'.next/\H'.t.get l0=some (.loop r0)/\∀(k:List jE) (R:rK) (cs:List aB),R.n=n->kM C all k R cs l tm H=xGo k tm' R cs H':=by
 intro l;induction l with
 | nil=>intro tm H x _ h1 h2 h;exact⟨tm,H,h,h1,h2,fun _ _ _ _=>rfl⟩
 | cons o l ih=>
  intro tm H x hp hl hg h;have hp:(bif (match o.op with | .move _=>nE o.guard | .assign _=>nE o.guard | .alloc _=>nE o.guard | .store _ _ _=>nE o.guard | _=>false)then Ci l else false)=true:=hp
  have hp1:(match o.op with | .move _=>nE o.guard | .assign _=>nE o.guard | .alloc _=>nE o.guard | .store _ _ _=>nE o.guard | _=>false)=true:=by
   simp_all
  rw[hp1]at hp;have hp:Ci l=true:=hp
  have hw:pG o.guard all tm=some true:=by
   have:nE o.guard=true:=by cases ho:o.op<;>rw[ho]at hp1<;>first | exact hp1 | (cases hp1;done)
   cases hx:o.guard with
   | none=>rfl
   | some g=>rw[hx]at this;cases this
  rw[Cj,hw,oA,yab rfl]at h;have key:∃v H',(yF o.op).f C (.now tm) (setBlk H l0 (.loop r1))=.val v (setBlk H' l0 (.loop r1))/\(yF o.op).f C (.now tm) H=.val v H'/\l0<H'.next/\H'.t.get l0=some (.loop r0):=by
   cases ho:o.op<;>rw[ho]at hp1 h<;>try (cases hp1;done)
   case move u=>
    have e:∀H,(yF (.move u)).f C (.now tm) H=lv (lO u) C (.now tm) H:=fun _=>rfl
    rw[e]at h
    cases hv:ev u (.now tm)with
    | none=>
     have:lv (lO u) C (.now tm) (setBlk H l0 (.loop r1))=.fail:=by unfold lv lO;rw[hv]
     rw[this]at h;cases h
    | some v=>exact⟨v,H,by rw[e];unfold lv lO;rw[hv],by rw[e];unfold lv lO;rw[hv],hl,hg⟩
   case assign u=>
    have e:∀H,(yF (.assign u)).f C (.now tm) H=lv (lO u) C (.now tm) H:=fun _=>rfl
    rw[e]at h
    cases hv:ev u (.now tm)with
    | none=>
     have:lv (lO u) C (.now tm) (setBlk H l0 (.loop r1))=.fail:=by unfold lv lO;rw[hv]
     rw[this]at h;cases h
    | some v=>exact⟨v,H,by rw[e];unfold lv lO;rw[hv],by rw[e];unfold lv lO;rw[hv],hl,hg⟩
   case alloc t=>
    have e:∀H,(yF (.alloc t)).f C (.now tm) H=bL (ob (C.tys.get t) fun ty=>some (.ptr H.next 0,xG H ty.zero (eK C t))):=fun _=>rfl
    rw[e]at h
    cases ht:C.tys.get t with
    | none=>rw[ht]at h;cases h
    | some ty=>
     refine⟨.ptr H.next 0,xG H ty.zero (eK C t),?_,by rw[e,ht];rfl,Nat.lt_succ_of_lt hl,?_⟩
     ·rw[e,ht]
      show jK.val (.ptr H.next 0) (xG (setBlk H l0 (.loop r1)) ty.zero (eK C t))=_
      congr 1
      show(⟨H.next+1,(H.t.set l0 _).set H.next _⟩:xA)=⟨H.next+1,(H.t.set H.next _).set l0 _⟩
      rw[EI (by omega)]
     ·show(H.t.set H.next _).get l0=_
      rw[Tr.get_set,yaa (by omega),hg]
   case store t a u=>
    have e:∀H,(yF (.store t a u)).f C (.now tm) H=bL (ob (C.tys.get t) fun ty=>ob (ev a (.now tm)) fun a=>ob a.asPtr fun p=>ob (ev u (.now tm)) fun v=>sB (Nat.beq (wB v.cells) ty.size) (ob (jJ C H p.1 p.2 v.cells) fun H'=>some (aD,H'))):=fun _=>rfl
    rw[e]at h
    cases hs:(ob (C.tys.get t) fun ty=>ob (ev a (.now tm)) fun a=>ob a.asPtr fun p=>ob (ev u (.now tm)) fun v=>sB (Nat.beq (wB v.cells) ty.size) (ob (jJ C (setBlk H l0 (.loop r1)) p.1 p.2 v.cells) fun H'=>some (aD,H')))with
    | none=>rw[hs]at h;cases h
    | some q=>
     have hs0:=hs
     simp only[sA,rB]at hs;obtain⟨ty,h1,a',h2,p,h3,v,h4,h5,H1,h6,h7⟩:=hs
     unfold jJ at h6;simp only[sA,rB]at h6;obtain⟨g1,c,g2,g3,g4⟩:=h6
     have hne:p.1≠l0:=by
      intro e;unfold dD at g2;have:(setBlk H l0 (.loop r1)).t.get p.1=some (.loop r1):=by
       show(H.t.set l0 _).get p.1=_
       rw[Tr.get_set,yab e]
      rw[this,oA]at g2;cases g2
     have g2':dD H p.1=some c:=by
      unfold dD at g2 ⊢
      have:(setBlk H l0 (.loop r1)).t.get p.1=H.t.get p.1:=by
       show(H.t.set l0 _).get p.1=_
       rw[Tr.get_set,yaa hne]
      rw[this]at g2;exact g2
     refine⟨aD,setBlk H p.1 (.cells (c.1.setMany v.cells p.2) c.2.1 c.2.2),?_,?_,hl,?_⟩
     ·rw[e,hs0,<- h7,<- yci g4]
      show jK.val aD (setBlk (setBlk H l0 (.loop r1)) p.1 _)=_
      congr 1
      show(⟨H.next,(H.t.set l0 _).set p.1 _⟩:xA)=⟨H.next,(H.t.set p.1 _).set l0 _⟩
      rw[EI hne]
     ·rw[e,h1,oA,h2,oA,h3,oA,h4,oA,h5]
      unfold jJ;rw[g1,g2'];simp only[oA];rw[g3];rfl
     ·show(H.t.set p.1 _).get l0=_
      rw[Tr.get_set,yaa (fun e=>hne e.symm),hg]
  obtain⟨v,H',k1,k2,k3,k4⟩:=key
  rw[k1]at h;have h:wM C o.type v (fun v=>iM C φ all n κn l (putA n tm o.dst v) (setBlk H' l0 (.loop r1)))=some x:=h
  rw[uQ]at h;obtain⟨tm',H2,m1,m2,m3,m4⟩:=ih _ H' x hp k3 k4 h.2
  refine⟨tm',H2,m1,m2,m3,fun k R cs hR=>?_⟩
  rw[Bz,hw];simp only[if_true];rw[k2];simp only[jK.asVal];rw[hR];exact m4 k R cs hR
theorem ZJ{C:cA}{φ:xF}{fn n:Nat}{κ:Kt}{c:gC}{l0:Nat}{r0 r1:kN}:∀(as:List (Nat × Array Oper)) (tm:Tm) (H:xA) (x:eH × xA),Qm as=true->l0<H.next->H.t.get l0=some (.loop r0)->fD C φ fn n (asA c as) κ tm (setBlk H l0 (.loop r1))=some x →
  ∃tm' H',fD C φ fn n c κ tm' (setBlk H' l0 (.loop r1))=some x/\H'.t.get l0=some (.loop r0)/\∀(k:List jE) (R:rK) (cs:List aB),R.n=n->R.mode.running=true->vL C (.next ⟨⟨.code (asC as)::k,tm,R⟩,cs,H⟩) (.next ⟨⟨k,tm',R⟩,cs,H'⟩):=by
 intro as;induction as with
 | nil=>intro _ _ _ h;cases h
 | cons z as ih=>
  intro tm H x hp hl hg h;have hp:(bif Ci z.2.toList then zC (fun x=>Ci x.2.toList) as else false)=true:=hp
  have hp1:Ci z.2.toList=true:=by simp_all
  have h:iM C φ z.2 n (fD C φ fn n (asA c as) κ) z.2.toList tm.cut (setBlk H l0 (.loop r1))=some x:=h
  obtain⟨tm1,H1,h1,h2,h3,h4⟩:=ZK _ _ _ _ hp1 hl hg h
  cases as with
  | nil=>
   refine⟨tm1,H1,h1,h3,fun k R cs hR hm=>.step ?_⟩
   rw[qJ hm];show vL C (kM C z.2 k R cs z.2.toList tm.cut H) _
   rw[h4 _ _ _ hR];exact .refl _
  | cons w as=>
   have hp2:Qm (w::as)=true:=by
    show zC (fun x=>Ci x.2.toList) (w::as)=true
    simp_all
   obtain⟨tm2,H2,g1,g2,g3⟩:=ih tm1 H1 x hp2 h2 h3 h1
   refine⟨tm2,H2,g1,g2,fun k R cs hR hm=>.step ?_⟩
   rw[qJ hm];show vL C (kM C z.2 (.code (asC (w::as))::k) R cs z.2.toList tm.cut H) _
   rw[h4 _ _ _ hR];exact g3 _ _ _ hR hm
theorem SM{φ:xF}(hφ:iR C φ){l:Nat}{args:List zA}{H:xA}{x:eH × xA}(h:Er C A φ l args H=some x) :
  ∃r tm,pJ H l=some r/\oZ r.n r.params args r.tm=some tm/\x.1.p=false/\∀c acs c',cH c x.1.v=some c'->vL C (.next ⟨Wy r l tm,c::acs,H⟩) (.next ⟨c',acs,x.2⟩):=by
 obtain⟨r,tm,cc,q,y,r2,b,h1,h2,h3,h4,⟨⟨q1,q2,q3,q4,q5,q6⟩,hlt⟩,h5,h6,h7,rfl⟩:=Hh.1 h
 refine⟨r,tm,h1,h2,rfl,fun c acs c' hc=>?_⟩
 have hg:H.t.get l=some (.loop r):=by
  unfold pJ at h1;rw[rB,sA]at h1;obtain⟨_,y,e1,e2⟩:=h1
  cases y<;>cases e2
  exact e1
 have h256:256<=l:=by
  unfold pJ at h1;rw[rB]at h1;exact kE.1 h1.1
 have h5:fD C φ r.fn r.n (asA q.c q.as) rdK tm (setBlk H l (.loop (Gc r)))=some y:=h5
 obtain⟨tm',H',h8,hg',h9⟩:=ZJ _ _ _ _ q5 hlt hg h5
 have h1':pJ H' l=some r:=by
  unfold pJ;rw[hg',oA,kE.2 h256];rfl
 unfold Wy;rw[q1,q2];refine(h9 [.beginRound,.code (sE q.c)] _ _ rfl rfl).trans (.step ?_)
 show vL C (cS C (.beginRound::[.code (sE q.c)]) tm' ⟨r.fn,r.n,[],.run,false,some l⟩ (c::acs) H') _
 have hb:cS C (.beginRound::[.code (sE q.c)]) tm' ⟨r.fn,r.n,[],.run,false,some l⟩ (c::acs) H'=.next ⟨⟨[.code (sE q.c)],tm',RR r.fn r.n (some l) []⟩,c::acs,setBlk H' l (.loop (Gc r))⟩:=by
  show Ka C [.code (sE q.c)] tm' _ (c::acs) H'=_
  unfold Ka;simp only[oA];rw[h1',oA,q4];rfl
 rw[hb];have hc:cH c (.bool b)=some c':=hc
 have hE:Jp C (RdEnd l c acs) (RdG l c) r.fn r.n (some l) (c::acs):=by
  refine⟨?_,fun e=>(by cases e),fun e=>(by cases e),?_⟩
  ·rintro ds todo tm H x ⟨b,r2,c',_,_,_,e⟩
   simp_all
  ·rintro ds todo tm x ⟨b,r2,c',e,_,_⟩ hp
   rw[e]at hp;cases hp
 have hK:Jk C (RdEnd l c acs) (RdG l c) r.fn r.n (some l) (c::acs) rdK []:=by
  refine⟨?_,fun _ _ _ _ _ _ h=>(by cases h),?_⟩
  ·rintro ds x tm H ⟨b,r2,c',g1,g2,g3⟩ h
   cases h
   cases g1
   refine .step ?_
   rw[qJ rfl];have:cS C [] tm (RR r.fn r.n (some l) ds) (c::acs) H=.next ⟨c',acs,setBlk H l (.loop (nP true r2))⟩:=by
    have e0:cS C [] tm (RR r.fn r.n (some l) ds) (c::acs) H=iT none C ⟨[],tm,RR r.fn r.n (some l) ds⟩ (c::acs) H:=rfl
    rw[e0];unfold iT;simp only[g2,oA];show vM (ob (cH c (.bool true)) _) 7=_
    rw[g3];rfl
   rw[this];exact⟨_,.refl _,true,r2,c',rfl,g2,g3,rfl⟩
  ·rintro ds x tm H ⟨b,r2,c',g1,g2,g3⟩ h k'
   cases h
   cases g1
   refine .step ?_
   rw[qJ rfl];have:cS C (.code .ret::k') tm (RR r.fn r.n (some l) ds) (c::acs) H=.next ⟨c',acs,setBlk H l (.loop (nP false r2))⟩:=by
    have e0:cS C (.code .ret::k') tm (RR r.fn r.n (some l) ds) (c::acs) H=iT (some .ret) C ⟨.code .ret::k',tm,RR r.fn r.n (some l) ds⟩ (c::acs) H:=rfl
    rw[e0];unfold iT;simp only[g2,oA];show vM (ob (cH c (.bool false)) _) 7=_
    rw[g3];rfl
   rw[this];exact⟨_,.refl _,false,r2,c',rfl,g2,g3,rfl⟩
 obtain⟨o',k1,b',r2',c'',k2,k3,k4,rfl⟩:=Sw hφ hE q.c rdK [] (Or.inr q6) hK [] y tm' _ ⟨b,r2,c',h7,h6,hc⟩ h8
 simp_all
def Xe{c:gC}{i:Nat}{o:Array Oper}(h:regO c=some (i,o)):sE c=.region i o false:=by
 cases c with
 | region id ops d=>cases d<;>cases h;rfl
 | cut p c=>
  cases c with
  | region id ops d=>cases d<;>cases h;rfl
  | _=>cases h
 | _=>cases h
def QJ{c:gC}{q:fQ}(h:Pm c=some q):sE c=.seq (.region q.i5 q.o5 false) (.seq (.region q.i6 q.o6 false) .ret)/\Fw q.o5.toList=some (q.d,q.cl,q.bs):=by
 unfold Pm at h;split at h
 ·simp only[sA]at h
  obtain⟨u,h1,v,h2,r,h3,h4⟩:=h
  cases h4;refine⟨?_,h3⟩
  show Code.seq (sE _) (.seq (sE _) .ret)=_
  rw[Xe h1,Xe h2]
 ·cases h
def Nc(l:List gC)(e:Code):Code:=List.rec (motive:=fun _=>Code) e (fun a _ g=>.seq (sE a) g) l
def RM:∀(c:gC) {l:List gC} {q:fQ},bV c=some (l,q)->sE c=Nc l (.seq (.region q.i5 q.o5 false) (.seq (.region q.i6 q.o6 false) .ret))/\Fw q.o5.toList=some (q.d,q.cl,q.bs):=by
 intro c;induction c with
 | seq a b _ ih=>
  intro l q h;have h:(match Pm (.seq a b)with | some q=>some ([],q) | none=>ob (bV b) fun p=>some (a::p.1,p.2))=some (l,q):=h
  split at h
  ·rename_i h1
   cases h;exact QJ h1
  ·rw[sA]at h
   obtain⟨p,h1,h2⟩:=h
   cases h2;obtain⟨g1,g2⟩:=ih h1
   exact⟨by show Code.seq (sE a) (sE b)=_;rw[g1];rfl,g2⟩
 | _=>intro l q h;cases h
def za7{c:gC}{q:ClQ}(h:Fz c=some q):sE c=.seq (.region q.i q.o false) (sE q.c)/\recO q.o.toList=some (q.d,q.e):=by
 unfold Fz at h;split at h
 ·simp only[sA]at h
  obtain⟨u,h1,v,h2,h3⟩:=h
  cases h3;refine⟨?_,h2⟩
  show Code.seq (sE _) (sE _)=_
  rw[Xe h1]
 ·cases h
def zax{l:List Oper}{d cl:Nat}{bs:List Operand}(h:Fw l=some (d,cl,bs)):∃as' bs' t p a cc t' p' a',l=[⟨some d,.makeFunc (.func cl) as' bs',t,p,a,none⟩,⟨none,.defer cc,t',p',a',none⟩]/\as'.toList=[]/\bs'.toList=bs/\cc.callee=.value (.tmp d)/\cc.args.toList=[]:=by
 unfold Fw at h;split at h
 ·split at h
  ·rename_i e1 e2 e3
   simp only[lD]at h;split at h
   ·rename_i e
    cases h;exact⟨_,_,_,_,_,_,_,_,_,rfl,e1,rfl,by rw[e2,eC.1 e],e3⟩
   ·cases h
  ·cases h
 ·cases h
def SZ{l:List Oper}{d e:Nat}(h:recO l=some (d,e)):∃cc t p a t' p' a',l=[⟨some d,.call cc,t,p,a,none⟩,⟨some e,.assign (.tmp d),t',p',a',none⟩]/\cc.callee=.builtin .recover:=by
 unfold recO at h;split at h
 ·split at h
  ·rename_i e1
   simp only[lD]at h;split at h
   ·rename_i e
    cases h;exact⟨_,_,_,_,_,_,_,by rw[eC.1 e],e1⟩
   ·cases h
  ·cases h
 ·cases h
def UJ{φ:xF}(hφ:iR C φ){E:eX}{ds:List dH}{x:eH × xA}{R:rK}{acs:List aB}{k:List jE}{all:Array Oper}{N:Nat}{I:Tm->Prop}(hR:R.mode.running=true)(hN:R.n=N)(hP:∀l tm,I tm->x.1.p=true->E ds (.next ⟨wW ⟨.ops all l::k,tm,R⟩ [⟨x.1.v,false⟩],acs,x.2⟩) x){κn:Tm->xA->iB}(hκ:∀tm H,I tm->κn tm H=some x->Fin C E ds (.next ⟨⟨k,tm,R⟩,acs,H⟩) x) :
  ∀(l:List Oper) (tm:Tm) (H:xA),(∀o∈l,∀tm v,I tm->I (putA N tm o.dst v))->I tm->iM C φ all N κn l tm H=some x->Fin C E ds (kM C all k R acs l tm H) x:=by
 intro l;induction l with
 | nil=>exact fun tm H _ hI h=>hκ tm H hI h
 | cons o l ih=>
  intro tm H hd hI h;have hd1:=fun tm v h=>hd o yby tm v h
  have ih:=fun tm H=>ih tm H fun o ho=>hd o (ybr _ ho)
  rw[Cj,sA]at h;obtain⟨w,h1,h⟩:=h
  rw[Bz,h1]
  cases w with
  | false=>
   simp only[ybq,if_false]at h ⊢
   rw[hN];exact ih _ _ (hd1 _ _ hI) h
  | true=>
   rw[yab rfl]at h;simp only[];generalize (yF o.op).f C (.now tm) H=r at h
   cases hv:r.asVal with
   | some p=>
    have e:r=.val p.1 p.2:=by cases r<;>simp[jK.asVal]at hv;rw[<- hv]
    rw[e]at h;simp only[cG]at h;rw[uQ]at h;simp only[if_true];rw[hN];exact ih _ _ (hd1 _ _ hI) h.2
   | none=>
    simp only[if_true];refine Xc hφ h (fun v H' c' hc hK=>?_) (fun v=>⟨⟨.ops all l::k,putA R.n tm o.dst v,R⟩,by unfold cH;simp only[hR,cond_true];rfl⟩) (tY hR) (hP _ _ hI)
    unfold cH at hc;simp only[hR,cond_true]at hc;have hc:some (⟨.ops all l::k,putA R.n tm o.dst v,R⟩:aB)=some c':=hc
    cases hc;refine .step ?_
    rw[qJ hR,hN];rw[uQ]at hK;exact ih _ _ (hd1 _ _ hI) hK.2
def cutK{n:Nat}{tm:Tm}{d:Nat}{v:zA}(h:tm.k<=d):(putA n tm (some d) v).cut=tm.cut:=by
 show(Hr d n tm v).cut=_
 unfold Hr;simp only[lD];split
 ·unfold Tm.set
  rw[nK,yaa (by rw[kC];omega)]
  rfl
 ·rfl
def zaw{l:List Oper}{d cl:Nat}{bs:List Operand}{cells:List zA}(h:Fw l=some (d,cl,bs)){tm:Tm}{H:xA}(he:jO bs (.now tm)=some cells){f n:Nat}{ds:List dH}{acs:List aB}{k:List jE}{all:Array Oper}(hd:d<n) :
  kM C all k (RR f n none ds) acs l tm H=.next ⟨⟨.ops all []::k,putA n tm (some d) (.func (.func cl) [] cells),RR f n none (⟨some (.func cl),0,cells⟩::ds)⟩,acs,H⟩:=by
 obtain⟨as',bs',t,p,a,cc,t',p',a',rfl,e1,e2,e3,e4⟩:=zax h
 subst e2;obtain⟨ca,cargs,caty⟩:=cc
 simp only at e3 e4
 subst e3;have f1:(yF (.makeFunc (.func cl) as' bs')).f C (.now tm) H=.val (.func (.func cl) [] cells) H:=by
  show lv (Ii cl as' bs') C (.now tm) H=_
  unfold lv Ii;rw[e1];show(match ob (some []) _ with | some v=>jK.val v H | none=>.fail)=_
  rw[oA,he];rfl
 have f2:(yF (.defer ⟨.value (.tmp d),cargs,caty⟩)).f C (.now (putA n tm (some d) (.func (.func cl) [] cells))) H=.defer ⟨some (.func cl),0,cells⟩:=by
  show lZ (ob (tS (.tmp d) cargs (.now (putA n tm (some d) (.func (.func cl) [] cells)))) fun p=>some (.defer ⟨some p.1,0,yE p.2.1 p.2.2⟩))=_
  have:tS (.tmp d) cargs (.now (putA n tm (some d) (.func (.func cl) [] cells)))=some (.func cl,[],cells):=by
   unfold tS;rw[e4,show ev (.tmp d) (.now (putA n tm (some d) (.func (.func cl) [] cells)))=(putA n tm (some d) (.func (.func cl) [] cells)).get d from rfl,oJ,yab ⟨rfl,hd⟩]
   rfl
  rw[this];rfl
 rw[Bz];show(match ((yF (.makeFunc (.func cl) as' bs')).f C (.now tm) H).asVal with | some p=>_ | none=>_)=_
 rw[f1];show kM C all k (RR f n none ds) acs _ (putA n tm (some d) (.func (.func cl) [] cells)) H=_
 rw[Bz];show(match ((yF (.defer ⟨.value (.tmp d),cargs,caty⟩)).f C (.now (putA n tm (some d) (.func (.func cl) [] cells))) H).asVal with | some p=>_ | none=>_)=_
 rw[f2];rfl
def SY{φ:xF}{E:eX}{l:List Oper}{d e:Nat}(h:recO l=some (d,e)){tm:Tm}{H:xA}{f n:Nat}{ds:List dH}{acs:List aB}{k:List jE}{all:Array Oper}{x:eH × xA}(hd:d<n){c c':aB}{v:zA}
  (hc:(c.R.mode=.returning/\v=.niliface/\c'=c)\/(c.R.mode=.panicking [⟨v,false⟩]/\c'=nZ c (.panicking [⟨v,true⟩]))) (hf:Fin C E ds (.next ⟨⟨k,putA n (putA n tm (some d) v) (some e) v,RR f n none ds true⟩,c'::acs,H⟩) x) :
  Fin C E ds (kM C all k (RR f n none ds true) (c::acs) l tm H) x:=by
 obtain⟨cc,t,p,a,t',p',a',rfl,e1⟩:=SZ h
 obtain⟨ca,cargs,caty⟩:=cc
 simp only at e1
 subst e1;have f1:(yF (.call ⟨.builtin .recover,cargs,caty⟩)).f C (.now tm) H=.recover:=rfl
 rw[Bz];have f3:kM C all k (RR f n none ds true) (c'::acs) [⟨some e,.assign (.tmp d),t',p',a',none⟩] (putA n tm (some d) v) H=.next ⟨⟨k,putA n (putA n tm (some d) v) (some e) v,RR f n none ds true⟩,c'::acs,H⟩:=by
  rw[Bz];show(match ((yF (.assign (.tmp d))).f C (.now (putA n tm (some d) v)) H).asVal with | some p=>_ | none=>_)=_
  have:(yF (.assign (.tmp d))).f C (.now (putA n tm (some d) v)) H=.val v H:=by
   show lv (lO (.tmp d)) C (.now (putA n tm (some d) v)) H=_
   unfold lv lO;rw[show ev (.tmp d) (.now (putA n tm (some d) v))=(putA n tm (some d) v).get d from rfl,oJ,yab ⟨rfl,hd⟩]
  rw[this];rfl
 have f4:Ln C ⟨.ops all (⟨some d,.call ⟨.builtin .recover,cargs,caty⟩,t,p,a,none⟩::[⟨some e,.assign (.tmp d),t',p',a',none⟩])::k,tm,RR f n none ds true⟩ (c::acs) H=.next ⟨⟨.ops all [⟨some e,.assign (.tmp d),t',p',a',none⟩]::k,putA n tm (some d) v,RR f n none ds true⟩,c'::acs,H⟩:=by
  obtain⟨ctodo,ctm,cfn,cn,cdefers,cmode,cdef,cround⟩:=c
  rcases hc with⟨h1,rfl,rfl⟩ | ⟨h1,rfl⟩
  ·simp only at h1
   subst h1;rfl
  ·simp only at h1
   subst h1;rfl
 show Fin C E ds (Ln C ⟨.ops all (⟨some d,.call ⟨.builtin .recover,cargs,caty⟩,t,p,a,none⟩::[⟨some e,.assign (.tmp d),t',p',a',none⟩])::k,tm,RR f n none ds true⟩ (c::acs) H) x
 rw[f4];refine .step ?_
 rw[qJ rfl];show Fin C E ds (kM C all k (RR f n none ds true) (c'::acs) [⟨some e,.assign (.tmp d),t',p',a',none⟩] (putA n tm (some d) v) H) x
 rw[f3];exact hf
theorem YJ(hA:dX C A){φ:xF}(hφ:iR C φ){cl:Nat}{cells:List zA}{v:zA}{H:xA}{y:eH × xA}{acs:List aB}{c c':aB}
  (hc:(c.R.mode=.returning/\v=.niliface/\c'=c)\/(c.R.mode=.panicking [⟨v,false⟩]/\c'=nZ c (.panicking [⟨v,true⟩]))) (h:kR C A φ cl cells v H=some y) (hy:y.1.p=false) :
  C.prims.get cl=none/\∃g,oK C cl cells true=some g/\∃fr',vL C (.next ⟨g,c::acs,H⟩) (.next ⟨fr',c'::acs,y.2⟩)/\Gp C cl [] fr' y.2 y.1.v true:=by
 unfold kR at h;simp only[sA,rB,ybb]at h;obtain⟨fc,h1,cc,h2,q,h3,⟨h4,h5⟩,g,h6,h7⟩:=h
 have hpr:C.prims.get cl=none:=by
  cases hx:C.prims.get cl with
  | none=>rfl
  | some u=>rw[hx]at h4;cases h4
 refine⟨hpr,g,h6,?_⟩
 obtain⟨fc',g1,g2⟩:=hA _ _ h2
 rw[h1]at g1
 cases g1
 obtain⟨g3,g4⟩:=za7 h3
 have g5:g.todo=[.code (sE cc)]/\g.R=⟨cl,fc.ntmps,[],.run,true,none⟩:=by
  grind [oK,sA,rB]
 obtain⟨gt,gtm,gR⟩:=g
 obtain⟨rfl,rfl⟩:=g5
 have hK:Jk C (bR C cl (c'::acs) true) (fun _=>True) cl fc.ntmps none (c'::acs) (vP C fc) [] true:=⟨fun ds x tm H _ h=>Nj h1 h rfl,fun ds x i tm H _ h=>(by cases h),fun ds x tm H _ h k'=>Nj h1 h rfl⟩
 have k1:=Sw hφ (Sg (fl:=true) ⟨fc,h1⟩) q.c (vP C fc) [] (Or.inl rfl) hK [] y _ H trivial h7
 have k2:Fin C (bR C cl (c'::acs) true) [] (.next ⟨⟨[.code (sE cc)],gtm,RR cl fc.ntmps none [] true⟩,c::acs,H⟩) y:=by
  refine .step ?_
  rw[qJ rfl,g3];exact SY (φ:=φ) g4 (kC.1 h5) hc k1
 obtain⟨o',k3,fr',rfl,k4⟩:=k2
 exact⟨fr',k3,k4.ret hy⟩
def zei(hA:dX C A){φ:xF}(hφ:iR C φ){cl:Nat}{cells:List zA}{v:zA}{H:xA}{y:eH × xA}{acs:List aB}{c:aB}{ds:List dH}(hd:c.R.defers=⟨some (.func cl),0,cells⟩::ds)
  (hm:(c.R.mode=.returning/\v=.niliface)\/c.R.mode=.panicking [⟨v,false⟩]) (h:kR C A φ cl cells v H=some y) (hy:y.1.p=false) :
  vL C (.next ⟨c,acs,H⟩) (.next ⟨⟨c.todo,c.tm,⟨c.R.fn,c.R.n,ds,.returning,c.R.deferred,c.R.roundOf⟩⟩,acs,y.2⟩):=by
 obtain⟨ctodo,ctm,cfn,cn,cdefers,cmode,cdef,cround⟩:=c
 simp only at hd hm
 subst hd;have hx:∀m:kV,((m=.returning/\v=.niliface)\/m=.panicking [⟨v,false⟩])->∀c':aB,c'=(⟨ctodo,ctm,⟨cfn,cn,ds,m,cdef,cround⟩⟩:aB)->∃c'':aB,((c'.R.mode=.returning/\v=.niliface/\c''=c')\/(c'.R.mode=.panicking [⟨v,false⟩]/\c''=nZ c' (.panicking [⟨v,true⟩])))/\∀fr' H,Gp C cl [] fr' H y.1.v true->nU C (.next ⟨fr',c''::acs,H⟩)=.next ⟨⟨ctodo,ctm,⟨cfn,cn,ds,.returning,cdef,cround⟩⟩,acs,H⟩:=by
  intro m hm c' hc';subst hc'
  have ret:∀(c'':aB),c''.R.mode=.returning\/c''.R.mode=.panicking [⟨v,true⟩]->∀fr' H,Gp C cl [] fr' H y.1.v true->nU C (.next ⟨fr',c''::acs,H⟩)=.next ⟨nZ c'' .returning,acs,H⟩:=by
   rintro c'' hcm fr' H ⟨h1,h2,h3,h4,fn,l,h5,h6,h7⟩
   obtain⟨todo,tm,ffn,n,defers,mode,deferred,round⟩:=fr'
   obtain⟨c2todo,c2tm,c2fn,c2n,c2defers,c2mode,c2def,c2round⟩:=c''
   simp only at h1 h2 h3 h4 h6 hcm
   subst h1 h2 h3 h4
   show Ef C ⟨todo,tm,_⟩ (_::acs) H=_
   unfold Ef;rw[h5,oA,h6];rcases hcm with rfl | rfl<;>rfl
  rcases hm with⟨rfl,rfl⟩ | rfl
  ·exact⟨_,.inl ⟨rfl,rfl,rfl⟩,fun fr' H hr=>ret _ (.inl rfl) fr' H hr⟩
  ·exact⟨_,.inr ⟨rfl,rfl⟩,fun fr' H hr=>ret _ (.inr rfl) fr' H hr⟩
 obtain⟨c'',h1,h2⟩:=hx cmode hm _ rfl
 obtain⟨hp,g,h3,fr',h4,h5⟩:=YJ hA hφ (acs:=acs) h1 h hy
 refine .step ?_
 have e:nU C (.next ⟨⟨ctodo,ctm,⟨cfn,cn,⟨some (.func cl),0,cells⟩::ds,cmode,cdef,cround⟩⟩,acs,H⟩)=.next ⟨g,⟨ctodo,ctm,⟨cfn,cn,ds,cmode,cdef,cround⟩⟩::acs,H⟩:=by
  have e1:nU C (.next ⟨⟨ctodo,ctm,⟨cfn,cn,⟨some (.func cl),0,cells⟩::ds,cmode,cdef,cround⟩⟩,acs,H⟩)=Eh C ⟨some (.func cl),0,cells⟩ ds ⟨ctodo,ctm,⟨cfn,cn,⟨some (.func cl),0,cells⟩::ds,cmode,cdef,cround⟩⟩ acs H:=by
   rcases hm with⟨rfl,_⟩ | rfl<;>rfl
  rw[e1];unfold Eh;simp only[];rw[hp];simp only[];rw[h3];rfl
 rw[e];refine h4.trans (.step ?_)
 rw[h2 _ _ h5];exact .refl _
def SO{H:xA}{tm tm':Tm}:∀ {l:List ResultVar},(∀r∈l,∃a t,r=.cell a t/\tm'.get a=tm.get a)->lU C H tm' l=lU C H tm l:=by
 intro l;induction l with
 | nil=>exact fun _=>rfl
 | cons r l ih=>
  intro h;obtain⟨a,t,rfl,h1⟩:=h _ yby
  have ih:=ih fun r hr=>h r (ybr _ hr)
  show mH (vS C H tm') _=mH (vS C H tm) _
  rw[tQ,tQ];have e:vS C H tm' (.cell a t)=vS C H tm (.cell a t):=by
   show(ob (ob (tm'.get a) zA.asPtr) fun p=>ob (C.tys.get t) fun ty=>ob (dD H p.1) fun c=>jS ty c.1 p.2)=_
   rw[h1];rfl
  rw[e];have ih:mH (vS C H tm') l=mH (vS C H tm) l:=ih
  rw[ih]
def YU{l:List ResultVar}{o6:List Oper}(h:Nt l o6=true):∀r∈l,∃a t,r=.cell a t/\∀o∈o6,o.dst≠some a:=by
 unfold Nt at h;rw[fI,ycb]at h;intro r hr;have:=h r hr
 cases r with
 | tmp t=>cases this
 | cell a t=>
  refine⟨a,t,rfl,fun o ho e=>?_⟩
  have this:zC (fun o=>match o.dst with | some d => !Nat.beq d a | none=>true) o6=true:=this
  rw[fI,ycb]at this;have:=this o ho
  rw[e]at this;simp at this
def QL(hA:dX C A){φ:xF}(hφ:iR C φ){f:Nat}{fn:Func}{q:fQ}(hf:C.fns.get f=some fn)(hq:Fw q.o5.toList=some (q.d,q.cl,q.bs)){acs:List aB}{ds:List dH}{tm:Tm}{H:xA}{x:eH × xA}(h:aQ C A φ fn q tm H=some x) :
  Fin C (bR C f acs) ds (.next ⟨⟨[.code (.seq (.region q.i5 q.o5 false) (.seq (.region q.i6 q.o6 false) .ret))],tm,RR f fn.ntmps none ds⟩,acs,H⟩) x:=by
 unfold aQ at h;simp only[rB,sA,ybb]at h;obtain⟨⟨h1,h2,h3⟩,cells,h4,y,h5,h6⟩:=h
 have hc:=YU h1
 let I:Tm->Prop:=fun tm'=>∀r∈fn.results.toList,∃a t,r=.cell a t/\tm'.get a=tm.cut.get a
 let D:dH:=⟨some (.func q.cl),0,cells⟩
 let E6:eX:=fun _ o y=>if y.1.p=true then ∃fr,o=.next ⟨fr,acs,y.2⟩/\fr.R=⟨f,fn.ntmps,D::ds,.panicking [⟨y.1.v,false⟩],false,none⟩/\I fr.tm else bR C f acs false ds o y
 have close:∀(c:aB) (H:xA) (v:zA) (tm0:Tm) (z:eH × xA),c.R=⟨f,fn.ntmps,D::ds,c.R.mode,false,none⟩->((c.R.mode=.returning/\v=.niliface)\/c.R.mode=.panicking [⟨v,false⟩])->(∀r∈fn.results.toList,∃a t,r=.cell a t/\c.tm.get a=tm0.get a)->fM C A φ fn q.cl cells v tm0 H=some z->z.1.p=false/\∃o',vL C (.next ⟨c,acs,H⟩) o'/\bR C f acs false ds o' z:=by
  intro c H v tm0 z e1 e2 e3 e4;unfold fM at e4;rw[sA]at e4;obtain⟨w,e5,e6⟩:=e4
  rw[rB]at e6;unfold rV at e6;rw[sA]at e6;obtain⟨e7,l,e8,e9⟩:=e6
  cases e9
  have hd:c.R.defers=D::ds:=by rw[e1]
  have r1:=zei hA hφ (acs:=acs) hd e2 e5 (by simpa using e7)
  refine⟨rfl,_,r1,_,rfl,iQ.of ⟨rfl,rfl,by rw[e1],by rw[e1],fn,l,hf,?_,rfl⟩ rfl⟩
  show lU C w.2 c.tm fn.results.toList=some l
  rw[SO e3];exact e8
 refine .step ?_
 rw[qJ rfl];show Fin C (bR C f acs) ds (kM C q.o5 [.code (.seq (.region q.i6 q.o6 false) .ret)] (RR f fn.ntmps none ds) acs q.o5.toList tm.cut H) x
 rw[zaw hq h4 (kC.1 h3)]
 refine .step ?_
 rw[qJ rfl];show Fin C (bR C f acs) ds (.next ⟨⟨[.code (.seq (.region q.i6 q.o6 false) .ret)],putA fn.ntmps tm.cut (some q.d) (.func (.func q.cl) [] cells),RR f fn.ntmps none (D::ds)⟩,acs,H⟩) x
 refine .step ?_
 rw[qJ rfl];show Fin C (bR C f acs) ds (kM C q.o6 [.code .ret] (RR f fn.ntmps none (D::ds)) acs q.o6.toList (putA fn.ntmps tm.cut (some q.d) (.func (.func q.cl) [] cells)).cut H) x
 rw[cutK (show tm.cut.k<=q.d from kE.1 h2)]
 have r6:Fin C E6 (D::ds) (kM C q.o6 [.code .ret] (RR f fn.ntmps none (D::ds)) acs q.o6.toList tm.cut.cut H) y:=by
  refine UJ hφ (I:=I) (N:=fn.ntmps) rfl rfl (fun l tm' hI hp=>?_) (fun tm' H' hI hy=>?_) _ _ _ (fun o ho tm' v hI r hr=>?_) (fun r hr=>?_) h5
  ·show if y.1.p=true then _ else _
   rw[yab hp];exact⟨_,rfl,rfl,hI⟩
  ·have:nU C (.next ⟨⟨[.code .ret],tm',RR f fn.ntmps none (D::ds)⟩,acs,H'⟩)=.next ⟨⟨[.code .ret],tm',⟨f,fn.ntmps,D::ds,.returning,false,none⟩⟩,acs,H'⟩:=rfl
   refine .step ?_
   rw[this];obtain⟨z1,o',z2,z3⟩:=close ⟨[.code .ret],tm',⟨f,fn.ntmps,D::ds,.returning,false,none⟩⟩ H' .niliface tm' y rfl (.inl ⟨rfl,rfl⟩) (fun r hr=>by obtain⟨a,t,rfl,_⟩:=hc r hr;exact⟨a,t,rfl,rfl⟩) hy
   refine⟨o',z2,?_⟩
   show if y.1.p=true then _ else _
   rw[z1,yaa (by simp)]
   exact z3
  ·obtain⟨a,t,rfl,h7⟩:=hI r hr
   obtain⟨a',t',e,h8⟩:=hc _ hr
   cases e
   exact⟨a,t,rfl,by rw[oJ,yaa (fun e=>h8 o ho e.1)];exact h7⟩
  ·obtain⟨a,t,rfl,_⟩:=hc r hr
   exact⟨a,t,rfl,rfl⟩
 obtain⟨o',g1,g2⟩:=r6
 have g2:if y.1.p=true then ∃fr,o'=.next ⟨fr,acs,y.2⟩/\fr.R=⟨f,fn.ntmps,D::ds,.panicking [⟨y.1.v,false⟩],false,none⟩/\I fr.tm else bR C f acs false ds o' y:=g2
 cases hp:y.1.p with
 | false=>
  rw[hp]at h6 g2;rw[yaa (by simp)]at g2
  have h6:some y=some x:=h6
  cases h6;exact⟨o',g1,g2⟩
 | true=>
  rw[hp]at h6 g2;rw[yab rfl]at g2;have h6:fM C A φ fn q.cl cells y.1.v tm.cut y.2=some x:=h6
  obtain⟨fr,rfl,e1,e2⟩:=g2
  obtain⟨_,o'',z2,z3⟩:=close fr y.2 y.1.v tm.cut x (by rw[e1]) (.inr (by rw[e1])) e2 h6
  exact⟨o'',g1.trans z2,z3⟩
def ZG(hA:dX C A){φ:xF}(hφ:iR C φ){f:Nat}{fn:Func}{c:gC}(hf:C.fns.get f=some fn){acs:List aB}{tm:Tm}{H:xA}{x:eH × xA}(h:qX C A φ f fn c tm H=some x) :
  Fin C (bR C f acs) [] (.next ⟨⟨[.code (sE c)],tm,RR f fn.ntmps none []⟩,acs,H⟩) x:=by
 unfold qX at h;split at h
 ·have hK:Jk C (bR C f acs) (fun _=>True) f fn.ntmps none acs (vP C fn) []:=⟨fun ds x tm H _ h=>Nj hf h rfl,fun ds x i tm H _ h=>(by cases h),fun ds x tm H _ h k'=>Nj hf h rfl⟩
  exact Sw hφ (Sg ⟨fn,hf⟩) c (vP C fn) [] (Or.inl rfl) hK [] x tm H trivial h
 ·rename_i p hp
  obtain⟨l,q⟩:=p
  obtain⟨h1,h2⟩:=RM c hp
  rw[h1];clear h1 hp
  have key:∀(l:List gC) ds x tm H,fD C φ f fn.ntmps (tW l) (Ca C A φ fn q) tm H=some x->Fin C (bR C f acs) ds (.next ⟨⟨[.code (Nc l (.seq (.region q.i5 q.o5 false) (.seq (.region q.i6 q.o6 false) .ret)))],tm,RR f fn.ntmps none ds⟩,acs,H⟩) x:=by
   intro l;induction l with
   | nil=>exact fun ds x tm H h=>QL hA hφ hf h2 h
   | cons a l ih=>
    intro ds x tm H h;refine Sj (Sg ⟨fn,hf⟩) (t1:=[.code (Nc (a::l) _)]) rfl (t2:=.code (sE a)::[.code (Nc l (.seq (.region q.i5 q.o5 false) (.seq (.region q.i6 q.o6 false) .ret)))]) (fun _ _=>rfl) ?_
    have hK:Jk C (bR C f acs) (fun _=>True) f fn.ntmps none acs ⟨fD C φ f fn.ntmps (tW l) (Ca C A φ fn q),fun _ _ _=>none,rV C fn⟩ [.code (Nc l (.seq (.region q.i5 q.o5 false) (.seq (.region q.i6 q.o6 false) .ret)))]:=
     ⟨fun ds x tm H _ h=>ih ds x tm H h,fun ds x i tm H _ h=>(by cases h),fun ds x tm H _ h k'=>Nj hf h rfl⟩
    exact Sw hφ (Sg ⟨fn,hf⟩) a _ _ (Or.inl rfl) hK ds x tm H trivial h
  exact key l [] x tm H h
theorem RH(hA:dX C A){φ:xF}(hφ:iR C φ):iR C (Ej C A φ):=by
 refine⟨fun f args H x h=>?_,fun l args H x h=>SM hφ h⟩
 have h:eS C A φ f args H=some x:=h
 unfold eS at h;rw[sA]at h;obtain⟨c,h1,h⟩:=h
 rw[sA]at h;obtain⟨fn,h2,h⟩:=h
 rw[sA]at h;obtain⟨g,h3,h⟩:=h
 refine⟨g,h3,fun acs=>?_⟩
 obtain⟨fn',c',e1,e2,e3,e4⟩:=XQ h3
 rw[h2]at e1;cases e1
 obtain⟨fn',e5,e6⟩:=hA f c h1
 rw[h2]at e5;cases e5
 rw[e2]at e6;cases e6
 obtain⟨gt,gtm,gR⟩:=g
 simp only at e3 e4 h
 subst e3 e4
 obtain⟨o',k1,fr',rfl,k2⟩:=ZG hA hφ h2 (acs:=acs) h
 grind
def GZ(hA:dX C A):∀n,iR C (Cl C A n):=by
 intro n;induction n with
 | zero=>exact⟨fun f args H x h=>(by cases h),fun l args H x h=>(by cases h)⟩
 | succ n ih=>exact RH hA ih
def zag(hA:dX C A):iR C (wD C A):=by
 refine⟨fun f args H x h=>?_,fun f args H x h=>?_⟩
 ·obtain⟨n,hn⟩:=Fo.1 h
  exact(GZ hA n).fn _ _ _ _ hn
 ·obtain⟨n,hn⟩:=Fo.1 h
  exact(GZ hA n).rd _ _ _ _ hn
theorem YV{P:Program}{B N:Nat}{I:World->Prop}{μ:Mu}{w:World}(hS:xL P C B N I)(hI:I w)(hA:dX C A){f:Nat}{args:List zA}{args':Array Value}{H H':xA}{v:zA}(hH:qB B N μ H w)(hl:mB μ args args'.toList)
  (h:wD C A (.func f) args H=some (⟨v,false⟩,H')):Calls P f args' w fun e w'=>∃v' μ',e=.returned v'/\μ.lw μ'/\tA μ' v v'/\qB B N μ' H' w'/\Below N w w':=by
 intro base;obtain⟨g,he,hr⟩:=(zag hA).fn _ _ _ _ h
 obtain⟨fr',r1,hE⟩:=hr []
 obtain⟨h1,h2,h3,h4,fn,l,h5,h6,rfl⟩:=hE.ret rfl
 have h0:wE P C B N μ base (lone (Frame.enter P f args' .normal) base w) w (.next ⟨g,[],H⟩):=Wh hS.fns hH hl he
 obtain⟨μ',b,cs,w',s1,s2,s3,s4,s5,s6⟩:=wE.reach hS hI r1 h0
 cases s6
 have hb:=s5.body
 rw[yaa (by grind [kV.running])]at hb
 obtain⟨v',q1,q2⟩:=FC hS.tys s4 hb h6
 have hm:=s5.rest.mode
 rw[h1]at hm;have hbm:b.mode=.returning:=by
  cases hb:b.mode with
  | returning=>rfl
  | _=>rw[hb]at hm;exact hm.elim
 have hd:=s5.rest.defers
 rw[h2]at hd;have hbd:b.defers=[]:=by
  generalize hx:b.defers=bd at hd
  cases hd;rfl
 have hk:=s5.rest.kind
 rw[h3]at hk;have hfn:b.fn=f:=by rw[s5.rest.fn,h4]
 exact⟨.returned v',w',b,⟨v',μ',rfl,s2,q2,s4,s3⟩,s1,hfn,hbm,hbd,hk,fn,by rw[hfn];exact(hS.fns _ _ h5).1,q1⟩
end
end
section
def fA(C:cA)(t:Nat)(H:xA)(v:zA):Option zA:=ob v.asPtr fun p=>ob (C.tys.get t) fun ty=>ob (dD H p.1) fun c=>jS ty c.1 p.2
def Bo(C:cA)(s d:Nat)(H:xA)(a:zA):Option zA:=ob (C.tys.get s) fun s=>ob (C.tys.get d) fun d=>pV C s d a H
def bF(C:cA)(t:Nat)(H:xA)(a:zA)(l h:Option zA):Option zA:=ob (C.tys.get t) fun ty=>qO C H ty a l h
def Uj(C:cA)(s f:Nat):Option Nat:=ob (C.tys.get s) fun ty=>ob ty.desc.asStruct fun fs=>ob (oD fs f) fun fd=>sB (!Nat.beq fd.2.2 0) (some fd.1)
def jC(C:cA)(s f:Nat)(v:zA):Option zA:=ob (Uj C s f) fun k=>ob v.asPtr fun p=>some (.ptr p.1 (p.2+k))
def mC(C:cA)(t:Nat)(v i:zA):Option zA:=
 ob (C.tys.get t) fun ty=>ob i.asNat fun i=>
  match v.asSlice with
  | some s=>ob ty.desc.asSlice fun el=>ob (C.tys.get el) fun et=>sB (Nat.blt i s.2.2.1) (some (.ptr s.1 (s.2.1+i*et.size)))
  | none=>ob v.asPtr fun p=>ob ty.desc.asArr fun a=>ob (C.tys.get a.2) fun et=>sB (Nat.blt i a.1) (some (.ptr p.1 (p.2+i*et.size)))
def CG(C:cA)(t i:Nat):Option Nat:=ob (C.tys.get t) fun ty=>ob ty.desc.asArr fun a=>ob (C.tys.get a.2) fun et=>sB (Nat.blt i a.1) (some (i*et.size))
def iI(C:cA)(t:Nat)(v i:zA):Option zA:=
 ob (C.tys.get t) fun ty=>ob i.asNat fun i=>
  match v.asStr with
  | some s=>sB ty.desc.isString (ob (oD s i) fun b=>some (.int .u8 (.ofNat b)))
  | none=>ob v.asAgg fun l=>ob ty.desc.asArr fun a=>ob (C.tys.get a.2) fun et=>sB (Nat.blt i a.1) (wR C a.2 l (i*et.size))
def gG(i:Nat)(v:zA):Option zA:=ob v.asTup fun l=>oD l i
def pU (C:cA)(t:Nat)(H:xA)(v:zA):Option zA:=ob (C.tys.get t) fun ty=>ob (eU H ty v) fun n=>some (.int .i64 (.ofNat n))
def cC(v:zA):Option zA:=
 match v.asSlice with
 | some s=>some (.int .i64 (.ofNat s.2.2.1))
 | none=>sB (Nat.beq v.tag 5) (some (.int .i64 (.ofNat 0)))
def kF (v:zA):Option zA:=sB (Nat.beq v.tag 4||Nat.beq v.tag 9) (some v)
def Ec(C:cA)(u:Nat)(ok:Bool)(v:zA):Option zA:=
 ob (C.tys.get u) fun ty=>sB (Nat.blt ty.desc.tag 9) (
  match v.asIface with
  | some p=>bif Nat.beq p.1 u then some (bif ok then .tup [p.2,.bool true]else p.2)else sB ok (some (.tup [cX ty,.bool false]))
  | none=>sB (Nat.beq v.tag 12&&ok) (some (.tup [cX ty,.bool false])))
def wY(C:cA)(t:Nat)(H:xA)(m k:zA)(ok:Bool):Option zA:=
 ob (C.tys.get t) fun ty=>ob ty.desc.asMap fun ke=>ob (C.tys.get ke.1) fun kty=>sB (bU C kty) (ob (C.tys.get ke.2) fun ety=>
  ob (oW H m) fun es=>sB (gS C kty k) (ob (jL k es) fun r=>
   match r with
   | some v=>some (bif ok then .tup [v,.bool true]else v)
   | none=>some (bif ok then .tup [cX ety,.bool false]else cX ety)))
def kJ(C:cA)(t:Nat)(H:xA):Option (zA × xA):=ob (C.tys.get t) fun ty=>some (.ptr H.next 0,xG H ty.zero none)
def bM (v:zA)(H:xA):Option (zA × xA):=some (.ptr H.next 0,xG H v.cells none)
def Ed(C:cA)(t:Nat)(H:xA):Option (zA × xA):=ob (C.tys.get t) fun ty=>some (.ptr H.next 0,xG H ty.zero (eK C t))
def zhp(C:cA)(t:Nat)(v:zA)(H:xA):Option (zA × xA):=some (.ptr H.next 0,xG H v.cells (eK C t))
def xD(C:cA)(t len:Nat)(ps:List (Nat × zA))(H:xA):Option (zA × xA):=
 ob (C.tys.get t) fun ty=>ob ty.desc.asSlice fun el=>ob (C.tys.get el) fun et=>
  sB (Nat.blt (len*et.size) 1000000&&Nat.beq (wB et.zero) et.size) (ob (tM (fun i=>some (i*et.size,et.size)) ps (gI et.zero len)) fun l=>some (.slice H.next 0 len len,xG H l none))
def bB(C:cA)(t:Nat)(a v:zA)(H:xA):Option (zA × xA):=ob (C.tys.get t) fun ty=>ob a.asPtr fun p=>sB (Nat.beq (wB v.cells) ty.size) (ob (jJ C H p.1 p.2 v.cells) fun H'=>some (aD,H'))
def Pb(H:xA):Option (zA × xA):=some (.map H.next,newBlk H (.map []))
def uT(C:cA)(t:Nat)(m k v:zA)(H:xA):Option (zA × xA):=
 ob (C.tys.get t) fun ty=>ob ty.desc.asMap fun ke=>ob (C.tys.get ke.1) fun kty=>sB (bU C kty)
  (ob m.asMap fun b=>sB (!Nat.blt b C.base) (ob (gL H b) fun l=>sB (gS C kty k) (ob (nO k v l) fun l'=>some (aD,setBlk H b (.map l')))))
def aP(C:cA)(t:Nat)(l c:zA)(H:xA):Option (zA × xA):=
 ob (C.tys.get t) fun ty=>ob ty.desc.asSlice fun el=>ob (C.tys.get el) fun et=>ob l.asNat fun l=>ob c.asNat fun c=>
  sB (Nat.ble l c&&Nat.blt c 1000000&&Nat.blt (c*et.bytes) 1000000000&&Nat.beq (wB et.zero) et.size) (some (.slice H.next 0 l c,xG H (gI et.zero c) none))
def Ui(C:cA)(s d:Nat)(v:zA)(H:xA):Option (zA × xA):=
 ob (C.tys.get s) fun _=>ob (C.tys.get d) fun ty=>ob ty.desc.asSlice fun el=>ob (C.tys.get el) fun et=>ob et.desc.asInt fun k=>sB (gN k .u8) (ob v.asStr fun l=>
  some (.slice H.next 0 (wB l) (wB l),xG H (iY l) (some (.ty el))))
def vH(C:cA)(t u:Nat)(a b:zA)(H:xA):Option (zA × xA):=ob (C.tys.get t) fun ty=>ob (C.tys.get u) fun uty=>sB (!Nat.beq uty.desc.tag 1) (lX C H ty a b)
def vNext(v:zA)(H:xA):Option (zA × xA):=ob v.asPtr fun p=>sB (Nat.beq p.2 0) (ob (ob (H.t.get p.1) uA.asIter) fun x=>
 match oD x.1 x.2 with
 | some c=>sB (Nat.blt c 128) (some (.tup [.bool true,.int .i64 (.ofNat x.2),.int .i32 (.ofNat c)],setBlk H p.1 (.siter x.1 (x.2+1))))
 | none=>some (.tup [.bool false],H))
structure jI where
 b:Nat->Bool
 i:Nat->Int
 s:Nat->List Nat
 v:Nat->zA
inductive T where
 | ret (v:zA)
 | fail
 | ite (b:Bool) (x y:T)
 | opt (x:Option zA) (K:zA->T)
 | light (x:Tr uA->Option zA) (K:zA->T)
 | heavy (x:xA->Option (zA × xA)) (K:zA->T)
 | call (f:Nat) (args:List zA) (K:zA->T)
 | callv (f:zA) (args:List zA) (K:zA->T)
 | asI (k:IntKind) (v:zA) (K:Int->T)
 | asB (v:zA) (K:Bool->T)
 | asS (v:zA) (K:List Nat->T)
 | asG (zs:List zA) (v:zA) (K:jI->T)
 | jump (i:Nat) (vals:List zA)
 | range (np:Nat->Bool) (f:zA) (i m:Nat) (vals:List zA) (K R:T)
def yo:Nat:=1099511627776
def pn:Nat:=1099511627775
def Yf(z:zA)(X:jI)(j:Nat):zA:=
 match z with
 | .bool _=>.bool (X.b j)
 | .int k _=>.int k (X.i j)
 | .str _=>.str (X.s j)
 | _=>X.v j
def eZ(zs:List zA)(X:jI):Nat->List zA:=
 List.rec (motive:=fun _=>Nat->List zA) (fun _=>[]) (fun z _ g j=>Yf z X j::g (j+1)) zs
def Je(l:List zA)(j:Nat):Bool:=match l[j]? with | some (.bool b)=>b | _=>false
def zj2(l:List zA)(j:Nat):Int:=match l[j]? with | some (.int _ n)=>n | _=>0
def strAt(l:List zA)(j:Nat):List Nat:=match l[j]? with | some (.str s)=>s | _=>[]
def Kn(l:List zA)(j:Nat):zA:=match l[j]? with | some v=>v | _=>.nilptr
def cellsOf(l:List zA):jI:=⟨Je l,zj2 l,strAt l,Kn l⟩
def Aq (z a:zA):Bool:=
 match z with
 | .bool _=>Nat.beq a.tag 0
 | .int k _=>match a.asIntK with | some p=>gN p.1 k | none=>false
 | .str _=>Nat.beq a.tag 2
 | .nilptr=>Nat.beq a.tag 3||Nat.beq a.tag 4
 | .nilslice=>Nat.beq a.tag 5||Nat.beq a.tag 6
 | .nilmap=>Nat.beq a.tag 7||Nat.beq a.tag 8
 | .nilfunc=>Nat.beq a.tag 10||Nat.beq a.tag 9
 | .niliface=>Nat.beq a.tag 12||Nat.beq a.tag 11
 | _=>false
def dS:List zA->List zA->Bool
 | [],[]=>true
 | z::zs,a::l=>Aq z a&&dS zs l
 | _,_=>false
structure pH where
 tm:Tm
 ad:List (Nat × Nat × Nat)
 lo:Tr (List zA)
 lit:List Nat
abbrev KT:=pH->T
structure KtT where
 norm:KT
 exit:Nat->KT
 ret:KT
def uC {α:Type}(x:Option α)(K:α->T):T:=Option.rec (motive:=fun _=>T) .fail K x
def zL (b:Bool)(K:T):T:=Bool.rec (motive:=fun _=>T) .fail K b
def pM(i:Nat)(l:List (Nat × Nat × Nat)):Option (Nat × Nat):=
 List.rec (motive:=fun _=>Option (Nat × Nat)) none (fun a _ g=>Bool.rec (motive:=fun _=>Option (Nat × Nat)) g (some a.2) (Nat.beq i a.1)) l
inductive yP where
 | now (ad:List (Nat × Nat × Nat))
 | mixed (ad old:List (Nat × Nat × Nat)) (olds names:List Nat)
def tAd (e:yP)(t:Nat):Option (Nat × Nat):=
 match e with
 | .now ad=>pM t ad
 | .mixed ad old olds names=>bif tI t names then pM t (bif tI t olds then old else ad)else none
def xAd (e:yP)(x:Operand):Option (Nat × Nat):=
 match x with
 | .tmp t=>tAd e t
 | _=>none
def lN:xA:=⟨0,.leaf⟩
def rI (C:cA)(t:Nat):Nat:=
 match C.tys.get t with
 | some ty=>ty.desc.tag
 | none=>10
def Zl(x:Operand):Bool:=
 match x with
 | .const _=>true
 | _=>false
def MV(x:Operand):Bool:=
 match x with
 | .const (.int _ n) => !wC n 0
 | _=>false
def binDir(C:cA)(op:BinOp)(t:Nat)(y:Operand):Bool:=
 match op with
 | .add=>Nat.beq (rI C t) 1
 | .sub=>true
 | .mul=>true
 | .quo=>MV y
 | .rem=>MV y
 | .shl=>Zl y
 | .shr=>Zl y
 | .eql=>Nat.ble (rI C t) 2
 | .neq=>Nat.ble (rI C t) 2
 | .lss=>Nat.ble (rI C t) 2
 | .leq=>Nat.ble (rI C t) 2
 | .gtr=>Nat.ble (rI C t) 2
 | .geq=>Nat.ble (rI C t) 2
 | _=>false
structure mN where
 K:zA->T
 Kd:zA->T
 KA:Nat->Nat->T
def xS (C:cA)(op:Op)(e:qD)(k:mN):T:=uC ((wG op).f C e lN) k.Kd
def Pp(C:cA)(op:Op)(x:Operand)(e:qD)(ae:yP)(k:mN):T:=
 match xAd ae x with
 | some p=>k.KA p.1 p.2
 | none=>xS C op e k
def tLoad(C:cA)(t:Nat)(a:Operand)(e:qD)(ae:yP)(lo:Tr (List zA))(k:mN):T:=
 match xAd ae a with
 | some p=>uC (lo.get p.1) fun l=>uC (C.tys.get t) fun ty=>zL (Nat.ble (p.2+ty.size) (wB l)) (uC (wR C t l p.2) k.Kd)
 | none=>uC (ev a e) fun v=>.light (fun m=>fA C t ⟨0,m⟩ v) k.K
def DB(C:cA)(s:Nat)(x:Operand)(f:Nat)(e:qD)(ae:yP)(k:mN):T:=
 match xAd ae x with
 | some p=>uC (Uj C s f) fun o=>k.KA p.1 (p.2+o)
 | none=>uC (ev x e) fun v=>.opt (jC C s f v) k.K
def CZ(C:cA)(t:Nat)(x i:Operand)(e:qD)(ae:yP)(k:mN):T:=
 match xAd ae x with
 | some p=>uC (ev i e) fun i=>uC i.asNat fun i=>uC (CG C t i) fun o=>k.KA p.1 (p.2+o)
 | none=>uC (ev x e) fun v=>uC (ev i e) fun i=>.opt (mC C t v i) k.K
def tNil (x:Operand)(e:qD)(ae:yP)(k:mN):T:=
 match xAd ae x with
 | some p=>k.KA p.1 p.2
 | none=>uC (ev x e) fun v=>.opt (kF v) k.K
def tLen (C:cA)(c:Call)(e:qD)(k:mN):T:=
 uC (oD c.argTypes.toList 0) fun t=>uC (oD c.args.toList 0) fun x=>uC (ev x e) fun v=>
  bif Nat.beq (rI C t) 4 then .opt (cC v) k.K else bif Nat.beq (rI C t) 6 then .light (fun m=>pU C t ⟨0,m⟩ v) k.K else uC (pU C t lN v) k.Kd
def tBin (C:cA)(op:BinOp)(t:Nat)(x y:Operand)(u:Nat)(e:qD)(k:mN):T:=
 bif binDir C op t y then xS C (.binOp op t x y u) e k else uC (ev x e) fun a=>uC (ev y e) fun b=>.opt ((oV op).f C t x y a b) k.K
def zh6(C:cA)(s d:Nat)(x:Operand)(e:qD)(k:mN):T:=
 bif Nat.beq (rI C d) 2 then(bif Nat.beq (rI C s) 2 then xS C (.convert s d x) e k else uC (ev x e) fun v=>.light (fun m=>Bo C s d ⟨0,m⟩ v) k.K)else bif Nat.beq (rI C d) 1 then xS C (.convert s d x) e k else .fail
def ze3(C:cA)(t:Nat)(x:Operand)(lo hi:Option Operand)(e:qD)(k:mN):T:=
 uC (ev x e) fun a=>uC (evo lo e) fun l=>uC (evo hi e) fun h=>
  bif Nat.beq (rI C t) 2 then .opt (bF C t lN a l h) k.K else .light (fun m=>bF C t ⟨0,m⟩ a l h) k.K
def Ku(C:cA)(c:Call)(e:qD)(k:mN):Builtin->T
 | .len=>tLen C c e k
 | .max=>xS C (.call c) e k
 | .min=>xS C (.call c) e k
 | _=>.fail
def Jb(ty:eD)(v:zA):List zA:=bif ty.desc.isAgg then v.cells else [v]
def zkc(cells:List zA)(off size:Nat)(vc:List zA):Option (List zA):=
 sB (Nat.beq (wB vc) size&&Nat.ble (off+wB vc) (wB cells)) (some (yE (bZ cells off) (yE vc (qR cells (off+wB vc)))))
def Xl(C:cA)(tyAt:Nat->Option Nat):List (Nat × zA)->Option (List (Nat × zA × List zA) × List zA):=
 List.rec (motive:=fun _=>Option (List (Nat × zA × List zA) × List zA)) (some ([],[]))
  (fun p _ g=>ob (tyAt p.1) fun t=>ob (C.tys.get t) fun ty=>ob g fun r=>some (bif ty.desc.isAgg then((p.1,p.2,p.2.cells)::r.1,r.2)else((p.1,p.2,[p.2])::r.1,p.2::r.2)))
def Sl(place:Nat->Option (Nat × Nat)):List (Nat × zA × List zA)->List zA->Option (List zA):=
 List.rec (motive:=fun _=>List zA->Option (List zA)) (fun cells=>some cells) (fun p _ g cells=>ob (place p.1) fun q=>ob (zkc cells q.1 q.2 p.2.2) fun cells=>g cells)
def tyAtS(ty:eD)(i:Nat):Option Nat:=
 match ty.desc.asStruct with
 | some fs=>ob (oD fs i) fun x=>some x.2.1
 | none=>ob ty.desc.asArr fun a=>some a.2
def Hu(C:cA)(ty:eD)(i:Nat):Option (Nat × Nat):=
 match ty.desc.asStruct with
 | some fs=>ob (oD fs i) fun x=>some (x.1,x.2.2)
 | none=>ob ty.desc.asArr fun a=>ob (C.tys.get a.2) fun et=>some (i*et.size,et.size)
def NY(C:cA)(ty:eD):Bool:=
 match ty.desc.asStruct with
 | some _=>true
 | none=>match ty.desc.asArr with
  | some a=>(match C.tys.get a.2 with | some _=>true | none=>false)
  | none=>false
def ze5(C:cA)(t:Nat)(ps:Array (Nat × Operand))(e:qD)(k:mN):T:=
 uC (C.tys.get t) fun ty=>zL (NY C ty) <| uC (evp ps.toList e) fun vs=>uC (Xl C (tyAtS ty) vs) fun q=>uC (Sl (Hu C ty) q.1 ty.zero) fun l=>.ite (zC zA.one q.2) (k.Kd (.agg l)) .fail
def tL (C:cA)(op:Op)(e:qD)(ae:yP)(lo:Tr (List zA))(k:mN):T:=
 match op with
 | .move x=>Pp C (.move x) x e ae k
 | .assign x=>Pp C (.assign x) x e ae k
 | .load t a=>tLoad C t a e ae lo k
 | .fieldAddr s x f=>DB C s x f e ae k
 | .indexAddr t x i=>CZ C t x i e ae k
 | .nilCheck x=>tNil x e ae k
 | .binOp op t x y u=>tBin C op t x y u e k
 | .convert s d x=>zh6 C s d x e k
 | .slice t x lo hi none=>ze3 C t x lo hi e k
 | .index t x i=>bif Zl i&&Nat.beq (rI C t) 5 then xS C (.index t x i) e k else uC (ev x e) fun v=>uC (ev i e) fun i=>.opt (iI C t v i) k.K
 | .extract t i=>uC (ev t e) fun v=>.opt (gG i v) k.K
 | .typeAssert x _ u ok=>uC (ev x e) fun v=>.opt (Ec C u ok v) k.K
 | .lookup t x i ok=>uC (ev x e) fun m=>uC (ev i e) fun key=>.light (fun h=>wY C t ⟨0,h⟩ m key ok) k.K
 | .call c=>match c.callee with
  | .builtin b=>Ku C c e k b
  | _=>.fail
 | .pick c a b=>xS C (.pick c a b) e k
 | .unOp o t x=>(match o with
  | .xor=>uC (ev x e) fun v=>.opt (Ee v) k.K
  | o=>xS C (.unOp o t x) e k)
 | .makeInterface t x=>xS C (.makeInterface t x) e k
 | .makeFunc fn a b=>xS C (.makeFunc fn a b) e k
 | .field t x f=>xS C (.field t x f) e k
 | .build t ps=>ze5 C t ps e k
 | _=>.fail
def laOf (la:List Nat)(dst:Option Nat):Option Nat:=
 match dst with
 | some d=>bif tI d la then some d else none
 | none=>none
structure KLo where
 new:Nat->List zA->T
 set:Nat->List zA->T
def ze4(f:Operand)(args:Array Operand)(e:qD)(k:mN):T:=
 match f with
 | .func g=>zL (Nat.blt g pn) (uC (jO args.toList e) fun aq=>.call g aq k.K)
 | f=>uC (ev f e) fun fv=>uC (jO args.toList e) fun aq=>.callv fv aq k.K
def two' (c:Call)(e:qD)(K:zA->zA->T):T:=uC (two c e) fun p=>K p.1 p.2
def DA(C:cA)(c:Call)(e:qD)(k:mN):Builtin->T
 | .append=>uC (oD c.argTypes.toList 0) fun t=>uC (oD c.argTypes.toList 1) fun u=>two' c e fun a b=>.heavy (vH C t u a b) k.K
 | b=>Ku C c e k b
def ze2(C:cA)(t:Nat)(a x:Operand)(e:qD)(ae:yP)(lo:Tr (List zA))(k:mN)(kl:KLo):T:=
 match xAd ae a with
 | some p=>uC (ev x e) fun v=>uC (C.tys.get t) fun ty=>uC (lo.get p.1) fun l=>uC (zkc l p.2 ty.size (Jb ty v)) fun l'=>.ite (zC zA.one (Jb ty v)) (kl.set p.1 l') .fail
 | none=>uC (ev a e) fun a=>uC (ev x e) fun v=>.heavy (bB C t a v) k.Kd
def tH (C:cA)(la:List Nat)(dst:Option Nat)(op:Op)(e:qD)(ae:yP)(lo:Tr (List zA))(k:mN)(kl:KLo):T:=
 match op with
 | .box t x=>bif nE (eK C t)then uC (ev x e) fun v=>(match laOf la dst with
  | some d=>uC (C.tys.get t) fun ty=>bif ty.desc.isAgg then kl.new d v.cells else .ite (zA.one v) (kl.new d [v]) .fail
  | none=>.heavy (bM v) k.K)else uC (ev x e) fun v=>.heavy (zhp C t v) k.K
 | .alloc t=>bif nE (eK C t)then(match laOf la dst with
  | some d=>uC (C.tys.get t) fun ty=>kl.new d ty.zero
  | none=>.heavy (kJ C t) k.K)else .heavy (Ed C t) k.K
 | .store t a x=>ze2 C t a x e ae lo k kl
 | .buildSlice t len ps=>uC (evp ps.toList e) fun ps=>.heavy (xD C t len ps) k.K
 | .makeMap _ none=>.heavy Pb k.K
 | .insert t m key x=>uC (ev m e) fun m=>uC (ev key e) fun key=>uC (ev x e) fun v=>.heavy (uT C t m key v) k.Kd
 | .mapUpdate t m key x=>uC (ev m e) fun m=>uC (ev key e) fun key=>uC (ev x e) fun v=>.heavy (uT C t m key v) k.Kd
 | .makeSlice t l c=>uC (ev l e) fun l=>uC (ev c e) fun c=>.heavy (aP C t l c) k.K
 | .convert s d x=>bif Nat.beq (rI C d) 4 then uC (ev x e) fun v=>.heavy (Ui C s d v) k.K else zh6 C s d x e k
 | .call c=>match c.callee with
  | .value f=>ze4 f c.args e k
  | .builtin b=>DA C c e k b
  | _=>.fail
 | .panic x=>uC (ev x e) fun v=>uC v.asIface fun p=>.call pn [.iface p.1 p.2] k.K
 | op=>tL C op e ae lo k
def rmNat(i:Nat)(l:List Nat):List Nat:=List.rec (motive:=fun _=>List Nat) [] (fun j _ g=>bif Nat.beq i j then g else j::g) l
def yS (n:Nat)(dst:Option Nat)(v:zA)(lt:Bool)(st:pH)(κ:KT):T:=
 match dst with
 | none=>κ st
 | some d=>bif Nat.blt d n then zL (nE (pM d st.ad)) (κ ⟨st.tm.set d v,st.ad,st.lo,bif lt then d::rmNat d st.lit else rmNat d st.lit⟩)else κ st
def zh3(n:Nat)(dst:Option Nat)(d off:Nat)(st:pH)(κ:KT):T:=
 uC dst fun i=>zL (Nat.blt i n) (zL (nE (st.tm.get i)) (κ ⟨st.tm,(i,d,off)::st.ad,st.lo,st.lit⟩))
def zfw(d:Nat)(ad:List (Nat × Nat × Nat)):Bool:=zC (fun a=>bif Nat.beq a.2.1 d then Nat.beq a.1 d else true) ad
def tNew (n:Nat)(d:Nat)(l:List zA)(st:pH)(κ:KT):T:=
 zL (Nat.blt d n) (zL (nE (st.tm.get d)) (zL (zfw d st.ad) (κ ⟨st.tm,(d,d,0)::st.ad,st.lo.set d l,st.lit⟩)))
def fitB (C:cA)(t:Nat)(v:zA):Bool:=
 match C.tys.get t with
 | some ty=>(match ty.desc with
  | .bool=>Nat.beq v.tag 0
  | .int k=>(match v.asIntK with | some p=>gN p.1 k | none=>false)
  | .string=>Nat.beq v.tag 2
  | _=>true)
 | none=>true
def Ks(C:cA)(t:Nat)(v:zA)(K:zA->T):T:=
 match C.tys.get t with
 | some ty=>(match ty.desc with
  | .bool=>.asB v fun b=>K (.bool b)
  | .int k=>.asI k v fun n=>K (.int k n)
  | .string=>.asS v fun s=>K (.str s)
  | .struct _=>bif Nat.ble (wB ty.zero) 40 then .asG ty.zero v fun X=>K (.agg (eZ ty.zero X 0))else K v
  | .arr _ _=>bif Nat.ble (wB ty.zero) 40 then .asG ty.zero v fun X=>K (.agg (eZ ty.zero X 0))else K v
  | _=>K v)
 | none=>K v
def Cp (x:Operand)(lit:List Nat):Bool:=
 match x with
 | .tmp t=>lit.contains t
 | .const _=>true
 | _=>false
def Rh(op:Op)(e:qD)(lit:List Nat):Bool:=
 match op with
 | .move x=>Cp x lit
 | .assign x=>Cp x lit
 | .unOp _ _ x=>Cp x lit
 | .pick c a b=>bif Cp c lit then(match ob (ev c e) zA.asBool with
  | some w=>bif w then Cp a lit else Cp b lit
  | none=>false)else false
 | _=>false
def Rv(all:List Oper)(dst:Option Nat)(l:List Oper):Bool:=
 match dst with
 | none=>false
 | some d => !zC (fun o=>match o.guard with
  | some g=>(match ob (oD all g.1) fun p=>p.dst with | some i => !Nat.beq i d | none=>true)
  | none=>true) l
def Gz(g lt:Bool)(v:zA)(K:zA->Bool->T):T:=
 bif g then(bif lt then K v true else uC v.asBool fun b=>.ite b (K (.bool true) true) (K (.bool false) true))else K v lt
def kop (C:cA)(all:Array Oper)(n:Nat)(o:Oper)(e:qD)(st:pH)(κ:KT):mN:=
 ⟨fun v=>Ks C o.type v fun v=>Gz (Rv all.toList o.dst all.toList) (Rh o.op e st.lit) v fun v lt=>yS n o.dst v lt st κ,
  fun v=>zL (fitB C o.type v) (Gz (Rv all.toList o.dst all.toList) (Rh o.op e st.lit) v fun v lt=>yS n o.dst v lt st κ),
  fun d off=>zL (!Nat.ble (rI C o.type) 2) (zh3 n o.dst d off st κ)⟩
def klo (C:cA)(n:Nat)(o:Oper)(st:pH)(κ:KT):KLo:=
 ⟨fun d l=>zL (!Nat.ble (rI C o.type) 2) (tNew n d l st κ),
  fun d l=>zL (fitB C o.type aD) (yS n o.dst aD false ⟨st.tm,st.ad,st.lo.set d l,st.lit⟩ κ)⟩
def qD.adCut(k:Nat)(l:List (Nat × Nat × Nat)):List (Nat × Nat × Nat):=l.filter fun a=>Nat.blt a.1 k
def pH.cut(st:pH):pH:=⟨st.tm.cut,qD.adCut st.tm.k st.ad,st.lo,st.lit⟩
def tops (C:cA)(la:List Nat)(all:Array Oper)(n:Nat)(κ:KT)(l:List Oper):KT:=
 List.rec (motive:=fun _=>KT) κ
  (fun o _ g st=>uC (pG o.guard all st.tm) fun w=>Bool.rec (motive:=fun _=>T) (yS n o.dst aD false st g)
   (tH C la o.dst o.op (.now st.tm) (.now st.ad) st.lo (kop C all n o (.now st.tm) st g) (klo C n o st g)) w) l
def tR (st old:pH)(olds:List Nat)(op:Op):qD:=.mixed st.tm old.tm olds (vI op)
def dZ (st old:pH)(olds:List Nat)(op:Op):yP:=.mixed st.ad old.ad olds (vI op)
def qT(C:cA)(all:Array Oper)(n:Nat)(old:pH)(olds:List (Nat × List Nat))(κ:KT)(l:List Nat):KT:=
 List.rec (motive:=fun _=>KT) κ
  (fun i _ g st=>uC (oD all.toList i) fun o=>uC (pG o.guard all st.tm) fun w=>Bool.rec (motive:=fun _=>T) (yS n o.dst aD false st g)
   (tL C o.op (tR st old (fF i olds) o.op) (dZ st old (fF i olds) o.op) st.lo (kop C all n o (tR st old (fF i olds) o.op) st g)) w) l
def vY(C:cA)(all:Array Oper)(old:pH)(olds:List (Nat × List Nat))(st:pH)(k:T)(l:List Nat):T:=
 List.rec (motive:=fun _=>T) k
  (fun i _ g=>uC (oD all.toList i) fun o=>uC o.dst fun d=>uC (pG o.guard all st.tm) fun w=>Bool.rec (motive:=fun _=>T) g
   (uC (st.tm.get d) fun u=>zL (fitB C o.type u) (tL C o.op (tR st old (fF i olds) o.op) (dZ st old (fF i olds) o.op) st.lo ⟨fun v=>.ite (same 10 v u) g .fail,fun v=>.ite (same 10 v u) g .fail,fun _ _=>.fail⟩)) w) l
def Gw(C:cA)(es:List wO)(H:xA):Option (zA × xA):=ob (An C es H) fun H'=>some (aD,H')
def tEff (op:Op)(e:qD)(ae:yP):Option wO:=
 match op with
 | .store t a x=>(match xAd ae a with
  | some _=>none
  | none=>Aw (.store t a x) e)
 | op=>Aw op e
def Pq(all:Array Oper)(old:pH)(olds:List (Nat × List Nat))(st:pH)(l:List Nat):Option (List wO):=
 mH (fun i=>ob (oD all.toList i) fun o=>ob (pG o.guard all st.tm) fun w=>sB w (tEff o.op (tR st old (fF i olds) o.op) (dZ st old (fF i olds) o.op))) l
def Br(C:cA)(all:Array Oper)(n:Nat)(old:pH)(olds:List (Nat × List Nat))(κ:KT)(l:List bG):KT:=
 List.rec (motive:=fun _=>KT) κ
  (fun s _ g st=>Bool.rec (motive:=fun _=>T) (uC (oD all.toList (fN all s.heavy)) fun o=>uC (jV C all s.heavy o st.tm) fun w=>
   (fun cont:KT=>Bool.rec (motive:=fun _=>T) (yS n o.dst aD false st cont)
    (tH C [] o.dst o.op (tR st old (fF (fN all s.heavy) olds) o.op) (dZ st old (fF (fN all s.heavy) olds) o.op) st.lo (kop C all n o (tR st old (fF (fN all s.heavy) olds) o.op) st cont) (klo C n o st cont)) w)
   (fun st'=>vY C all old olds st' (qT C all n old olds g s.lights st') s.again))
   (zL (qY C all) (uC (Pq all old olds st s.again) fun es=>.heavy (Gw C es) fun _=>qT C all n old olds g s.lights st)) (yV all s)) l
def CO(C:cA)(la:List Nat)(fn n:Nat)(κ:KT)(id:Nat)(all:Array Oper)(draw:Bool):KT:=
 Bool.rec (motive:=fun _=>KT) (fun st=>tops C la all n κ all.toList st.cut)
  (fun st=>uC (ob (C.plans.get fn) fun t=>t.get id) fun p=>zL (iU all p) (qT C all n st.cut p.olds (Br C all n st.cut p.olds κ p.stages) p.first st.cut)) draw
def Gu(st:pH)(ll:List (Nat × Nat)):Option (List zA):=
 List.rec (motive:=fun _=>Option (List zA)) (some []) (fun p _ g=>ob (pM p.1 st.ad) fun a=>sB (Nat.beq a.1 p.1&&Nat.beq a.2 0) (ob (st.lo.get p.1) fun l=>sB (Nat.beq (wB l) p.2) (ob g fun r=>some (yE l r)))) ll
def Dz(p:PI)(st:pH):Option (List zA):=ob (mH (fun i=>st.tm.get i) p.pl) fun a=>ob (Gu st p.ll) fun b=>some (yE a b)
def dV (ll:List (Nat × Nat)):List zA->Tr (List zA):=
 List.rec (motive:=fun _=>List zA->Tr (List zA)) (fun _=>.leaf) (fun p _ g vals=>(g (qR vals p.2)).set p.1 (bZ vals p.2)) ll
def uP (pl:List Nat):List zA->Tr zA:=
 List.rec (motive:=fun _=>List zA->Tr zA) (fun _=>.leaf) (fun i _ g vals=>List.rec (motive:=fun _=>Tr zA) .leaf (fun v vals _=>(g vals).set i v) vals) pl
def stAd (ll:List (Nat × Nat)):List (Nat × Nat × Nat):=List.rec (motive:=fun _=>List (Nat × Nat × Nat)) [] (fun p _ g=>(p.1,p.1,0)::g) ll
def dK (k:Nat)(p:PI)(vals:List zA):pH:=⟨⟨k,uP p.pl vals,[]⟩,stAd p.ll,dV p.ll (qR vals (wB p.pl)),[]⟩
def mS (C:cA)(g:Nat):Bool:=nE (C.prims.get g)
def zfo(pl:List Nat)(st:pH):Option (List zA):=mH (fun i=>st.tm.get i) pl
def psOk:List Nat->Bool
 | []=>true
 | [_]=>true
 | [p,q] => !Nat.beq p q
 | _=>false
def FM(k n:Nat)(pl ps:List Nat)(ops:List (Nat × Array Oper))(c:gC):Bool:=
 zC (fun p=>Nat.blt p k&&Nat.blt p n && !tI p pl) ps&&psOk ps&&Qm ops&&(match cK c with | []=>true | _=>false)
def rdT:KtT:=⟨fun _=>.ret (.bool true),fun _ _=>.fail,fun _=>.ret (.bool false)⟩
def Xg(C:cA)(n:Nat)(κ:KtT)(i:Nat)(pl:List Nat)(f:Operand)(ps:List Nat)(ops:List (Nat × Array Oper))(c:gC)(st:pH):T:=
 zL (FM st.tm.k n pl ps ops c) (uC (zfo pl st) fun vals=>uC (ev f (.now st.tm)) fun fv=>.range (mS C) fv i (wB ps) vals (κ.norm st) (κ.ret st))
def fK (C:cA)(la:List Nat)(fn n:Nat)(c:gC):KtT->KT:=
 gC.rec (motive:=fun _=>KtT->KT)
  (fun κ st=>κ.norm st)
  (fun id all draw κ=>CO C la fn n κ.norm id all draw)
  (fun _ _ ga gb κ=>ga ⟨gb κ,κ.exit,κ.ret⟩)
  (fun c _ _ gx gy κ st=>uC (ob (ev c (.now st.tm)) zA.asBool) fun b=>bif Cp c st.lit then Bool.rec (motive:=fun _=>T) (gy κ st) (gx κ st) b else .ite b (gx κ st) (gy κ st))
  (fun id _ g κ=>g ⟨κ.norm,fun i st=>Bool.rec (motive:=fun _=>T) (κ.exit i st) (κ.norm st) (Nat.beq id i),κ.ret⟩)
  (fun p _ _ _ st=>uC (Dz p st) fun vals=>.jump p.id vals)
  (fun id κ st=>κ.exit id st)
  (fun κ st=>κ.ret st)
  (fun p _ _ _ st=>uC (Dz p st) fun vals=>.jump p.id vals)
  (fun i pl f ps ops c _ κ st=>Xg C n κ i pl f ps.toList ops c st) c
structure PtT where
 p:PI
 tree:List zA->T
def aW(p:PI):KT:=fun st=>uC (Dz p st) fun vals=>.jump p.id vals
def Ch(C:cA)(la:List Nat)(fn n k:Nat)(c:gC):KtT->List PtT:=
 gC.rec (motive:=fun _=>KtT->List PtT)
  (fun _=>[])
  (fun _ _ _ _=>[])
  (fun _ b ga gb κ=>yE (ga ⟨fK C la fn n b κ,κ.exit,κ.ret⟩) (gb κ))
  (fun _ _ _ gx gy κ=>yE (gx κ) (gy κ))
  (fun id _ g κ=>g ⟨κ.norm,fun i st=>Bool.rec (motive:=fun _=>T) (κ.exit i st) (κ.norm st) (Nat.beq id i),κ.ret⟩)
  (fun p c g κ=>⟨p,fun vals=>fK C la fn n c ⟨aW p,κ.exit,κ.ret⟩ (dK k p vals)⟩::g ⟨aW p,κ.exit,κ.ret⟩)
  (fun _ _=>[])
  (fun _=>[])
  (fun p c g κ=>⟨p,fun vals=>fK C la fn n c κ (dK k p vals)⟩::g κ)
  (fun i pl _ ps ops c g _=>⟨⟨i,yE pl ps.toList,[]⟩,fun vals=>fK C la fn n (asA c ops) rdT (dK k ⟨i,yE pl ps.toList,[]⟩ vals)⟩::g rdT) c
def Hj (C:cA)(st:pH)(l:List ResultVar):(List zA->T)->T:=
 List.rec (motive:=fun _=>(List zA->T)->T) (fun K=>K [])
  (fun r _ g K=>match r with
   | .tmp t=>uC (st.tm.get t) fun v=>g fun l=>K (v::l)
   | .cell a t=>match pM a st.ad with
    | some p=>uC (st.lo.get p.1) fun l=>uC (C.tys.get t) fun ty=>zL (Nat.ble (p.2+ty.size) (wB l)) (uC (wR C t l p.2) fun v=>g fun l=>K (v::l))
    | none=>uC (st.tm.get a) fun a=>.light (fun m=>fA C t ⟨0,m⟩ a) fun v=>g fun l=>K (v::l)) l
def endT (C:cA)(fn:Func):KT:=fun st=>Hj C st fn.results.toList fun l=>.ret (Ei l)
def sZ (C:cA)(fn:Func):KtT:=⟨endT C fn,fun _ _=>.fail,endT C fn⟩
structure tE where
 code:gC
 la:List Nat
def entT (C:cA)(fn:Func)(k:Nat)(f:Nat)(A:tE)(args:List zA):T:=fK C A.la f fn.ntmps A.code (sZ C fn) ⟨⟨k,Tr.ofList args,[]⟩,[],.leaf,[]⟩
def ptsT (C:cA)(fn:Func)(k:Nat)(f:Nat)(A:tE):List PtT:=Ch C A.la f fn.ntmps k A.code (sZ C fn)
def Eu(l:List PtT)(i:Nat)(vals:List zA):List T:=List.rec (motive:=fun _=>List T) [] (fun p _ g=>bif Nat.beq p.p.id i then p.tree vals::g else g) l
end
section
variable {b d n s ty:Nat}{y:uA}{i x:Operand}{l r:Option zA}{c:Call}{a k m u w:zA}{ok:Bool}
def qE {α:Type}(x:Option α)(P:α->Prop):Prop:=
 match x with
 | some a=>P a
 | none=>False
theorem hZ{α:Type}{x:Option α}{P:α->Prop}:qE x P ↔ ∃a,x=some a/\P a:=by
 cases x with
 | none=>simp[qE]
 | some a=>simp[qE]
@[simp] theorem iA {α:Type} {a:α} {P:α->Prop}:qE (some a) P=P a:=rfl
@[simp] theorem optP_none {α:Type} {P:α->Prop}:qE (none:Option α) P=False:=rfl
abbrev jB:=zA->Tr uA->Prop
abbrev qF:=Nat->List zA->Tr uA->jB->Prop
def zgr{α:Type}:List α->Bool | []=>true | _::_=>false
def qM(f:zA)(args:List zA):Option (Nat × List zA):=ob f.asFunc fun p=>match p.1 with
 | .func g=>sB (Nat.blt g pn) (some (g,yE (yE p.2.1 args) p.2.2))
 | .yld l=>sB (zgr p.2.1&&zgr p.2.2) (some (yo+l,args))
def Cd(np:Nat->Bool)(f:zA)(l:Nat):Option (Nat × List zA):=ob f.asFunc fun p=>match p.1 with
 | .func g=>sB (Nat.blt g pn&&np g) (some (g,yE p.2.1 (.func (.yld l) [] []::p.2.2)))
 | .yld _=>none
def Io (k:IntKind)(v:zA):Option Int:=ob v.asIntK fun p=>sB (gN p.1 k) (some p.2)
def mK (zs:List zA)(v:zA):Option jI:=ob v.asAgg fun l=>sB (dS zs l) (some (cellsOf l))
def qA (base:Nat)(W:qF)(J:qF):T->Tr uA->jB->Prop
 | .ret v,t,Q=>Q v t
 | .fail,_,_=>False
 | .ite b x y,t,Q=>if b=true then qA base W J x t Q else qA base W J y t Q
 | .opt x K,t,Q=>qE x fun v=>qA base W J (K v) t Q
 | .light x K,t,Q=>qE (x t) fun v=>qA base W J (K v) t Q
 | .heavy x K,t,Q=>∀b,t.get b=none->base<=b->qE (x ⟨b,t⟩) fun p=>qA base W J (K p.1) p.2.t Q
 | .call f args K,t,Q=>W f args t fun v t'=>qA base W J (K v) t' Q
 | .callv f args K,t,Q=>qE (qM f args) fun p=>W p.1 p.2 t fun v t'=>qA base W J (K v) t' Q
 | .asI k v K,t,Q=>qE (Io k v) fun n=>qA base W J (K n) t Q
 | .asB v K,t,Q=>qE v.asBool fun n=>qA base W J (K n) t Q
 | .asS v K,t,Q=>qE v.asStr fun n=>qA base W J (K n) t Q
 | .asG zs v K,t,Q=>qE (mK zs v) fun X=>qA base W J (K X) t Q
 | .jump i vals,t,Q=>J i vals t Q
 | .range np f i m vals K R,t,Q=>256<=base/\∀l r,t.get l=none->base<=l->r.state=.ready->r.pending=none →
   (∀args t1 Q1,args.length=m->t1.get l=some (.loop r)->J i (vals++args) (t1.del l) (fun v t2=>t2.get l=none->∃b,v=.bool b/\Q1 v (t2.set l (.loop (nP b r))))->W (yo+l) args t1 Q1) →
   qE (Cd np f l) fun p=>W p.1 p.2 (t.set l (.loop r)) fun _ t'=>(t'.get l=some (.loop r)/\qA base W J K (t'.del l) Q)\/(t'.get l=some (.loop (nP false r))/\qA base W J R (t'.del l) Q)
abbrev Xt:=Nat->Option uA
def bI (X Y:Xt):Prop:=∀b y,X b=some y->Y b=some y
theorem bI.refl(X:Xt):bI X X:=fun _ _ h=>h
def bI.trans{X Y Z:Xt}(h:bI X Y)(k:bI Y Z):bI X Z:=fun b y e=>k b y (h b y e)
structure Ov (base:Nat) (t:Tr uA) (X:Xt) (H:xA):Prop where
 base:base<=H.next
 same:∀b,X b=none->H.t.get b=t.get b
 ext:∀b y,X b=some y->H.t.get b=some y/\t.get b=none/\b<H.next
 lt:∀b y,t.get b=some y->b<H.next
def HLe (H H':xA):Prop:=∀b y,H.t.get b=some y->H'.t.get b=some y
def vU(e e':qD):Prop:=∀i v,aX i e=some v->aX i e'=some v
section
variable {base:Nat}{t:Tr uA}{X:Xt}{H HA:xA}{e e':qD}{C:cA}{v:zA}
theorem Ov.notX(h:Ov base t X HA)  (hb:t.get b=some y):X b=none:=by
 cases hx:X b with
 | none=>rfl
 | some z=>have:=(h.ext b z hx).2.1;simp_all
theorem Ov.up(h:Ov base t X HA)  (hb:t.get b=some y):HA.t.get b=some y:=by rw[h.same b (h.notX hb)];exact hb
def Ov.le(h:Ov base t X HA)  : HLe ⟨n,t⟩ HA:=fun _ _ hb=>h.up hb
def Ov.nextX(h:Ov base t X HA):X HA.next=none:=by
 cases hx:X HA.next with
 | none=>rfl
 | some z=>exact absurd (h.ext _ z hx).2.2 (Nat.lt_irrefl _)
def Ov.nextT(h:Ov base t X HA):t.get HA.next=none:=by
 cases hx:t.get HA.next with
 | none=>rfl
 | some z=>exact absurd (h.lt _ z hx) (Nat.lt_irrefl _)
theorem fY(h:HLe H HA) {p:Tr zA × Nat × Option Lo}(hb:dD H b=some p):dD HA b=some p:=by
 unfold dD at hb ⊢;rw[sA]at hb ⊢;obtain⟨y,h1,h2⟩:=hb;exact⟨y,h _ _ h1,h2⟩
theorem Gd(h:HLe H HA) {p:List (zA × zA)}(hb:gL H b=some p):gL HA b=some p:=by
 unfold gL at hb ⊢;rw[sA]at hb ⊢;obtain⟨y,h1,h2⟩:=hb;exact⟨y,h _ _ h1,h2⟩
theorem nF(h:vU e e') (hx:ev x e=some v):ev x e'=some v:=by
 cases x with
 | tmp i=>exact h i v hx
 | const c=>exact hx
 | global g=>exact hx
 | func f=>exact hx
theorem AH(h:vU e e'){l:List Operand}{vs:List zA}(hx:jO l e=some vs):jO l e'=some vs:=Rf l (fun _ _ k=>nF h k) hx
theorem LY(h:vU e e'){x:Option Operand} (hx:evo x e=some r):evo x e'=some r:=by
 cases x with
 | none=>exact hx
 | some x=>
  have hx:ob (ev x e) (fun v=>some (some v))=some r:=hx
  show ob (ev x e') (fun v=>some (some v))=some r
  grind [sA,nF]
theorem AI(h:vU e e'){l:List (Nat × Operand)}{vs:List (Nat × zA)}(hx:evp l e=some vs):evp l e'=some vs:=
 Rf l (fun a b k=>by grind [sA,nF]) hx
theorem Um(h:vU e e') {p:zA × zA}(hx:two c e=some p):two c e'=some p:=by
 grind [two,sA,nF]
theorem CE(h:HLe H HA)  (hx:fA C ty H a=some v):fA C ty HA a=some v:=by
 grind [fA,sA,fY]
theorem AW(h:HLe H HA){s d:eD} (hx:pV C s d a H=some v):pV C s d a HA=some v:=by
 unfold pV at hx ⊢
 split at hx
 ·omega
 ·rename_i hk
  rw[rB]at hx ⊢
  refine⟨hx.1,?_⟩
  have hx:=hx.2
  rw[lD]at hx ⊢
  split at hx
  all_goals grind [sA,rB,Np,fY]
theorem PN(h:HLe H HA)  (hx:Bo C s d H a=some v):Bo C s d HA a=some v:=by
 grind [Bo,sA,AW]
theorem Wl(h:HLe H HA){ty:eD}  (hx:qO C H ty a l r=some v):qO C HA ty a l r=some v:=by
 have row:∀ {arr e b off len cap},yR C H arr e b off len cap l r=some v->yR C HA arr e b off len cap l r=some v:=by
  intro arr e b off len cap hx;unfold yR at hx ⊢
  simp only[sA]at hx ⊢
  obtain⟨a1,h1,b1,h2,hx⟩:=hx
  refine⟨a1,h1,b1,h2,?_⟩
  cases hb:dD H b with
  | none=>
   have e1:rO H b a1.size cap b1.1 arr=false:=by unfold rO;rw[hb]
   have e2:tP H b a1.size cap b1.1 arr=false:=by unfold tP;rw[hb]
   rw[e1,e2,yay,yay]at hx
   cases hx
  | some c=>
   grind [rO,fY,tP]
 grind [qO,sA]
theorem PD(h:HLe H HA)   (hx:bF C ty H a l r=some v):bF C ty HA a l r=some v:=by
 grind [bF,sA,Wl]
theorem Yg(h:HLe H HA) {l:List (zA × zA)}(hx:oW H m=some l):oW HA m=some l:=by
 grind [oW,Gd]
theorem PG(h:HLe H HA)   (hx:wY C ty H m k ok=some v):wY C ty HA m k ok=some v:=by
 unfold wY at hx ⊢
 simp only[sA,rB]at hx ⊢
 grind [Yg]
theorem Yr(h:HLe H HA){ty:eD}  (hx:eU H ty a=some n):eU HA ty a=some n:=by
 unfold eU at hx ⊢
 split at hx
 all_goals grind [rB,sA,Gd]
theorem PH(h:HLe H HA)  (hx:pU C ty H a=some v):pU C ty HA a=some v:=by
 grind [pU,sA,Yr]
theorem IT {a:Operand}:iW ty a C e H=ob (ev a e) fun v=>fA C ty H v:=rfl
theorem JF   (hx:ev x e=some u):rQ s d x C e H=Bo C s d H u:=by simp_all [rQ,Bo]
def zdi  {lo hi:Option Operand}  (h1:ev x e=some a)(h2:evo lo e=some l)(h3:evo hi e=some r):Ad ty x lo hi C e H=bF C ty H a l r:=by unfold Ad bF;rw[h1,oA,h2,oA,h3,oA]
theorem JC{f:Nat}  (hx:ev x e=some u):eW s x f C e H=jC C s f u:=by
 unfold eW jC Uj;rw[hx]
 cases C.tys.get s with
 | none=>rfl
 | some ty=>
  simp only[oA]
  cases ty.desc.asStruct with
  | none=>rfl
  | some fs=>
   simp only[oA]
   cases oD fs f with
   | none=>rfl
   | some fd=>simp only[oA];cases hb:(!Nat.beq fd.2.2 0)<;>rfl
theorem IX   (hx:ev x e=some u)(hi:ev i e=some w):gW ty x i C e H=mC C ty u w:=by unfold gW mC;rw[hx,hi];rfl
theorem zdk   (hx:ev x e=some u)(hi:ev i e=some w):fW ty x i C e H=iI C ty u w:=by unfold fW iI;rw[hx,hi];rfl
theorem zf1  (hx:ev x e=some u):Af x C e H=kF u:=by simp_all [Af,kF]
theorem WJ {i:Nat} (hx:ev x e=some u):dW x i C e H=gG i u:=by simp_all [dW,gG]
theorem lBin_v{op:BinOp} {y:Operand} (hx:ev x e=some u)(hy:ev y e=some w):cW op ty x y C e H=(oV op).f C ty x y u w:=by simp_all [cW]
theorem WK {a:Nat}  (hx:ev x e=some u):bW x a ok C e H=Ec C a ok u:=by
 unfold bW Ec;rw[hx];rfl
def WI    (hx:ev x e=some m)(hi:ev i e=some k):jW ty x i ok C e H=wY C ty H m k ok:=by unfold jW wY;rw[hx,hi];rfl
theorem lLen_v    (h1:oD c.argTypes.toList 0=some ty)(h2:oD c.args.toList 0=some x)(hx:ev x e=some u):oR c C e H=pU C ty H u:=by grind [oR,pU,oA]
theorem zd7(he:vU e e'){op:Op}(hp:kU op=true\/(∃s d x,op=.convert s d x/\(rI C d=1\/rI C s=2))\/(∃c,op=.call c/\(c.callee=.builtin .max\/c.callee=.builtin .min))){H':xA}(h:(wG op).f C e H=some v):(wG op).f C e' H'=some v:=by
 rcases hp with hp | hp | hp
 ·cases op<;>simp only[kU]at hp<;>try (cases hp;done)
  case move x=>exact nF he h
  case assign x=>exact nF he h
  case pick c a b=>
   have h:ob (ev c e) (fun c=>ob c.asBool fun c=>bif c then ev a e else ev b e)=some v:=h
   show ob (ev c e') (fun c=>ob c.asBool fun c=>bif c then ev a e' else ev b e')=some v
   grind [sA,nF]
  case nilCheck x=>
   have h:ob (ev x e) (fun u=>sB (Nat.beq u.tag 4||Nat.beq u.tag 9) (some u))=some v:=h
   show ob (ev x e') (fun u=>sB (Nat.beq u.tag 4||Nat.beq u.tag 9) (some u))=some v
   grind [sA,nF]
  case binOp op t x y u=>
   have h:cW op t x y C e H=some v:=h
   show cW op t x y C e' H'=some v
   grind [cW,sA,nF]
  case unOp op t x=>
   have h:lUn op x C e H=some v:=h
   show lUn op x C e' H'=some v
   grind [lUn,sA,nF]
  case makeInterface t x=>
   have h:Cs t x C e H=some v:=h
   show Cs t x C e' H'=some v
   grind [Cs,sA,rB,nF]
  case makeFunc fn a b=>
   have h:(Ct fn a b).f C e H=some v:=h
   show(Ct fn a b).f C e' H'=some v
   unfold Ct at h ⊢
   split at h
   ·grind [Ii,sA,AH]
   ·cases h
  case fieldAddr s x f=>
   have h:eW s x f C e H=some v:=h
   show eW s x f C e' H'=some v
   unfold eW at h ⊢
   simp only[sA,rB]at h ⊢
   obtain⟨a,h1,b,h2,c,h3,h4,u,h5,h6⟩:=h
   exact⟨a,h1,b,h2,c,h3,h4,u,nF he h5,h6⟩
  case field t x f=>
   have h:Cu t x f C e H=some v:=h
   show Cu t x f C e' H'=some v
   grind [Cu,sA,nF]
  case indexAddr t x i=>
   have h:gW t x i C e H=some v:=h
   show gW t x i C e' H'=some v
   unfold gW at h ⊢
   simp only[sA]at h ⊢
   grind [nF]
  case index t x i=>
   have h:fW t x i C e H=some v:=h
   show fW t x i C e' H'=some v
   unfold fW at h ⊢
   simp only[sA]at h ⊢
   grind [nF]
  case extract t i=>
   have h:dW t i C e H=some v:=h
   show dW t i C e' H'=some v
   grind [dW,sA,nF]
  case build t ps=>
   have h:pY t ps C e H=some v:=h
   show pY t ps C e' H'=some v
   grind [pY,sA,AI]
  case typeAssert x t u ok=>
   have h:bW x u ok C e H=some v:=h
   show bW x u ok C e' H'=some v
   grind [bW,sA,rB,nF]
 ·obtain⟨s,d,x,rfl,hp⟩:=hp
  have h:rQ s d x C e H=some v:=h
  show rQ s d x C e' H'=some v
  unfold rQ at h ⊢
  simp only[sA]at h ⊢
  obtain⟨u,h1,sy,h2,dy,h3,h4⟩:=h
  refine⟨u,nF he h1,sy,h2,dy,h3,?_⟩
  unfold pV at h4 ⊢
  split at h4
  ·exact h4
  ·rename_i hd
   rw[rB]at h4 ⊢
   refine⟨h4.1,?_⟩
   have h4:=h4.2
   rw[lD]at h4 ⊢
   split at h4
   ·simp_all
   ·rename_i e
    exfalso
    rcases hp with hp | hp
    ·unfold rI at hp
     rw[h3]at hp;have hp:dy.desc.tag=1:=hp
     cases hx:dy.desc<;>rw[hx]at hp hd<;>first
      | (cases hp;done)
      | (cases hd;done)
    ·unfold rI at hp
     rw[h2]at hp;have hp:sy.desc.tag=2:=hp
     simp only[sA]at h4;obtain⟨el,h5,_⟩:=h4
     cases hx:sy.desc<;>rw[hx]at hp h5<;>first
      | (cases hp;done)
      | (cases h5;done)
 ·obtain⟨c,rfl,hc⟩:=hp
  rcases hc with hc | hc
  ·have h:(dT c c.callee).f C e H=some v:=h
   show(dT c c.callee).f C e' H'=some v
   rw[hc]at h ⊢
   have h:lW c C e H=some v:=h
   show lW c C e' H'=some v
   grind [lW,sA,Um]
  ·have h:(dT c c.callee).f C e H=some v:=h
   show(dT c c.callee).f C e' H'=some v
   rw[hc]at h ⊢
   have h:mW c C e H=some v:=h
   show mW c C e' H'=some v
   grind [mW,sA,Um]
end
end
section
variable {b d n off ty:Nat}{a u:zA}{l:List zA}{H':xA}{K:zA->T}{op:Op}
section
variable {base:Nat}{t:Tr uA}{X:Xt}{H HA:xA}{e e':qD}{C:cA}{v:zA}
theorem Ov.newBlk(h:Ov base t X HA)(y:uA):Ov base (t.set HA.next y) X (newBlk HA y):=by
 refine⟨Nat.le_succ_of_le h.base,fun b hb=>?_,fun b z hb=>?_,fun b z hb=>?_⟩
 ·show(HA.t.set HA.next y).get b=_
  rw[Tr.get_set,Tr.get_set];split
  ·rfl
  ·exact h.same b hb
 ·obtain⟨h1,h2,h3⟩:=h.ext b z hb
  have hne:b≠HA.next:=Nat.ne_of_lt h3
  refine⟨?_,?_,Nat.lt_succ_of_lt h3⟩
  ·show(HA.t.set HA.next y).get b=_
   grind [Tr.get_set]
  grind [Tr.get_set]
 ·rw[Tr.get_set]at hb
  show b<HA.next+1
  split at hb
  ·omega
  ·exact Nat.lt_succ_of_lt (h.lt _ _ hb)
theorem Ov.setBlk(h:Ov base t X HA){b:Nat}{y:uA}(hb:t.get b=some y)(z:uA):Ov base (t.set b z) X (setBlk HA b z):=by
 refine⟨h.base,fun c hc=>?_,fun c u hc=>?_,fun c u hc=>?_⟩
 ·show(HA.t.set b z).get c=_
  rw[Tr.get_set,Tr.get_set];split
  ·rfl
  ·exact h.same c hc
 ·obtain⟨h1,h2,h3⟩:=h.ext c u hc
  have hne:c≠b:=fun e=>by simp_all
  refine⟨?_,?_,h3⟩
  ·show(HA.t.set b z).get c=_
   grind [Tr.get_set]
  grind [Tr.get_set]
 ·rw[Tr.get_set]at hc
  show c<HA.next
  split at hc
  ·rename_i e;rw[e];exact h.lt _ _ hb
  ·exact h.lt _ _ hc
theorem Ov.delBlk(h:Ov base t X HA) {y:uA}(hb:t.get b=some y):Ov base (t.del b) X ⟨HA.next,HA.t.del b⟩:=by
 refine⟨h.base,fun c hc=>?_,fun c u hc=>?_,fun c u hc=>?_⟩
 ·show(HA.t.del b).get c=_
  rw[Tr.get_del,Tr.get_del];split
  ·rfl
  ·exact h.same c hc
 ·obtain⟨h1,h2,h3⟩:=h.ext c u hc
  grind [Tr.get_del]
 ·rw[Tr.get_del]at hc
  show c<HA.next
  split at hc
  ·cases hc
  ·exact h.lt _ _ hc
def wU (base:Nat)(x:xA->Option (zA × xA)):Prop:=∀t X HA v H',Ov base t X HA->x ⟨HA.next,t⟩=some (v,H')->∃HA',x HA=some (v,HA')/\Ov base H'.t X HA'
theorem gZ(l:List zA)(lo:Option Lo)(h:Ov base t X HA):Ov base (xG ⟨HA.next,t⟩ l lo).t X (xG HA l lo):=h.newBlk _
theorem PQ  : wU base (kJ C ty):=by
 intro t X HA v H' ho h;unfold kJ at h ⊢
 rw[sA]at h;obtain⟨y,h1,h2⟩:=h
 cases h2;simp_all [gZ]
def zho  : wU base (bM u):=by
 intro t X HA v H' ho h
 cases h;exact⟨_,rfl,gZ _ _ ho⟩
theorem PS  : wU base (Ed C ty):=by
 intro t X HA v H' ho h;unfold Ed at h ⊢
 rw[sA]at h;obtain⟨y,h1,h3⟩:=h
 grind [oA,gZ]
theorem zbx   : wU base (zhp C ty u):=by
 intro t X HA v H' ho h;grind [zhp,gZ]
theorem PO {ps:List (Nat × zA)}:wU base (xD C ty n ps):=by
 intro t X HA v H' ho h;unfold xD at h ⊢
 simp only[sA,rB]at h;obtain⟨a,h1,b,h2,c,h3,h4,l,h5,h6⟩:=h
 grind [gZ,sA,rB]
theorem Wb(ho:Ov base t X HA)   (h:jJ C ⟨HA.next,t⟩ b off l=some H'):∃HA',jJ C HA b off l=some HA'/\Ov base H'.t X HA':=by
 unfold jJ at h ⊢
 simp only[sA,rB]at h;obtain⟨h1,c,h2,h3,h4⟩:=h
 cases h4;have h2':=h2
 unfold dD at h2';rw[sA]at h2'
 obtain⟨y,h5,_⟩:=h2'
 refine⟨_,?_,ho.setBlk h5 _⟩
 simp only[sA,rB];exact⟨h1,c,fY ho.le h2,h3,rfl⟩
theorem PC   : wU base (bB C ty a u):=by
 intro t X HA v H' ho h;unfold bB at h ⊢
 simp only[sA,rB]at h;obtain⟨y,h1,p,h2,h3,H1,h4,h5⟩:=h
 grind [Wb,sA,rB]
def PF:wU base Pb:=by
 intro t X HA v H' ho h
 cases h;exact⟨_,rfl,ho.newBlk _⟩
def CC {m k:zA}:wU base (uT C ty m k u):=by
 intro t X HA v H' ho h;unfold uT at h ⊢
 simp only[sA,rB]at h;obtain⟨a,h1,b,h2,c,h3,h4,d,h5,h6,l,h7,h8,l',h9,h10⟩:=h
 cases h10;have h7':=h7
 unfold gL at h7';rw[sA]at h7'
 obtain⟨y,h11,_⟩:=h7'
 refine⟨_,?_,ho.setBlk h11 _⟩
 simp only[sA,rB];exact⟨a,h1,b,h2,c,h3,h4,d,h5,h6,l,Gd ho.le h7,h8,l',h9,rfl⟩
def zbf(ho:Ov base t X HA){e:RE} (h:Bg C ⟨HA.next,t⟩ e=some H'):∃HA',Bg C HA e=some HA'/\Ov base H'.t X HA'/\HA'.next=HA.next/\H'.next=HA.next:=by
 obtain⟨x,y,h1,h2,rfl⟩:=Nw.1 h
 exact⟨setBlk HA e.blk y,Nw.2 ⟨x,y,ho.up h1,h2,rfl⟩,ho.setBlk h1 _,rfl,rfl⟩
theorem OG:∀ {l:List RE} {t:Tr uA} {HA:xA} {H':xA},Ov base t X HA->Gh C l ⟨HA.next,t⟩=some H'->∃HA',Gh C l HA=some HA'/\Ov base H'.t X HA'
 | [],t,HA,H',ho,h=>by cases h;exact⟨HA,rfl,ho⟩
 | e::l,t,HA,H',ho,h=>by
  unfold Gh at h ⊢
  rw[sA]at h;obtain⟨H1,h1,h⟩:=h
  obtain⟨HA1,g1,g2,g3,g4⟩:=zbf ho h1
  rw[g1,oA];obtain⟨n1,t1⟩:=H1
  have g4:n1=HA.next:=g4
  subst g4;rw[<- g3]at h;exact OG g2 h
theorem TE(ho:Ov base t X HA){e:RE}(h:Hl C ⟨HA.next,t⟩ e=true):Hl C HA e=true:=by
 cases e with
 | st b off l=>
  change (!nE (jJ C ⟨HA.next,t⟩ b off l))=true at h
  show(!nE (jJ C HA b off l))=true
  cases hs:jJ C ⟨HA.next,t⟩ b off l with
  | none=>rw[hs]at h;cases h
  | some H'=>obtain⟨HA',g,_⟩:=Wb ho hs;rw[g];rfl
 | up b k v=>
  unfold Hl at h ⊢
  rw[ybb]at h ⊢
  refine⟨h.1,?_⟩
  have h2:=h.2
  split at h2
  ·rename_i hm;rw[Gd ho.le hm]
  grind
theorem PK{es:List wO}:wU base (Gw C es):=by
 intro t X HA v H' ho h;grind [Gw,An,sA,rB,OG,fI,TE]
theorem PE {l c:zA}:wU base (aP C ty l c):=by
 intro t X HA v H' ho h;unfold aP at h ⊢
 simp only[sA,rB]at h;obtain⟨a,h1,b,h2,d,h3,n,h4,m,h5,h6,h7⟩:=h
 grind [gZ,sA,rB]
theorem PA{s:Nat}  : wU base (Ui C s d u):=by
 intro t X HA v H' ho h;unfold Ui at h ⊢
 simp only[sA,rB]at h;obtain⟨a,h1,b,h2,c,h3,et,h4,k,h5,h6,l,h7,h8⟩:=h
 cases h8;refine⟨xG HA (iY l) (some (.ty c)),?_,gZ _ _ ho⟩
 grind [sA,rB]
theorem XD(h:HLe H HA){sz:Nat}  (hx:xX H sz n u=some l):xX HA sz n u=some l:=by
 grind [xX,sA,fY]
theorem ZS(ho:Ov base t X HA){ty:eD}{b:zA} (h:lX C ⟨HA.next,t⟩ ty a b=some (v,H')):∃HA',lX C HA ty a b=some (v,HA')/\Ov base H'.t X HA':=by
 unfold lX at h;simp only[sA]at h;obtain⟨el,h1,et,h2,n,h3,new,h4,h5⟩:=h
 have h4':=XD ho.le h4
 suffices hs:∃HA',(match a.asSlice with
  | some s=>bif Nat.ble (s.2.2.1+n) s.2.2.2 then mY C HA et n new s else yX C HA el et n new s
  | none=>sB (Nat.beq a.tag 5) (cT HA el et n new))=some (v,HA')/\Ov base H'.t X HA' by
  grind [lX,sA]
 cases hs:a.asSlice with
 | some s=>
  rw[hs]at h5;simp only[]at h5 ⊢
  rw[lD]at h5;split at h5
  ·rename_i hr
   simp only[hr,cond_true];unfold mY at h5 ⊢
   grind [sA,Wb]
  ·rename_i hr
   simp only[Bool.not_eq_true]at hr;simp only[hr,cond_false];unfold yX at h5 ⊢
   rw[rB]at h5;obtain⟨gm,h5⟩:=h5
   rw[rB]at h5;obtain⟨g0,h5⟩:=h5
   rw[sA]at h5;obtain⟨c,g1,h5⟩:=h5
   have g1':=fY ho.le g1
   unfold dD at g1;rw[sA]at g1;obtain⟨y,g2,_⟩:=g1
   split at h5
   ·rename_i hc
    unfold Ir at h5;rw[sA]at h5;obtain⟨old,g3,g4⟩:=h5
    grind [gZ,rB,sA,Ir]
   ·rename_i es hc
    unfold Fl at h5;rw[rB]at h5;obtain⟨g3,g4⟩:=h5
    cases g4
    refine⟨⟨HA.next+1,(HA.t.del s.1).set HA.next (.cells (c.1.setMany new (s.2.2.1*et.size)) ((s.2.2.1+n)*et.size) (some es))⟩,?_,(ho.delBlk g2).newBlk _⟩
    grind [rB,sA,Fl]
 | none=>
  grind [rB,cT,gZ]
theorem PP{u:Nat}{b:zA}:wU base (vH C ty u a b):=by
 intro t X HA v H' ho h;grind [vH,sA,rB,ZS]
end
def Ju(ν:Nat->Nat)(ae:yP)(e:qD):Prop:=∀i p,tAd ae i=some p->aX i e=some (.ptr (ν p.1) p.2)
def Oj(base:Nat)(X0 X:Xt)(ν:Nat->Nat)(lo:Tr (List zA)):Prop:=∀d l,lo.get d=some l->X0 (ν d)=none/\base<=ν d/\∃c,X (ν d)=some (.cells c l.length none)/\∀j a,l[j]?=some a->c.get j=some a
theorem eE{base:Nat}{W J:qF}{α:Type}{x:Option α}{K:α->T}{t:Tr uA}{Q:jB}:qA base W J (uC x K) t Q ↔ ∃a,x=some a/\qA base W J (K a) t Q:=by
 cases x with
 | none=>exact⟨fun h=>(by cases h),fun⟨_,h,_⟩=>(by cases h)⟩
 | some a=>exact⟨fun h=>⟨a,rfl,h⟩,fun⟨_,h,k⟩=>(by cases h;exact k)⟩
def xP{base:Nat}{W J:qF}{b:Bool}{K:T}{t:Tr uA}{Q:jB}:qA base W J (zL b K) t Q ↔ b=true/\qA base W J K t Q:=by
 cases b with
 | false=>exact⟨fun h=>(by cases h),fun⟨h,_⟩=>(by cases h)⟩
 | true=>exact⟨fun h=>⟨rfl,h⟩,fun⟨_,h⟩=>h⟩
theorem zY{base:Nat}{W J:qF}{x:Option zA} {t:Tr uA}{Q:jB}:qA base W J (.opt x K) t Q ↔ ∃a,x=some a/\qA base W J (K a) t Q:=hZ
def Gs{base:Nat}{W J:qF}{x:Tr uA->Option zA} {t:Tr uA}{Q:jB}:qA base W J (.light x K) t Q ↔ ∃a,x t=some a/\qA base W J (K a) t Q:=hZ
theorem Dw{ν:Nat->Nat}{ae:yP}{e:qD}(h:Ju ν ae e){x:Operand}{p:Nat × Nat}(hx:xAd ae x=some p):ev x e=some (.ptr (ν p.1) p.2):=by
 cases x with
 | tmp i=>exact h i p hx
 | const _=>cases hx
 | global _=>cases hx
 | func _=>cases hx
theorem HP{c:Tr zA} (h:∀j a,l[j]?=some a->c.get j=some a):∀(n off:Nat),off+n<=l.length->c.many n off=some ((l.drop off).take n):=by
 intro n;induction n with
 | zero=>intro off _;simp;rfl
 | succ n ih=>
  intro off ho;have hlt:off<l.length:=by omega
  rw[Tr.many_succ,h off l[off] (ybd hlt),oA,ih (off+1) (by omega),oA]
  rw[ybl hlt,List.take_succ_cons]
section
variable {W J:qF}{t:Tr uA}{X X0:Xt}{HA:xA}{e eA:qD}{C:cA}{ν:Nat->Nat}{ae:yP}{lo:Tr (List zA)}{k:mN}{Q:jB}{R:zA->Prop}
theorem HV(ho:Ov C.base t X HA)(hl:Oj C.base X0 X ν lo)  {y:eD}{v:zA}(h1:lo.get d=some l)(h2:C.tys.get ty=some y)(h3:Nat.ble (off+y.size) (wB l)=true)(h4:wR C ty l off=some v) :
  fA C ty HA (.ptr (ν d) off)=some v:=by
 obtain⟨_,_,c,hc,hg⟩:=hl d l h1
 have hb:=(ho.ext _ _ hc).1
 unfold fA;simp only[zA.asPtr,oA];rw[h2,oA];grind [dD,oA,uA.asCells,wR,jS,kE,jD,HP,kS,rR,sH]
theorem oT(he:vU e eA) (hp:kU op=true\/(∃s d x,op=.convert s d x/\(rI C d=1\/rI C s=2))\/(∃c,op=.call c/\(c.callee=.builtin .max\/c.callee=.builtin .min)))
  (h:qA C.base W J (xS C op e k) t Q) (hKd:∀v,qA C.base W J (k.Kd v) t Q->R v):∃v,(wG op).f C eA HA=some v/\R v:=by
 grind [xS,eE,zd7]
theorem PJ {v:zA}{H:xA}(ht:rI C ty=4)(h:cC u=some v):pU C ty H u=some v:=by
 unfold rI at ht
 cases hy:C.tys.get ty with
 | none=>simp_all
 | some y=>
  rw[hy]at ht;have ht:y.desc.tag=4:=ht
  unfold pU;rw[hy,oA];unfold cC at h;unfold eU
  cases u<;>simp only[zA.asSlice,zA.asStr,zA.asMap,zA.tag]at h ⊢ <;> (try (rw[rB]at h;exact absurd h.1 (by decide)))
  case nilslice=>
   rw[rB]at h;have hn:y.desc.asArr=none:=by cases hd:y.desc<;>rw[hd]at ht<;>first | rfl | (cases ht;done)
   simp_all [sA,rB]
  simp_all [sA,rB]
theorem WQ {v:zA}{H:xA}(ht:rI C ty≠6)(h:pU C ty H u=some v):pU C ty H' u=some v:=by
 unfold pU at h ⊢
 simp only[sA]at h ⊢
 obtain⟨y,h1,n,h2,h3⟩:=h
 refine⟨y,h1,n,?_,h3⟩
 have ht:¬ Nat.beq y.desc.tag 6=true:=by
  grind [rI,eC]
 unfold eU at h2 ⊢
 split at h2
 all_goals grind [rB]
theorem QS {v:zA}{l h:Option zA}{H:xA}(ht:rI C ty=2)(hx:bF C ty H a l h=some v):bF C ty H' a l h=some v:=by
 unfold bF at hx ⊢
 rw[sA]at hx ⊢
 obtain⟨y,h1,h2⟩:=hx
 refine⟨y,h1,?_⟩
 unfold rI at ht;rw[h1]at ht;have ht:y.desc.tag=2:=ht
 unfold qO at h2 ⊢
 have n1:y.desc.asSlice=none:=by cases hd:y.desc<;>rw[hd]at ht<;>first | rfl | (cases ht;done)
 have n2:y.desc.asArr=none:=by cases hd:y.desc<;>rw[hd]at ht<;>first | rfl | (cases ht;done)
 simp_all
theorem Xs (h:zA.one u=true):u.cells=[u]:=by
 cases u<;>first
  | rfl
  | (have:=kC.1 h;grind [zA.tag])
theorem XJ{tyAt:Nat->Option Nat}(place:Nat->Option (Nat × Nat)):∀(vs:List (Nat × zA)) {q:List (Nat × zA × List zA) × List zA},Xl C tyAt vs=some q->zC zA.one q.2=true->∀cells l,Sl place q.1 cells=some l->tM place vs cells=some l:=by
 intro vs;induction vs with
 | nil=>intro q h _ cells l hl;cases h;exact hl
 | cons p vs ih=>
  intro q h h1 cells l hl;have h:(ob (tyAt p.1) fun t=>ob (C.tys.get t) fun ty=>ob (Xl C tyAt vs) fun r=>some (bif ty.desc.isAgg then((p.1,p.2,p.2.cells)::r.1,r.2)else((p.1,p.2,[p.2])::r.1,p.2::r.2)))=some q:=h
  simp only[sA]at h;obtain⟨ty,_,y,_,r,h3,h4⟩:=h
  have fin:∀(rest:List zA),zC zA.one r.2=true->(ob (place p.1) fun q=>ob (zkc cells q.1 q.2 p.2.cells) fun cells=>Sl place r.1 cells)=some l->tM place (p::vs) cells=some l:=by
   intro _ hr hl;show(ob (place p.1) fun q=>ob (sV cells q.1 q.2 p.2) fun cells=>tM place vs cells)=some l
   simp only[sA]at hl ⊢
   obtain⟨a,g1,b,g2,g3⟩:=hl
   exact⟨a,g1,b,g2,ih h3 hr _ _ g3⟩
  cases hb:y.desc.isAgg with
  | true=>
   rw[hb]at h4
   cases h4;exact fin [] h1 hl
  | false=>
   rw[hb]at h4
   cases h4;simp_all [fI,Sl,Xs]
theorem zh4(he:vU e eA)(ha:Ju ν ae eA)(ho:Ov C.base t X HA)(hl:Oj C.base X0 X ν lo) (h:qA C.base W J (tL C op e ae lo k) t Q)
  (hK:∀v,qA C.base W J (k.K v) t Q->R v) (hKd:∀v,qA C.base W J (k.Kd v) t Q->R v) (hKA:∀d off,qA C.base W J (k.KA d off) t Q->R (.ptr (ν d) off)) :
  ∃v,(wG op).f C eA HA=some v/\R v:=by
 cases op<;>simp only[tL]at h<;>try (cases h;done)
 case move x=>
  unfold Pp at h;split at h
  ·rename_i p hp
   exact⟨_,Dw ha hp,hKA _ _ h⟩
  ·exact oT he (.inl rfl) h hKd
 case assign x=>
  unfold Pp at h;split at h
  ·rename_i p hp
   exact⟨_,Dw ha hp,hKA _ _ h⟩
  ·exact oT he (.inl rfl) h hKd
 case pick c a b=>exact oT he (.inl rfl) h hKd
 case load ty a=>
  unfold tLoad at h;split at h
  ·rename_i p hp
   simp only[eE,xP]at h;obtain⟨l,h1,y,h2,h3,v,h4,h5⟩:=h
   refine⟨v,?_,hKd v h5⟩
   show iW ty a C eA HA=some v
   grind [IT,Dw,oA,HV]
  ·rw[eE]at h
   obtain⟨u,h1,h2⟩:=h
   rw[Gs]at h2;obtain⟨v,h3,h4⟩:=h2
   refine⟨v,?_,hK v h4⟩
   show iW ty a C eA HA=some v
   rw[IT,nF he h1,oA];exact CE ho.le h3
 case nilCheck x=>
  unfold tNil at h;split at h
  ·rename_i p hp
   refine⟨_,?_,hKA _ _ h⟩
   show Af x C eA HA=_
   rw[zf1 (Dw ha hp)];rfl
  ·rw[eE]at h
   obtain⟨u,h1,h2⟩:=h
   rw[zY]at h2;obtain⟨v,h3,h4⟩:=h2
   refine⟨v,?_,hK v h4⟩
   show Af x C eA HA=_
   grind [zf1,nF]
 case binOp op ty x y u=>
  unfold tBin at h;rw[lD]at h;split at h
  ·exact oT he (.inl rfl) h hKd
  ·simp only[eE,zY]at h
   obtain⟨a,h1,b,h2,v,h3,h4⟩:=h
   refine⟨v,?_,hK v h4⟩
   show cW op ty x y C eA HA=_
   grind [lBin_v,nF]
 case unOp o ty x=>
  split at h
  ·simp only[eE,zY]at h
   obtain⟨u,h1,v,h2,h3⟩:=h
   refine⟨v,?_,hK v h3⟩
   show lUn .xor x C eA HA=_
   unfold lUn;rw[nF he h1];exact h2
  ·exact oT he (.inl rfl) h hKd
 case convert s d x=>
  unfold zh6 at h;rw[lD]at h;split at h
  ·rename_i hd
   rw[lD]at h;split at h
   ·rename_i hs
    exact oT he (.inr (.inl ⟨s,d,x,rfl,.inr (eC.1 hs)⟩)) h hKd
   ·simp only[eE,Gs]at h
    obtain⟨u,h1,v,h2,h3⟩:=h
    refine⟨v,?_,hK v h3⟩
    show rQ s d x C eA HA=_
    rw[JF (nF he h1)];exact PN ho.le h2
  ·rw[lD]at h
   split at h
   ·rename_i hd
    exact oT he (.inr (.inl ⟨s,d,x,rfl,.inl (eC.1 hd)⟩)) h hKd
   ·cases h
 case makeInterface ty x=>exact oT he (.inl rfl) h hKd
 case makeFunc fn a b=>exact oT he (.inl rfl) h hKd
 case slice ty x lo' hi mx=>
  cases mx with
  | some _=>cases h
  | none=>
   simp only[ze3,eE]at h;obtain⟨a,h1,l,h2,r,h3,h4⟩:=h
   rw[lD]at h4;show ∃v,Ad ty x lo' hi C eA HA=some v/\R v
   rw[zdi (nF he h1) (LY he h2) (LY he h3)]
   split at h4
   ·grind [zY,QS,eC]
   ·rw[Gs]at h4
    obtain⟨v,h5,h6⟩:=h4
    exact⟨v,PD ho.le h5,hK v h6⟩
 case fieldAddr s x f=>
  unfold DB at h;show ∃v,eW s x f C eA HA=some v/\R v
  split at h
  ·rename_i p hp
   rw[eE]at h;obtain⟨o,h1,h2⟩:=h
   refine⟨_,?_,hKA _ _ h2⟩
   rw[JC (Dw ha hp)]
   unfold jC;rw[h1];rfl
  grind [eE,zY,JC,nF]
 case field ty x f=>exact oT he (.inl rfl) h hKd
 case indexAddr ty x i=>
  unfold CZ at h;show ∃v,gW ty x i C eA HA=some v/\R v
  split at h
  ·rename_i p hp
   simp only[eE]at h;obtain⟨iv,h1,n,h2,o,h3,h4⟩:=h
   refine⟨_,?_,hKA _ _ h4⟩
   rw[IX (Dw ha hp) (nF he h1)]
   unfold CG at h3;simp only[sA,rB]at h3;obtain⟨y,g1,a,g2,et,g3,g4,g5⟩:=h3
   cases g5
   unfold mC;rw[g1,oA,h2,oA];simp only[zA.asSlice,zA.asPtr,oA];rw[g2,oA,g3,oA,g4];rfl
  grind [eE,zY,IX,nF]
 case index ty x i=>
  rw[lD]at h;split at h
  ·exact oT he (.inl rfl) h hKd
  ·simp only[eE,zY]at h
   obtain⟨u,h1,w,h2,v,h3,h4⟩:=h
   refine⟨v,?_,hK v h4⟩
   show fW ty x i C eA HA=_
   grind [zdk,nF]
 case lookup ty x i ok=>
  simp only[eE,Gs]at h;obtain⟨m,h1,key,h2,v,h3,h4⟩:=h
  refine⟨v,?_,hK v h4⟩
  show jW ty x i ok C eA HA=_
  rw[WI (nF he h1) (nF he h2)];exact PG ho.le h3
 case extract x i=>
  simp only[eE,zY]at h;obtain⟨u,h1,v,h2,h3⟩:=h
  refine⟨v,?_,hK v h3⟩
  show dW x i C eA HA=_
  grind [WJ,nF]
 case typeAssert x a u ok=>
  simp only[eE,zY]at h;obtain⟨w,h1,v,h2,h3⟩:=h
  refine⟨v,?_,hK v h3⟩
  show bW x u ok C eA HA=_
  grind [WK,nF]
 case build ty ps=>
  unfold ze5 at h;simp only[eE,xP]at h;obtain⟨y,h1,hbd,vs,h2,q,h3,l,h4,h5⟩:=h
  have h5:if zC zA.one q.2=true then qA C.base W J (k.Kd (.agg l)) t Q else False:=h5
  split at h5
  ·rename_i hone
   refine⟨_,?_,hKd _ h5⟩
   show pY ty ps C eA HA=_
   have hf:=XJ (Hu C y) vs h3 hone y.zero l h4
   unfold pY;rw[h1,oA,AI he h2,oA]
   cases hs:y.desc.asStruct with
   | some fs=>
    simp only[];have:(fun i=>ob (oD fs i) fun x=>some (x.1,x.2.2))=Hu C y:=by funext i;unfold Hu;rw[hs]
    simp_all
   | none=>
    simp only[];unfold NY at hbd;rw[hs]at hbd;simp only[]at hbd
    cases ha:y.desc.asArr with
    | none=>simp_all
    | some a=>
     rw[ha]at hbd;simp only[]at hbd
     cases hy:C.tys.get a.2 with
     | none=>simp_all
     | some et=>
      simp only[oA];have:(fun i=>some (i*et.size,et.size))=Hu C y:=by funext i;unfold Hu;rw[hs];simp only[];rw[ha,oA,hy,oA]
      simp_all
  simp_all
 case call c=>
  split at h
  ·rename_i b hb
   cases b<;>simp only[Ku]at h<;>try (cases h;done)
   case len=>
    unfold tLen at h;simp only[eE]at h;obtain⟨ty,h1,x,h2,u,h3,h4⟩:=h
    show ∃v,(dT c c.callee).f C eA HA=some v/\R v
    rw[hb];show ∃v,oR c C eA HA=some v/\R v
    rw[lLen_v h1 h2 (nF he h3)]
    rw[lD]at h4;split at h4
    ·grind [zY,PJ,eC]
    ·rw[lD]at h4
     split at h4
     ·rw[Gs]at h4
      obtain⟨v,h5,h6⟩:=h4
      exact⟨v,PH ho.le h5,hK v h6⟩
     grind [eE,WQ,eC]
   case max=>exact oT he (.inr (.inr ⟨c,rfl,.inl hb⟩)) h hKd
   case min=>exact oT he (.inr (.inr ⟨c,rfl,.inr hb⟩)) h hKd
  ·cases h
end
end
end Go.Am
