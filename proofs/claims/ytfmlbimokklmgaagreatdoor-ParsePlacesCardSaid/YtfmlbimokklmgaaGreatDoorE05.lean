/- Code as a function: all functions of a program; what a value is worth. -/
import Derived.Test.YtfmlbimokklmgaaGreatDoorE04
set_option linter.all false
noncomputable section
namespace Go.Am
open Go Go.RowKit
section
def gU (C:mA)(fn:Func)(tm:Tm)(H:xA):mB:=ob (zU C H tm fn.results.toList) fun l=>some (⟨Dl l,false⟩,H)
def mO (C:mA)(fn:Func):Kt:=⟨gU C fn,fun _ _ _=>none,gU C fn⟩
def Bl(ops:List Oper):Bool:=aB (fun o=>match o.op with | .move _=>tE o.guard | .assign _=>tE o.guard | .alloc _=>tE o.guard | .store _ _ _=>tE o.guard | _=>false) ops
def Pk(l:List (Nat × Array Oper)):Bool:=match l with | []=>false | x::r=>aB (fun x=>Bl x.2.toList) (x::r)
def Kw(c:oC):Option Fv:=match rK c with | [q]=>some q | _=>none
def rdOk (r:cM)(q:Fv):Prop:=r.assign=asC q.as/\r.body=yE q.c/\r.params=q.ps.toList/\LoopState.tag r.state=0/\Pk q.as=true/\rK q.c=[]
def Fl(r:cM):cM:=⟨.busy,r.pending,r.fn,r.n,r.tm,r.params,r.assign,r.body,r.defers⟩
def dO(b:Bool)(r:cM):cM:=⟨if b then .ready else .done,if b then none else some .ret,r.fn,r.n,r.tm,r.params,r.assign,r.body,r.defers⟩
def rdK:Kt:=⟨fun _ H=>some (⟨.bool true,false⟩,H),fun _ _ _=>none,fun _ H=>some (⟨.bool false,false⟩,H)⟩
def Si(C:mA)(φ:fE)(fn n:Nat)(q:Fv)(tm:Tm)(H:xA):mB:=mD C φ fn n (asA q.c q.as) rdK tm H
def Dx(C:mA)(A:Tr oC)(φ:fE)(l:Nat)(args:List zA)(H:xA):mB:=
 ob (yJ H l) fun r=>ob (fY r.n r.params args r.tm) fun tm=>ob (A.get r.fn) fun c=>ob (Kw c) fun q=>@ite _ (rdOk r q/\l<H.next) (Classical.propDecidable _)
  (ob (Si C φ r.fn r.n q tm (setBlk H l (.loop (Fl r)))) fun x=>xB (!x.1.p) (ob (yJ x.2 l) fun r2=>ob x.1.v.asBool fun b=>some (⟨.bool b,false⟩,setBlk x.2 l (.loop (dO b r2))))) none
def regO (c:oC):Option (Nat × Array Oper):=match c with
 | .region id ops false=>some (id,ops)
 | .cut _ (.region id ops false)=>some (id,ops)
 | _=>none
structure zQ where
 i5:Nat
 o5:Array Oper
 d:Nat
 cl:Nat
 bs:List Operand
 i6:Nat
 o6:Array Oper
def Fdzx (l:List Oper):Option (Nat × Nat × List Operand):=match l with
 | [⟨some d,.makeFunc (.func cl) as bs,_,_,_,none⟩,⟨none,.defer cc,_,_,_,none⟩]=>(match as.toList,cc.callee,cc.args.toList with
  | [],.value (.tmp e),[]=>bif Nat.beq d e then some (d,cl,bs.toList)else none
  | _,_,_=>none)
 | _=>none
def Oe(c:oC):Option zQ:=match c with
 | .seq a (.seq b .ret)=>ob (regO a) fun u=>ob (regO b) fun v=>ob (Fdzx u.2.toList) fun q=>some ⟨u.1,u.2,q.1,q.2.1,q.2.2,v.1,v.2⟩
 | _=>none
def rV(c:oC):Option (List oC × zQ):=
 oC.rec (motive:=fun _=>Option (List oC × zQ)) none (fun _ _ _=>none)
  (fun a b _ g=>match Oe (.seq a b)with | some q=>some ([],q) | none=>ob g fun p=>some (a::p.1,p.2))
  (fun _ _ _ _ _=>none) (fun _ _ _=>none) (fun _ _ _=>none) (fun _=>none) none (fun _ _ _=>none) (fun _ _ _ _ _ _ _=>none) c
def mX (l:List oC):oC:=List.rec (motive:=fun _=>oC) .skip (fun a _ g=>.seq a g) l
def recO (l:List Oper):Option (Nat × Nat):=match l with
 | [⟨some d,.call cc,_,_,_,none⟩,⟨some e,.assign (.tmp f),_,_,_,none⟩]=>(match cc.callee with
  | .builtin .recover=>bif Nat.beq d f then some (d,e)else none
  | _=>none)
 | _=>none
structure ClQ where
 i:Nat
 o:Array Oper
 d:Nat
 e:Nat
 c:oC
def Fh (c:oC):Option ClQ:=match c with
 | .seq a b=>ob (regO a) fun u=>ob (recO u.2.toList) fun p=>some ⟨u.1,u.2,p.1,p.2,b⟩
 | _=>none
def clTm (n:Nat)(q:ClQ)(tm:Tm)(v:zA):Tm:=putA n (putA n tm.cut (some q.d) v) (some q.e) v
def tS(C:mA)(A:Tr oC)(φ:fE)(cl:Nat)(cells:List zA)(v:zA)(H:xA):mB:=
 ob (C.fns.get cl) fun fc=>ob (A.get cl) fun cc=>ob (Fh cc) fun q=>xB (tE (C.prims.get cl)&&Nat.blt q.d fc.ntmps) (ob (zK C cl cells true) fun g=>mD C φ cl fc.ntmps q.c (mO C fc) (clTm fc.ntmps q g.tm v) H)
def uM (C:mA)(A:Tr oC)(φ:fE)(fn:Func)(cl:Nat)(cells:List zA)(v:zA)(tm:Tm)(H:xA):mB:=
 ob (tS C A φ cl cells v H) fun y=>xB (!y.1.p) (gU C fn tm y.2)
def Mt(l:List ResultVar)(o6:List Oper):Bool:=aB (fun r=>match r with | .cell a _=>aB (fun o=>match o.dst with | some d => !Nat.beq d a | none=>true) o6 | .tmp _=>false) l
def uQ(C:mA)(A:Tr oC)(φ:fE)(fn:Func)(q:zQ)(tm:Tm)(H:xA):mB:=
 xB (Mt fn.results.toList q.o6.toList&&(Nat.ble tm.k q.d&&Nat.blt q.d fn.ntmps)) (ob (aN q.bs (.now tm.cut)) fun cells=>
  ob (xM C φ q.o6 fn.ntmps (fun tm' H'=>uM C A φ fn q.cl cells .niliface tm' H') q.o6.toList tm.cut H) fun x=>
   Bool.rec (motive:=fun _=>mB) (some x) (uM C A φ fn q.cl cells x.1.v tm.cut x.2) x.1.p)
def Bf (C:mA)(A:Tr oC)(φ:fE)(fn:Func)(q:zQ):Kt:=⟨uQ C A φ fn q,fun _ _ _=>none,gU C fn⟩
def lW(C:mA)(A:Tr oC)(φ:fE)(f:Nat)(fn:Func)(c:oC)(tm:Tm)(H:xA):mB:=
 match rV c with
 | none=>mD C φ f fn.ntmps c (mO C fn) tm H
 | some p=>mD C φ f fn.ntmps (mX p.1) (Bf C A φ fn p.2) tm H
def yS (C:mA)(A:Tr oC)(φ:fE)(f:Nat)(args:List zA)(H:xA):mB:=
 ob (A.get f) fun c=>ob (C.fns.get f) fun fn=>ob (zK C f args false) fun g=>lW C A φ f fn c g.tm H
def Dp(C:mA)(A:Tr oC)(φ:fE):fE
 | .func f=>yS C A φ f
 | .yld l=>Dx C A φ l
def Bo (C:mA)(A:Tr oC):Nat->fE
 | 0=>fun _ _ _=>none
 | n+1=>Dp C A (Bo C A n)
def cC (C:mA)(A:Tr oC):fE:=fun f args H=>lim fun n=>Bo C A n f args H
section
variable {C:mA}{A:Tr oC}
theorem Gm{φ:fE}{l:Nat}{args:List zA}{H:xA}{x:mH × xA}:Dx C A φ l args H=some x ↔ ∃r tm c q y r2 b,yJ H l=some r/\fY r.n r.params args r.tm=some tm/\A.get r.fn=some c/\Kw c=some q/\(rdOk r q/\l<H.next)/\Si C φ r.fn r.n q tm (setBlk H l (.loop (Fl r)))=some y/\yJ y.2 l=some r2/\y.1=⟨.bool b,false⟩/\x=(⟨.bool b,false⟩,setBlk y.2 l (.loop (dO b r2))):=by
 have out:∀(o:mH) (b:Bool),o=⟨.bool b,false⟩ ↔ o.v=.bool b/\o.p=false:=fun o b=>by cases o;simp
 unfold Dx;simp only[out];grind [tA,Cm,wB]
def YD{φ φ':fE}(h:sO φ φ'){cl:Nat}{cells:List zA}{v:zA}{H:xA}{x:mH × xA}(hx:tS C A φ cl cells v H=some x):tS C A φ' cl cells v H=some x:=by
 unfold tS at hx ⊢
 simp only[tA,wB]at hx ⊢
 obtain⟨fc,h1,cc,h2,q,h3,h4,g,h5,h6⟩:=hx
 exact⟨fc,h1,cc,h2,q,h3,h4,g,h5,Ad h _ _ _ (wP.refl _) _ _ _ h6⟩
def Ml{φ φ':fE}(h:sO φ φ'){fn:Func}{cl:Nat}{cells:List zA}{v:zA}{tm:Tm}{H:xA}{x:mH × xA}(hx:uM C A φ fn cl cells v tm H=some x):uM C A φ' fn cl cells v tm H=some x:=by
 unfold uM at hx ⊢
 rw[tA]at hx ⊢
 obtain⟨y,h1,h2⟩:=hx
 exact⟨y,YD h h1,h2⟩
def BQ{φ φ':fE}(h:sO φ φ'){fn:Func}{q:zQ}:eJ (uQ C A φ fn q) (uQ C A φ' fn q):=by
 intro tm H x hx;unfold uQ at hx ⊢
 simp only[wB,tA]at hx ⊢
 obtain⟨h1,cells,h2,y,h3,h4⟩:=hx
 refine⟨h1,cells,h2,y,Kv h (fun tm H x hx=>Ml h hx) _ _ _ _ h3,?_⟩
 cases hp:y.1.p with
 | false=>rw[hp]at h4;exact h4
 | true=>rw[hp]at h4;exact Ml h h4
def ZD{φ φ':fE}(h:sO φ φ'){f:Nat}{fn:Func}{c:oC}:eJ (lW C A φ f fn c) (lW C A φ' f fn c):=by
 intro tm H x hx;unfold lW at hx ⊢
 split at hx
 ·exact Ad h c _ _ (wP.refl _) _ _ _ hx
 ·exact Ad h _ (Bf C A φ fn _) (Bf C A φ' fn _) ⟨BQ h,fun _ _ _ _ h=>h,fun _ _ _ h=>h⟩ _ _ _ hx
def KV{φs:Nat->fE}{φ:fE}(h:aU φs φ){fn:Func}{cl:Nat}{cells:List zA}{v:zA}:wO (fun n=>uM C A (φs n) fn cl cells v) (uM C A φ fn cl cells v):=by
 refine⟨fun n tm H x hx=>Ml (h.up n) hx,fun tm H x hx=>?_⟩
 unfold uM at hx;rw[tA]at hx;obtain⟨y,h1,h2⟩:=hx
 unfold tS at h1;simp only[tA,wB]at h1;obtain⟨fc,g1,cc,g2,q,g3,g4,g,g5,g6⟩:=h1
 have sup:Cs (fun _=>mO C fc) (mO C fc):=⟨⟨fun _ _ _ _ h=>h,fun _ _ _ h=>⟨0,h⟩⟩,fun i=>⟨fun _ _ _ _ h=>h,fun _ _ _ h=>⟨0,h⟩⟩,⟨fun _ _ _ _ h=>h,fun _ _ _ h=>⟨0,h⟩⟩⟩
 obtain⟨n,hn⟩:=(Mm h q.c _ _ sup).ex _ _ _ g6
 refine⟨n,?_⟩
 show uM C A (φs n) fn cl cells v tm H=some x
 unfold uM tS;simp only[tA,wB];rw[wB]at h2;exact⟨y,⟨fc,g1,cc,g2,q,g3,g4,g,g5,hn⟩,h2⟩
def OW{φs:Nat->fE}{φ:fE}(h:aU φs φ){fn:Func}{q:zQ}:wO (fun n=>uQ C A (φs n) fn q) (uQ C A φ fn q):=by
 refine⟨fun n=>BQ (h.up n),fun tm H x hx=>?_⟩
 unfold uQ at hx;simp only[wB,tA]at hx;obtain⟨h1,cells,h2,y,h3,h4⟩:=hx
 obtain⟨n,hn⟩:=(FJ h (KV h) _).ex _ _ _ h3
 have key:∀m,n<=m->xM C (φs m) q.o6 fn.ntmps (fun tm' H'=>uM C A (φs m) fn q.cl cells .niliface tm' H') q.o6.toList tm.cut H=some y:=
  fun m hm=>Kv (h.le hm) (fun tm H x hx=>Ml (h.le hm) hx) _ _ _ _ hn
 cases hp:y.1.p with
 | false=>
  rw[hp]at h4;refine⟨n,?_⟩
  show uQ C A (φs n) fn q tm H=some x
  unfold uQ;simp only[wB,tA];exact⟨h1,cells,h2,y,hn,by rw[hp];exact h4⟩
 | true=>
  rw[hp]at h4;obtain⟨m,hm⟩:=(KV h).ex _ _ _ h4
  refine⟨max n m,?_⟩
  show uQ C A (φs (max n m)) fn q tm H=some x
  unfold uQ;simp only[wB,tA];exact⟨h1,cells,h2,y,key _ (Nat.le_max_left _ _),by rw[hp];exact Ml (h.le (Nat.le_max_right _ _)) hm⟩
def ZB{φs:Nat->fE}{φ:fE}(h:aU φs φ){f:Nat}{fn:Func}{c:oC}{tm:Tm}{H:xA}{x:mH × xA}(hx:lW C A φ f fn c tm H=some x):∃n,lW C A (φs n) f fn c tm H=some x:=by
 unfold lW at hx ⊢
 split at hx
 ·have sup:Cs (fun _=>mO C fn) (mO C fn):=⟨⟨fun _ _ _ _ h=>h,fun _ _ _ h=>⟨0,h⟩⟩,fun i=>⟨fun _ _ _ _ h=>h,fun _ _ _ h=>⟨0,h⟩⟩,⟨fun _ _ _ _ h=>h,fun _ _ _ h=>⟨0,h⟩⟩⟩
  exact(Mm h c _ _ sup).ex _ _ _ hx
 ·rename_i p _
  exact(Mm h (mX p.1) (fun n=>Bf C A (φs n) fn p.2) (Bf C A φ fn p.2) ⟨OW h,fun i=>⟨fun _ _ _ _ h=>h,fun _ _ _ h=>⟨0,h⟩⟩,⟨fun _ _ _ _ h=>h,fun _ _ _ h=>⟨0,h⟩⟩⟩).ex _ _ _ hx
def CZ{φ φ':fE}(h:sO φ φ'):sO (Dp C A φ) (Dp C A φ'):=by
 intro f args H x hx
 cases f with
 | yld l=>
  have hx:Dx C A φ l args H=some x:=hx
  obtain⟨r,tm,c,q,y,r2,b,h1,h2,h3,h4,hq,h5,h6,h7,h8⟩:=Gm.1 hx
  exact Gm.2 ⟨r,tm,c,q,y,r2,b,h1,h2,h3,h4,hq,Ad h _ _ _ (wP.refl _) _ _ _ h5,h6,h7,h8⟩
 | func f=>
 have hx:yS C A φ f args H=some x:=hx
 show yS C A φ' f args H=some x
 unfold yS at hx ⊢
 rw[tA]at hx ⊢
 obtain⟨c,h1,hx⟩:=hx
 refine⟨c,h1,?_⟩
 rw[tA]at hx ⊢
 obtain⟨fn,h2,hx⟩:=hx
 refine⟨fn,h2,?_⟩
 rw[tA]at hx ⊢
 obtain⟨g,h3,hx⟩:=hx
 exact⟨g,h3,ZD h _ _ _ hx⟩
def FT:∀n,sO (Bo C A n) (Bo C A (n+1)):=by
 intro n;induction n with
 | zero=>intro f args H x h;cases h
 | succ n ih=>exact CZ ih
def Ew{f:AFn}{args:List zA}{H:xA}{x:mH × xA}:cC C A f args H=some x ↔ ∃n,Bo C A n f args H=some x:=
 Qk fun n _ hy=>FT n _ _ _ _ hy
def JV:aU (Bo C A) (cC C A):=⟨FT,fun _ _ _ _ h=>Ew.1 h⟩
theorem Yu(f:AFn)(args:List zA)(H:xA):cC C A f args H=Dp C A (cC C A) f args H:=by
 have key:∀x,cC C A f args H=some x ↔ Dp C A (cC C A) f args H=some x:=by
  intro x;constructor
  ·intro h
   obtain⟨n,hn⟩:=Ew.1 h
   cases n with
   | zero=>cases hn
   | succ n=>exact CZ (fun f a H y hy=>Ew.2 ⟨n,hy⟩) _ _ _ _ hn
  ·intro h
   cases f with
   | yld l=>
    have h:Dx C A (cC C A) l args H=some x:=h
    obtain⟨r,tm,c,q,y,r2,b,h1,h2,h3,h4,hq,h5,h6,h7,h8⟩:=Gm.1 h
    have sup:Cs (fun _=>rdK) rdK:=⟨⟨fun _ _ _ _ h=>h,fun _ _ _ h=>⟨0,h⟩⟩,fun i=>⟨fun _ _ _ _ h=>h,fun _ _ _ h=>⟨0,h⟩⟩,⟨fun _ _ _ _ h=>h,fun _ _ _ h=>⟨0,h⟩⟩⟩
    obtain⟨n,hn⟩:=(Mm JV _ _ _ sup).ex _ _ _ h5
    exact Ew.2 ⟨n+1,Gm.2 ⟨r,tm,c,q,y,r2,b,h1,h2,h3,h4,hq,hn,h6,h7,h8⟩⟩
   | func f=>
   have h:yS C A (cC C A) f args H=some x:=h
   unfold yS at h;rw[tA]at h;obtain⟨c,h1,h⟩:=h
   rw[tA]at h;obtain⟨fn,h2,h⟩:=h
   rw[tA]at h;obtain⟨g,h3,h⟩:=h
   obtain⟨n,hn⟩:=ZB JV h
   refine Ew.2 ⟨n+1,?_⟩
   show yS C A (Bo C A n) f args H=some x
   grind [yS,rA]
 cases h:cC C A f args H with
 | some x=>grind
 | none=>
  cases h2:Dp C A (cC C A) f args H with
  | none=>rfl
  | some x=>simp_all
def zX(C:mA)(A:Tr oC):Prop:=∀f c,A.get f=some c->∃fn,C.fns.get f=some fn/\fn.body=some (yE c)
theorem WS{f:Nat}{args:List zA}{g:jB}(h:zK C f args false=some g):∃fn c,C.fns.get f=some fn/\fn.body=some c/\g.todo=[.code c]/\g.R=⟨f,fn.ntmps,[],.run,false,none⟩:=by
 grind [zK,tA,wB]
theorem Qg{α β:Type}{f g:α->Option β}:∀(l:List α) {r:List β},(∀a b,f a=some b->g a=some b)->vH f l=some r->vH g l=some r:=by
 intro l;induction l with
 | nil=>intro r _ h;exact h
 | cons a l ih=>
  grind [lP,tA]
def wR(C:mA)(f:Nat)(acs:List jB)(fl:Bool:=false):aW:=fun ds o x=>∃fr',o=.next ⟨fr',acs,x.2⟩/\bP C f ds fr' x.2 x.1 fl
def QW{H:xA}{tm:Tm}{r:Nat}{d e:Option (List lH)}(hr:H.t.get r=some (.deferred d)):∀(l:List ResultVar) vs,zU C H tm l=some vs->zU C (setBlk H r (.deferred e)) tm l=some vs:=by
 intro l vs h;refine Qg l (fun rv v h=>?_) h
 cases rv with
 | tmp t=>exact h
 | cell a t=>
  have h:(ob (ob (tm.get a) zA.asPtr) fun p=>ob (C.tys.get t) fun ty=>ob (kD H p.1) fun c=>dR ty c.1 p.2)=some v:=h
  show(ob (ob (tm.get a) zA.asPtr) fun p=>ob (C.tys.get t) fun ty=>ob (kD (setBlk H r (.deferred e)) p.1) fun c=>dR ty c.1 p.2)=some v
  simp only[tA]at h ⊢
  obtain⟨p,hp,ty,ht,c,hc,hv⟩:=h
  refine⟨p,hp,ty,ht,c,?_,hv⟩
  unfold kD at hc ⊢
  rw[tA]at hc ⊢
  obtain⟨y,h1,h2⟩:=hc
  refine⟨y,?_,h2⟩
  show(H.t.set r (.deferred e)).get p.1=some y
  rw[Tr.get_set,yaa fun e=>by rw[e,hr]at h1;cases h1;cases h2]
  exact h1
def bP.ret{f:Nat}{ds:List lH}{fr:jB}{H:xA}{o:mH}{fl:Bool}(h:bP C f ds fr H o fl)(hp:o.p=false):Fu C f ds fr H o.v fl:=by
 unfold bP at h;rwa [hp,yaa (by simp)]at h
def bP.of{f:Nat}{ds:List lH}{fr:jB}{H:xA}{o:mH}{fl:Bool}(h:Fu C f ds fr H o.v fl)(hp:o.p=false):bP C f ds fr H o fl:=by
 unfold bP;rwa [hp,yaa (by simp)]
def Rh{f N:Nat}{acs:List jB}{fl:Bool}(hfn:∃fn,C.fns.get f=some fn):Ir C (wR C f acs fl) (fun _=>True) f N none acs fl:=by
 refine⟨?_,fun _ _=>trivial,?_,fun ds todo tm x _ hp=>⟨_,rfl,by unfold bP;rw[yab hp];exact⟨⟨rfl,rfl,rfl,rfl⟩,hfn⟩⟩⟩
 ·rintro ds todo tm H x ⟨fr',h1,h2⟩
  cases h1;unfold bP at h2;split at h2
  ·have:=h2.1.1;cases this
  ·have:=h2.1;cases this
 ·rintro _ r ds o x hp ⟨fr',rfl,hE⟩ hd
  obtain⟨h1,h2,h3,h4,fn,l,h5,h6,h7⟩:=hE.ret hp
  obtain⟨todo,tm,ffn,n,defers,mode,deferred,round⟩:=fr'
  simp only at h1 h2 h3 h4 h6
  subst h1 h2 h3 h4
  have hr:x.2.t.get r=some (.deferred (some [])):=by
   unfold oW at hd;rw[wB,tA]at hd;obtain⟨_,y,e1,e2⟩:=hd
   cases y<;>cases e2
   exact e1
  refine⟨_,.step ?_,⟨⟨todo,tm,⟨ffn,n,ds,.returning,deferred,round⟩⟩,rfl,bP.of ⟨rfl,rfl,rfl,rfl,fn,l,h5,QW hr _ _ h6,h7⟩ hp⟩⟩
  show nK C (Dk C ⟨none,r,[]⟩ ds ⟨todo,tm,⟨ffn,n,⟨none,r,[]⟩::ds,.returning,deferred,round⟩⟩ acs x.2) _
  unfold Dk;simp only[hd,rA];exact .refl _
def Mk{f:Nat}{fn:Func}{acs:List jB}{x:mH × xA}{ds:List lH}{fl:Bool}(hf:C.fns.get f=some fn){tm:Tm}{H:xA}(h:gU C fn tm H=some x){todo:List oE}{N:Nat}
  (hs:vS C todo tm (RR f N none ds fl) acs H=.next ⟨eY ⟨todo,tm,RR f N none ds fl⟩ .returning,acs,H⟩):Fin C (wR C f acs fl) ds (.next ⟨⟨todo,tm,RR f N none ds fl⟩,acs,H⟩) x:=by
 unfold gU at h;rw[tA]at h;obtain⟨l,h1,h2⟩:=h
 cases h2;refine .step ?_
 rw[aI rfl,hs];exact⟨_,.refl _,_,rfl,bP.of ⟨rfl,rfl,rfl,rfl,fn,l,hf,h1,rfl⟩ rfl⟩
def RdG (l:Nat)(c:jB):mH × xA->Prop:=fun x=>∃b r2 c',x.1=⟨.bool b,false⟩/\yJ x.2 l=some r2/\jH c (.bool b)=some c'
def RdEnd(l:Nat)(c:jB)(acs:List jB):aW:=fun _ o x=>∃b r2 c',x.1=⟨.bool b,false⟩/\yJ x.2 l=some r2/\jH c (.bool b)=some c'/\o=.next ⟨c',acs,setBlk x.2 l (.loop (dO b r2))⟩
def DG{l b:Nat}(h:b≠l)(t:Tr vA)(x y:vA):(t.set l x).set b y=(t.set b y).set l x:=Tr.set_comm t _ _ _ _ (fun e=>h e.symm)
theorem ZJ{C:mA}{φ:fE}{all:Array Oper}{n:Nat}{κn:Tm->xA->mB}{l0:Nat}{r0 r1:cM}:∀(l:List Oper) (tm:Tm) (H:xA) (x:mH × xA),Bl l=true->l0<H.next->H.t.get l0=some (.loop r0)->xM C φ all n κn l tm (setBlk H l0 (.loop r1))=some x →
  ∃tm' H',κn tm' (setBlk H' l0 (.loop r1))=some x/\l0<H'.next/\H'.t.get l0=some (.loop r0)/\∀(k:List oE) (R:bJ) (cs:List jB),R.n=n->zM C all k R cs l tm H=xGo k tm' R cs H':=by
 intro l;induction l with
 | nil=>intro tm H x _ h1 h2 h;exact⟨tm,H,h,h1,h2,fun _ _ _ _=>rfl⟩
 | cons o l ih=>
  intro tm H x hp hl hg h;have hp:(bif (match o.op with | .move _=>tE o.guard | .assign _=>tE o.guard | .alloc _=>tE o.guard | .store _ _ _=>tE o.guard | _=>false)then Bl l else false)=true:=hp
  have hp1:(match o.op with | .move _=>tE o.guard | .assign _=>tE o.guard | .alloc _=>tE o.guard | .store _ _ _=>tE o.guard | _=>false)=true:=by
   simp_all
  rw[hp1]at hp;have hp:Bl l=true:=hp
  have hw:zG o.guard all tm=some true:=by
   have:tE o.guard=true:=by cases ho:o.op<;>rw[ho]at hp1<;>first | exact hp1 | (cases hp1;done)
   cases hx:o.guard with
   | none=>rfl
   | some g=>rw[hx]at this;cases this
  rw[Bm,hw,rA,yab rfl]at h;have key:∃v H',(gE o.op).f C (.now tm) (setBlk H l0 (.loop r1))=.val v (setBlk H' l0 (.loop r1))/\(gE o.op).f C (.now tm) H=.val v H'/\l0<H'.next/\H'.t.get l0=some (.loop r0):=by
   cases ho:o.op<;>rw[ho]at hp1 h<;>try (cases hp1;done)
   case move u=>
    have e:∀H,(gE (.move u)).f C (.now tm) H=lv (cN u) C (.now tm) H:=fun _=>rfl
    rw[e]at h
    cases hv:ev u (.now tm)with
    | none=>
     have:lv (cN u) C (.now tm) (setBlk H l0 (.loop r1))=.fail:=by unfold lv cN;rw[hv]
     rw[this]at h;cases h
    | some v=>exact⟨v,H,by rw[e];unfold lv cN;rw[hv],by rw[e];unfold lv cN;rw[hv],hl,hg⟩
   case assign u=>
    have e:∀H,(gE (.assign u)).f C (.now tm) H=lv (cN u) C (.now tm) H:=fun _=>rfl
    rw[e]at h
    cases hv:ev u (.now tm)with
    | none=>
     have:lv (cN u) C (.now tm) (setBlk H l0 (.loop r1))=.fail:=by unfold lv cN;rw[hv]
     rw[this]at h;cases h
    | some v=>exact⟨v,H,by rw[e];unfold lv cN;rw[hv],by rw[e];unfold lv cN;rw[hv],hl,hg⟩
   case alloc t=>
    have e:∀H,(gE (.alloc t)).f C (.now tm) H=sL (ob (C.tys.get t) fun ty=>some (.ptr H.next 0,fF H ty.zero (sK C t))):=fun _=>rfl
    rw[e]at h
    cases ht:C.tys.get t with
    | none=>rw[ht]at h;cases h
    | some ty=>
     refine⟨.ptr H.next 0,fF H ty.zero (sK C t),?_,by rw[e,ht];rfl,Nat.lt_succ_of_lt hl,?_⟩
     ·rw[e,ht]
      show uK.val (.ptr H.next 0) (fF (setBlk H l0 (.loop r1)) ty.zero (sK C t))=_
      congr 1
      show(⟨H.next+1,(H.t.set l0 _).set H.next _⟩:xA)=⟨H.next+1,(H.t.set H.next _).set l0 _⟩
      rw[DG (by omega)]
     ·show(H.t.set H.next _).get l0=_
      rw[Tr.get_set,yaa (by omega),hg]
   case store t a u=>
    have e:∀H,(gE (.store t a u)).f C (.now tm) H=sL (ob (C.tys.get t) fun ty=>ob (ev a (.now tm)) fun a=>ob a.asPtr fun p=>ob (ev u (.now tm)) fun v=>xB (Nat.beq (zB v.cells) ty.size) (ob (tJ C H p.1 p.2 v.cells) fun H'=>some (fD,H'))):=fun _=>rfl
    rw[e]at h
    cases hs:(ob (C.tys.get t) fun ty=>ob (ev a (.now tm)) fun a=>ob a.asPtr fun p=>ob (ev u (.now tm)) fun v=>xB (Nat.beq (zB v.cells) ty.size) (ob (tJ C (setBlk H l0 (.loop r1)) p.1 p.2 v.cells) fun H'=>some (fD,H')))with
    | none=>rw[hs]at h;cases h
    | some q=>
     have hs0:=hs
     simp only[tA,wB]at hs;obtain⟨ty,h1,a',h2,p,h3,v,h4,h5,H1,h6,h7⟩:=hs
     unfold tJ at h6;simp only[tA,wB]at h6;obtain⟨g1,c,g2,g3,g4⟩:=h6
     have hne:p.1≠l0:=by
      intro e;unfold kD at g2;have:(setBlk H l0 (.loop r1)).t.get p.1=some (.loop r1):=by
       show(H.t.set l0 _).get p.1=_
       rw[Tr.get_set,yab e]
      rw[this,rA]at g2;cases g2
     have g2':kD H p.1=some c:=by
      unfold kD at g2 ⊢
      have:(setBlk H l0 (.loop r1)).t.get p.1=H.t.get p.1:=by
       show(H.t.set l0 _).get p.1=_
       rw[Tr.get_set,yaa hne]
      rw[this]at g2;exact g2
     refine⟨fD,setBlk H p.1 (.cells (c.1.setMany v.cells p.2) c.2.1 c.2.2),?_,?_,hl,?_⟩
     ·rw[e,hs0,<- h7,<- yci g4]
      show uK.val fD (setBlk (setBlk H l0 (.loop r1)) p.1 _)=_
      congr 1
      show(⟨H.next,(H.t.set l0 _).set p.1 _⟩:xA)=⟨H.next,(H.t.set p.1 _).set l0 _⟩
      rw[DG hne]
     ·rw[e,h1,rA,h2,rA,h3,rA,h4,rA,h5]
      unfold tJ;rw[g1,g2'];simp only[rA];rw[g3];rfl
     ·show(H.t.set p.1 _).get l0=_
      rw[Tr.get_set,yaa (fun e=>hne e.symm),hg]
  obtain⟨v,H',k1,k2,k3,k4⟩:=key
  rw[k1]at h;have h:pL C o.type v (fun v=>xM C φ all n κn l (putA n tm o.dst v) (setBlk H' l0 (.loop r1)))=some x:=h
  rw[mP]at h;obtain⟨tm',H2,m1,m2,m3,m4⟩:=ih _ H' x hp k3 k4 h.2
  refine⟨tm',H2,m1,m2,m3,fun k R cs hR=>?_⟩
  rw[Be,hw];simp only[if_true];rw[k2];simp only[uK.asVal];rw[hR];exact m4 k R cs hR
theorem ZI{C:mA}{φ:fE}{fn n:Nat}{κ:Kt}{c:oC}{l0:Nat}{r0 r1:cM}:∀(as:List (Nat × Array Oper)) (tm:Tm) (H:xA) (x:mH × xA),Pk as=true->l0<H.next->H.t.get l0=some (.loop r0)->mD C φ fn n (asA c as) κ tm (setBlk H l0 (.loop r1))=some x →
  ∃tm' H',mD C φ fn n c κ tm' (setBlk H' l0 (.loop r1))=some x/\H'.t.get l0=some (.loop r0)/\∀(k:List oE) (R:bJ) (cs:List jB),R.n=n->R.mode.running=true->nK C (.next ⟨⟨.code (asC as)::k,tm,R⟩,cs,H⟩) (.next ⟨⟨k,tm',R⟩,cs,H'⟩):=by
 intro as;induction as with
 | nil=>intro _ _ _ h;cases h
 | cons z as ih=>
  intro tm H x hp hl hg h;have hp:(bif Bl z.2.toList then aB (fun x=>Bl x.2.toList) as else false)=true:=hp
  have hp1:Bl z.2.toList=true:=by simp_all
  have h:xM C φ z.2 n (mD C φ fn n (asA c as) κ) z.2.toList tm.cut (setBlk H l0 (.loop r1))=some x:=h
  obtain⟨tm1,H1,h1,h2,h3,h4⟩:=ZJ _ _ _ _ hp1 hl hg h
  cases as with
  | nil=>
   refine⟨tm1,H1,h1,h3,fun k R cs hR hm=>.step ?_⟩
   rw[aI hm];show nK C (zM C z.2 k R cs z.2.toList tm.cut H) _
   rw[h4 _ _ _ hR];exact .refl _
  | cons w as=>
   have hp2:Pk (w::as)=true:=by
    show aB (fun x=>Bl x.2.toList) (w::as)=true
    simp_all
   obtain⟨tm2,H2,g1,g2,g3⟩:=ih tm1 H1 x hp2 h2 h3 h1
   refine⟨tm2,H2,g1,g2,fun k R cs hR hm=>.step ?_⟩
   rw[aI hm];show nK C (zM C z.2 (.code (asC (w::as))::k) R cs z.2.toList tm.cut H) _
   rw[h4 _ _ _ hR];exact g3 _ _ _ hR hm
theorem QS{φ:fE}(hφ:aQ C φ){l:Nat}{args:List zA}{H:xA}{x:mH × xA}(h:Dx C A φ l args H=some x) :
  ∃r tm,yJ H l=some r/\fY r.n r.params args r.tm=some tm/\x.1.p=false/\∀c acs c',jH c x.1.v=some c'->nK C (.next ⟨Vv r l tm,c::acs,H⟩) (.next ⟨c',acs,x.2⟩):=by
 obtain⟨r,tm,cc,q,y,r2,b,h1,h2,h3,h4,⟨⟨q1,q2,q3,q4,q5,q6⟩,hlt⟩,h5,h6,h7,rfl⟩:=Gm.1 h
 refine⟨r,tm,h1,h2,rfl,fun c acs c' hc=>?_⟩
 have hg:H.t.get l=some (.loop r):=by
  unfold yJ at h1;rw[wB,tA]at h1;obtain⟨_,y,e1,e2⟩:=h1
  cases y<;>cases e2
  exact e1
 have h256:256<=l:=by
  unfold yJ at h1;rw[wB]at h1;exact qE.1 h1.1
 have h5:mD C φ r.fn r.n (asA q.c q.as) rdK tm (setBlk H l (.loop (Fl r)))=some y:=h5
 obtain⟨tm',H',h8,hg',h9⟩:=ZI _ _ _ _ q5 hlt hg h5
 have h1':yJ H' l=some r:=by
  unfold yJ;rw[hg',rA,qE.2 h256];rfl
 unfold Vv;rw[q1,q2];refine(h9 [.beginRound,.code (yE q.c)] _ _ rfl rfl).trans (.step ?_)
 show nK C (vS C (.beginRound::[.code (yE q.c)]) tm' ⟨r.fn,r.n,[],.run,false,some l⟩ (c::acs) H') _
 have hb:vS C (.beginRound::[.code (yE q.c)]) tm' ⟨r.fn,r.n,[],.run,false,some l⟩ (c::acs) H'=.next ⟨⟨[.code (yE q.c)],tm',RR r.fn r.n (some l) []⟩,c::acs,setBlk H' l (.loop (Fl r))⟩:=by
  show Jc C [.code (yE q.c)] tm' _ (c::acs) H'=_
  unfold Jc;simp only[rA];rw[h1',rA,q4];rfl
 rw[hb];have hc:jH c (.bool b)=some c':=hc
 have hE:Ir C (RdEnd l c acs) (RdG l c) r.fn r.n (some l) (c::acs):=by
  refine⟨?_,fun e=>(by cases e),fun e=>(by cases e),?_⟩
  ·rintro ds todo tm H x ⟨b,r2,c',_,_,_,e⟩
   simp_all
  ·rintro ds todo tm x ⟨b,r2,c',e,_,_⟩ hp
   rw[e]at hp;cases hp
 have hK:Il C (RdEnd l c acs) (RdG l c) r.fn r.n (some l) (c::acs) rdK []:=by
  refine⟨?_,fun _ _ _ _ _ _ h=>(by cases h),?_⟩
  ·rintro ds x tm H ⟨b,r2,c',g1,g2,g3⟩ h
   cases h
   cases g1
   refine .step ?_
   rw[aI rfl];have:vS C [] tm (RR r.fn r.n (some l) ds) (c::acs) H=.next ⟨c',acs,setBlk H l (.loop (dO true r2))⟩:=by
    have e0:vS C [] tm (RR r.fn r.n (some l) ds) (c::acs) H=cS none C ⟨[],tm,RR r.fn r.n (some l) ds⟩ (c::acs) H:=rfl
    rw[e0];unfold cS;simp only[g2,rA];show nL (ob (jH c (.bool true)) _) 7=_
    rw[g3];rfl
   rw[this];exact⟨_,.refl _,true,r2,c',rfl,g2,g3,rfl⟩
  ·rintro ds x tm H ⟨b,r2,c',g1,g2,g3⟩ h k'
   cases h
   cases g1
   refine .step ?_
   rw[aI rfl];have:vS C (.code .ret::k') tm (RR r.fn r.n (some l) ds) (c::acs) H=.next ⟨c',acs,setBlk H l (.loop (dO false r2))⟩:=by
    have e0:vS C (.code .ret::k') tm (RR r.fn r.n (some l) ds) (c::acs) H=cS (some .ret) C ⟨.code .ret::k',tm,RR r.fn r.n (some l) ds⟩ (c::acs) H:=rfl
    rw[e0];unfold cS;simp only[g2,rA];show nL (ob (jH c (.bool false)) _) 7=_
    rw[g3];rfl
   rw[this];exact⟨_,.refl _,false,r2,c',rfl,g2,g3,rfl⟩
 obtain⟨o',k1,b',r2',c'',k2,k3,k4,rfl⟩:=Rv hφ hE q.c rdK [] (Or.inr q6) hK [] y tm' _ ⟨b,r2,c',h7,h6,hc⟩ h8
 simp_all
def Wb{c:oC}{i:Nat}{o:Array Oper}(h:regO c=some (i,o)):yE c=.region i o false:=by
 cases c with
 | region id ops d=>cases d<;>cases h;rfl
 | cut p c=>
  cases c with
  | region id ops d=>cases d<;>cases h;rfl
  | _=>cases h
 | _=>cases h
def OV{c:oC}{q:zQ}(h:Oe c=some q):yE c=.seq (.region q.i5 q.o5 false) (.seq (.region q.i6 q.o6 false) .ret)/\Fdzx q.o5.toList=some (q.d,q.cl,q.bs):=by
 unfold Oe at h;split at h
 ·simp only[tA]at h
  obtain⟨u,h1,v,h2,r,h3,h4⟩:=h
  cases h4;refine⟨?_,h3⟩
  show Code.seq (yE _) (.seq (yE _) .ret)=_
  rw[Wb h1,Wb h2]
 ·cases h
def Me(l:List oC)(e:Code):Code:=List.rec (motive:=fun _=>Code) e (fun a _ g=>.seq (yE a) g) l
def PY:∀(c:oC) {l:List oC} {q:zQ},rV c=some (l,q)->yE c=Me l (.seq (.region q.i5 q.o5 false) (.seq (.region q.i6 q.o6 false) .ret))/\Fdzx q.o5.toList=some (q.d,q.cl,q.bs):=by
 intro c;induction c with
 | seq a b _ ih=>
  intro l q h;have h:(match Oe (.seq a b)with | some q=>some ([],q) | none=>ob (rV b) fun p=>some (a::p.1,p.2))=some (l,q):=h
  split at h
  ·rename_i h1
   cases h;exact OV h1
  ·rw[tA]at h
   obtain⟨p,h1,h2⟩:=h
   cases h2;obtain⟨g1,g2⟩:=ih h1
   exact⟨by show Code.seq (yE a) (yE b)=_;rw[g1];rfl,g2⟩
 | _=>intro l q h;cases h
def YF{c:oC}{q:ClQ}(h:Fh c=some q):yE c=.seq (.region q.i q.o false) (yE q.c)/\recO q.o.toList=some (q.d,q.e):=by
 unfold Fh at h;split at h
 ·simp only[tA]at h
  obtain⟨u,h1,v,h2,h3⟩:=h
  cases h3;refine⟨?_,h2⟩
  show Code.seq (yE _) (yE _)=_
  rw[Wb h1]
 ·cases h
def XO{l:List Oper}{d cl:Nat}{bs:List Operand}(h:Fdzx l=some (d,cl,bs)):∃as' bs' t p a cc t' p' a',l=[⟨some d,.makeFunc (.func cl) as' bs',t,p,a,none⟩,⟨none,.defer cc,t',p',a',none⟩]/\as'.toList=[]/\bs'.toList=bs/\cc.callee=.value (.tmp d)/\cc.args.toList=[]:=by
 unfold Fdzx at h;split at h
 ·split at h
  ·rename_i e1 e2 e3
   simp only[qD]at h;split at h
   ·rename_i e
    cases h;exact⟨_,_,_,_,_,_,_,_,_,rfl,e1,rfl,by rw[e2,lC.1 e],e3⟩
   ·cases h
  ·cases h
 ·cases h
def RI{l:List Oper}{d e:Nat}(h:recO l=some (d,e)):∃cc t p a t' p' a',l=[⟨some d,.call cc,t,p,a,none⟩,⟨some e,.assign (.tmp d),t',p',a',none⟩]/\cc.callee=.builtin .recover:=by
 unfold recO at h;split at h
 ·split at h
  ·rename_i e1
   simp only[qD]at h;split at h
   ·rename_i e
    cases h;exact⟨_,_,_,_,_,_,_,by rw[lC.1 e],e1⟩
   ·cases h
  ·cases h
 ·cases h
def SQ{φ:fE}(hφ:aQ C φ){E:aW}{ds:List lH}{x:mH × xA}{R:bJ}{acs:List jB}{k:List oE}{all:Array Oper}{N:Nat}{I:Tm->Prop}(hR:R.mode.running=true)(hN:R.n=N)(hP:∀l tm,I tm->x.1.p=true->E ds (.next ⟨nV ⟨.ops all l::k,tm,R⟩ [⟨x.1.v,false⟩],acs,x.2⟩) x){κn:Tm->xA->mB}(hκ:∀tm H,I tm->κn tm H=some x->Fin C E ds (.next ⟨⟨k,tm,R⟩,acs,H⟩) x) :
  ∀(l:List Oper) (tm:Tm) (H:xA),(∀o∈l,∀tm v,I tm->I (putA N tm o.dst v))->I tm->xM C φ all N κn l tm H=some x->Fin C E ds (zM C all k R acs l tm H) x:=by
 intro l;induction l with
 | nil=>exact fun tm H _ hI h=>hκ tm H hI h
 | cons o l ih=>
  intro tm H hd hI h;have hd1:=fun tm v h=>hd o yby tm v h
  have ih:=fun tm H=>ih tm H fun o ho=>hd o (ybr _ ho)
  rw[Bm,tA]at h;obtain⟨w,h1,h⟩:=h
  rw[Be,h1]
  cases w with
  | false=>
   simp only[ybq,if_false]at h ⊢
   rw[hN];exact ih _ _ (hd1 _ _ hI) h
  | true=>
   rw[yab rfl]at h;simp only[];generalize (gE o.op).f C (.now tm) H=r at h
   cases hv:r.asVal with
   | some p=>
    have e:r=.val p.1 p.2:=by cases r<;>simp[uK.asVal]at hv;rw[<- hv]
    rw[e]at h;simp only[nG]at h;rw[mP]at h;simp only[if_true];rw[hN];exact ih _ _ (hd1 _ _ hI) h.2
   | none=>
    simp only[if_true];refine Vz hφ h (fun v H' c' hc hK=>?_) (fun v=>⟨⟨.ops all l::k,putA R.n tm o.dst v,R⟩,by unfold jH;simp only[hR,cond_true];rfl⟩) (oX hR) (hP _ _ hI)
    unfold jH at hc;simp only[hR,cond_true]at hc;have hc:some (⟨.ops all l::k,putA R.n tm o.dst v,R⟩:jB)=some c':=hc
    cases hc;refine .step ?_
    rw[aI hR,hN];rw[mP]at hK;exact ih _ _ (hd1 _ _ hI) hK.2
def cutK{n:Nat}{tm:Tm}{d:Nat}{v:zA}(h:tm.k<=d):(putA n tm (some d) v).cut=tm.cut:=by
 show(Gt d n tm v).cut=_
 unfold Gt;simp only[qD];split
 ·unfold Tm.set
  rw[yK,yaa (by rw[pC];omega)]
  rfl
 ·rfl
def XN{l:List Oper}{d cl:Nat}{bs:List Operand}{cells:List zA}(h:Fdzx l=some (d,cl,bs)){tm:Tm}{H:xA}(he:aN bs (.now tm)=some cells){f n:Nat}{ds:List lH}{acs:List jB}{k:List oE}{all:Array Oper}(hd:d<n) :
  zM C all k (RR f n none ds) acs l tm H=.next ⟨⟨.ops all []::k,putA n tm (some d) (.func (.func cl) [] cells),RR f n none (⟨some (.func cl),0,cells⟩::ds)⟩,acs,H⟩:=by
 obtain⟨as',bs',t,p,a,cc,t',p',a',rfl,e1,e2,e3,e4⟩:=XO h
 subst e2;obtain⟨ca,cargs,caty⟩:=cc
 simp only at e3 e4
 subst e3;have f1:(gE (.makeFunc (.func cl) as' bs')).f C (.now tm) H=.val (.func (.func cl) [] cells) H:=by
  show lv (Hf cl as' bs') C (.now tm) H=_
  unfold lv Hf;rw[e1];show(match ob (some []) _ with | some v=>uK.val v H | none=>.fail)=_
  rw[rA,he];rfl
 have f2:(gE (.defer ⟨.value (.tmp d),cargs,caty⟩)).f C (.now (putA n tm (some d) (.func (.func cl) [] cells))) H=.defer ⟨some (.func cl),0,cells⟩:=by
  show cY (ob (rR (.tmp d) cargs (.now (putA n tm (some d) (.func (.func cl) [] cells)))) fun p=>some (.defer ⟨some p.1,0,eD p.2.1 p.2.2⟩))=_
  have:rR (.tmp d) cargs (.now (putA n tm (some d) (.func (.func cl) [] cells)))=some (.func cl,[],cells):=by
   unfold rR;rw[e4,show ev (.tmp d) (.now (putA n tm (some d) (.func (.func cl) [] cells)))=(putA n tm (some d) (.func (.func cl) [] cells)).get d from rfl,wJ,yab ⟨rfl,hd⟩]
   rfl
  rw[this];rfl
 rw[Be];show(match ((gE (.makeFunc (.func cl) as' bs')).f C (.now tm) H).asVal with | some p=>_ | none=>_)=_
 rw[f1];show zM C all k (RR f n none ds) acs _ (putA n tm (some d) (.func (.func cl) [] cells)) H=_
 rw[Be];show(match ((gE (.defer ⟨.value (.tmp d),cargs,caty⟩)).f C (.now (putA n tm (some d) (.func (.func cl) [] cells))) H).asVal with | some p=>_ | none=>_)=_
 rw[f2];rfl
def RH{φ:fE}{E:aW}{l:List Oper}{d e:Nat}(h:recO l=some (d,e)){tm:Tm}{H:xA}{f n:Nat}{ds:List lH}{acs:List jB}{k:List oE}{all:Array Oper}{x:mH × xA}(hd:d<n){c c':jB}{v:zA}
  (hc:(c.R.mode=.returning/\v=.niliface/\c'=c)\/(c.R.mode=.panicking [⟨v,false⟩]/\c'=eY c (.panicking [⟨v,true⟩]))) (hf:Fin C E ds (.next ⟨⟨k,putA n (putA n tm (some d) v) (some e) v,RR f n none ds true⟩,c'::acs,H⟩) x) :
  Fin C E ds (zM C all k (RR f n none ds true) (c::acs) l tm H) x:=by
 obtain⟨cc,t,p,a,t',p',a',rfl,e1⟩:=RI h
 obtain⟨ca,cargs,caty⟩:=cc
 simp only at e1
 subst e1;have f1:(gE (.call ⟨.builtin .recover,cargs,caty⟩)).f C (.now tm) H=.recover:=rfl
 rw[Be];have f3:zM C all k (RR f n none ds true) (c'::acs) [⟨some e,.assign (.tmp d),t',p',a',none⟩] (putA n tm (some d) v) H=.next ⟨⟨k,putA n (putA n tm (some d) v) (some e) v,RR f n none ds true⟩,c'::acs,H⟩:=by
  rw[Be];show(match ((gE (.assign (.tmp d))).f C (.now (putA n tm (some d) v)) H).asVal with | some p=>_ | none=>_)=_
  have:(gE (.assign (.tmp d))).f C (.now (putA n tm (some d) v)) H=.val v H:=by
   show lv (cN (.tmp d)) C (.now (putA n tm (some d) v)) H=_
   unfold lv cN;rw[show ev (.tmp d) (.now (putA n tm (some d) v))=(putA n tm (some d) v).get d from rfl,wJ,yab ⟨rfl,hd⟩]
  rw[this];rfl
 have f4:Ko C ⟨.ops all (⟨some d,.call ⟨.builtin .recover,cargs,caty⟩,t,p,a,none⟩::[⟨some e,.assign (.tmp d),t',p',a',none⟩])::k,tm,RR f n none ds true⟩ (c::acs) H=.next ⟨⟨.ops all [⟨some e,.assign (.tmp d),t',p',a',none⟩]::k,putA n tm (some d) v,RR f n none ds true⟩,c'::acs,H⟩:=by
  obtain⟨ctodo,ctm,cfn,cn,cdefers,cmode,cdef,cround⟩:=c
  rcases hc with⟨h1,rfl,rfl⟩ | ⟨h1,rfl⟩
  ·simp only at h1
   subst h1;rfl
  ·simp only at h1
   subst h1;rfl
 show Fin C E ds (Ko C ⟨.ops all (⟨some d,.call ⟨.builtin .recover,cargs,caty⟩,t,p,a,none⟩::[⟨some e,.assign (.tmp d),t',p',a',none⟩])::k,tm,RR f n none ds true⟩ (c::acs) H) x
 rw[f4];refine .step ?_
 rw[aI rfl];show Fin C E ds (zM C all k (RR f n none ds true) (c'::acs) [⟨some e,.assign (.tmp d),t',p',a',none⟩] (putA n tm (some d) v) H) x
 rw[f3];exact hf
theorem YC(hA:zX C A){φ:fE}(hφ:aQ C φ){cl:Nat}{cells:List zA}{v:zA}{H:xA}{y:mH × xA}{acs:List jB}{c c':jB}
  (hc:(c.R.mode=.returning/\v=.niliface/\c'=c)\/(c.R.mode=.panicking [⟨v,false⟩]/\c'=eY c (.panicking [⟨v,true⟩]))) (h:tS C A φ cl cells v H=some y) (hy:y.1.p=false) :
  C.prims.get cl=none/\∃g,zK C cl cells true=some g/\∃fr',nK C (.next ⟨g,c::acs,H⟩) (.next ⟨fr',c'::acs,y.2⟩)/\Fu C cl [] fr' y.2 y.1.v true:=by
 unfold tS at h;simp only[tA,wB,ybb]at h;obtain⟨fc,h1,cc,h2,q,h3,⟨h4,h5⟩,g,h6,h7⟩:=h
 have hpr:C.prims.get cl=none:=by
  cases hx:C.prims.get cl with
  | none=>rfl
  | some u=>rw[hx]at h4;cases h4
 refine⟨hpr,g,h6,?_⟩
 obtain⟨fc',g1,g2⟩:=hA _ _ h2
 rw[h1]at g1
 cases g1
 obtain⟨g3,g4⟩:=YF h3
 have g5:g.todo=[.code (yE cc)]/\g.R=⟨cl,fc.ntmps,[],.run,true,none⟩:=by
  grind [zK,tA,wB]
 obtain⟨gt,gtm,gR⟩:=g
 obtain⟨rfl,rfl⟩:=g5
 have hK:Il C (wR C cl (c'::acs) true) (fun _=>True) cl fc.ntmps none (c'::acs) (mO C fc) [] true:=⟨fun ds x tm H _ h=>Mk h1 h rfl,fun ds x i tm H _ h=>(by cases h),fun ds x tm H _ h k'=>Mk h1 h rfl⟩
 have k1:=Rv hφ (Rh (fl:=true) ⟨fc,h1⟩) q.c (mO C fc) [] (Or.inl rfl) hK [] y _ H trivial h7
 have k2:Fin C (wR C cl (c'::acs) true) [] (.next ⟨⟨[.code (yE cc)],gtm,RR cl fc.ntmps none [] true⟩,c::acs,H⟩) y:=by
  refine .step ?_
  rw[aI rfl,g3];exact RH (φ:=φ) g4 (pC.1 h5) hc k1
 obtain⟨o',k3,fr',rfl,k4⟩:=k2
 exact⟨fr',k3,k4.ret hy⟩
def zc7(hA:zX C A){φ:fE}(hφ:aQ C φ){cl:Nat}{cells:List zA}{v:zA}{H:xA}{y:mH × xA}{acs:List jB}{c:jB}{ds:List lH}(hd:c.R.defers=⟨some (.func cl),0,cells⟩::ds)
  (hm:(c.R.mode=.returning/\v=.niliface)\/c.R.mode=.panicking [⟨v,false⟩]) (h:tS C A φ cl cells v H=some y) (hy:y.1.p=false) :
  nK C (.next ⟨c,acs,H⟩) (.next ⟨⟨c.todo,c.tm,⟨c.R.fn,c.R.n,ds,.returning,c.R.deferred,c.R.roundOf⟩⟩,acs,y.2⟩):=by
 obtain⟨ctodo,ctm,cfn,cn,cdefers,cmode,cdef,cround⟩:=c
 simp only at hd hm
 subst hd;have hx:∀m:xV,((m=.returning/\v=.niliface)\/m=.panicking [⟨v,false⟩])->∀c':jB,c'=(⟨ctodo,ctm,⟨cfn,cn,ds,m,cdef,cround⟩⟩:jB)->∃c'':jB,((c'.R.mode=.returning/\v=.niliface/\c''=c')\/(c'.R.mode=.panicking [⟨v,false⟩]/\c''=eY c' (.panicking [⟨v,true⟩])))/\∀fr' H,Fu C cl [] fr' H y.1.v true->bT C (.next ⟨fr',c''::acs,H⟩)=.next ⟨⟨ctodo,ctm,⟨cfn,cn,ds,.returning,cdef,cround⟩⟩,acs,H⟩:=by
  intro m hm c' hc';subst hc'
  have ret:∀(c'':jB),c''.R.mode=.returning\/c''.R.mode=.panicking [⟨v,true⟩]->∀fr' H,Fu C cl [] fr' H y.1.v true->bT C (.next ⟨fr',c''::acs,H⟩)=.next ⟨eY c'' .returning,acs,H⟩:=by
   rintro c'' hcm fr' H ⟨h1,h2,h3,h4,fn,l,h5,h6,h7⟩
   obtain⟨todo,tm,ffn,n,defers,mode,deferred,round⟩:=fr'
   obtain⟨c2todo,c2tm,c2fn,c2n,c2defers,c2mode,c2def,c2round⟩:=c''
   simp only at h1 h2 h3 h4 h6 hcm
   subst h1 h2 h3 h4
   show Dj C ⟨todo,tm,_⟩ (_::acs) H=_
   unfold Dj;rw[h5,rA,h6];rcases hcm with rfl | rfl<;>rfl
  rcases hm with⟨rfl,rfl⟩ | rfl
  ·exact⟨_,.inl ⟨rfl,rfl,rfl⟩,fun fr' H hr=>ret _ (.inl rfl) fr' H hr⟩
  ·exact⟨_,.inr ⟨rfl,rfl⟩,fun fr' H hr=>ret _ (.inr rfl) fr' H hr⟩
 obtain⟨c'',h1,h2⟩:=hx cmode hm _ rfl
 obtain⟨hp,g,h3,fr',h4,h5⟩:=YC hA hφ (acs:=acs) h1 h hy
 refine .step ?_
 have e:bT C (.next ⟨⟨ctodo,ctm,⟨cfn,cn,⟨some (.func cl),0,cells⟩::ds,cmode,cdef,cround⟩⟩,acs,H⟩)=.next ⟨g,⟨ctodo,ctm,⟨cfn,cn,ds,cmode,cdef,cround⟩⟩::acs,H⟩:=by
  have e1:bT C (.next ⟨⟨ctodo,ctm,⟨cfn,cn,⟨some (.func cl),0,cells⟩::ds,cmode,cdef,cround⟩⟩,acs,H⟩)=Dk C ⟨some (.func cl),0,cells⟩ ds ⟨ctodo,ctm,⟨cfn,cn,⟨some (.func cl),0,cells⟩::ds,cmode,cdef,cround⟩⟩ acs H:=by
   rcases hm with⟨rfl,_⟩ | rfl<;>rfl
  rw[e1];unfold Dk;simp only[];rw[hp];simp only[];rw[h3];rfl
 rw[e];refine h4.trans (.step ?_)
 rw[h2 _ _ h5];exact .refl _
def QU{H:xA}{tm tm':Tm}:∀ {l:List ResultVar},(∀r∈l,∃a t,r=.cell a t/\tm'.get a=tm.get a)->zU C H tm' l=zU C H tm l:=by
 intro l;induction l with
 | nil=>exact fun _=>rfl
 | cons r l ih=>
  intro h;obtain⟨a,t,rfl,h1⟩:=h _ yby
  have ih:=ih fun r hr=>h r (ybr _ hr)
  show vH (sR C H tm') _=vH (sR C H tm) _
  rw[lP,lP];have e:sR C H tm' (.cell a t)=sR C H tm (.cell a t):=by
   show(ob (ob (tm'.get a) zA.asPtr) fun p=>ob (C.tys.get t) fun ty=>ob (kD H p.1) fun c=>dR ty c.1 p.2)=_
   rw[h1];rfl
  rw[e];have ih:vH (sR C H tm') l=vH (sR C H tm) l:=ih
  rw[ih]
def YO{l:List ResultVar}{o6:List Oper}(h:Mt l o6=true):∀r∈l,∃a t,r=.cell a t/\∀o∈o6,o.dst≠some a:=by
 unfold Mt at h;rw[mI,ycb]at h;intro r hr;have:=h r hr
 cases r with
 | tmp t=>cases this
 | cell a t=>
  refine⟨a,t,rfl,fun o ho e=>?_⟩
  have this:aB (fun o=>match o.dst with | some d => !Nat.beq d a | none=>true) o6=true:=this
  rw[mI,ycb]at this;have:=this o ho
  rw[e]at this;simp at this
def OX(hA:zX C A){φ:fE}(hφ:aQ C φ){f:Nat}{fn:Func}{q:zQ}(hf:C.fns.get f=some fn)(hq:Fdzx q.o5.toList=some (q.d,q.cl,q.bs)){acs:List jB}{ds:List lH}{tm:Tm}{H:xA}{x:mH × xA}(h:uQ C A φ fn q tm H=some x) :
  Fin C (wR C f acs) ds (.next ⟨⟨[.code (.seq (.region q.i5 q.o5 false) (.seq (.region q.i6 q.o6 false) .ret))],tm,RR f fn.ntmps none ds⟩,acs,H⟩) x:=by
 unfold uQ at h;simp only[wB,tA,ybb]at h;obtain⟨⟨h1,h2,h3⟩,cells,h4,y,h5,h6⟩:=h
 have hc:=YO h1
 let I:Tm->Prop:=fun tm'=>∀r∈fn.results.toList,∃a t,r=.cell a t/\tm'.get a=tm.cut.get a
 let D:lH:=⟨some (.func q.cl),0,cells⟩
 let E6:aW:=fun _ o y=>if y.1.p=true then ∃fr,o=.next ⟨fr,acs,y.2⟩/\fr.R=⟨f,fn.ntmps,D::ds,.panicking [⟨y.1.v,false⟩],false,none⟩/\I fr.tm else wR C f acs false ds o y
 have close:∀(c:jB) (H:xA) (v:zA) (tm0:Tm) (z:mH × xA),c.R=⟨f,fn.ntmps,D::ds,c.R.mode,false,none⟩->((c.R.mode=.returning/\v=.niliface)\/c.R.mode=.panicking [⟨v,false⟩])->(∀r∈fn.results.toList,∃a t,r=.cell a t/\c.tm.get a=tm0.get a)->uM C A φ fn q.cl cells v tm0 H=some z->z.1.p=false/\∃o',nK C (.next ⟨c,acs,H⟩) o'/\wR C f acs false ds o' z:=by
  intro c H v tm0 z e1 e2 e3 e4;unfold uM at e4;rw[tA]at e4;obtain⟨w,e5,e6⟩:=e4
  rw[wB]at e6;unfold gU at e6;rw[tA]at e6;obtain⟨e7,l,e8,e9⟩:=e6
  cases e9
  have hd:c.R.defers=D::ds:=by rw[e1]
  have r1:=zc7 hA hφ (acs:=acs) hd e2 e5 (by simpa using e7)
  refine⟨rfl,_,r1,_,rfl,bP.of ⟨rfl,rfl,by rw[e1],by rw[e1],fn,l,hf,?_,rfl⟩ rfl⟩
  show zU C w.2 c.tm fn.results.toList=some l
  rw[QU e3];exact e8
 refine .step ?_
 rw[aI rfl];show Fin C (wR C f acs) ds (zM C q.o5 [.code (.seq (.region q.i6 q.o6 false) .ret)] (RR f fn.ntmps none ds) acs q.o5.toList tm.cut H) x
 rw[XN hq h4 (pC.1 h3)]
 refine .step ?_
 rw[aI rfl];show Fin C (wR C f acs) ds (.next ⟨⟨[.code (.seq (.region q.i6 q.o6 false) .ret)],putA fn.ntmps tm.cut (some q.d) (.func (.func q.cl) [] cells),RR f fn.ntmps none (D::ds)⟩,acs,H⟩) x
 refine .step ?_
 rw[aI rfl];show Fin C (wR C f acs) ds (zM C q.o6 [.code .ret] (RR f fn.ntmps none (D::ds)) acs q.o6.toList (putA fn.ntmps tm.cut (some q.d) (.func (.func q.cl) [] cells)).cut H) x
 rw[cutK (show tm.cut.k<=q.d from qE.1 h2)]
 have r6:Fin C E6 (D::ds) (zM C q.o6 [.code .ret] (RR f fn.ntmps none (D::ds)) acs q.o6.toList tm.cut.cut H) y:=by
  refine SQ hφ (I:=I) (N:=fn.ntmps) rfl rfl (fun l tm' hI hp=>?_) (fun tm' H' hI hy=>?_) _ _ _ (fun o ho tm' v hI r hr=>?_) (fun r hr=>?_) h5
  ·show if y.1.p=true then _ else _
   rw[yab hp];exact⟨_,rfl,rfl,hI⟩
  ·have:bT C (.next ⟨⟨[.code .ret],tm',RR f fn.ntmps none (D::ds)⟩,acs,H'⟩)=.next ⟨⟨[.code .ret],tm',⟨f,fn.ntmps,D::ds,.returning,false,none⟩⟩,acs,H'⟩:=rfl
   refine .step ?_
   rw[this];obtain⟨z1,o',z2,z3⟩:=close ⟨[.code .ret],tm',⟨f,fn.ntmps,D::ds,.returning,false,none⟩⟩ H' .niliface tm' y rfl (.inl ⟨rfl,rfl⟩) (fun r hr=>by obtain⟨a,t,rfl,_⟩:=hc r hr;exact⟨a,t,rfl,rfl⟩) hy
   refine⟨o',z2,?_⟩
   show if y.1.p=true then _ else _
   rw[z1,yaa (by simp)]
   exact z3
  ·obtain⟨a,t,rfl,h7⟩:=hI r hr
   obtain⟨a',t',e,h8⟩:=hc _ hr
   cases e
   exact⟨a,t,rfl,by rw[wJ,yaa (fun e=>h8 o ho e.1)];exact h7⟩
  ·obtain⟨a,t,rfl,_⟩:=hc r hr
   exact⟨a,t,rfl,rfl⟩
 obtain⟨o',g1,g2⟩:=r6
 have g2:if y.1.p=true then ∃fr,o'=.next ⟨fr,acs,y.2⟩/\fr.R=⟨f,fn.ntmps,D::ds,.panicking [⟨y.1.v,false⟩],false,none⟩/\I fr.tm else wR C f acs false ds o' y:=g2
 cases hp:y.1.p with
 | false=>
  rw[hp]at h6 g2;rw[yaa (by simp)]at g2
  have h6:some y=some x:=h6
  cases h6;exact⟨o',g1,g2⟩
 | true=>
  rw[hp]at h6 g2;rw[yab rfl]at g2;have h6:uM C A φ fn q.cl cells y.1.v tm.cut y.2=some x:=h6
  obtain⟨fr,rfl,e1,e2⟩:=g2
  obtain⟨_,o'',z2,z3⟩:=close fr y.2 y.1.v tm.cut x (by rw[e1]) (.inr (by rw[e1])) e2 h6
  exact⟨o'',g1.trans z2,z3⟩
def ZC(hA:zX C A){φ:fE}(hφ:aQ C φ){f:Nat}{fn:Func}{c:oC}(hf:C.fns.get f=some fn){acs:List jB}{tm:Tm}{H:xA}{x:mH × xA}(h:lW C A φ f fn c tm H=some x) :
  Fin C (wR C f acs) [] (.next ⟨⟨[.code (yE c)],tm,RR f fn.ntmps none []⟩,acs,H⟩) x:=by
 unfold lW at h;split at h
 ·have hK:Il C (wR C f acs) (fun _=>True) f fn.ntmps none acs (mO C fn) []:=⟨fun ds x tm H _ h=>Mk hf h rfl,fun ds x i tm H _ h=>(by cases h),fun ds x tm H _ h k'=>Mk hf h rfl⟩
  exact Rv hφ (Rh ⟨fn,hf⟩) c (mO C fn) [] (Or.inl rfl) hK [] x tm H trivial h
 ·rename_i p hp
  obtain⟨l,q⟩:=p
  obtain⟨h1,h2⟩:=PY c hp
  rw[h1];clear h1 hp
  have key:∀(l:List oC) ds x tm H,mD C φ f fn.ntmps (mX l) (Bf C A φ fn q) tm H=some x->Fin C (wR C f acs) ds (.next ⟨⟨[.code (Me l (.seq (.region q.i5 q.o5 false) (.seq (.region q.i6 q.o6 false) .ret)))],tm,RR f fn.ntmps none ds⟩,acs,H⟩) x:=by
   intro l;induction l with
   | nil=>exact fun ds x tm H h=>OX hA hφ hf h2 h
   | cons a l ih=>
    intro ds x tm H h;refine Rk (Rh ⟨fn,hf⟩) (t1:=[.code (Me (a::l) _)]) rfl (t2:=.code (yE a)::[.code (Me l (.seq (.region q.i5 q.o5 false) (.seq (.region q.i6 q.o6 false) .ret)))]) (fun _ _=>rfl) ?_
    have hK:Il C (wR C f acs) (fun _=>True) f fn.ntmps none acs ⟨mD C φ f fn.ntmps (mX l) (Bf C A φ fn q),fun _ _ _=>none,gU C fn⟩ [.code (Me l (.seq (.region q.i5 q.o5 false) (.seq (.region q.i6 q.o6 false) .ret)))]:=
     ⟨fun ds x tm H _ h=>ih ds x tm H h,fun ds x i tm H _ h=>(by cases h),fun ds x tm H _ h k'=>Mk hf h rfl⟩
    exact Rv hφ (Rh ⟨fn,hf⟩) a _ _ (Or.inl rfl) hK ds x tm H trivial h
  exact key l [] x tm H h
theorem PU(hA:zX C A){φ:fE}(hφ:aQ C φ):aQ C (Dp C A φ):=by
 refine⟨fun f args H x h=>?_,fun l args H x h=>QS hφ h⟩
 have h:yS C A φ f args H=some x:=h
 unfold yS at h;rw[tA]at h;obtain⟨c,h1,h⟩:=h
 rw[tA]at h;obtain⟨fn,h2,h⟩:=h
 rw[tA]at h;obtain⟨g,h3,h⟩:=h
 refine⟨g,h3,fun acs=>?_⟩
 obtain⟨fn',c',e1,e2,e3,e4⟩:=WS h3
 rw[h2]at e1;cases e1
 obtain⟨fn',e5,e6⟩:=hA f c h1
 rw[h2]at e5;cases e5
 rw[e2]at e6;cases e6
 obtain⟨gt,gtm,gR⟩:=g
 simp only at e3 e4 h
 subst e3 e4
 obtain⟨o',k1,fr',rfl,k2⟩:=ZC hA hφ h2 (acs:=acs) h
 grind
def FU(hA:zX C A):∀n,aQ C (Bo C A n):=by
 intro n;induction n with
 | zero=>exact⟨fun f args H x h=>(by cases h),fun l args H x h=>(by cases h)⟩
 | succ n ih=>exact PU hA ih
def VS(hA:zX C A):aQ C (cC C A):=by
 refine⟨fun f args H x h=>?_,fun f args H x h=>?_⟩
 ·obtain⟨n,hn⟩:=Ew.1 h
  exact(FU hA n).fn _ _ _ _ hn
 ·obtain⟨n,hn⟩:=Ew.1 h
  exact(FU hA n).rd _ _ _ _ hn
theorem YP{P:Program}{B N:Nat}{I:World->Prop}{μ:Mu}{w:World}(hS:oK P C B N I)(hI:I w)(hA:zX C A){f:Nat}{args:List zA}{args':Array Value}{H H':xA}{v:zA}(hH:vB B N μ H w)(hl:rB μ args args'.toList)
  (h:cC C A (.func f) args H=some (⟨v,false⟩,H')):Calls P f args' w fun e w'=>∃v' μ',e=.returned v'/\μ.lw μ'/\uA μ' v v'/\vB B N μ' H' w'/\Below N w w':=by
 intro base;obtain⟨g,he,hr⟩:=(VS hA).fn _ _ _ _ h
 obtain⟨fr',r1,hE⟩:=hr []
 obtain⟨h1,h2,h3,h4,fn,l,h5,h6,rfl⟩:=hE.ret rfl
 have h0:cD P C B N μ base (lone (Frame.enter P f args' .normal) base w) w (.next ⟨g,[],H⟩):=Vg hS.fns hH hl he
 obtain⟨μ',b,cs,w',s1,s2,s3,s4,s5,s6⟩:=cD.reach hS hI r1 h0
 cases s6
 have hb:=s5.body
 rw[yaa (by grind [xV.running])]at hb
 obtain⟨v',q1,q2⟩:=EF hS.tys s4 hb h6
 have hm:=s5.rest.mode
 rw[h1]at hm;have hbm:b.mode=.returning:=by
  cases hb:b.mode with
  | returning=>rfl
  | _=>rw[hb]at hm;exact hm.elim
 have hd:=s5.rest.defers
 rw[h2]at hd;have hbd:b.defers=[]:=by
  generalize hx:b.defers=bd at hd
  cases hd;rfl
 have hk:=s5.rest.kind
 rw[h3]at hk;have hfn:b.fn=f:=by rw[s5.rest.fn,h4]
 exact⟨.returned v',w',b,⟨v',μ',rfl,s2,q2,s4,s3⟩,s1,hfn,hbm,hbd,hk,fn,by rw[hfn];exact(hS.fns _ _ h5).1,q1⟩
end
end
section
def lA(C:mA)(t:Nat)(H:xA)(v:zA):Option zA:=ob v.asPtr fun p=>ob (C.tys.get t) fun ty=>ob (kD H p.1) fun c=>dR ty c.1 p.2
def Aw(C:mA)(s d:Nat)(H:xA)(a:zA):Option zA:=ob (C.tys.get s) fun s=>ob (C.tys.get d) fun d=>eU C s d a H
def uF(C:mA)(t:Nat)(H:xA)(a:zA)(l h:Option zA):Option zA:=ob (C.tys.get t) fun ty=>iN C H ty a l h
def Th(C:mA)(s f:Nat):Option Nat:=ob (C.tys.get s) fun ty=>ob ty.desc.asStruct fun fs=>ob (tD fs f) fun fd=>xB (!Nat.beq fd.2.2 0) (some fd.1)
def nC(C:mA)(s f:Nat)(v:zA):Option zA:=ob (Th C s f) fun k=>ob v.asPtr fun p=>some (.ptr p.1 (p.2+k))
def wC(C:mA)(t:Nat)(v i:zA):Option zA:=
 ob (C.tys.get t) fun ty=>ob i.asNat fun i=>
  match v.asSlice with
  | some s=>ob ty.desc.asSlice fun el=>ob (C.tys.get el) fun et=>xB (Nat.blt i s.2.2.1) (some (.ptr s.1 (s.2.1+i*et.size)))
  | none=>ob v.asPtr fun p=>ob ty.desc.asArr fun a=>ob (C.tys.get a.2) fun et=>xB (Nat.blt i a.1) (some (.ptr p.1 (p.2+i*et.size)))
def BC(C:mA)(t i:Nat):Option Nat:=ob (C.tys.get t) fun ty=>ob ty.desc.asArr fun a=>ob (C.tys.get a.2) fun et=>xB (Nat.blt i a.1) (some (i*et.size))
def oI(C:mA)(t:Nat)(v i:zA):Option zA:=
 ob (C.tys.get t) fun ty=>ob i.asNat fun i=>
  match v.asStr with
  | some s=>xB ty.desc.isString (ob (tD s i) fun b=>some (.int .u8 (.ofNat b)))
  | none=>ob v.asAgg fun l=>ob ty.desc.asArr fun a=>ob (C.tys.get a.2) fun et=>xB (Nat.blt i a.1) (qQ C a.2 l (i*et.size))
def dG(i:Nat)(v:zA):Option zA:=ob v.asTup fun l=>tD l i
def iT (C:mA)(t:Nat)(H:xA)(v:zA):Option zA:=ob (C.tys.get t) fun ty=>ob (vU H ty v) fun n=>some (.int .i64 (.ofNat n))
def uC(v:zA):Option zA:=
 match v.asSlice with
 | some s=>some (.int .i64 (.ofNat s.2.2.1))
 | none=>xB (Nat.beq v.tag 5) (some (.int .i64 (.ofNat 0)))
def iF (v:zA):Option zA:=xB (Nat.beq v.tag 4||Nat.beq v.tag 9) (some v)
def Dg(C:mA)(u:Nat)(ok:Bool)(v:zA):Option zA:=
 ob (C.tys.get u) fun ty=>xB (Nat.blt ty.desc.tag 9) (
  match v.asIface with
  | some p=>bif Nat.beq p.1 u then some (bif ok then .tup [p.2,.bool true]else p.2)else xB ok (some (.tup [xX ty,.bool false]))
  | none=>xB (Nat.beq v.tag 12&&ok) (some (.tup [xX ty,.bool false])))
def rX(C:mA)(t:Nat)(H:xA)(m k:zA)(ok:Bool):Option zA:=
 ob (C.tys.get t) fun ty=>ob ty.desc.asMap fun ke=>ob (C.tys.get ke.1) fun kty=>xB (qU C kty) (ob (C.tys.get ke.2) fun ety=>
  ob (lV H m) fun es=>xB (aR C kty k) (ob (zL k es) fun r=>
   match r with
   | some v=>some (bif ok then .tup [v,.bool true]else v)
   | none=>some (bif ok then .tup [xX ety,.bool false]else xX ety)))
def tK(C:mA)(t:Nat)(H:xA):Option (zA × xA):=ob (C.tys.get t) fun ty=>some (.ptr H.next 0,fF H ty.zero none)
def aM (v:zA)(H:xA):Option (zA × xA):=some (.ptr H.next 0,fF H v.cells none)
def Dh(C:mA)(t:Nat)(H:xA):Option (zA × xA):=ob (C.tys.get t) fun ty=>some (.ptr H.next 0,fF H ty.zero (sK C t))
def zgg(C:mA)(t:Nat)(v:zA)(H:xA):Option (zA × xA):=some (.ptr H.next 0,fF H v.cells (sK C t))
def eC(C:mA)(t len:Nat)(ps:List (Nat × zA))(H:xA):Option (zA × xA):=
 ob (C.tys.get t) fun ty=>ob ty.desc.asSlice fun el=>ob (C.tys.get el) fun et=>
  xB (Nat.blt (len*et.size) 1000000&&Nat.beq (zB et.zero) et.size) (ob (kL (fun i=>some (i*et.size,et.size)) ps (nI et.zero len)) fun l=>some (.slice H.next 0 len len,fF H l none))
def zC(C:mA)(t:Nat)(a v:zA)(H:xA):Option (zA × xA):=ob (C.tys.get t) fun ty=>ob a.asPtr fun p=>xB (Nat.beq (zB v.cells) ty.size) (ob (tJ C H p.1 p.2 v.cells) fun H'=>some (fD,H'))
def Nv(H:xA):Option (zA × xA):=some (.map H.next,newBlk H (.map []))
def lS(C:mA)(t:Nat)(m k v:zA)(H:xA):Option (zA × xA):=
 ob (C.tys.get t) fun ty=>ob ty.desc.asMap fun ke=>ob (C.tys.get ke.1) fun kty=>xB (qU C kty)
  (ob m.asMap fun b=>xB (!Nat.blt b C.base) (ob (yL H b) fun l=>xB (aR C kty k) (ob (fN k v l) fun l'=>some (fD,setBlk H b (.map l')))))
def tP(C:mA)(t:Nat)(l c:zA)(H:xA):Option (zA × xA):=
 ob (C.tys.get t) fun ty=>ob ty.desc.asSlice fun el=>ob (C.tys.get el) fun et=>ob l.asNat fun l=>ob c.asNat fun c=>
  xB (Nat.ble l c&&Nat.blt c 1000000&&Nat.blt (c*et.bytes) 1000000000&&Nat.beq (zB et.zero) et.size) (some (.slice H.next 0 l c,fF H (nI et.zero c) none))
def Tg(C:mA)(s d:Nat)(v:zA)(H:xA):Option (zA × xA):=
 ob (C.tys.get s) fun _=>ob (C.tys.get d) fun ty=>ob ty.desc.asSlice fun el=>ob (C.tys.get el) fun et=>ob et.desc.asInt fun k=>xB (yN k .u8) (ob v.asStr fun l=>
  some (.slice H.next 0 (zB l) (zB l),fF H (bX l) (some (.ty el))))
def cG(C:mA)(t u:Nat)(a b:zA)(H:xA):Option (zA × xA):=ob (C.tys.get t) fun ty=>ob (C.tys.get u) fun uty=>xB (!Nat.beq uty.desc.tag 1) (fW C H ty a b)
def vNext(v:zA)(H:xA):Option (zA × xA):=ob v.asPtr fun p=>xB (Nat.beq p.2 0) (ob (ob (H.t.get p.1) vA.asIter) fun x=>
 match tD x.1 x.2 with
 | some c=>xB (Nat.blt c 128) (some (.tup [.bool true,.int .i64 (.ofNat x.2),.int .i32 (.ofNat c)],setBlk H p.1 (.siter x.1 (x.2+1))))
 | none=>some (.tup [.bool false],H))
structure jG where
 b:Nat->Bool
 i:Nat->Int
 s:Nat->List Nat
 v:Nat->zA
inductive T where
 | ret (v:zA)
 | fail
 | ite (b:Bool) (x y:T)
 | opt (x:Option zA) (K:zA->T)
 | light (x:Tr vA->Option zA) (K:zA->T)
 | heavy (x:xA->Option (zA × xA)) (K:zA->T)
 | call (f:Nat) (args:List zA) (K:zA->T)
 | callv (f:zA) (args:List zA) (K:zA->T)
 | asI (k:IntKind) (v:zA) (K:Int->T)
 | asB (v:zA) (K:Bool->T)
 | asS (v:zA) (K:List Nat->T)
 | asG (zs:List zA) (v:zA) (K:jG->T)
 | jump (i:Nat) (vals:List zA)
 | range (np:Nat->Bool) (f:zA) (i m:Nat) (vals:List zA) (K R:T)
def yo:Nat:=1099511627776
def pn:Nat:=1099511627775
def Xi(z:zA)(X:jG)(j:Nat):zA:=
 match z with
 | .bool _=>.bool (X.b j)
 | .int k _=>.int k (X.i j)
 | .str _=>.str (X.s j)
 | _=>X.v j
def vZ(zs:List zA)(X:jG):Nat->List zA:=
 List.rec (motive:=fun _=>Nat->List zA) (fun _=>[]) (fun z _ g j=>Xi z X j::g (j+1)) zs
def Ie(l:List zA)(j:Nat):Bool:=match l[j]? with | some (.bool b)=>b | _=>false
def ziw(l:List zA)(j:Nat):Int:=match l[j]? with | some (.int _ n)=>n | _=>0
def strAt(l:List zA)(j:Nat):List Nat:=match l[j]? with | some (.str s)=>s | _=>[]
def Jn(l:List zA)(j:Nat):zA:=match l[j]? with | some v=>v | _=>.nilptr
def cellsOf(l:List zA):jG:=⟨Ie l,ziw l,strAt l,Jn l⟩
def dZ (z a:zA):Bool:=
 match z with
 | .bool _=>Nat.beq a.tag 0
 | .int k _=>match a.asIntK with | some p=>yN p.1 k | none=>false
 | .str _=>Nat.beq a.tag 2
 | .nilptr=>Nat.beq a.tag 3||Nat.beq a.tag 4
 | .nilslice=>Nat.beq a.tag 5||Nat.beq a.tag 6
 | .nilmap=>Nat.beq a.tag 7||Nat.beq a.tag 8
 | .nilfunc=>Nat.beq a.tag 10||Nat.beq a.tag 9
 | .niliface=>Nat.beq a.tag 12||Nat.beq a.tag 11
 | _=>false
def xS:List zA->List zA->Bool
 | [],[]=>true
 | z::zs,a::l=>dZ z a&&xS zs l
 | _,_=>false
structure yH where
 tm:Tm
 ad:List (Nat × Nat × Nat)
 lo:Tr (List zA)
 lit:List Nat
abbrev KT:=yH->T
structure KtT where
 norm:KT
 exit:Nat->KT
 ret:KT
def bB {α:Type}(x:Option α)(K:α->T):T:=Option.rec (motive:=fun _=>T) .fail K x
def qK (b:Bool)(K:T):T:=Bool.rec (motive:=fun _=>T) .fail K b
def gL(i:Nat)(l:List (Nat × Nat × Nat)):Option (Nat × Nat):=
 List.rec (motive:=fun _=>Option (Nat × Nat)) none (fun a _ g=>Bool.rec (motive:=fun _=>Option (Nat × Nat)) g (some a.2) (Nat.beq i a.1)) l
inductive qO where
 | now (ad:List (Nat × Nat × Nat))
 | mixed (ad old:List (Nat × Nat × Nat)) (olds names:List Nat)
def tAd (e:qO)(t:Nat):Option (Nat × Nat):=
 match e with
 | .now ad=>gL t ad
 | .mixed ad old olds names=>bif bH t names then gL t (bif bH t olds then old else ad)else none
def xAd (e:qO)(x:Operand):Option (Nat × Nat):=
 match x with
 | .tmp t=>tAd e t
 | _=>none
def dM:xA:=⟨0,.leaf⟩
def xI (C:mA)(t:Nat):Nat:=
 match C.tys.get t with
 | some ty=>ty.desc.tag
 | none=>10
def Yk(x:Operand):Bool:=
 match x with
 | .const _=>true
 | _=>false
def LJ(x:Operand):Bool:=
 match x with
 | .const (.int _ n) => !oB n 0
 | _=>false
def binDir(C:mA)(op:BinOp)(t:Nat)(y:Operand):Bool:=
 match op with
 | .add=>Nat.beq (xI C t) 1
 | .sub=>true
 | .mul=>true
 | .quo=>LJ y
 | .rem=>LJ y
 | .shl=>Yk y
 | .shr=>Yk y
 | .eql=>Nat.ble (xI C t) 2
 | .neq=>Nat.ble (xI C t) 2
 | .lss=>Nat.ble (xI C t) 2
 | .leq=>Nat.ble (xI C t) 2
 | .gtr=>Nat.ble (xI C t) 2
 | .geq=>Nat.ble (xI C t) 2
 | _=>false
structure eM where
 K:zA->T
 Kd:zA->T
 KA:Nat->Nat->T
def tR (C:mA)(op:Op)(e:vD)(k:eM):T:=bB ((eF op).f C e dM) k.Kd
def Oh(C:mA)(op:Op)(x:Operand)(e:vD)(ae:qO)(k:eM):T:=
 match xAd ae x with
 | some p=>k.KA p.1 p.2
 | none=>tR C op e k
def tLoad(C:mA)(t:Nat)(a:Operand)(e:vD)(ae:qO)(lo:Tr (List zA))(k:eM):T:=
 match xAd ae a with
 | some p=>bB (lo.get p.1) fun l=>bB (C.tys.get t) fun ty=>qK (Nat.ble (p.2+ty.size) (zB l)) (bB (qQ C t l p.2) k.Kd)
 | none=>bB (ev a e) fun v=>.light (fun m=>lA C t ⟨0,m⟩ v) k.K
def BZ(C:mA)(s:Nat)(x:Operand)(f:Nat)(e:vD)(ae:qO)(k:eM):T:=
 match xAd ae x with
 | some p=>bB (Th C s f) fun o=>k.KA p.1 (p.2+o)
 | none=>bB (ev x e) fun v=>.opt (nC C s f v) k.K
def BW(C:mA)(t:Nat)(x i:Operand)(e:vD)(ae:qO)(k:eM):T:=
 match xAd ae x with
 | some p=>bB (ev i e) fun i=>bB i.asNat fun i=>bB (BC C t i) fun o=>k.KA p.1 (p.2+o)
 | none=>bB (ev x e) fun v=>bB (ev i e) fun i=>.opt (wC C t v i) k.K
def tNil (x:Operand)(e:vD)(ae:qO)(k:eM):T:=
 match xAd ae x with
 | some p=>k.KA p.1 p.2
 | none=>bB (ev x e) fun v=>.opt (iF v) k.K
def tLen (C:mA)(c:Call)(e:vD)(k:eM):T:=
 bB (tD c.argTypes.toList 0) fun t=>bB (tD c.args.toList 0) fun x=>bB (ev x e) fun v=>
  bif Nat.beq (xI C t) 4 then .opt (uC v) k.K else bif Nat.beq (xI C t) 6 then .light (fun m=>iT C t ⟨0,m⟩ v) k.K else bB (iT C t dM v) k.Kd
def tBin (C:mA)(op:BinOp)(t:Nat)(x y:Operand)(u:Nat)(e:vD)(k:eM):T:=
 bif binDir C op t y then tR C (.binOp op t x y u) e k else bB (ev x e) fun a=>bB (ev y e) fun b=>.opt ((nJ op).f C t x y a b) k.K
def zgy(C:mA)(s d:Nat)(x:Operand)(e:vD)(k:eM):T:=
 bif Nat.beq (xI C d) 2 then(bif Nat.beq (xI C s) 2 then tR C (.convert s d x) e k else bB (ev x e) fun v=>.light (fun m=>Aw C s d ⟨0,m⟩ v) k.K)else bif Nat.beq (xI C d) 1 then tR C (.convert s d x) e k else .fail
def zdt(C:mA)(t:Nat)(x:Operand)(lo hi:Option Operand)(e:vD)(k:eM):T:=
 bB (ev x e) fun a=>bB (wT lo e) fun l=>bB (wT hi e) fun h=>
  bif Nat.beq (xI C t) 2 then .opt (uF C t dM a l h) k.K else .light (fun m=>uF C t ⟨0,m⟩ a l h) k.K
def Ju(C:mA)(c:Call)(e:vD)(k:eM):Builtin->T
 | .len=>tLen C c e k
 | .max=>tR C (.call c) e k
 | .min=>tR C (.call c) e k
 | _=>.fail
def Ia(ty:lD)(v:zA):List zA:=bif ty.desc.isAgg then v.cells else [v]
def zi6(cells:List zA)(off size:Nat)(vc:List zA):Option (List zA):=
 xB (Nat.beq (zB vc) size&&Nat.ble (off+zB vc) (zB cells)) (some (eD (rZ cells off) (eD vc (kQ cells (off+zB vc)))))
def Wo(C:mA)(tyAt:Nat->Option Nat):List (Nat × zA)->Option (List (Nat × zA × List zA) × List zA):=
 List.rec (motive:=fun _=>Option (List (Nat × zA × List zA) × List zA)) (some ([],[]))
  (fun p _ g=>ob (tyAt p.1) fun t=>ob (C.tys.get t) fun ty=>ob g fun r=>some (bif ty.desc.isAgg then((p.1,p.2,p.2.cells)::r.1,r.2)else((p.1,p.2,[p.2])::r.1,p.2::r.2)))
def Rm(place:Nat->Option (Nat × Nat)):List (Nat × zA × List zA)->List zA->Option (List zA):=
 List.rec (motive:=fun _=>List zA->Option (List zA)) (fun cells=>some cells) (fun p _ g cells=>ob (place p.1) fun q=>ob (zi6 cells q.1 q.2 p.2.2) fun cells=>g cells)
def tyAtS(ty:lD)(i:Nat):Option Nat:=
 match ty.desc.asStruct with
 | some fs=>ob (tD fs i) fun x=>some x.2.1
 | none=>ob ty.desc.asArr fun a=>some a.2
def Gv(C:mA)(ty:lD)(i:Nat):Option (Nat × Nat):=
 match ty.desc.asStruct with
 | some fs=>ob (tD fs i) fun x=>some (x.1,x.2.2)
 | none=>ob ty.desc.asArr fun a=>ob (C.tys.get a.2) fun et=>some (i*et.size,et.size)
def MN(C:mA)(ty:lD):Bool:=
 match ty.desc.asStruct with
 | some _=>true
 | none=>match ty.desc.asArr with
  | some a=>(match C.tys.get a.2 with | some _=>true | none=>false)
  | none=>false
def zdv(C:mA)(t:Nat)(ps:Array (Nat × Operand))(e:vD)(k:eM):T:=
 bB (C.tys.get t) fun ty=>qK (MN C ty) <| bB (xT ps.toList e) fun vs=>bB (Wo C (tyAtS ty) vs) fun q=>bB (Rm (Gv C ty) q.1 ty.zero) fun l=>.ite (aB zA.one q.2) (k.Kd (.agg l)) .fail
def tL (C:mA)(op:Op)(e:vD)(ae:qO)(lo:Tr (List zA))(k:eM):T:=
 match op with
 | .move x=>Oh C (.move x) x e ae k
 | .assign x=>Oh C (.assign x) x e ae k
 | .load t a=>tLoad C t a e ae lo k
 | .fieldAddr s x f=>BZ C s x f e ae k
 | .indexAddr t x i=>BW C t x i e ae k
 | .nilCheck x=>tNil x e ae k
 | .binOp op t x y u=>tBin C op t x y u e k
 | .convert s d x=>zgy C s d x e k
 | .slice t x lo hi none=>zdt C t x lo hi e k
 | .index t x i=>bif Yk i&&Nat.beq (xI C t) 5 then tR C (.index t x i) e k else bB (ev x e) fun v=>bB (ev i e) fun i=>.opt (oI C t v i) k.K
 | .extract t i=>bB (ev t e) fun v=>.opt (dG i v) k.K
 | .typeAssert x _ u ok=>bB (ev x e) fun v=>.opt (Dg C u ok v) k.K
 | .lookup t x i ok=>bB (ev x e) fun m=>bB (ev i e) fun key=>.light (fun h=>rX C t ⟨0,h⟩ m key ok) k.K
 | .call c=>match c.callee with
  | .builtin b=>Ju C c e k b
  | _=>.fail
 | .pick c a b=>tR C (.pick c a b) e k
 | .unOp o t x=>(match o with
  | .xor=>bB (ev x e) fun v=>.opt (Di v) k.K
  | o=>tR C (.unOp o t x) e k)
 | .makeInterface t x=>tR C (.makeInterface t x) e k
 | .makeFunc fn a b=>tR C (.makeFunc fn a b) e k
 | .field t x f=>tR C (.field t x f) e k
 | .build t ps=>zdv C t ps e k
 | _=>.fail
def laOf (la:List Nat)(dst:Option Nat):Option Nat:=
 match dst with
 | some d=>bif bH d la then some d else none
 | none=>none
structure KLo where
 new:Nat->List zA->T
 set:Nat->List zA->T
def zdu(f:Operand)(args:Array Operand)(e:vD)(k:eM):T:=
 match f with
 | .func g=>qK (Nat.blt g pn) (bB (aN args.toList e) fun aq=>.call g aq k.K)
 | f=>bB (ev f e) fun fv=>bB (aN args.toList e) fun aq=>.callv fv aq k.K
def two' (c:Call)(e:vD)(K:zA->zA->T):T:=bB (two c e) fun p=>K p.1 p.2
def BY(C:mA)(c:Call)(e:vD)(k:eM):Builtin->T
 | .append=>bB (tD c.argTypes.toList 0) fun t=>bB (tD c.argTypes.toList 1) fun u=>two' c e fun a b=>.heavy (cG C t u a b) k.K
 | b=>Ju C c e k b
def zds(C:mA)(t:Nat)(a x:Operand)(e:vD)(ae:qO)(lo:Tr (List zA))(k:eM)(kl:KLo):T:=
 match xAd ae a with
 | some p=>bB (ev x e) fun v=>bB (C.tys.get t) fun ty=>bB (lo.get p.1) fun l=>bB (zi6 l p.2 ty.size (Ia ty v)) fun l'=>.ite (aB zA.one (Ia ty v)) (kl.set p.1 l') .fail
 | none=>bB (ev a e) fun a=>bB (ev x e) fun v=>.heavy (zC C t a v) k.Kd
def tH (C:mA)(la:List Nat)(dst:Option Nat)(op:Op)(e:vD)(ae:qO)(lo:Tr (List zA))(k:eM)(kl:KLo):T:=
 match op with
 | .box t x=>bif tE (sK C t)then bB (ev x e) fun v=>(match laOf la dst with
  | some d=>bB (C.tys.get t) fun ty=>bif ty.desc.isAgg then kl.new d v.cells else .ite (zA.one v) (kl.new d [v]) .fail
  | none=>.heavy (aM v) k.K)else bB (ev x e) fun v=>.heavy (zgg C t v) k.K
 | .alloc t=>bif tE (sK C t)then(match laOf la dst with
  | some d=>bB (C.tys.get t) fun ty=>kl.new d ty.zero
  | none=>.heavy (tK C t) k.K)else .heavy (Dh C t) k.K
 | .store t a x=>zds C t a x e ae lo k kl
 | .buildSlice t len ps=>bB (xT ps.toList e) fun ps=>.heavy (eC C t len ps) k.K
 | .makeMap _ none=>.heavy Nv k.K
 | .insert t m key x=>bB (ev m e) fun m=>bB (ev key e) fun key=>bB (ev x e) fun v=>.heavy (lS C t m key v) k.Kd
 | .mapUpdate t m key x=>bB (ev m e) fun m=>bB (ev key e) fun key=>bB (ev x e) fun v=>.heavy (lS C t m key v) k.Kd
 | .makeSlice t l c=>bB (ev l e) fun l=>bB (ev c e) fun c=>.heavy (tP C t l c) k.K
 | .convert s d x=>bif Nat.beq (xI C d) 4 then bB (ev x e) fun v=>.heavy (Tg C s d v) k.K else zgy C s d x e k
 | .call c=>match c.callee with
  | .value f=>zdu f c.args e k
  | .builtin b=>BY C c e k b
  | _=>.fail
 | .panic x=>bB (ev x e) fun v=>bB v.asIface fun p=>.call pn [.iface p.1 p.2] k.K
 | op=>tL C op e ae lo k
def rmNat(i:Nat)(l:List Nat):List Nat:=List.rec (motive:=fun _=>List Nat) [] (fun j _ g=>bif Nat.beq i j then g else j::g) l
def uR (n:Nat)(dst:Option Nat)(v:zA)(lt:Bool)(st:yH)(κ:KT):T:=
 match dst with
 | none=>κ st
 | some d=>bif Nat.blt d n then qK (tE (gL d st.ad)) (κ ⟨st.tm.set d v,st.ad,st.lo,bif lt then d::rmNat d st.lit else rmNat d st.lit⟩)else κ st
def zgv(n:Nat)(dst:Option Nat)(d off:Nat)(st:yH)(κ:KT):T:=
 bB dst fun i=>qK (Nat.blt i n) (qK (tE (st.tm.get i)) (κ ⟨st.tm,(i,d,off)::st.ad,st.lo,st.lit⟩))
def zeo(d:Nat)(ad:List (Nat × Nat × Nat)):Bool:=aB (fun a=>bif Nat.beq a.2.1 d then Nat.beq a.1 d else true) ad
def tNew (n:Nat)(d:Nat)(l:List zA)(st:yH)(κ:KT):T:=
 qK (Nat.blt d n) (qK (tE (st.tm.get d)) (qK (zeo d st.ad) (κ ⟨st.tm,(d,d,0)::st.ad,st.lo.set d l,st.lit⟩)))
def Hq (C:mA)(t:Nat)(v:zA):Bool:=
 match C.tys.get t with
 | some ty=>(match ty.desc with
  | .bool=>Nat.beq v.tag 0
  | .int k=>(match v.asIntK with | some p=>yN p.1 k | none=>false)
  | .string=>Nat.beq v.tag 2
  | _=>true)
 | none=>true
def Jt(C:mA)(t:Nat)(v:zA)(K:zA->T):T:=
 match C.tys.get t with
 | some ty=>(match ty.desc with
  | .bool=>.asB v fun b=>K (.bool b)
  | .int k=>.asI k v fun n=>K (.int k n)
  | .string=>.asS v fun s=>K (.str s)
  | .struct _=>bif Nat.ble (zB ty.zero) 40 then .asG ty.zero v fun X=>K (.agg (vZ ty.zero X 0))else K v
  | .arr _ _=>bif Nat.ble (zB ty.zero) 40 then .asG ty.zero v fun X=>K (.agg (vZ ty.zero X 0))else K v
  | _=>K v)
 | none=>K v
def Bt (x:Operand)(lit:List Nat):Bool:=
 match x with
 | .tmp t=>lit.contains t
 | .const _=>true
 | _=>false
def Qi(op:Op)(e:vD)(lit:List Nat):Bool:=
 match op with
 | .move x=>Bt x lit
 | .assign x=>Bt x lit
 | .unOp _ _ x=>Bt x lit
 | .pick c a b=>bif Bt c lit then(match ob (ev c e) zA.asBool with
  | some w=>bif w then Bt a lit else Bt b lit
  | none=>false)else false
 | _=>false
def Qx(all:List Oper)(dst:Option Nat)(l:List Oper):Bool:=
 match dst with
 | none=>false
 | some d => !aB (fun o=>match o.guard with
  | some g=>(match ob (tD all g.1) fun p=>p.dst with | some i => !Nat.beq i d | none=>true)
  | none=>true) l
def Gf(g lt:Bool)(v:zA)(K:zA->Bool->T):T:=
 bif g then(bif lt then K v true else bB v.asBool fun b=>.ite b (K (.bool true) true) (K (.bool false) true))else K v lt
def kop (C:mA)(all:Array Oper)(n:Nat)(o:Oper)(e:vD)(st:yH)(κ:KT):eM:=
 ⟨fun v=>Jt C o.type v fun v=>Gf (Qx all.toList o.dst all.toList) (Qi o.op e st.lit) v fun v lt=>uR n o.dst v lt st κ,
  fun v=>qK (Hq C o.type v) (Gf (Qx all.toList o.dst all.toList) (Qi o.op e st.lit) v fun v lt=>uR n o.dst v lt st κ),
  fun d off=>qK (!Nat.ble (xI C o.type) 2) (zgv n o.dst d off st κ)⟩
def klo (C:mA)(n:Nat)(o:Oper)(st:yH)(κ:KT):KLo:=
 ⟨fun d l=>qK (!Nat.ble (xI C o.type) 2) (tNew n d l st κ),
  fun d l=>qK (Hq C o.type fD) (uR n o.dst fD false ⟨st.tm,st.ad,st.lo.set d l,st.lit⟩ κ)⟩
def vD.adCut(k:Nat)(l:List (Nat × Nat × Nat)):List (Nat × Nat × Nat):=l.filter fun a=>Nat.blt a.1 k
def yH.cut(st:yH):yH:=⟨st.tm.cut,vD.adCut st.tm.k st.ad,st.lo,st.lit⟩
def tops (C:mA)(la:List Nat)(all:Array Oper)(n:Nat)(κ:KT)(l:List Oper):KT:=
 List.rec (motive:=fun _=>KT) κ
  (fun o _ g st=>bB (zG o.guard all st.tm) fun w=>Bool.rec (motive:=fun _=>T) (uR n o.dst fD false st g)
   (tH C la o.dst o.op (.now st.tm) (.now st.ad) st.lo (kop C all n o (.now st.tm) st g) (klo C n o st g)) w) l
def nQ (st old:yH)(olds:List Nat)(op:Op):vD:=.mixed st.tm old.tm olds (cH op)
def tZ (st old:yH)(olds:List Nat)(op:Op):qO:=.mixed st.ad old.ad olds (cH op)
def jS(C:mA)(all:Array Oper)(n:Nat)(old:yH)(olds:List (Nat × List Nat))(κ:KT)(l:List Nat):KT:=
 List.rec (motive:=fun _=>KT) κ
  (fun i _ g st=>bB (tD all.toList i) fun o=>bB (zG o.guard all st.tm) fun w=>Bool.rec (motive:=fun _=>T) (uR n o.dst fD false st g)
   (tL C o.op (nQ st old (pF i olds) o.op) (tZ st old (pF i olds) o.op) st.lo (kop C all n o (nQ st old (pF i olds) o.op) st g)) w) l
def qX(C:mA)(all:Array Oper)(old:yH)(olds:List (Nat × List Nat))(st:yH)(k:T)(l:List Nat):T:=
 List.rec (motive:=fun _=>T) k
  (fun i _ g=>bB (tD all.toList i) fun o=>bB o.dst fun d=>bB (zG o.guard all st.tm) fun w=>Bool.rec (motive:=fun _=>T) g
   (bB (st.tm.get d) fun u=>qK (Hq C o.type u) (tL C o.op (nQ st old (pF i olds) o.op) (tZ st old (pF i olds) o.op) st.lo ⟨fun v=>.ite (same 10 v u) g .fail,fun v=>.ite (same 10 v u) g .fail,fun _ _=>.fail⟩)) w) l
def Gc(C:mA)(es:List oN)(H:xA):Option (zA × xA):=ob (gZ C es H) fun H'=>some (fD,H')
def tEff (op:Op)(e:vD)(ae:qO):Option oN:=
 match op with
 | .store t a x=>(match xAd ae a with
  | some _=>none
  | none=>Ab (.store t a x) e)
 | op=>Ab op e
def Oi(all:Array Oper)(old:yH)(olds:List (Nat × List Nat))(st:yH)(l:List Nat):Option (List oN):=
 vH (fun i=>ob (tD all.toList i) fun o=>ob (zG o.guard all st.tm) fun w=>xB w (tEff o.op (nQ st old (pF i olds) o.op) (tZ st old (pF i olds) o.op))) l
def Ay(C:mA)(all:Array Oper)(n:Nat)(old:yH)(olds:List (Nat × List Nat))(κ:KT)(l:List lG):KT:=
 List.rec (motive:=fun _=>KT) κ
  (fun s _ g st=>Bool.rec (motive:=fun _=>T) (bB (tD all.toList (xN all s.heavy)) fun o=>bB (wV C all s.heavy o st.tm) fun w=>
   (fun cont:KT=>Bool.rec (motive:=fun _=>T) (uR n o.dst fD false st cont)
    (tH C [] o.dst o.op (nQ st old (pF (xN all s.heavy) olds) o.op) (tZ st old (pF (xN all s.heavy) olds) o.op) st.lo (kop C all n o (nQ st old (pF (xN all s.heavy) olds) o.op) st cont) (klo C n o st cont)) w)
   (fun st'=>qX C all old olds st' (jS C all n old olds g s.lights st') s.again))
   (qK (kX C all) (bB (Oi all old olds st s.again) fun es=>.heavy (Gc C es) fun _=>jS C all n old olds g s.lights st)) (oU all s)) l
def BK(C:mA)(la:List Nat)(fn n:Nat)(κ:KT)(id:Nat)(all:Array Oper)(draw:Bool):KT:=
 Bool.rec (motive:=fun _=>KT) (fun st=>tops C la all n κ all.toList st.cut)
  (fun st=>bB (ob (C.plans.get fn) fun t=>t.get id) fun p=>qK (wU all p) (jS C all n st.cut p.olds (Ay C all n st.cut p.olds κ p.stages) p.first st.cut)) draw
def Ga(st:yH)(ll:List (Nat × Nat)):Option (List zA):=
 List.rec (motive:=fun _=>Option (List zA)) (some []) (fun p _ g=>ob (gL p.1 st.ad) fun a=>xB (Nat.beq a.1 p.1&&Nat.beq a.2 0) (ob (st.lo.get p.1) fun l=>xB (Nat.beq (zB l) p.2) (ob g fun r=>some (eD l r)))) ll
def Dd(p:PI)(st:yH):Option (List zA):=ob (vH (fun i=>st.tm.get i) p.pl) fun a=>ob (Ga st p.ll) fun b=>some (eD a b)
def sV (ll:List (Nat × Nat)):List zA->Tr (List zA):=
 List.rec (motive:=fun _=>List zA->Tr (List zA)) (fun _=>.leaf) (fun p _ g vals=>(g (kQ vals p.2)).set p.1 (rZ vals p.2)) ll
def lO (pl:List Nat):List zA->Tr zA:=
 List.rec (motive:=fun _=>List zA->Tr zA) (fun _=>.leaf) (fun i _ g vals=>List.rec (motive:=fun _=>Tr zA) .leaf (fun v vals _=>(g vals).set i v) vals) pl
def stAd (ll:List (Nat × Nat)):List (Nat × Nat × Nat):=List.rec (motive:=fun _=>List (Nat × Nat × Nat)) [] (fun p _ g=>(p.1,p.1,0)::g) ll
def cL (k:Nat)(p:PI)(vals:List zA):yH:=⟨⟨k,lO p.pl vals,[]⟩,stAd p.ll,sV p.ll (kQ vals (zB p.pl)),[]⟩
def jR (C:mA)(g:Nat):Bool:=tE (C.prims.get g)
def zee(pl:List Nat)(st:yH):Option (List zA):=vH (fun i=>st.tm.get i) pl
def psOk:List Nat->Bool
 | []=>true
 | [_]=>true
 | [p,q] => !Nat.beq p q
 | _=>false
def EN(k n:Nat)(pl ps:List Nat)(ops:List (Nat × Array Oper))(c:oC):Bool:=
 aB (fun p=>Nat.blt p k&&Nat.blt p n && !bH p pl) ps&&psOk ps&&Pk ops&&(match rK c with | []=>true | _=>false)
def rdT:KtT:=⟨fun _=>.ret (.bool true),fun _ _=>.fail,fun _=>.ret (.bool false)⟩
def Wh(C:mA)(n:Nat)(κ:KtT)(i:Nat)(pl:List Nat)(f:Operand)(ps:List Nat)(ops:List (Nat × Array Oper))(c:oC)(st:yH):T:=
 qK (EN st.tm.k n pl ps ops c) (bB (zee pl st) fun vals=>bB (ev f (.now st.tm)) fun fv=>.range (jR C) fv i (zB ps) vals (κ.norm st) (κ.ret st))
def dL (C:mA)(la:List Nat)(fn n:Nat)(c:oC):KtT->KT:=
 oC.rec (motive:=fun _=>KtT->KT)
  (fun κ st=>κ.norm st)
  (fun id all draw κ=>BK C la fn n κ.norm id all draw)
  (fun _ _ ga gb κ=>ga ⟨gb κ,κ.exit,κ.ret⟩)
  (fun c _ _ gx gy κ st=>bB (ob (ev c (.now st.tm)) zA.asBool) fun b=>bif Bt c st.lit then Bool.rec (motive:=fun _=>T) (gy κ st) (gx κ st) b else .ite b (gx κ st) (gy κ st))
  (fun id _ g κ=>g ⟨κ.norm,fun i st=>Bool.rec (motive:=fun _=>T) (κ.exit i st) (κ.norm st) (Nat.beq id i),κ.ret⟩)
  (fun p _ _ _ st=>bB (Dd p st) fun vals=>.jump p.id vals)
  (fun id κ st=>κ.exit id st)
  (fun κ st=>κ.ret st)
  (fun p _ _ _ st=>bB (Dd p st) fun vals=>.jump p.id vals)
  (fun i pl f ps ops c _ κ st=>Wh C n κ i pl f ps.toList ops c st) c
structure PtT where
 p:PI
 tree:List zA->T
def iX(p:PI):KT:=fun st=>bB (Dd p st) fun vals=>.jump p.id vals
def Bk(C:mA)(la:List Nat)(fn n k:Nat)(c:oC):KtT->List PtT:=
 oC.rec (motive:=fun _=>KtT->List PtT)
  (fun _=>[])
  (fun _ _ _ _=>[])
  (fun _ b ga gb κ=>eD (ga ⟨dL C la fn n b κ,κ.exit,κ.ret⟩) (gb κ))
  (fun _ _ _ gx gy κ=>eD (gx κ) (gy κ))
  (fun id _ g κ=>g ⟨κ.norm,fun i st=>Bool.rec (motive:=fun _=>T) (κ.exit i st) (κ.norm st) (Nat.beq id i),κ.ret⟩)
  (fun p c g κ=>⟨p,fun vals=>dL C la fn n c ⟨iX p,κ.exit,κ.ret⟩ (cL k p vals)⟩::g ⟨iX p,κ.exit,κ.ret⟩)
  (fun _ _=>[])
  (fun _=>[])
  (fun p c g κ=>⟨p,fun vals=>dL C la fn n c κ (cL k p vals)⟩::g κ)
  (fun i pl _ ps ops c g _=>⟨⟨i,eD pl ps.toList,[]⟩,fun vals=>dL C la fn n (asA c ops) rdT (cL k ⟨i,eD pl ps.toList,[]⟩ vals)⟩::g rdT) c
def Gp (C:mA)(st:yH)(l:List ResultVar):(List zA->T)->T:=
 List.rec (motive:=fun _=>(List zA->T)->T) (fun K=>K [])
  (fun r _ g K=>match r with
   | .tmp t=>bB (st.tm.get t) fun v=>g fun l=>K (v::l)
   | .cell a t=>match gL a st.ad with
    | some p=>bB (st.lo.get p.1) fun l=>bB (C.tys.get t) fun ty=>qK (Nat.ble (p.2+ty.size) (zB l)) (bB (qQ C t l p.2) fun v=>g fun l=>K (v::l))
    | none=>bB (st.tm.get a) fun a=>.light (fun m=>lA C t ⟨0,m⟩ a) fun v=>g fun l=>K (v::l)) l
def endT (C:mA)(fn:Func):KT:=fun st=>Gp C st fn.results.toList fun l=>.ret (Dl l)
def Ba (C:mA)(fn:Func):KtT:=⟨endT C fn,fun _ _=>.fail,endT C fn⟩
structure bD where
 code:oC
 la:List Nat
def entT (C:mA)(fn:Func)(k:Nat)(f:Nat)(A:bD)(args:List zA):T:=dL C A.la f fn.ntmps A.code (Ba C fn) ⟨⟨k,Tr.ofList args,[]⟩,[],.leaf,[]⟩
def ptsT (C:mA)(fn:Func)(k:Nat)(f:Nat)(A:bD):List PtT:=Bk C A.la f fn.ntmps k A.code (Ba C fn)
def Eb(l:List PtT)(i:Nat)(vals:List zA):List T:=List.rec (motive:=fun _=>List T) [] (fun p _ g=>bif Nat.beq p.p.id i then p.tree vals::g else g) l
end
section
variable {b d n s ty:Nat}{y:vA}{i x:Operand}{l r:Option zA}{c:Call}{a k m u w:zA}{ok:Bool}
def vE {α:Type}(x:Option α)(P:α->Prop):Prop:=
 match x with
 | some a=>P a
 | none=>False
theorem yZ{α:Type}{x:Option α}{P:α->Prop}:vE x P ↔ ∃a,x=some a/\P a:=by
 cases x with
 | none=>simp[vE]
 | some a=>simp[vE]
@[simp] theorem qA {α:Type} {a:α} {P:α->Prop}:vE (some a) P=P a:=rfl
@[simp] theorem optP_none {α:Type} {P:α->Prop}:vE (none:Option α) P=False:=rfl
abbrev pB:=zA->Tr vA->Prop
abbrev eE:=Nat->List zA->Tr vA->pB->Prop
def zfl{α:Type}:List α->Bool | []=>true | _::_=>false
def iL(f:zA)(args:List zA):Option (Nat × List zA):=ob f.asFunc fun p=>match p.1 with
 | .func g=>xB (Nat.blt g pn) (some (g,eD (eD p.2.1 args) p.2.2))
 | .yld l=>xB (zfl p.2.1&&zfl p.2.2) (some (yo+l,args))
def Bh(np:Nat->Bool)(f:zA)(l:Nat):Option (Nat × List zA):=ob f.asFunc fun p=>match p.1 with
 | .func g=>xB (Nat.blt g pn&&np g) (some (g,eD p.2.1 (.func (.yld l) [] []::p.2.2)))
 | .yld _=>none
def Hj (k:IntKind)(v:zA):Option Int:=ob v.asIntK fun p=>xB (yN p.1 k) (some p.2)
def xK (zs:List zA)(v:zA):Option jG:=ob v.asAgg fun l=>xB (xS zs l) (some (cellsOf l))
def pA (base:Nat)(W:eE)(J:eE):T->Tr vA->pB->Prop
 | .ret v,t,Q=>Q v t
 | .fail,_,_=>False
 | .ite b x y,t,Q=>if b=true then pA base W J x t Q else pA base W J y t Q
 | .opt x K,t,Q=>vE x fun v=>pA base W J (K v) t Q
 | .light x K,t,Q=>vE (x t) fun v=>pA base W J (K v) t Q
 | .heavy x K,t,Q=>∀b,t.get b=none->base<=b->vE (x ⟨b,t⟩) fun p=>pA base W J (K p.1) p.2.t Q
 | .call f args K,t,Q=>W f args t fun v t'=>pA base W J (K v) t' Q
 | .callv f args K,t,Q=>vE (iL f args) fun p=>W p.1 p.2 t fun v t'=>pA base W J (K v) t' Q
 | .asI k v K,t,Q=>vE (Hj k v) fun n=>pA base W J (K n) t Q
 | .asB v K,t,Q=>vE v.asBool fun n=>pA base W J (K n) t Q
 | .asS v K,t,Q=>vE v.asStr fun n=>pA base W J (K n) t Q
 | .asG zs v K,t,Q=>vE (xK zs v) fun X=>pA base W J (K X) t Q
 | .jump i vals,t,Q=>J i vals t Q
 | .range np f i m vals K R,t,Q=>256<=base/\∀l r,t.get l=none->base<=l->r.state=.ready->r.pending=none →
   (∀args t1 Q1,args.length=m->t1.get l=some (.loop r)->J i (vals++args) (t1.del l) (fun v t2=>t2.get l=none->∃b,v=.bool b/\Q1 v (t2.set l (.loop (dO b r))))->W (yo+l) args t1 Q1) →
   vE (Bh np f l) fun p=>W p.1 p.2 (t.set l (.loop r)) fun _ t'=>(t'.get l=some (.loop r)/\pA base W J K (t'.del l) Q)\/(t'.get l=some (.loop (dO false r))/\pA base W J R (t'.del l) Q)
abbrev Xt:=Nat->Option vA
def iI (X Y:Xt):Prop:=∀b y,X b=some y->Y b=some y
theorem iI.refl(X:Xt):iI X X:=fun _ _ h=>h
def iI.trans{X Y Z:Xt}(h:iI X Y)(k:iI Y Z):iI X Z:=fun b y e=>k b y (h b y e)
structure Ov (base:Nat) (t:Tr vA) (X:Xt) (H:xA):Prop where
 base:base<=H.next
 same:∀b,X b=none->H.t.get b=t.get b
 ext:∀b y,X b=some y->H.t.get b=some y/\t.get b=none/\b<H.next
 lt:∀b y,t.get b=some y->b<H.next
def HLe (H H':xA):Prop:=∀b y,H.t.get b=some y->H'.t.get b=some y
def lT(e e':vD):Prop:=∀i v,vX i e=some v->vX i e'=some v
section
variable {base:Nat}{t:Tr vA}{X:Xt}{H HA:xA}{e e':vD}{C:mA}{v:zA}
theorem Ov.notX(h:Ov base t X HA)  (hb:t.get b=some y):X b=none:=by
 cases hx:X b with
 | none=>rfl
 | some z=>have:=(h.ext b z hx).2.1;simp_all
theorem Ov.up(h:Ov base t X HA)  (hb:t.get b=some y):HA.t.get b=some y:=by rw[h.same b (h.notX hb)];exact hb
def Ov.le(h:Ov base t X HA)  : HLe ⟨n,t⟩ HA:=fun _ _ hb=>h.up hb
def Ov.nextX(h:Ov base t X HA):X HA.next=none:=by
 cases hx:X HA.next with
 | none=>rfl
 | some z=>exact absurd (h.ext _ z hx).2.2 (Nat.lt_irrefl _)
def Ov.nextT(h:Ov base t X HA):t.get HA.next=none:=by
 cases hx:t.get HA.next with
 | none=>rfl
 | some z=>exact absurd (h.lt _ z hx) (Nat.lt_irrefl _)
theorem aX(h:HLe H HA) {p:Tr zA × Nat × Option Lo}(hb:kD H b=some p):kD HA b=some p:=by
 unfold kD at hb ⊢;rw[tA]at hb ⊢;obtain⟨y,h1,h2⟩:=hb;exact⟨y,h _ _ h1,h2⟩
theorem Fm(h:HLe H HA) {p:List (zA × zA)}(hb:yL H b=some p):yL HA b=some p:=by
 unfold yL at hb ⊢;rw[tA]at hb ⊢;obtain⟨y,h1,h2⟩:=hb;exact⟨y,h _ _ h1,h2⟩
theorem wF(h:lT e e') (hx:ev x e=some v):ev x e'=some v:=by
 cases x with
 | tmp i=>exact h i v hx
 | const c=>exact hx
 | global g=>exact hx
 | func f=>exact hx
theorem Ze(h:lT e e'){l:List Operand}{vs:List zA}(hx:aN l e=some vs):aN l e'=some vs:=Qg l (fun _ _ k=>wF h k) hx
theorem KP(h:lT e e'){x:Option Operand} (hx:wT x e=some r):wT x e'=some r:=by
 cases x with
 | none=>exact hx
 | some x=>
  have hx:ob (ev x e) (fun v=>some (some v))=some r:=hx
  show ob (ev x e') (fun v=>some (some v))=some r
  grind [tA,wF]
theorem Zf(h:lT e e'){l:List (Nat × Operand)}{vs:List (Nat × zA)}(hx:xT l e=some vs):xT l e'=some vs:=
 Qg l (fun a b k=>by grind [tA,wF]) hx
theorem Tk(h:lT e e') {p:zA × zA}(hx:two c e=some p):two c e'=some p:=by
 grind [two,tA,wF]
theorem BA(h:HLe H HA)  (hx:lA C ty H a=some v):lA C ty HA a=some v:=by
 grind [lA,tA,aX]
theorem Zu(h:HLe H HA){s d:lD} (hx:eU C s d a H=some v):eU C s d a HA=some v:=by
 unfold eU at hx ⊢
 split at hx
 ·omega
 ·rename_i hk
  rw[wB]at hx ⊢
  refine⟨hx.1,?_⟩
  have hx:=hx.2
  rw[qD]at hx ⊢
  split at hx
  all_goals grind [tA,wB,Mq,aX]
theorem OA(h:HLe H HA)  (hx:Aw C s d H a=some v):Aw C s d HA a=some v:=by
 grind [Aw,tA,Zu]
theorem Vk(h:HLe H HA){ty:lD}  (hx:iN C H ty a l r=some v):iN C HA ty a l r=some v:=by
 have row:∀ {arr e b off len cap},sQ C H arr e b off len cap l r=some v->sQ C HA arr e b off len cap l r=some v:=by
  intro arr e b off len cap hx;unfold sQ at hx ⊢
  simp only[tA]at hx ⊢
  obtain⟨a1,h1,b1,h2,hx⟩:=hx
  refine⟨a1,h1,b1,h2,?_⟩
  cases hb:kD H b with
  | none=>
   have e1:jN H b a1.size cap b1.1 arr=false:=by unfold jN;rw[hb]
   have e2:kO H b a1.size cap b1.1 arr=false:=by unfold kO;rw[hb]
   rw[e1,e2,yay,yay]at hx
   cases hx
  | some c=>
   grind [jN,aX,kO]
 grind [iN,tA]
theorem NT(h:HLe H HA)   (hx:uF C ty H a l r=some v):uF C ty HA a l r=some v:=by
 grind [uF,tA,Vk]
theorem Xj(h:HLe H HA) {l:List (zA × zA)}(hx:lV H m=some l):lV HA m=some l:=by
 grind [lV,Fm]
theorem NW(h:HLe H HA)   (hx:rX C ty H m k ok=some v):rX C ty HA m k ok=some v:=by
 unfold rX at hx ⊢
 simp only[tA,wB]at hx ⊢
 grind [Xj]
theorem Xs(h:HLe H HA){ty:lD}  (hx:vU H ty a=some n):vU HA ty a=some n:=by
 unfold vU at hx ⊢
 split at hx
 all_goals grind [wB,tA,Fm]
theorem NX(h:HLe H HA)  (hx:iT C ty H a=some v):iT C ty HA a=some v:=by
 grind [iT,tA,Xs]
theorem HO {a:Operand}:fV ty a C e H=ob (ev a e) fun v=>lA C ty H v:=rfl
theorem IA   (hx:ev x e=some u):iP s d x C e H=Aw C s d H u:=by simp_all [iP,Aw]
def zca  {lo hi:Option Operand}  (h1:ev x e=some a)(h2:wT lo e=some l)(h3:wT hi e=some r):oZ ty x lo hi C e H=uF C ty H a l r:=by unfold oZ uF;rw[h1,rA,h2,rA,h3,rA]
theorem HX{f:Nat}  (hx:ev x e=some u):bV s x f C e H=nC C s f u:=by
 unfold bV nC Th;rw[hx]
 cases C.tys.get s with
 | none=>rfl
 | some ty=>
  simp only[rA]
  cases ty.desc.asStruct with
  | none=>rfl
  | some fs=>
   simp only[rA]
   cases tD fs f with
   | none=>rfl
   | some fd=>simp only[rA];cases hb:(!Nat.beq fd.2.2 0)<;>rfl
theorem HS   (hx:ev x e=some u)(hi:ev i e=some w):eV ty x i C e H=wC C ty u w:=by unfold eV wC;rw[hx,hi];rfl
theorem zcc   (hx:ev x e=some u)(hi:ev i e=some w):dV ty x i C e H=oI C ty u w:=by unfold dV oI;rw[hx,hi];rfl
theorem zet  (hx:ev x e=some u):mZ x C e H=iF u:=by simp_all [mZ,iF]
theorem UR {i:Nat} (hx:ev x e=some u):aV x i C e H=dG i u:=by simp_all [aV,dG]
theorem lBin_v{op:BinOp} {y:Operand} (hx:ev x e=some u)(hy:ev y e=some w):yW op ty x y C e H=(nJ op).f C ty x y u w:=by simp_all [yW]
theorem US {a:Nat}  (hx:ev x e=some u):xW x a ok C e H=Dg C a ok u:=by
 unfold xW Dg;rw[hx];rfl
def UQ    (hx:ev x e=some m)(hi:ev i e=some k):gV ty x i ok C e H=rX C ty H m k ok:=by unfold gV rX;rw[hx,hi];rfl
theorem lLen_v    (h1:tD c.argTypes.toList 0=some ty)(h2:tD c.args.toList 0=some x)(hx:ev x e=some u):jQ c C e H=iT C ty H u:=by grind [jQ,iT,rA]
theorem zcv(he:lT e e'){op:Op}(hp:yU op=true\/(∃s d x,op=.convert s d x/\(xI C d=1\/xI C s=2))\/(∃c,op=.call c/\(c.callee=.builtin .max\/c.callee=.builtin .min))){H':xA}(h:(eF op).f C e H=some v):(eF op).f C e' H'=some v:=by
 rcases hp with hp | hp | hp
 ·cases op<;>simp only[yU]at hp<;>try (cases hp;done)
  case move x=>exact wF he h
  case assign x=>exact wF he h
  case pick c a b=>
   have h:ob (ev c e) (fun c=>ob c.asBool fun c=>bif c then ev a e else ev b e)=some v:=h
   show ob (ev c e') (fun c=>ob c.asBool fun c=>bif c then ev a e' else ev b e')=some v
   grind [tA,wF]
  case nilCheck x=>
   have h:ob (ev x e) (fun u=>xB (Nat.beq u.tag 4||Nat.beq u.tag 9) (some u))=some v:=h
   show ob (ev x e') (fun u=>xB (Nat.beq u.tag 4||Nat.beq u.tag 9) (some u))=some v
   grind [tA,wF]
  case binOp op t x y u=>
   have h:yW op t x y C e H=some v:=h
   show yW op t x y C e' H'=some v
   grind [yW,tA,wF]
  case unOp op t x=>
   have h:lUn op x C e H=some v:=h
   show lUn op x C e' H'=some v
   grind [lUn,tA,wF]
  case makeInterface t x=>
   have h:Bx t x C e H=some v:=h
   show Bx t x C e' H'=some v
   grind [Bx,tA,wB,wF]
  case makeFunc fn a b=>
   have h:(Bz fn a b).f C e H=some v:=h
   show(Bz fn a b).f C e' H'=some v
   unfold Bz at h ⊢
   split at h
   ·grind [Hf,tA,Ze]
   ·cases h
  case fieldAddr s x f=>
   have h:bV s x f C e H=some v:=h
   show bV s x f C e' H'=some v
   unfold bV at h ⊢
   simp only[tA,wB]at h ⊢
   obtain⟨a,h1,b,h2,c,h3,h4,u,h5,h6⟩:=h
   exact⟨a,h1,b,h2,c,h3,h4,u,wF he h5,h6⟩
  case field t x f=>
   have h:Ca t x f C e H=some v:=h
   show Ca t x f C e' H'=some v
   grind [Ca,tA,wF]
  case indexAddr t x i=>
   have h:eV t x i C e H=some v:=h
   show eV t x i C e' H'=some v
   unfold eV at h ⊢
   simp only[tA]at h ⊢
   grind [wF]
  case index t x i=>
   have h:dV t x i C e H=some v:=h
   show dV t x i C e' H'=some v
   unfold dV at h ⊢
   simp only[tA]at h ⊢
   grind [wF]
  case extract t i=>
   have h:aV t i C e H=some v:=h
   show aV t i C e' H'=some v
   grind [aV,tA,wF]
  case build t ps=>
   have h:jX t ps C e H=some v:=h
   show jX t ps C e' H'=some v
   grind [jX,tA,Zf]
  case typeAssert x t u ok=>
   have h:xW x u ok C e H=some v:=h
   show xW x u ok C e' H'=some v
   grind [xW,tA,wB,wF]
 ·obtain⟨s,d,x,rfl,hp⟩:=hp
  have h:iP s d x C e H=some v:=h
  show iP s d x C e' H'=some v
  unfold iP at h ⊢
  simp only[tA]at h ⊢
  obtain⟨u,h1,sy,h2,dy,h3,h4⟩:=h
  refine⟨u,wF he h1,sy,h2,dy,h3,?_⟩
  unfold eU at h4 ⊢
  split at h4
  ·exact h4
  ·rename_i hd
   rw[wB]at h4 ⊢
   refine⟨h4.1,?_⟩
   have h4:=h4.2
   rw[qD]at h4 ⊢
   split at h4
   ·simp_all
   ·rename_i e
    exfalso
    rcases hp with hp | hp
    ·unfold xI at hp
     rw[h3]at hp;have hp:dy.desc.tag=1:=hp
     cases hx:dy.desc<;>rw[hx]at hp hd<;>first
      | (cases hp;done)
      | (cases hd;done)
    ·unfold xI at hp
     rw[h2]at hp;have hp:sy.desc.tag=2:=hp
     simp only[tA]at h4;obtain⟨el,h5,_⟩:=h4
     cases hx:sy.desc<;>rw[hx]at hp h5<;>first
      | (cases hp;done)
      | (cases h5;done)
 ·obtain⟨c,rfl,hc⟩:=hp
  rcases hc with hc | hc
  ·have h:(aS c c.callee).f C e H=some v:=h
   show(aS c c.callee).f C e' H'=some v
   rw[hc]at h ⊢
   have h:iV c C e H=some v:=h
   show iV c C e' H'=some v
   grind [iV,tA,Tk]
  ·have h:(aS c c.callee).f C e H=some v:=h
   show(aS c c.callee).f C e' H'=some v
   rw[hc]at h ⊢
   have h:jV c C e H=some v:=h
   show jV c C e' H'=some v
   grind [jV,tA,Tk]
end
end
section
variable {b d n off ty:Nat}{a u:zA}{l:List zA}{H':xA}{K:zA->T}{op:Op}
section
variable {base:Nat}{t:Tr vA}{X:Xt}{H HA:xA}{e e':vD}{C:mA}{v:zA}
theorem Ov.newBlk(h:Ov base t X HA)(y:vA):Ov base (t.set HA.next y) X (newBlk HA y):=by
 refine⟨Nat.le_succ_of_le h.base,fun b hb=>?_,fun b z hb=>?_,fun b z hb=>?_⟩
 ·show(HA.t.set HA.next y).get b=_
  rw[Tr.get_set,Tr.get_set];split
  ·rfl
  ·exact h.same b hb
 ·obtain⟨h1,h2,h3⟩:=h.ext b z hb
  have hne:b≠HA.next:=Nat.ne_of_lt h3
  refine⟨?_,?_,Nat.lt_succ_of_lt h3⟩
  ·show(HA.t.set HA.next y).get b=_
   grind [Tr.get_set]
  grind [Tr.get_set]
 ·rw[Tr.get_set]at hb
  show b<HA.next+1
  split at hb
  ·omega
  ·exact Nat.lt_succ_of_lt (h.lt _ _ hb)
theorem Ov.setBlk(h:Ov base t X HA){b:Nat}{y:vA}(hb:t.get b=some y)(z:vA):Ov base (t.set b z) X (setBlk HA b z):=by
 refine⟨h.base,fun c hc=>?_,fun c u hc=>?_,fun c u hc=>?_⟩
 ·show(HA.t.set b z).get c=_
  rw[Tr.get_set,Tr.get_set];split
  ·rfl
  ·exact h.same c hc
 ·obtain⟨h1,h2,h3⟩:=h.ext c u hc
  have hne:c≠b:=fun e=>by simp_all
  refine⟨?_,?_,h3⟩
  ·show(HA.t.set b z).get c=_
   grind [Tr.get_set]
  grind [Tr.get_set]
 ·rw[Tr.get_set]at hc
  show c<HA.next
  split at hc
  ·rename_i e;rw[e];exact h.lt _ _ hb
  ·exact h.lt _ _ hc
theorem Ov.delBlk(h:Ov base t X HA) {y:vA}(hb:t.get b=some y):Ov base (t.del b) X ⟨HA.next,HA.t.del b⟩:=by
 refine⟨h.base,fun c hc=>?_,fun c u hc=>?_,fun c u hc=>?_⟩
 ·show(HA.t.del b).get c=_
  rw[Tr.get_del,Tr.get_del];split
  ·rfl
  ·exact h.same c hc
 ·obtain⟨h1,h2,h3⟩:=h.ext c u hc
  grind [Tr.get_del]
 ·rw[Tr.get_del]at hc
  show c<HA.next
  split at hc
  ·cases hc
  ·exact h.lt _ _ hc
def mT (base:Nat)(x:xA->Option (zA × xA)):Prop:=∀t X HA v H',Ov base t X HA->x ⟨HA.next,t⟩=some (v,H')->∃HA',x HA=some (v,HA')/\Ov base H'.t X HA'
theorem xZ(l:List zA)(lo:Option Lo)(h:Ov base t X HA):Ov base (fF ⟨HA.next,t⟩ l lo).t X (fF HA l lo):=h.newBlk _
theorem OD  : mT base (tK C ty):=by
 intro t X HA v H' ho h;unfold tK at h ⊢
 rw[tA]at h;obtain⟨y,h1,h2⟩:=h
 cases h2;simp_all [xZ]
def zgf  : mT base (aM u):=by
 intro t X HA v H' ho h
 cases h;exact⟨_,rfl,xZ _ _ ho⟩
theorem OE  : mT base (Dh C ty):=by
 intro t X HA v H' ho h;unfold Dh at h ⊢
 rw[tA]at h;obtain⟨y,h1,h3⟩:=h
 grind [rA,xZ]
theorem zar   : mT base (zgg C ty u):=by
 intro t X HA v H' ho h;grind [zgg,xZ]
theorem OB {ps:List (Nat × zA)}:mT base (eC C ty n ps):=by
 intro t X HA v H' ho h;unfold eC at h ⊢
 simp only[tA,wB]at h;obtain⟨a,h1,b,h2,c,h3,h4,l,h5,h6⟩:=h
 grind [xZ,tA,wB]
theorem Vc(ho:Ov base t X HA)   (h:tJ C ⟨HA.next,t⟩ b off l=some H'):∃HA',tJ C HA b off l=some HA'/\Ov base H'.t X HA':=by
 unfold tJ at h ⊢
 simp only[tA,wB]at h;obtain⟨h1,c,h2,h3,h4⟩:=h
 cases h4;have h2':=h2
 unfold kD at h2';rw[tA]at h2'
 obtain⟨y,h5,_⟩:=h2'
 refine⟨_,?_,ho.setBlk h5 _⟩
 simp only[tA,wB];exact⟨h1,c,aX ho.le h2,h3,rfl⟩
theorem NS   : mT base (zC C ty a u):=by
 intro t X HA v H' ho h;unfold zC at h ⊢
 simp only[tA,wB]at h;obtain⟨y,h1,p,h2,h3,H1,h4,h5⟩:=h
 grind [Vc,tA,wB]
def NV:mT base Nv:=by
 intro t X HA v H' ho h
 cases h;exact⟨_,rfl,ho.newBlk _⟩
def AY {m k:zA}:mT base (lS C ty m k u):=by
 intro t X HA v H' ho h;unfold lS at h ⊢
 simp only[tA,wB]at h;obtain⟨a,h1,b,h2,c,h3,h4,d,h5,h6,l,h7,h8,l',h9,h10⟩:=h
 cases h10;have h7':=h7
 unfold yL at h7';rw[tA]at h7'
 obtain⟨y,h11,_⟩:=h7'
 refine⟨_,?_,ho.setBlk h11 _⟩
 simp only[tA,wB];exact⟨a,h1,b,h2,c,h3,h4,d,h5,h6,l,Fm ho.le h7,h8,l',h9,rfl⟩
def ZN(ho:Ov base t X HA){e:RE} (h:Ao C ⟨HA.next,t⟩ e=some H'):∃HA',Ao C HA e=some HA'/\Ov base H'.t X HA'/\HA'.next=HA.next/\H'.next=HA.next:=by
 obtain⟨x,y,h1,h2,rfl⟩:=Mw.1 h
 exact⟨setBlk HA e.blk y,Mw.2 ⟨x,y,ho.up h1,h2,rfl⟩,ho.setBlk h1 _,rfl,rfl⟩
theorem MW:∀ {l:List RE} {t:Tr vA} {HA:xA} {H':xA},Ov base t X HA->Fr C l ⟨HA.next,t⟩=some H'->∃HA',Fr C l HA=some HA'/\Ov base H'.t X HA'
 | [],t,HA,H',ho,h=>by cases h;exact⟨HA,rfl,ho⟩
 | e::l,t,HA,H',ho,h=>by
  unfold Fr at h ⊢
  rw[tA]at h;obtain⟨H1,h1,h⟩:=h
  obtain⟨HA1,g1,g2,g3,g4⟩:=ZN ho h1
  rw[g1,rA];obtain⟨n1,t1⟩:=H1
  have g4:n1=HA.next:=g4
  subst g4;rw[<- g3]at h;exact MW g2 h
theorem RK(ho:Ov base t X HA){e:RE}(h:Gr C ⟨HA.next,t⟩ e=true):Gr C HA e=true:=by
 cases e with
 | st b off l=>
  change (!tE (tJ C ⟨HA.next,t⟩ b off l))=true at h
  show(!tE (tJ C HA b off l))=true
  cases hs:tJ C ⟨HA.next,t⟩ b off l with
  | none=>rw[hs]at h;cases h
  | some H'=>obtain⟨HA',g,_⟩:=Vc ho hs;rw[g];rfl
 | up b k v=>
  unfold Gr at h ⊢
  rw[ybb]at h ⊢
  refine⟨h.1,?_⟩
  have h2:=h.2
  split at h2
  ·rename_i hm;rw[Fm ho.le hm]
  grind
theorem NZ{es:List oN}:mT base (Gc C es):=by
 intro t X HA v H' ho h;grind [Gc,gZ,tA,wB,MW,mI,RK]
theorem NU {l c:zA}:mT base (tP C ty l c):=by
 intro t X HA v H' ho h;unfold tP at h ⊢
 simp only[tA,wB]at h;obtain⟨a,h1,b,h2,d,h3,n,h4,m,h5,h6,h7⟩:=h
 grind [xZ,tA,wB]
theorem NR{s:Nat}  : mT base (Tg C s d u):=by
 intro t X HA v H' ho h;unfold Tg at h ⊢
 simp only[tA,wB]at h;obtain⟨a,h1,b,h2,c,h3,et,h4,k,h5,h6,l,h7,h8⟩:=h
 cases h8;refine⟨fF HA (bX l) (some (.ty c)),?_,xZ _ _ ho⟩
 grind [tA,wB]
theorem VY(h:HLe H HA){sz:Nat}  (hx:sW H sz n u=some l):sW HA sz n u=some l:=by
 grind [sW,tA,aX]
theorem ZS(ho:Ov base t X HA){ty:lD}{b:zA} (h:fW C ⟨HA.next,t⟩ ty a b=some (v,H')):∃HA',fW C HA ty a b=some (v,HA')/\Ov base H'.t X HA':=by
 unfold fW at h;simp only[tA]at h;obtain⟨el,h1,et,h2,n,h3,new,h4,h5⟩:=h
 have h4':=VY ho.le h4
 suffices hs:∃HA',(match a.asSlice with
  | some s=>bif Nat.ble (s.2.2.1+n) s.2.2.2 then dX C HA et n new s else tW C HA el et n new s
  | none=>xB (Nat.beq a.tag 5) (zT HA el et n new))=some (v,HA')/\Ov base H'.t X HA' by
  grind [fW,tA]
 cases hs:a.asSlice with
 | some s=>
  rw[hs]at h5;simp only[]at h5 ⊢
  rw[qD]at h5;split at h5
  ·rename_i hr
   simp only[hr,cond_true];unfold dX at h5 ⊢
   grind [tA,Vc]
  ·rename_i hr
   simp only[Bool.not_eq_true]at hr;simp only[hr,cond_false];unfold tW at h5 ⊢
   rw[wB]at h5;obtain⟨gm,h5⟩:=h5
   rw[wB]at h5;obtain⟨g0,h5⟩:=h5
   rw[tA]at h5;obtain⟨c,g1,h5⟩:=h5
   have g1':=aX ho.le g1
   unfold kD at g1;rw[tA]at g1;obtain⟨y,g2,_⟩:=g1
   split at h5
   ·rename_i hc
    unfold Hm at h5;rw[tA]at h5;obtain⟨old,g3,g4⟩:=h5
    grind [xZ,wB,tA,Hm]
   ·rename_i es hc
    unfold Eu at h5;rw[wB]at h5;obtain⟨g3,g4⟩:=h5
    cases g4
    refine⟨⟨HA.next+1,(HA.t.del s.1).set HA.next (.cells (c.1.setMany new (s.2.2.1*et.size)) ((s.2.2.1+n)*et.size) (some es))⟩,?_,(ho.delBlk g2).newBlk _⟩
    grind [wB,tA,Eu]
 | none=>
  grind [wB,zT,xZ]
theorem OC{u:Nat}{b:zA}:mT base (cG C ty u a b):=by
 intro t X HA v H' ho h;grind [cG,tA,wB,ZS]
end
def Iw(ν:Nat->Nat)(ae:qO)(e:vD):Prop:=∀i p,tAd ae i=some p->vX i e=some (.ptr (ν p.1) p.2)
def Ni(base:Nat)(X0 X:Xt)(ν:Nat->Nat)(lo:Tr (List zA)):Prop:=∀d l,lo.get d=some l->X0 (ν d)=none/\base<=ν d/\∃c,X (ν d)=some (.cells c l.length none)/\∀j a,l[j]?=some a->c.get j=some a
theorem mE{base:Nat}{W J:eE}{α:Type}{x:Option α}{K:α->T}{t:Tr vA}{Q:pB}:pA base W J (bB x K) t Q ↔ ∃a,x=some a/\pA base W J (K a) t Q:=by
 cases x with
 | none=>exact⟨fun h=>(by cases h),fun⟨_,h,_⟩=>(by cases h)⟩
 | some a=>exact⟨fun h=>⟨a,rfl,h⟩,fun⟨_,h,k⟩=>(by cases h;exact k)⟩
def oO{base:Nat}{W J:eE}{b:Bool}{K:T}{t:Tr vA}{Q:pB}:pA base W J (qK b K) t Q ↔ b=true/\pA base W J K t Q:=by
 cases b with
 | false=>exact⟨fun h=>(by cases h),fun⟨h,_⟩=>(by cases h)⟩
 | true=>exact⟨fun h=>⟨rfl,h⟩,fun⟨_,h⟩=>h⟩
theorem tX{base:Nat}{W J:eE}{x:Option zA} {t:Tr vA}{Q:pB}:pA base W J (.opt x K) t Q ↔ ∃a,x=some a/\pA base W J (K a) t Q:=yZ
def Fy{base:Nat}{W J:eE}{x:Tr vA->Option zA} {t:Tr vA}{Q:pB}:pA base W J (.light x K) t Q ↔ ∃a,x t=some a/\pA base W J (K a) t Q:=yZ
theorem Da{ν:Nat->Nat}{ae:qO}{e:vD}(h:Iw ν ae e){x:Operand}{p:Nat × Nat}(hx:xAd ae x=some p):ev x e=some (.ptr (ν p.1) p.2):=by
 cases x with
 | tmp i=>exact h i p hx
 | const _=>cases hx
 | global _=>cases hx
 | func _=>cases hx
theorem GI{c:Tr zA} (h:∀j a,l[j]?=some a->c.get j=some a):∀(n off:Nat),off+n<=l.length->c.many n off=some ((l.drop off).take n):=by
 intro n;induction n with
 | zero=>intro off _;simp;rfl
 | succ n ih=>
  intro off ho;have hlt:off<l.length:=by omega
  rw[Tr.many_succ,h off l[off] (ybd hlt),rA,ih (off+1) (by omega),rA]
  rw[ybl hlt,List.take_succ_cons]
section
variable {W J:eE}{t:Tr vA}{X X0:Xt}{HA:xA}{e eA:vD}{C:mA}{ν:Nat->Nat}{ae:qO}{lo:Tr (List zA)}{k:eM}{Q:pB}{R:zA->Prop}
theorem GO(ho:Ov C.base t X HA)(hl:Ni C.base X0 X ν lo)  {y:lD}{v:zA}(h1:lo.get d=some l)(h2:C.tys.get ty=some y)(h3:Nat.ble (off+y.size) (zB l)=true)(h4:qQ C ty l off=some v) :
  lA C ty HA (.ptr (ν d) off)=some v:=by
 obtain⟨_,_,c,hc,hg⟩:=hl d l h1
 have hb:=(ho.ext _ _ hc).1
 unfold lA;simp only[zA.asPtr,rA];rw[h2,rA];grind [kD,rA,vA.asCells,qQ,dR,qE,oD,GI,eR,lQ,bG]
theorem iS(he:lT e eA) (hp:yU op=true\/(∃s d x,op=.convert s d x/\(xI C d=1\/xI C s=2))\/(∃c,op=.call c/\(c.callee=.builtin .max\/c.callee=.builtin .min)))
  (h:pA C.base W J (tR C op e k) t Q) (hKd:∀v,pA C.base W J (k.Kd v) t Q->R v):∃v,(eF op).f C eA HA=some v/\R v:=by
 grind [tR,mE,zcv]
theorem NY {v:zA}{H:xA}(ht:xI C ty=4)(h:uC u=some v):iT C ty H u=some v:=by
 unfold xI at ht
 cases hy:C.tys.get ty with
 | none=>simp_all
 | some y=>
  rw[hy]at ht;have ht:y.desc.tag=4:=ht
  unfold iT;rw[hy,rA];unfold uC at h;unfold vU
  cases u<;>simp only[zA.asSlice,zA.asStr,zA.asMap,zA.tag]at h ⊢ <;> (try (rw[wB]at h;exact absurd h.1 (by decide)))
  case nilslice=>
   rw[wB]at h;have hn:y.desc.asArr=none:=by cases hd:y.desc<;>rw[hd]at ht<;>first | rfl | (cases ht;done)
   simp_all [tA,wB]
  simp_all [tA,wB]
theorem VA {v:zA}{H:xA}(ht:xI C ty≠6)(h:iT C ty H u=some v):iT C ty H' u=some v:=by
 unfold iT at h ⊢
 simp only[tA]at h ⊢
 obtain⟨y,h1,n,h2,h3⟩:=h
 refine⟨y,h1,n,?_,h3⟩
 have ht:¬ Nat.beq y.desc.tag 6=true:=by
  grind [xI,lC]
 unfold vU at h2 ⊢
 split at h2
 all_goals grind [wB]
theorem PE {v:zA}{l h:Option zA}{H:xA}(ht:xI C ty=2)(hx:uF C ty H a l h=some v):uF C ty H' a l h=some v:=by
 unfold uF at hx ⊢
 rw[tA]at hx ⊢
 obtain⟨y,h1,h2⟩:=hx
 refine⟨y,h1,?_⟩
 unfold xI at ht;rw[h1]at ht;have ht:y.desc.tag=2:=ht
 unfold iN at h2 ⊢
 have n1:y.desc.asSlice=none:=by cases hd:y.desc<;>rw[hd]at ht<;>first | rfl | (cases ht;done)
 have n2:y.desc.asArr=none:=by cases hd:y.desc<;>rw[hd]at ht<;>first | rfl | (cases ht;done)
 simp_all
theorem Ww (h:zA.one u=true):u.cells=[u]:=by
 cases u<;>first
  | rfl
  | (have:=pC.1 h;grind [zA.tag])
theorem WE{tyAt:Nat->Option Nat}(place:Nat->Option (Nat × Nat)):∀(vs:List (Nat × zA)) {q:List (Nat × zA × List zA) × List zA},Wo C tyAt vs=some q->aB zA.one q.2=true->∀cells l,Rm place q.1 cells=some l->kL place vs cells=some l:=by
 intro vs;induction vs with
 | nil=>intro q h _ cells l hl;cases h;exact hl
 | cons p vs ih=>
  intro q h h1 cells l hl;have h:(ob (tyAt p.1) fun t=>ob (C.tys.get t) fun ty=>ob (Wo C tyAt vs) fun r=>some (bif ty.desc.isAgg then((p.1,p.2,p.2.cells)::r.1,r.2)else((p.1,p.2,[p.2])::r.1,p.2::r.2)))=some q:=h
  simp only[tA]at h;obtain⟨ty,_,y,_,r,h3,h4⟩:=h
  have fin:∀(rest:List zA),aB zA.one r.2=true->(ob (place p.1) fun q=>ob (zi6 cells q.1 q.2 p.2.cells) fun cells=>Rm place r.1 cells)=some l->kL place (p::vs) cells=some l:=by
   intro _ hr hl;show(ob (place p.1) fun q=>ob (iU cells q.1 q.2 p.2) fun cells=>kL place vs cells)=some l
   simp only[tA]at hl ⊢
   obtain⟨a,g1,b,g2,g3⟩:=hl
   exact⟨a,g1,b,g2,ih h3 hr _ _ g3⟩
  cases hb:y.desc.isAgg with
  | true=>
   rw[hb]at h4
   cases h4;exact fin [] h1 hl
  | false=>
   rw[hb]at h4
   cases h4;simp_all [mI,Rm,Ww]
theorem zgw(he:lT e eA)(ha:Iw ν ae eA)(ho:Ov C.base t X HA)(hl:Ni C.base X0 X ν lo) (h:pA C.base W J (tL C op e ae lo k) t Q)
  (hK:∀v,pA C.base W J (k.K v) t Q->R v) (hKd:∀v,pA C.base W J (k.Kd v) t Q->R v) (hKA:∀d off,pA C.base W J (k.KA d off) t Q->R (.ptr (ν d) off)) :
  ∃v,(eF op).f C eA HA=some v/\R v:=by
 cases op<;>simp only[tL]at h<;>try (cases h;done)
 case move x=>
  unfold Oh at h;split at h
  ·rename_i p hp
   exact⟨_,Da ha hp,hKA _ _ h⟩
  ·exact iS he (.inl rfl) h hKd
 case assign x=>
  unfold Oh at h;split at h
  ·rename_i p hp
   exact⟨_,Da ha hp,hKA _ _ h⟩
  ·exact iS he (.inl rfl) h hKd
 case pick c a b=>exact iS he (.inl rfl) h hKd
 case load ty a=>
  unfold tLoad at h;split at h
  ·rename_i p hp
   simp only[mE,oO]at h;obtain⟨l,h1,y,h2,h3,v,h4,h5⟩:=h
   refine⟨v,?_,hKd v h5⟩
   show fV ty a C eA HA=some v
   grind [HO,Da,rA,GO]
  ·rw[mE]at h
   obtain⟨u,h1,h2⟩:=h
   rw[Fy]at h2;obtain⟨v,h3,h4⟩:=h2
   refine⟨v,?_,hK v h4⟩
   show fV ty a C eA HA=some v
   rw[HO,wF he h1,rA];exact BA ho.le h3
 case nilCheck x=>
  unfold tNil at h;split at h
  ·rename_i p hp
   refine⟨_,?_,hKA _ _ h⟩
   show mZ x C eA HA=_
   rw[zet (Da ha hp)];rfl
  ·rw[mE]at h
   obtain⟨u,h1,h2⟩:=h
   rw[tX]at h2;obtain⟨v,h3,h4⟩:=h2
   refine⟨v,?_,hK v h4⟩
   show mZ x C eA HA=_
   grind [zet,wF]
 case binOp op ty x y u=>
  unfold tBin at h;rw[qD]at h;split at h
  ·exact iS he (.inl rfl) h hKd
  ·simp only[mE,tX]at h
   obtain⟨a,h1,b,h2,v,h3,h4⟩:=h
   refine⟨v,?_,hK v h4⟩
   show yW op ty x y C eA HA=_
   grind [lBin_v,wF]
 case unOp o ty x=>
  split at h
  ·simp only[mE,tX]at h
   obtain⟨u,h1,v,h2,h3⟩:=h
   refine⟨v,?_,hK v h3⟩
   show lUn .xor x C eA HA=_
   unfold lUn;rw[wF he h1];exact h2
  ·exact iS he (.inl rfl) h hKd
 case convert s d x=>
  unfold zgy at h;rw[qD]at h;split at h
  ·rename_i hd
   rw[qD]at h;split at h
   ·rename_i hs
    exact iS he (.inr (.inl ⟨s,d,x,rfl,.inr (lC.1 hs)⟩)) h hKd
   ·simp only[mE,Fy]at h
    obtain⟨u,h1,v,h2,h3⟩:=h
    refine⟨v,?_,hK v h3⟩
    show iP s d x C eA HA=_
    rw[IA (wF he h1)];exact OA ho.le h2
  ·rw[qD]at h
   split at h
   ·rename_i hd
    exact iS he (.inr (.inl ⟨s,d,x,rfl,.inl (lC.1 hd)⟩)) h hKd
   ·cases h
 case makeInterface ty x=>exact iS he (.inl rfl) h hKd
 case makeFunc fn a b=>exact iS he (.inl rfl) h hKd
 case slice ty x lo' hi mx=>
  cases mx with
  | some _=>cases h
  | none=>
   simp only[zdt,mE]at h;obtain⟨a,h1,l,h2,r,h3,h4⟩:=h
   rw[qD]at h4;show ∃v,oZ ty x lo' hi C eA HA=some v/\R v
   rw[zca (wF he h1) (KP he h2) (KP he h3)]
   split at h4
   ·grind [tX,PE,lC]
   ·rw[Fy]at h4
    obtain⟨v,h5,h6⟩:=h4
    exact⟨v,NT ho.le h5,hK v h6⟩
 case fieldAddr s x f=>
  unfold BZ at h;show ∃v,bV s x f C eA HA=some v/\R v
  split at h
  ·rename_i p hp
   rw[mE]at h;obtain⟨o,h1,h2⟩:=h
   refine⟨_,?_,hKA _ _ h2⟩
   rw[HX (Da ha hp)]
   unfold nC;rw[h1];rfl
  grind [mE,tX,HX,wF]
 case field ty x f=>exact iS he (.inl rfl) h hKd
 case indexAddr ty x i=>
  unfold BW at h;show ∃v,eV ty x i C eA HA=some v/\R v
  split at h
  ·rename_i p hp
   simp only[mE]at h;obtain⟨iv,h1,n,h2,o,h3,h4⟩:=h
   refine⟨_,?_,hKA _ _ h4⟩
   rw[HS (Da ha hp) (wF he h1)]
   unfold BC at h3;simp only[tA,wB]at h3;obtain⟨y,g1,a,g2,et,g3,g4,g5⟩:=h3
   cases g5
   unfold wC;rw[g1,rA,h2,rA];simp only[zA.asSlice,zA.asPtr,rA];rw[g2,rA,g3,rA,g4];rfl
  grind [mE,tX,HS,wF]
 case index ty x i=>
  rw[qD]at h;split at h
  ·exact iS he (.inl rfl) h hKd
  ·simp only[mE,tX]at h
   obtain⟨u,h1,w,h2,v,h3,h4⟩:=h
   refine⟨v,?_,hK v h4⟩
   show dV ty x i C eA HA=_
   grind [zcc,wF]
 case lookup ty x i ok=>
  simp only[mE,Fy]at h;obtain⟨m,h1,key,h2,v,h3,h4⟩:=h
  refine⟨v,?_,hK v h4⟩
  show gV ty x i ok C eA HA=_
  rw[UQ (wF he h1) (wF he h2)];exact NW ho.le h3
 case extract x i=>
  simp only[mE,tX]at h;obtain⟨u,h1,v,h2,h3⟩:=h
  refine⟨v,?_,hK v h3⟩
  show aV x i C eA HA=_
  grind [UR,wF]
 case typeAssert x a u ok=>
  simp only[mE,tX]at h;obtain⟨w,h1,v,h2,h3⟩:=h
  refine⟨v,?_,hK v h3⟩
  show xW x u ok C eA HA=_
  grind [US,wF]
 case build ty ps=>
  unfold zdv at h;simp only[mE,oO]at h;obtain⟨y,h1,hbd,vs,h2,q,h3,l,h4,h5⟩:=h
  have h5:if aB zA.one q.2=true then pA C.base W J (k.Kd (.agg l)) t Q else False:=h5
  split at h5
  ·rename_i hone
   refine⟨_,?_,hKd _ h5⟩
   show jX ty ps C eA HA=_
   have hf:=WE (Gv C y) vs h3 hone y.zero l h4
   unfold jX;rw[h1,rA,Zf he h2,rA]
   cases hs:y.desc.asStruct with
   | some fs=>
    simp only[];have:(fun i=>ob (tD fs i) fun x=>some (x.1,x.2.2))=Gv C y:=by funext i;unfold Gv;rw[hs]
    simp_all
   | none=>
    simp only[];unfold MN at hbd;rw[hs]at hbd;simp only[]at hbd
    cases ha:y.desc.asArr with
    | none=>simp_all
    | some a=>
     rw[ha]at hbd;simp only[]at hbd
     cases hy:C.tys.get a.2 with
     | none=>simp_all
     | some et=>
      simp only[rA];have:(fun i=>some (i*et.size,et.size))=Gv C y:=by funext i;unfold Gv;rw[hs];simp only[];rw[ha,rA,hy,rA]
      simp_all
  simp_all
 case call c=>
  split at h
  ·rename_i b hb
   cases b<;>simp only[Ju]at h<;>try (cases h;done)
   case len=>
    unfold tLen at h;simp only[mE]at h;obtain⟨ty,h1,x,h2,u,h3,h4⟩:=h
    show ∃v,(aS c c.callee).f C eA HA=some v/\R v
    rw[hb];show ∃v,jQ c C eA HA=some v/\R v
    rw[lLen_v h1 h2 (wF he h3)]
    rw[qD]at h4;split at h4
    ·grind [tX,NY,lC]
    ·rw[qD]at h4
     split at h4
     ·rw[Fy]at h4
      obtain⟨v,h5,h6⟩:=h4
      exact⟨v,NX ho.le h5,hK v h6⟩
     grind [mE,VA,lC]
   case max=>exact iS he (.inr (.inr ⟨c,rfl,.inl hb⟩)) h hKd
   case min=>exact iS he (.inr (.inr ⟨c,rfl,.inr hb⟩)) h hKd
  ·cases h
end
end
end Go.Am
