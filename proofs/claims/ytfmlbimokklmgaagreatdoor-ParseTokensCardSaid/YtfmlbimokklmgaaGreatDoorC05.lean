/- Code as a function: all functions of a program; what a value is worth. -/
import Derived.Test.YtfmlbimokklmgaaGreatDoorC04
set_option linter.all false
noncomputable section
namespace Go.Am
open Go Go.RowKit
section
def aU (C:lA)(fn:Func)(tm:Tm)(H:xA):oB:=ob (vU C H tm fn.results.toList) fun l=>some (⟨Ec l,false⟩,H)
def jO (C:lA)(fn:Func):Kt:=⟨aU C fn,fun _ _ _=>none,aU C fn⟩
def Cb(ops:List Oper):Bool:=kB (fun o=>match o.op with | .move _=>tE o.guard | .assign _=>tE o.guard | .alloc _=>tE o.guard | .store _ _ _=>tE o.guard | _=>false) ops
def Qb(l:List (Nat × Array Oper)):Bool:=match l with | []=>false | x::r=>kB (fun x=>Cb x.2.toList) (x::r)
def Lr(c:pC):Option Gk:=match iK c with | [q]=>some q | _=>none
def rdOk (r:vN)(q:Gk):Prop:=r.assign=asC q.as/\r.body=bD q.c/\r.params=q.ps.toList/\LoopState.tag r.state=0/\Qb q.as=true/\iK q.c=[]
def Ga(r:vN):vN:=⟨.busy,r.pending,r.fn,r.n,r.tm,r.params,r.assign,r.body,r.defers⟩
def aO(b:Bool)(r:vN):vN:=⟨if b then .ready else .done,if b then none else some .ret,r.fn,r.n,r.tm,r.params,r.assign,r.body,r.defers⟩
def rdK:Kt:=⟨fun _ H=>some (⟨.bool true,false⟩,H),fun _ _ _=>none,fun _ H=>some (⟨.bool false,false⟩,H)⟩
def Sw(C:lA)(φ:fE)(fn n:Nat)(q:Gk)(tm:Tm)(H:xA):oB:=oD C φ fn n (asA q.c q.as) rdK tm H
def Em(C:lA)(A:Tr pC)(φ:fE)(l:Nat)(args:List zA)(H:xA):oB:=
 ob (tJ H l) fun r=>ob (tZ r.n r.params args r.tm) fun tm=>ob (A.get r.fn) fun c=>ob (Lr c) fun q=>@ite _ (rdOk r q/\l<H.next) (Classical.propDecidable _)
  (ob (Sw C φ r.fn r.n q tm (setBlk H l (.loop (Ga r)))) fun x=>xB (!x.1.p) (ob (tJ x.2 l) fun r2=>ob x.1.v.asBool fun b=>some (⟨.bool b,false⟩,setBlk x.2 l (.loop (aO b r2))))) none
def regO (c:pC):Option (Nat × Array Oper):=match c with
 | .region id ops false=>some (id,ops)
 | .cut _ (.region id ops false)=>some (id,ops)
 | _=>none
structure uQ where
 i5:Nat
 o5:Array Oper
 d:Nat
 cl:Nat
 bs:List Operand
 i6:Nat
 o6:Array Oper
def Fu (l:List Oper):Option (Nat × Nat × List Operand):=match l with
 | [⟨some d,.makeFunc (.func cl) as bs,_,_,_,none⟩,⟨none,.defer cc,_,_,_,none⟩]=>(match as.toList,cc.callee,cc.args.toList with
  | [],.value (.tmp e),[]=>bif Nat.beq d e then some (d,cl,bs.toList)else none
  | _,_,_=>none)
 | _=>none
def Oz(c:pC):Option uQ:=match c with
 | .seq a (.seq b .ret)=>ob (regO a) fun u=>ob (regO b) fun v=>ob (Fu u.2.toList) fun q=>some ⟨u.1,u.2,q.1,q.2.1,q.2.2,v.1,v.2⟩
 | _=>none
def gV(c:pC):Option (List pC × uQ):=
 pC.rec (motive:=fun _=>Option (List pC × uQ)) none (fun _ _ _=>none)
  (fun a b _ g=>match Oz (.seq a b)with | some q=>some ([],q) | none=>ob g fun p=>some (a::p.1,p.2))
  (fun _ _ _ _ _=>none) (fun _ _ _=>none) (fun _ _ _=>none) (fun _=>none) none (fun _ _ _=>none) (fun _ _ _ _ _ _ _=>none) c
def sU (l:List pC):pC:=List.rec (motive:=fun _=>pC) .skip (fun a _ g=>.seq a g) l
def recO (l:List Oper):Option (Nat × Nat):=match l with
 | [⟨some d,.call cc,_,_,_,none⟩,⟨some e,.assign (.tmp f),_,_,_,none⟩]=>(match cc.callee with
  | .builtin .recover=>bif Nat.beq d f then some (d,e)else none
  | _=>none)
 | _=>none
structure ClQ where
 i:Nat
 o:Array Oper
 d:Nat
 e:Nat
 c:pC
def Fx (c:pC):Option ClQ:=match c with
 | .seq a b=>ob (regO a) fun u=>ob (recO u.2.toList) fun p=>some ⟨u.1,u.2,p.1,p.2,b⟩
 | _=>none
def clTm (n:Nat)(q:ClQ)(tm:Tm)(v:zA):Tm:=putA n (putA n tm.cut (some q.d) v) (some q.e) v
def bP(C:lA)(A:Tr pC)(φ:fE)(cl:Nat)(cells:List zA)(v:zA)(H:xA):oB:=
 ob (C.fns.get cl) fun fc=>ob (A.get cl) fun cc=>ob (Fx cc) fun q=>xB (tE (C.prims.get cl)&&Nat.blt q.d fc.ntmps) (ob (pK C cl cells true) fun g=>oD C φ cl fc.ntmps q.c (jO C fc) (clTm fc.ntmps q g.tm v) H)
def pM (C:lA)(A:Tr pC)(φ:fE)(fn:Func)(cl:Nat)(cells:List zA)(v:zA)(tm:Tm)(H:xA):oB:=
 ob (bP C A φ cl cells v H) fun y=>xB (!y.1.p) (aU C fn tm y.2)
def Nk(l:List ResultVar)(o6:List Oper):Bool:=kB (fun r=>match r with | .cell a _=>kB (fun o=>match o.dst with | some d => !Nat.beq d a | none=>true) o6 | .tmp _=>false) l
def oQ(C:lA)(A:Tr pC)(φ:fE)(fn:Func)(q:uQ)(tm:Tm)(H:xA):oB:=
 xB (Nk fn.results.toList q.o6.toList&&(Nat.ble tm.k q.d&&Nat.blt q.d fn.ntmps)) (ob (wO q.bs (.now tm.cut)) fun cells=>
  ob (tM C φ q.o6 fn.ntmps (fun tm' H'=>pM C A φ fn q.cl cells .niliface tm' H') q.o6.toList tm.cut H) fun x=>
   Bool.rec (motive:=fun _=>oB) (some x) (pM C A φ fn q.cl cells x.1.v tm.cut x.2) x.1.p)
def Bu (C:lA)(A:Tr pC)(φ:fE)(fn:Func)(q:uQ):Kt:=⟨oQ C A φ fn q,fun _ _ _=>none,aU C fn⟩
def zX(C:lA)(A:Tr pC)(φ:fE)(f:Nat)(fn:Func)(c:pC)(tm:Tm)(H:xA):oB:=
 match gV c with
 | none=>oD C φ f fn.ntmps c (jO C fn) tm H
 | some p=>oD C φ f fn.ntmps (sU p.1) (Bu C A φ fn p.2) tm H
def qS (C:lA)(A:Tr pC)(φ:fE)(f:Nat)(args:List zA)(H:xA):oB:=
 ob (A.get f) fun c=>ob (C.fns.get f) fun fn=>ob (pK C f args false) fun g=>zX C A φ f fn c g.tm H
def Ee(C:lA)(A:Tr pC)(φ:fE):fE
 | .func f=>qS C A φ f
 | .yld l=>Em C A φ l
def Ce (C:lA)(A:Tr pC):Nat->fE
 | 0=>fun _ _ _=>none
 | n+1=>Ee C A (Ce C A n)
def dC (C:lA)(A:Tr pC):fE:=fun f args H=>lim fun n=>Ce C A n f args H
section
variable {C:lA}{A:Tr pC}
theorem Hd{φ:fE}{l:Nat}{args:List zA}{H:xA}{x:nH × xA}:Em C A φ l args H=some x ↔ ∃r tm c q y r2 b,tJ H l=some r/\tZ r.n r.params args r.tm=some tm/\A.get r.fn=some c/\Lr c=some q/\(rdOk r q/\l<H.next)/\Sw C φ r.fn r.n q tm (setBlk H l (.loop (Ga r)))=some y/\tJ y.2 l=some r2/\y.1=⟨.bool b,false⟩/\x=(⟨.bool b,false⟩,setBlk y.2 l (.loop (aO b r2))):=by
 have out:∀(o:nH) (b:Bool),o=⟨.bool b,false⟩ ↔ o.v=.bool b/\o.p=false:=fun o b=>by cases o;simp
 unfold Em;simp only[out];grind [tA,Da,wB]
def YM{φ φ':fE}(h:oO φ φ'){cl:Nat}{cells:List zA}{v:zA}{H:xA}{x:nH × xA}(hx:bP C A φ cl cells v H=some x):bP C A φ' cl cells v H=some x:=by
 unfold bP at hx ⊢
 simp only[tA,wB]at hx ⊢
 obtain⟨fc,h1,cc,h2,q,h3,h4,g,h5,h6⟩:=hx
 exact⟨fc,h1,cc,h2,q,h3,h4,g,h5,Ap h _ _ _ (sP.refl _) _ _ _ h6⟩
def Nc{φ φ':fE}(h:oO φ φ'){fn:Func}{cl:Nat}{cells:List zA}{v:zA}{tm:Tm}{H:xA}{x:nH × xA}(hx:pM C A φ fn cl cells v tm H=some x):pM C A φ' fn cl cells v tm H=some x:=by
 unfold pM at hx ⊢
 rw[tA]at hx ⊢
 obtain⟨y,h1,h2⟩:=hx
 exact⟨y,YM h h1,h2⟩
def CH{φ φ':fE}(h:oO φ φ'){fn:Func}{q:uQ}:vK (oQ C A φ fn q) (oQ C A φ' fn q):=by
 intro tm H x hx;unfold oQ at hx ⊢
 simp only[wB,tA]at hx ⊢
 obtain⟨h1,cells,h2,y,h3,h4⟩:=hx
 refine⟨h1,cells,h2,y,Lp h (fun tm H x hx=>Nc h hx) _ _ _ _ h3,?_⟩
 cases hp:y.1.p with
 | false=>rw[hp]at h4;exact h4
 | true=>rw[hp]at h4;exact Nc h h4
def ZH{φ φ':fE}(h:oO φ φ'){f:Nat}{fn:Func}{c:pC}:vK (zX C A φ f fn c) (zX C A φ' f fn c):=by
 intro tm H x hx;unfold zX at hx ⊢
 split at hx
 ·exact Ap h c _ _ (sP.refl _) _ _ _ hx
 ·exact Ap h _ (Bu C A φ fn _) (Bu C A φ' fn _) ⟨CH h,fun _ _ _ _ h=>h,fun _ _ _ h=>h⟩ _ _ _ hx
def LP{φs:Nat->fE}{φ:fE}(h:sV φs φ){fn:Func}{cl:Nat}{cells:List zA}{v:zA}:sO (fun n=>pM C A (φs n) fn cl cells v) (pM C A φ fn cl cells v):=by
 refine⟨fun n tm H x hx=>Nc (h.up n) hx,fun tm H x hx=>?_⟩
 unfold pM at hx;rw[tA]at hx;obtain⟨y,h1,h2⟩:=hx
 unfold bP at h1;simp only[tA,wB]at h1;obtain⟨fc,g1,cc,g2,q,g3,g4,g,g5,g6⟩:=h1
 have sup:Df (fun _=>jO C fc) (jO C fc):=⟨⟨fun _ _ _ _ h=>h,fun _ _ _ h=>⟨0,h⟩⟩,fun i=>⟨fun _ _ _ _ h=>h,fun _ _ _ h=>⟨0,h⟩⟩,⟨fun _ _ _ _ h=>h,fun _ _ _ h=>⟨0,h⟩⟩⟩
 obtain⟨n,hn⟩:=(Nd h q.c _ _ sup).ex _ _ _ g6
 refine⟨n,?_⟩
 show pM C A (φs n) fn cl cells v tm H=some x
 unfold pM bP;simp only[tA,wB];rw[wB]at h2;exact⟨y,⟨fc,g1,cc,g2,q,g3,g4,g,g5,hn⟩,h2⟩
def QA{φs:Nat->fE}{φ:fE}(h:sV φs φ){fn:Func}{q:uQ}:sO (fun n=>oQ C A (φs n) fn q) (oQ C A φ fn q):=by
 refine⟨fun n=>CH (h.up n),fun tm H x hx=>?_⟩
 unfold oQ at hx;simp only[wB,tA]at hx;obtain⟨h1,cells,h2,y,h3,h4⟩:=hx
 obtain⟨n,hn⟩:=(FY h (LP h) _).ex _ _ _ h3
 have key:∀m,n<=m->tM C (φs m) q.o6 fn.ntmps (fun tm' H'=>pM C A (φs m) fn q.cl cells .niliface tm' H') q.o6.toList tm.cut H=some y:=
  fun m hm=>Lp (h.le hm) (fun tm H x hx=>Nc (h.le hm) hx) _ _ _ _ hn
 cases hp:y.1.p with
 | false=>
  rw[hp]at h4;refine⟨n,?_⟩
  show oQ C A (φs n) fn q tm H=some x
  unfold oQ;simp only[wB,tA];exact⟨h1,cells,h2,y,hn,by rw[hp];exact h4⟩
 | true=>
  rw[hp]at h4;obtain⟨m,hm⟩:=(LP h).ex _ _ _ h4
  refine⟨max n m,?_⟩
  show oQ C A (φs (max n m)) fn q tm H=some x
  unfold oQ;simp only[wB,tA];exact⟨h1,cells,h2,y,key _ (Nat.le_max_left _ _),by rw[hp];exact Nc (h.le (Nat.le_max_right _ _)) hm⟩
def zau{φs:Nat->fE}{φ:fE}(h:sV φs φ){f:Nat}{fn:Func}{c:pC}{tm:Tm}{H:xA}{x:nH × xA}(hx:zX C A φ f fn c tm H=some x):∃n,zX C A (φs n) f fn c tm H=some x:=by
 unfold zX at hx ⊢
 split at hx
 ·have sup:Df (fun _=>jO C fn) (jO C fn):=⟨⟨fun _ _ _ _ h=>h,fun _ _ _ h=>⟨0,h⟩⟩,fun i=>⟨fun _ _ _ _ h=>h,fun _ _ _ h=>⟨0,h⟩⟩,⟨fun _ _ _ _ h=>h,fun _ _ _ h=>⟨0,h⟩⟩⟩
  exact(Nd h c _ _ sup).ex _ _ _ hx
 ·rename_i p _
  exact(Nd h (sU p.1) (fun n=>Bu C A (φs n) fn p.2) (Bu C A φ fn p.2) ⟨QA h,fun i=>⟨fun _ _ _ _ h=>h,fun _ _ _ h=>⟨0,h⟩⟩,⟨fun _ _ _ _ h=>h,fun _ _ _ h=>⟨0,h⟩⟩⟩).ex _ _ _ hx
def DO{φ φ':fE}(h:oO φ φ'):oO (Ee C A φ) (Ee C A φ'):=by
 intro f args H x hx
 cases f with
 | yld l=>
  have hx:Em C A φ l args H=some x:=hx
  obtain⟨r,tm,c,q,y,r2,b,h1,h2,h3,h4,hq,h5,h6,h7,h8⟩:=Hd.1 hx
  exact Hd.2 ⟨r,tm,c,q,y,r2,b,h1,h2,h3,h4,hq,Ap h _ _ _ (sP.refl _) _ _ _ h5,h6,h7,h8⟩
 | func f=>
 have hx:qS C A φ f args H=some x:=hx
 show qS C A φ' f args H=some x
 unfold qS at hx ⊢
 rw[tA]at hx ⊢
 obtain⟨c,h1,hx⟩:=hx
 refine⟨c,h1,?_⟩
 rw[tA]at hx ⊢
 obtain⟨fn,h2,hx⟩:=hx
 refine⟨fn,h2,?_⟩
 rw[tA]at hx ⊢
 obtain⟨g,h3,hx⟩:=hx
 exact⟨g,h3,ZH h _ _ _ hx⟩
def GL:∀n,oO (Ce C A n) (Ce C A (n+1)):=by
 intro n;induction n with
 | zero=>intro f args H x h;cases h
 | succ n ih=>exact DO ih
def Fl{f:AFn}{args:List zA}{H:xA}{x:nH × xA}:dC C A f args H=some x ↔ ∃n,Ce C A n f args H=some x:=
 Ra fun n _ hy=>GL n _ _ _ _ hy
def KK:sV (Ce C A) (dC C A):=⟨GL,fun _ _ _ _ h=>Fl.1 h⟩
theorem Zh(f:AFn)(args:List zA)(H:xA):dC C A f args H=Ee C A (dC C A) f args H:=by
 have key:∀x,dC C A f args H=some x ↔ Ee C A (dC C A) f args H=some x:=by
  intro x;constructor
  ·intro h
   obtain⟨n,hn⟩:=Fl.1 h
   cases n with
   | zero=>cases hn
   | succ n=>exact DO (fun f a H y hy=>Fl.2 ⟨n,hy⟩) _ _ _ _ hn
  ·intro h
   cases f with
   | yld l=>
    have h:Em C A (dC C A) l args H=some x:=h
    obtain⟨r,tm,c,q,y,r2,b,h1,h2,h3,h4,hq,h5,h6,h7,h8⟩:=Hd.1 h
    have sup:Df (fun _=>rdK) rdK:=⟨⟨fun _ _ _ _ h=>h,fun _ _ _ h=>⟨0,h⟩⟩,fun i=>⟨fun _ _ _ _ h=>h,fun _ _ _ h=>⟨0,h⟩⟩,⟨fun _ _ _ _ h=>h,fun _ _ _ h=>⟨0,h⟩⟩⟩
    obtain⟨n,hn⟩:=(Nd KK _ _ _ sup).ex _ _ _ h5
    exact Fl.2 ⟨n+1,Hd.2 ⟨r,tm,c,q,y,r2,b,h1,h2,h3,h4,hq,hn,h6,h7,h8⟩⟩
   | func f=>
   have h:qS C A (dC C A) f args H=some x:=h
   unfold qS at h;rw[tA]at h;obtain⟨c,h1,h⟩:=h
   rw[tA]at h;obtain⟨fn,h2,h⟩:=h
   rw[tA]at h;obtain⟨g,h3,h⟩:=h
   obtain⟨n,hn⟩:=zau KK h
   refine Fl.2 ⟨n+1,?_⟩
   show qS C A (Ce C A n) f args H=some x
   grind [qS,oA]
 cases h:dC C A f args H with
 | some x=>grind
 | none=>
  cases h2:Ee C A (dC C A) f args H with
  | none=>rfl
  | some x=>simp_all
def nX(C:lA)(A:Tr pC):Prop:=∀f c,A.get f=some c->∃fn,C.fns.get f=some fn/\fn.body=some (bD c)
theorem XR{f:Nat}{args:List zA}{g:iB}(h:pK C f args false=some g):∃fn c,C.fns.get f=some fn/\fn.body=some c/\g.todo=[.code c]/\g.R=⟨f,fn.ntmps,[],.run,false,none⟩:=by
 grind [pK,tA,wB]
theorem Qw{α β:Type}{f g:α->Option β}:∀(l:List α) {r:List β},(∀a b,f a=some b->g a=some b)->xH f l=some r->xH g l=some r:=by
 intro l;induction l with
 | nil=>intro r _ h;exact h
 | cons a l ih=>
  grind [jP,tA]
def qR(C:lA)(f:Nat)(acs:List iB)(fl:Bool:=false):oX:=fun ds o x=>∃fr',o=.next ⟨fr',acs,x.2⟩/\wQ C f ds fr' x.2 x.1 fl
def SE{H:xA}{tm:Tm}{r:Nat}{d e:Option (List mH)}(hr:H.t.get r=some (.deferred d)):∀(l:List ResultVar) vs,vU C H tm l=some vs->vU C (setBlk H r (.deferred e)) tm l=some vs:=by
 intro l vs h;refine Qw l (fun rv v h=>?_) h
 cases rv with
 | tmp t=>exact h
 | cell a t=>
  have h:(ob (ob (tm.get a) zA.asPtr) fun p=>ob (C.tys.get t) fun ty=>ob (mD H p.1) fun c=>wS ty c.1 p.2)=some v:=h
  show(ob (ob (tm.get a) zA.asPtr) fun p=>ob (C.tys.get t) fun ty=>ob (mD (setBlk H r (.deferred e)) p.1) fun c=>wS ty c.1 p.2)=some v
  simp only[tA]at h ⊢
  obtain⟨p,hp,ty,ht,c,hc,hv⟩:=h
  refine⟨p,hp,ty,ht,c,?_,hv⟩
  unfold mD at hc ⊢
  rw[tA]at hc ⊢
  obtain⟨y,h1,h2⟩:=hc
  refine⟨y,?_,h2⟩
  show(H.t.set r (.deferred e)).get p.1=some y
  rw[Tr.get_set,yaa fun e=>by rw[e,hr]at h1;cases h1;cases h2]
  exact h1
def wQ.ret{f:Nat}{ds:List mH}{fr:iB}{H:xA}{o:nH}{fl:Bool}(h:wQ C f ds fr H o fl)(hp:o.p=false):Gj C f ds fr H o.v fl:=by
 unfold wQ at h;rwa [hp,yaa (by simp)]at h
def wQ.of{f:Nat}{ds:List mH}{fr:iB}{H:xA}{o:nH}{fl:Bool}(h:Gj C f ds fr H o.v fl)(hp:o.p=false):wQ C f ds fr H o fl:=by
 unfold wQ;rwa [hp,yaa (by simp)]
def Rw{f N:Nat}{acs:List iB}{fl:Bool}(hfn:∃fn,C.fns.get f=some fn):Jn C (qR C f acs fl) (fun _=>True) f N none acs fl:=by
 refine⟨?_,fun _ _=>trivial,?_,fun ds todo tm x _ hp=>⟨_,rfl,by unfold wQ;rw[yab hp];exact⟨⟨rfl,rfl,rfl,rfl⟩,hfn⟩⟩⟩
 ·rintro ds todo tm H x ⟨fr',h1,h2⟩
  cases h1;unfold wQ at h2;split at h2
  ·have:=h2.1.1;cases this
  ·have:=h2.1;cases this
 ·rintro _ r ds o x hp ⟨fr',rfl,hE⟩ hd
  obtain⟨h1,h2,h3,h4,fn,l,h5,h6,h7⟩:=hE.ret hp
  obtain⟨todo,tm,ffn,n,defers,mode,deferred,round⟩:=fr'
  simp only at h1 h2 h3 h4 h6
  subst h1 h2 h3 h4
  have hr:x.2.t.get r=some (.deferred (some [])):=by
   unfold cW at hd;rw[wB,tA]at hd;obtain⟨_,y,e1,e2⟩:=hd
   cases y<;>cases e2
   exact e1
  refine⟨_,.step ?_,⟨⟨todo,tm,⟨ffn,n,ds,.returning,deferred,round⟩⟩,rfl,wQ.of ⟨rfl,rfl,rfl,rfl,fn,l,h5,SE hr _ _ h6,h7⟩ hp⟩⟩
  show dK C (Eb C ⟨none,r,[]⟩ ds ⟨todo,tm,⟨ffn,n,⟨none,r,[]⟩::ds,.returning,deferred,round⟩⟩ acs x.2) _
  unfold Eb;simp only[hd,oA];exact .refl _
def Nb{f:Nat}{fn:Func}{acs:List iB}{x:nH × xA}{ds:List mH}{fl:Bool}(hf:C.fns.get f=some fn){tm:Tm}{H:xA}(h:aU C fn tm H=some x){todo:List nE}{N:Nat}
  (hs:mS C todo tm (RR f N none ds fl) acs H=.next ⟨sZ ⟨todo,tm,RR f N none ds fl⟩ .returning,acs,H⟩):Fin C (qR C f acs fl) ds (.next ⟨⟨todo,tm,RR f N none ds fl⟩,acs,H⟩) x:=by
 unfold aU at h;rw[tA]at h;obtain⟨l,h1,h2⟩:=h
 cases h2;refine .step ?_
 rw[vJ rfl,hs];exact⟨_,.refl _,_,rfl,wQ.of ⟨rfl,rfl,rfl,rfl,fn,l,hf,h1,rfl⟩ rfl⟩
def RdG (l:Nat)(c:iB):nH × xA->Prop:=fun x=>∃b r2 c',x.1=⟨.bool b,false⟩/\tJ x.2 l=some r2/\lH c (.bool b)=some c'
def RdEnd(l:Nat)(c:iB)(acs:List iB):oX:=fun _ o x=>∃b r2 c',x.1=⟨.bool b,false⟩/\tJ x.2 l=some r2/\lH c (.bool b)=some c'/\o=.next ⟨c',acs,setBlk x.2 l (.loop (aO b r2))⟩
def DV{l b:Nat}(h:b≠l)(t:Tr vA)(x y:vA):(t.set l x).set b y=(t.set b y).set l x:=Tr.set_comm t _ _ _ _ (fun e=>h e.symm)
theorem ZK{C:lA}{φ:fE}{all:Array Oper}{n:Nat}{κn:Tm->xA->oB}{l0:Nat}{r0 r1:vN}:∀(l:List Oper) (tm:Tm) (H:xA) (x:nH × xA),Cb l=true->l0<H.next->H.t.get l0=some (.loop r0)->tM C φ all n κn l tm (setBlk H l0 (.loop r1))=some x →
  ∃tm' H',κn tm' (setBlk H' l0 (.loop r1))=some x/\l0<H'.next/\H'.t.get l0=some (.loop r0)/\∀(k:List nE) (R:sK) (cs:List iB),R.n=n->wM C all k R cs l tm H=xGo k tm' R cs H':=by
 intro l;induction l with
 | nil=>intro tm H x _ h1 h2 h;exact⟨tm,H,h,h1,h2,fun _ _ _ _=>rfl⟩
 | cons o l ih=>
  intro tm H x hp hl hg h;have hp:(bif (match o.op with | .move _=>tE o.guard | .assign _=>tE o.guard | .alloc _=>tE o.guard | .store _ _ _=>tE o.guard | _=>false)then Cb l else false)=true:=hp
  have hp1:(match o.op with | .move _=>tE o.guard | .assign _=>tE o.guard | .alloc _=>tE o.guard | .store _ _ _=>tE o.guard | _=>false)=true:=by
   simp_all
  rw[hp1]at hp;have hp:Cb l=true:=hp
  have hw:wG o.guard all tm=some true:=by
   have:tE o.guard=true:=by cases ho:o.op<;>rw[ho]at hp1<;>first | exact hp1 | (cases hp1;done)
   cases hx:o.guard with
   | none=>rfl
   | some g=>rw[hx]at this;cases this
  rw[Cc,hw,oA,yab rfl]at h;have key:∃v H',(gE o.op).f C (.now tm) (setBlk H l0 (.loop r1))=.val v (setBlk H' l0 (.loop r1))/\(gE o.op).f C (.now tm) H=.val v H'/\l0<H'.next/\H'.t.get l0=some (.loop r0):=by
   cases ho:o.op<;>rw[ho]at hp1 h<;>try (cases hp1;done)
   case move u=>
    have e:∀H,(gE (.move u)).f C (.now tm) H=lv (yO u) C (.now tm) H:=fun _=>rfl
    rw[e]at h
    cases hv:ev u (.now tm)with
    | none=>
     have:lv (yO u) C (.now tm) (setBlk H l0 (.loop r1))=.fail:=by unfold lv yO;rw[hv]
     rw[this]at h;cases h
    | some v=>exact⟨v,H,by rw[e];unfold lv yO;rw[hv],by rw[e];unfold lv yO;rw[hv],hl,hg⟩
   case assign u=>
    have e:∀H,(gE (.assign u)).f C (.now tm) H=lv (yO u) C (.now tm) H:=fun _=>rfl
    rw[e]at h
    cases hv:ev u (.now tm)with
    | none=>
     have:lv (yO u) C (.now tm) (setBlk H l0 (.loop r1))=.fail:=by unfold lv yO;rw[hv]
     rw[this]at h;cases h
    | some v=>exact⟨v,H,by rw[e];unfold lv yO;rw[hv],by rw[e];unfold lv yO;rw[hv],hl,hg⟩
   case alloc t=>
    have e:∀H,(gE (.alloc t)).f C (.now tm) H=mL (ob (C.tys.get t) fun ty=>some (.ptr H.next 0,fF H ty.zero (jK C t))):=fun _=>rfl
    rw[e]at h
    cases ht:C.tys.get t with
    | none=>rw[ht]at h;cases h
    | some ty=>
     refine⟨.ptr H.next 0,fF H ty.zero (jK C t),?_,by rw[e,ht];rfl,Nat.lt_succ_of_lt hl,?_⟩
     ·rw[e,ht]
      show kK.val (.ptr H.next 0) (fF (setBlk H l0 (.loop r1)) ty.zero (jK C t))=_
      congr 1
      show(⟨H.next+1,(H.t.set l0 _).set H.next _⟩:xA)=⟨H.next+1,(H.t.set H.next _).set l0 _⟩
      rw[DV (by omega)]
     ·show(H.t.set H.next _).get l0=_
      rw[Tr.get_set,yaa (by omega),hg]
   case store t a u=>
    have e:∀H,(gE (.store t a u)).f C (.now tm) H=mL (ob (C.tys.get t) fun ty=>ob (ev a (.now tm)) fun a=>ob a.asPtr fun p=>ob (ev u (.now tm)) fun v=>xB (Nat.beq (zB v.cells) ty.size) (ob (mJ C H p.1 p.2 v.cells) fun H'=>some (jD,H'))):=fun _=>rfl
    rw[e]at h
    cases hs:(ob (C.tys.get t) fun ty=>ob (ev a (.now tm)) fun a=>ob a.asPtr fun p=>ob (ev u (.now tm)) fun v=>xB (Nat.beq (zB v.cells) ty.size) (ob (mJ C (setBlk H l0 (.loop r1)) p.1 p.2 v.cells) fun H'=>some (jD,H')))with
    | none=>rw[hs]at h;cases h
    | some q=>
     have hs0:=hs
     simp only[tA,wB]at hs;obtain⟨ty,h1,a',h2,p,h3,v,h4,h5,H1,h6,h7⟩:=hs
     unfold mJ at h6;simp only[tA,wB]at h6;obtain⟨g1,c,g2,g3,g4⟩:=h6
     have hne:p.1≠l0:=by
      intro e;unfold mD at g2;have:(setBlk H l0 (.loop r1)).t.get p.1=some (.loop r1):=by
       show(H.t.set l0 _).get p.1=_
       rw[Tr.get_set,yab e]
      rw[this,oA]at g2;cases g2
     have g2':mD H p.1=some c:=by
      unfold mD at g2 ⊢
      have:(setBlk H l0 (.loop r1)).t.get p.1=H.t.get p.1:=by
       show(H.t.set l0 _).get p.1=_
       rw[Tr.get_set,yaa hne]
      rw[this]at g2;exact g2
     refine⟨jD,setBlk H p.1 (.cells (c.1.setMany v.cells p.2) c.2.1 c.2.2),?_,?_,hl,?_⟩
     ·rw[e,hs0,<- h7,<- yci g4]
      show kK.val jD (setBlk (setBlk H l0 (.loop r1)) p.1 _)=_
      congr 1
      show(⟨H.next,(H.t.set l0 _).set p.1 _⟩:xA)=⟨H.next,(H.t.set p.1 _).set l0 _⟩
      rw[DV hne]
     ·rw[e,h1,oA,h2,oA,h3,oA,h4,oA,h5]
      unfold mJ;rw[g1,g2'];simp only[oA];rw[g3];rfl
     ·show(H.t.set p.1 _).get l0=_
      rw[Tr.get_set,yaa (fun e=>hne e.symm),hg]
  obtain⟨v,H',k1,k2,k3,k4⟩:=key
  rw[k1]at h;have h:iL C o.type v (fun v=>tM C φ all n κn l (putA n tm o.dst v) (setBlk H' l0 (.loop r1)))=some x:=h
  rw[kP]at h;obtain⟨tm',H2,m1,m2,m3,m4⟩:=ih _ H' x hp k3 k4 h.2
  refine⟨tm',H2,m1,m2,m3,fun k R cs hR=>?_⟩
  rw[Bt,hw];simp only[if_true];rw[k2];simp only[kK.asVal];rw[hR];exact m4 k R cs hR
theorem ZJ{C:lA}{φ:fE}{fn n:Nat}{κ:Kt}{c:pC}{l0:Nat}{r0 r1:vN}:∀(as:List (Nat × Array Oper)) (tm:Tm) (H:xA) (x:nH × xA),Qb as=true->l0<H.next->H.t.get l0=some (.loop r0)->oD C φ fn n (asA c as) κ tm (setBlk H l0 (.loop r1))=some x →
  ∃tm' H',oD C φ fn n c κ tm' (setBlk H' l0 (.loop r1))=some x/\H'.t.get l0=some (.loop r0)/\∀(k:List nE) (R:sK) (cs:List iB),R.n=n->R.mode.running=true->dK C (.next ⟨⟨.code (asC as)::k,tm,R⟩,cs,H⟩) (.next ⟨⟨k,tm',R⟩,cs,H'⟩):=by
 intro as;induction as with
 | nil=>intro _ _ _ h;cases h
 | cons z as ih=>
  intro tm H x hp hl hg h;have hp:(bif Cb z.2.toList then kB (fun x=>Cb x.2.toList) as else false)=true:=hp
  have hp1:Cb z.2.toList=true:=by simp_all
  have h:tM C φ z.2 n (oD C φ fn n (asA c as) κ) z.2.toList tm.cut (setBlk H l0 (.loop r1))=some x:=h
  obtain⟨tm1,H1,h1,h2,h3,h4⟩:=ZK _ _ _ _ hp1 hl hg h
  cases as with
  | nil=>
   refine⟨tm1,H1,h1,h3,fun k R cs hR hm=>.step ?_⟩
   rw[vJ hm];show dK C (wM C z.2 k R cs z.2.toList tm.cut H) _
   rw[h4 _ _ _ hR];exact .refl _
  | cons w as=>
   have hp2:Qb (w::as)=true:=by
    show kB (fun x=>Cb x.2.toList) (w::as)=true
    simp_all
   obtain⟨tm2,H2,g1,g2,g3⟩:=ih tm1 H1 x hp2 h2 h3 h1
   refine⟨tm2,H2,g1,g2,fun k R cs hR hm=>.step ?_⟩
   rw[vJ hm];show dK C (wM C z.2 (.code (asC (w::as))::k) R cs z.2.toList tm.cut H) _
   rw[h4 _ _ _ hR];exact g3 _ _ _ hR hm
theorem RZ{φ:fE}(hφ:uR C φ){l:Nat}{args:List zA}{H:xA}{x:nH × xA}(h:Em C A φ l args H=some x) :
  ∃r tm,tJ H l=some r/\tZ r.n r.params args r.tm=some tm/\x.1.p=false/\∀c acs c',lH c x.1.v=some c'->dK C (.next ⟨Wn r l tm,c::acs,H⟩) (.next ⟨c',acs,x.2⟩):=by
 obtain⟨r,tm,cc,q,y,r2,b,h1,h2,h3,h4,⟨⟨q1,q2,q3,q4,q5,q6⟩,hlt⟩,h5,h6,h7,rfl⟩:=Hd.1 h
 refine⟨r,tm,h1,h2,rfl,fun c acs c' hc=>?_⟩
 have hg:H.t.get l=some (.loop r):=by
  unfold tJ at h1;rw[wB,tA]at h1;obtain⟨_,y,e1,e2⟩:=h1
  cases y<;>cases e2
  exact e1
 have h256:256<=l:=by
  unfold tJ at h1;rw[wB]at h1;exact qE.1 h1.1
 have h5:oD C φ r.fn r.n (asA q.c q.as) rdK tm (setBlk H l (.loop (Ga r)))=some y:=h5
 obtain⟨tm',H',h8,hg',h9⟩:=ZJ _ _ _ _ q5 hlt hg h5
 have h1':tJ H' l=some r:=by
  unfold tJ;rw[hg',oA,qE.2 h256];rfl
 unfold Wn;rw[q1,q2];refine(h9 [.beginRound,.code (bD q.c)] _ _ rfl rfl).trans (.step ?_)
 show dK C (mS C (.beginRound::[.code (bD q.c)]) tm' ⟨r.fn,r.n,[],.run,false,some l⟩ (c::acs) H') _
 have hb:mS C (.beginRound::[.code (bD q.c)]) tm' ⟨r.fn,r.n,[],.run,false,some l⟩ (c::acs) H'=.next ⟨⟨[.code (bD q.c)],tm',RR r.fn r.n (some l) []⟩,c::acs,setBlk H' l (.loop (Ga r))⟩:=by
  show Jy C [.code (bD q.c)] tm' _ (c::acs) H'=_
  unfold Jy;simp only[oA];rw[h1',oA,q4];rfl
 rw[hb];have hc:lH c (.bool b)=some c':=hc
 have hE:Jn C (RdEnd l c acs) (RdG l c) r.fn r.n (some l) (c::acs):=by
  refine⟨?_,fun e=>(by cases e),fun e=>(by cases e),?_⟩
  ·rintro ds todo tm H x ⟨b,r2,c',_,_,_,e⟩
   simp_all
  ·rintro ds todo tm x ⟨b,r2,c',e,_,_⟩ hp
   rw[e]at hp;cases hp
 have hK:Ji C (RdEnd l c acs) (RdG l c) r.fn r.n (some l) (c::acs) rdK []:=by
  refine⟨?_,fun _ _ _ _ _ _ h=>(by cases h),?_⟩
  ·rintro ds x tm H ⟨b,r2,c',g1,g2,g3⟩ h
   cases h
   cases g1
   refine .step ?_
   rw[vJ rfl];have:mS C [] tm (RR r.fn r.n (some l) ds) (c::acs) H=.next ⟨c',acs,setBlk H l (.loop (aO true r2))⟩:=by
    have e0:mS C [] tm (RR r.fn r.n (some l) ds) (c::acs) H=rT none C ⟨[],tm,RR r.fn r.n (some l) ds⟩ (c::acs) H:=rfl
    rw[e0];unfold rT;simp only[g2,oA];show gL (ob (lH c (.bool true)) _) 7=_
    rw[g3];rfl
   rw[this];exact⟨_,.refl _,true,r2,c',rfl,g2,g3,rfl⟩
  ·rintro ds x tm H ⟨b,r2,c',g1,g2,g3⟩ h k'
   cases h
   cases g1
   refine .step ?_
   rw[vJ rfl];have:mS C (.code .ret::k') tm (RR r.fn r.n (some l) ds) (c::acs) H=.next ⟨c',acs,setBlk H l (.loop (aO false r2))⟩:=by
    have e0:mS C (.code .ret::k') tm (RR r.fn r.n (some l) ds) (c::acs) H=rT (some .ret) C ⟨.code .ret::k',tm,RR r.fn r.n (some l) ds⟩ (c::acs) H:=rfl
    rw[e0];unfold rT;simp only[g2,oA];show gL (ob (lH c (.bool false)) _) 7=_
    rw[g3];rfl
   rw[this];exact⟨_,.refl _,false,r2,c',rfl,g2,g3,rfl⟩
 obtain⟨o',k1,b',r2',c'',k2,k3,k4,rfl⟩:=Sk hφ hE q.c rdK [] (Or.inr q6) hK [] y tm' _ ⟨b,r2,c',h7,h6,hc⟩ h8
 simp_all
def Wu{c:pC}{i:Nat}{o:Array Oper}(h:regO c=some (i,o)):bD c=.region i o false:=by
 cases c with
 | region id ops d=>cases d<;>cases h;rfl
 | cut p c=>
  cases c with
  | region id ops d=>cases d<;>cases h;rfl
  | _=>cases h
 | _=>cases h
def PZ{c:pC}{q:uQ}(h:Oz c=some q):bD c=.seq (.region q.i5 q.o5 false) (.seq (.region q.i6 q.o6 false) .ret)/\Fu q.o5.toList=some (q.d,q.cl,q.bs):=by
 unfold Oz at h;split at h
 ·simp only[tA]at h
  obtain⟨u,h1,v,h2,r,h3,h4⟩:=h
  cases h4;refine⟨?_,h3⟩
  show Code.seq (bD _) (.seq (bD _) .ret)=_
  rw[Wu h1,Wu h2]
 ·cases h
def Mv(l:List pC)(e:Code):Code:=List.rec (motive:=fun _=>Code) e (fun a _ g=>.seq (bD a) g) l
def QZ:∀(c:pC) {l:List pC} {q:uQ},gV c=some (l,q)->bD c=Mv l (.seq (.region q.i5 q.o5 false) (.seq (.region q.i6 q.o6 false) .ret))/\Fu q.o5.toList=some (q.d,q.cl,q.bs):=by
 intro c;induction c with
 | seq a b _ ih=>
  intro l q h;have h:(match Oz (.seq a b)with | some q=>some ([],q) | none=>ob (gV b) fun p=>some (a::p.1,p.2))=some (l,q):=h
  split at h
  ·rename_i h1
   cases h;exact PZ h1
  ·rw[tA]at h
   obtain⟨p,h1,h2⟩:=h
   cases h2;obtain⟨g1,g2⟩:=ih h1
   exact⟨by show Code.seq (bD a) (bD b)=_;rw[g1];rfl,g2⟩
 | _=>intro l q h;cases h
def zaq{c:pC}{q:ClQ}(h:Fx c=some q):bD c=.seq (.region q.i q.o false) (bD q.c)/\recO q.o.toList=some (q.d,q.e):=by
 unfold Fx at h;split at h
 ·simp only[tA]at h
  obtain⟨u,h1,v,h2,h3⟩:=h
  cases h3;refine⟨?_,h2⟩
  show Code.seq (bD _) (bD _)=_
  rw[Wu h1]
 ·cases h
def zah{l:List Oper}{d cl:Nat}{bs:List Operand}(h:Fu l=some (d,cl,bs)):∃as' bs' t p a cc t' p' a',l=[⟨some d,.makeFunc (.func cl) as' bs',t,p,a,none⟩,⟨none,.defer cc,t',p',a',none⟩]/\as'.toList=[]/\bs'.toList=bs/\cc.callee=.value (.tmp d)/\cc.args.toList=[]:=by
 unfold Fu at h;split at h
 ·split at h
  ·rename_i e1 e2 e3
   simp only[sD]at h;split at h
   ·rename_i e
    cases h;exact⟨_,_,_,_,_,_,_,_,_,rfl,e1,rfl,by rw[e2,kC.1 e],e3⟩
   ·cases h
  ·cases h
 ·cases h
def SO{l:List Oper}{d e:Nat}(h:recO l=some (d,e)):∃cc t p a t' p' a',l=[⟨some d,.call cc,t,p,a,none⟩,⟨some e,.assign (.tmp d),t',p',a',none⟩]/\cc.callee=.builtin .recover:=by
 unfold recO at h;split at h
 ·split at h
  ·rename_i e1
   simp only[sD]at h;split at h
   ·rename_i e
    cases h;exact⟨_,_,_,_,_,_,_,by rw[kC.1 e],e1⟩
   ·cases h
  ·cases h
 ·cases h
def TQ{φ:fE}(hφ:uR C φ){E:oX}{ds:List mH}{x:nH × xA}{R:sK}{acs:List iB}{k:List nE}{all:Array Oper}{N:Nat}{I:Tm->Prop}(hR:R.mode.running=true)(hN:R.n=N)(hP:∀l tm,I tm->x.1.p=true->E ds (.next ⟨aV ⟨.ops all l::k,tm,R⟩ [⟨x.1.v,false⟩],acs,x.2⟩) x){κn:Tm->xA->oB}(hκ:∀tm H,I tm->κn tm H=some x->Fin C E ds (.next ⟨⟨k,tm,R⟩,acs,H⟩) x) :
  ∀(l:List Oper) (tm:Tm) (H:xA),(∀o∈l,∀tm v,I tm->I (putA N tm o.dst v))->I tm->tM C φ all N κn l tm H=some x->Fin C E ds (wM C all k R acs l tm H) x:=by
 intro l;induction l with
 | nil=>exact fun tm H _ hI h=>hκ tm H hI h
 | cons o l ih=>
  intro tm H hd hI h;have hd1:=fun tm v h=>hd o yby tm v h
  have ih:=fun tm H=>ih tm H fun o ho=>hd o (ybr _ ho)
  rw[Cc,tA]at h;obtain⟨w,h1,h⟩:=h
  rw[Bt,h1]
  cases w with
  | false=>
   simp only[ybq,if_false]at h ⊢
   rw[hN];exact ih _ _ (hd1 _ _ hI) h
  | true=>
   rw[yab rfl]at h;simp only[];generalize (gE o.op).f C (.now tm) H=r at h
   cases hv:r.asVal with
   | some p=>
    have e:r=.val p.1 p.2:=by cases r<;>simp[kK.asVal]at hv;rw[<- hv]
    rw[e]at h;simp only[mG]at h;rw[kP]at h;simp only[if_true];rw[hN];exact ih _ _ (hd1 _ _ hI) h.2
   | none=>
    simp only[if_true];refine Ws hφ h (fun v H' c' hc hK=>?_) (fun v=>⟨⟨.ops all l::k,putA R.n tm o.dst v,R⟩,by unfold lH;simp only[hR,cond_true];rfl⟩) (aX hR) (hP _ _ hI)
    unfold lH at hc;simp only[hR,cond_true]at hc;have hc:some (⟨.ops all l::k,putA R.n tm o.dst v,R⟩:iB)=some c':=hc
    cases hc;refine .step ?_
    rw[vJ hR,hN];rw[kP]at hK;exact ih _ _ (hd1 _ _ hI) hK.2
def cutK{n:Nat}{tm:Tm}{d:Nat}{v:zA}(h:tm.k<=d):(putA n tm (some d) v).cut=tm.cut:=by
 show(Hj d n tm v).cut=_
 unfold Hj;simp only[sD];split
 ·unfold Tm.set
  rw[oK,yaa (by rw[qC];omega)]
  rfl
 ·rfl
def zag{l:List Oper}{d cl:Nat}{bs:List Operand}{cells:List zA}(h:Fu l=some (d,cl,bs)){tm:Tm}{H:xA}(he:wO bs (.now tm)=some cells){f n:Nat}{ds:List mH}{acs:List iB}{k:List nE}{all:Array Oper}(hd:d<n) :
  wM C all k (RR f n none ds) acs l tm H=.next ⟨⟨.ops all []::k,putA n tm (some d) (.func (.func cl) [] cells),RR f n none (⟨some (.func cl),0,cells⟩::ds)⟩,acs,H⟩:=by
 obtain⟨as',bs',t,p,a,cc,t',p',a',rfl,e1,e2,e3,e4⟩:=zah h
 subst e2;obtain⟨ca,cargs,caty⟩:=cc
 simp only at e3 e4
 subst e3;have f1:(gE (.makeFunc (.func cl) as' bs')).f C (.now tm) H=.val (.func (.func cl) [] cells) H:=by
  show lv (Ia cl as' bs') C (.now tm) H=_
  unfold lv Ia;rw[e1];show(match ob (some []) _ with | some v=>kK.val v H | none=>.fail)=_
  rw[oA,he];rfl
 have f2:(gE (.defer ⟨.value (.tmp d),cargs,caty⟩)).f C (.now (putA n tm (some d) (.func (.func cl) [] cells))) H=.defer ⟨some (.func cl),0,cells⟩:=by
  show qZ (ob (jR (.tmp d) cargs (.now (putA n tm (some d) (.func (.func cl) [] cells)))) fun p=>some (.defer ⟨some p.1,0,iD p.2.1 p.2.2⟩))=_
  have:jR (.tmp d) cargs (.now (putA n tm (some d) (.func (.func cl) [] cells)))=some (.func cl,[],cells):=by
   unfold jR;rw[e4,show ev (.tmp d) (.now (putA n tm (some d) (.func (.func cl) [] cells)))=(putA n tm (some d) (.func (.func cl) [] cells)).get d from rfl,sJ,yab ⟨rfl,hd⟩]
   rfl
  rw[this];rfl
 rw[Bt];show(match ((gE (.makeFunc (.func cl) as' bs')).f C (.now tm) H).asVal with | some p=>_ | none=>_)=_
 rw[f1];show wM C all k (RR f n none ds) acs _ (putA n tm (some d) (.func (.func cl) [] cells)) H=_
 rw[Bt];show(match ((gE (.defer ⟨.value (.tmp d),cargs,caty⟩)).f C (.now (putA n tm (some d) (.func (.func cl) [] cells))) H).asVal with | some p=>_ | none=>_)=_
 rw[f2];rfl
def SN{φ:fE}{E:oX}{l:List Oper}{d e:Nat}(h:recO l=some (d,e)){tm:Tm}{H:xA}{f n:Nat}{ds:List mH}{acs:List iB}{k:List nE}{all:Array Oper}{x:nH × xA}(hd:d<n){c c':iB}{v:zA}
  (hc:(c.R.mode=.returning/\v=.niliface/\c'=c)\/(c.R.mode=.panicking [⟨v,false⟩]/\c'=sZ c (.panicking [⟨v,true⟩]))) (hf:Fin C E ds (.next ⟨⟨k,putA n (putA n tm (some d) v) (some e) v,RR f n none ds true⟩,c'::acs,H⟩) x) :
  Fin C E ds (wM C all k (RR f n none ds true) (c::acs) l tm H) x:=by
 obtain⟨cc,t,p,a,t',p',a',rfl,e1⟩:=SO h
 obtain⟨ca,cargs,caty⟩:=cc
 simp only at e1
 subst e1;have f1:(gE (.call ⟨.builtin .recover,cargs,caty⟩)).f C (.now tm) H=.recover:=rfl
 rw[Bt];have f3:wM C all k (RR f n none ds true) (c'::acs) [⟨some e,.assign (.tmp d),t',p',a',none⟩] (putA n tm (some d) v) H=.next ⟨⟨k,putA n (putA n tm (some d) v) (some e) v,RR f n none ds true⟩,c'::acs,H⟩:=by
  rw[Bt];show(match ((gE (.assign (.tmp d))).f C (.now (putA n tm (some d) v)) H).asVal with | some p=>_ | none=>_)=_
  have:(gE (.assign (.tmp d))).f C (.now (putA n tm (some d) v)) H=.val v H:=by
   show lv (yO (.tmp d)) C (.now (putA n tm (some d) v)) H=_
   unfold lv yO;rw[show ev (.tmp d) (.now (putA n tm (some d) v))=(putA n tm (some d) v).get d from rfl,sJ,yab ⟨rfl,hd⟩]
  rw[this];rfl
 have f4:Lh C ⟨.ops all (⟨some d,.call ⟨.builtin .recover,cargs,caty⟩,t,p,a,none⟩::[⟨some e,.assign (.tmp d),t',p',a',none⟩])::k,tm,RR f n none ds true⟩ (c::acs) H=.next ⟨⟨.ops all [⟨some e,.assign (.tmp d),t',p',a',none⟩]::k,putA n tm (some d) v,RR f n none ds true⟩,c'::acs,H⟩:=by
  obtain⟨ctodo,ctm,cfn,cn,cdefers,cmode,cdef,cround⟩:=c
  rcases hc with⟨h1,rfl,rfl⟩ | ⟨h1,rfl⟩
  ·simp only at h1
   subst h1;rfl
  ·simp only at h1
   subst h1;rfl
 show Fin C E ds (Lh C ⟨.ops all (⟨some d,.call ⟨.builtin .recover,cargs,caty⟩,t,p,a,none⟩::[⟨some e,.assign (.tmp d),t',p',a',none⟩])::k,tm,RR f n none ds true⟩ (c::acs) H) x
 rw[f4];refine .step ?_
 rw[vJ rfl];show Fin C E ds (wM C all k (RR f n none ds true) (c'::acs) [⟨some e,.assign (.tmp d),t',p',a',none⟩] (putA n tm (some d) v) H) x
 rw[f3];exact hf
theorem YL(hA:nX C A){φ:fE}(hφ:uR C φ){cl:Nat}{cells:List zA}{v:zA}{H:xA}{y:nH × xA}{acs:List iB}{c c':iB}
  (hc:(c.R.mode=.returning/\v=.niliface/\c'=c)\/(c.R.mode=.panicking [⟨v,false⟩]/\c'=sZ c (.panicking [⟨v,true⟩]))) (h:bP C A φ cl cells v H=some y) (hy:y.1.p=false) :
  C.prims.get cl=none/\∃g,pK C cl cells true=some g/\∃fr',dK C (.next ⟨g,c::acs,H⟩) (.next ⟨fr',c'::acs,y.2⟩)/\Gj C cl [] fr' y.2 y.1.v true:=by
 unfold bP at h;simp only[tA,wB,ybb]at h;obtain⟨fc,h1,cc,h2,q,h3,⟨h4,h5⟩,g,h6,h7⟩:=h
 have hpr:C.prims.get cl=none:=by
  cases hx:C.prims.get cl with
  | none=>rfl
  | some u=>rw[hx]at h4;cases h4
 refine⟨hpr,g,h6,?_⟩
 obtain⟨fc',g1,g2⟩:=hA _ _ h2
 rw[h1]at g1
 cases g1
 obtain⟨g3,g4⟩:=zaq h3
 have g5:g.todo=[.code (bD cc)]/\g.R=⟨cl,fc.ntmps,[],.run,true,none⟩:=by
  grind [pK,tA,wB]
 obtain⟨gt,gtm,gR⟩:=g
 obtain⟨rfl,rfl⟩:=g5
 have hK:Ji C (qR C cl (c'::acs) true) (fun _=>True) cl fc.ntmps none (c'::acs) (jO C fc) [] true:=⟨fun ds x tm H _ h=>Nb h1 h rfl,fun ds x i tm H _ h=>(by cases h),fun ds x tm H _ h k'=>Nb h1 h rfl⟩
 have k1:=Sk hφ (Rw (fl:=true) ⟨fc,h1⟩) q.c (jO C fc) [] (Or.inl rfl) hK [] y _ H trivial h7
 have k2:Fin C (qR C cl (c'::acs) true) [] (.next ⟨⟨[.code (bD cc)],gtm,RR cl fc.ntmps none [] true⟩,c::acs,H⟩) y:=by
  refine .step ?_
  rw[vJ rfl,g3];exact SN (φ:=φ) g4 (qC.1 h5) hc k1
 obtain⟨o',k3,fr',rfl,k4⟩:=k2
 exact⟨fr',k3,k4.ret hy⟩
def zd7(hA:nX C A){φ:fE}(hφ:uR C φ){cl:Nat}{cells:List zA}{v:zA}{H:xA}{y:nH × xA}{acs:List iB}{c:iB}{ds:List mH}(hd:c.R.defers=⟨some (.func cl),0,cells⟩::ds)
  (hm:(c.R.mode=.returning/\v=.niliface)\/c.R.mode=.panicking [⟨v,false⟩]) (h:bP C A φ cl cells v H=some y) (hy:y.1.p=false) :
  dK C (.next ⟨c,acs,H⟩) (.next ⟨⟨c.todo,c.tm,⟨c.R.fn,c.R.n,ds,.returning,c.R.deferred,c.R.roundOf⟩⟩,acs,y.2⟩):=by
 obtain⟨ctodo,ctm,cfn,cn,cdefers,cmode,cdef,cround⟩:=c
 simp only at hd hm
 subst hd;have hx:∀m:pV,((m=.returning/\v=.niliface)\/m=.panicking [⟨v,false⟩])->∀c':iB,c'=(⟨ctodo,ctm,⟨cfn,cn,ds,m,cdef,cround⟩⟩:iB)->∃c'':iB,((c'.R.mode=.returning/\v=.niliface/\c''=c')\/(c'.R.mode=.panicking [⟨v,false⟩]/\c''=sZ c' (.panicking [⟨v,true⟩])))/\∀fr' H,Gj C cl [] fr' H y.1.v true->xU C (.next ⟨fr',c''::acs,H⟩)=.next ⟨⟨ctodo,ctm,⟨cfn,cn,ds,.returning,cdef,cround⟩⟩,acs,H⟩:=by
  intro m hm c' hc';subst hc'
  have ret:∀(c'':iB),c''.R.mode=.returning\/c''.R.mode=.panicking [⟨v,true⟩]->∀fr' H,Gj C cl [] fr' H y.1.v true->xU C (.next ⟨fr',c''::acs,H⟩)=.next ⟨sZ c'' .returning,acs,H⟩:=by
   rintro c'' hcm fr' H ⟨h1,h2,h3,h4,fn,l,h5,h6,h7⟩
   obtain⟨todo,tm,ffn,n,defers,mode,deferred,round⟩:=fr'
   obtain⟨c2todo,c2tm,c2fn,c2n,c2defers,c2mode,c2def,c2round⟩:=c''
   simp only at h1 h2 h3 h4 h6 hcm
   subst h1 h2 h3 h4
   show Ea C ⟨todo,tm,_⟩ (_::acs) H=_
   unfold Ea;rw[h5,oA,h6];rcases hcm with rfl | rfl<;>rfl
  rcases hm with⟨rfl,rfl⟩ | rfl
  ·exact⟨_,.inl ⟨rfl,rfl,rfl⟩,fun fr' H hr=>ret _ (.inl rfl) fr' H hr⟩
  ·exact⟨_,.inr ⟨rfl,rfl⟩,fun fr' H hr=>ret _ (.inr rfl) fr' H hr⟩
 obtain⟨c'',h1,h2⟩:=hx cmode hm _ rfl
 obtain⟨hp,g,h3,fr',h4,h5⟩:=YL hA hφ (acs:=acs) h1 h hy
 refine .step ?_
 have e:xU C (.next ⟨⟨ctodo,ctm,⟨cfn,cn,⟨some (.func cl),0,cells⟩::ds,cmode,cdef,cround⟩⟩,acs,H⟩)=.next ⟨g,⟨ctodo,ctm,⟨cfn,cn,ds,cmode,cdef,cround⟩⟩::acs,H⟩:=by
  have e1:xU C (.next ⟨⟨ctodo,ctm,⟨cfn,cn,⟨some (.func cl),0,cells⟩::ds,cmode,cdef,cround⟩⟩,acs,H⟩)=Eb C ⟨some (.func cl),0,cells⟩ ds ⟨ctodo,ctm,⟨cfn,cn,⟨some (.func cl),0,cells⟩::ds,cmode,cdef,cround⟩⟩ acs H:=by
   rcases hm with⟨rfl,_⟩ | rfl<;>rfl
  rw[e1];unfold Eb;simp only[];rw[hp];simp only[];rw[h3];rfl
 rw[e];refine h4.trans (.step ?_)
 rw[h2 _ _ h5];exact .refl _
def SC{H:xA}{tm tm':Tm}:∀ {l:List ResultVar},(∀r∈l,∃a t,r=.cell a t/\tm'.get a=tm.get a)->vU C H tm' l=vU C H tm l:=by
 intro l;induction l with
 | nil=>exact fun _=>rfl
 | cons r l ih=>
  intro h;obtain⟨a,t,rfl,h1⟩:=h _ yby
  have ih:=ih fun r hr=>h r (ybr _ hr)
  show xH (kR C H tm') _=xH (kR C H tm) _
  rw[jP,jP];have e:kR C H tm' (.cell a t)=kR C H tm (.cell a t):=by
   show(ob (ob (tm'.get a) zA.asPtr) fun p=>ob (C.tys.get t) fun ty=>ob (mD H p.1) fun c=>wS ty c.1 p.2)=_
   rw[h1];rfl
  rw[e];have ih:xH (kR C H tm') l=xH (kR C H tm) l:=ih
  rw[ih]
def YU{l:List ResultVar}{o6:List Oper}(h:Nk l o6=true):∀r∈l,∃a t,r=.cell a t/\∀o∈o6,o.dst≠some a:=by
 unfold Nk at h;rw[nI,ycb]at h;intro r hr;have:=h r hr
 cases r with
 | tmp t=>cases this
 | cell a t=>
  refine⟨a,t,rfl,fun o ho e=>?_⟩
  have this:kB (fun o=>match o.dst with | some d => !Nat.beq d a | none=>true) o6=true:=this
  rw[nI,ycb]at this;have:=this o ho
  rw[e]at this;simp at this
def QB(hA:nX C A){φ:fE}(hφ:uR C φ){f:Nat}{fn:Func}{q:uQ}(hf:C.fns.get f=some fn)(hq:Fu q.o5.toList=some (q.d,q.cl,q.bs)){acs:List iB}{ds:List mH}{tm:Tm}{H:xA}{x:nH × xA}(h:oQ C A φ fn q tm H=some x) :
  Fin C (qR C f acs) ds (.next ⟨⟨[.code (.seq (.region q.i5 q.o5 false) (.seq (.region q.i6 q.o6 false) .ret))],tm,RR f fn.ntmps none ds⟩,acs,H⟩) x:=by
 unfold oQ at h;simp only[wB,tA,ybb]at h;obtain⟨⟨h1,h2,h3⟩,cells,h4,y,h5,h6⟩:=h
 have hc:=YU h1
 let I:Tm->Prop:=fun tm'=>∀r∈fn.results.toList,∃a t,r=.cell a t/\tm'.get a=tm.cut.get a
 let D:mH:=⟨some (.func q.cl),0,cells⟩
 let E6:oX:=fun _ o y=>if y.1.p=true then ∃fr,o=.next ⟨fr,acs,y.2⟩/\fr.R=⟨f,fn.ntmps,D::ds,.panicking [⟨y.1.v,false⟩],false,none⟩/\I fr.tm else qR C f acs false ds o y
 have close:∀(c:iB) (H:xA) (v:zA) (tm0:Tm) (z:nH × xA),c.R=⟨f,fn.ntmps,D::ds,c.R.mode,false,none⟩->((c.R.mode=.returning/\v=.niliface)\/c.R.mode=.panicking [⟨v,false⟩])->(∀r∈fn.results.toList,∃a t,r=.cell a t/\c.tm.get a=tm0.get a)->pM C A φ fn q.cl cells v tm0 H=some z->z.1.p=false/\∃o',dK C (.next ⟨c,acs,H⟩) o'/\qR C f acs false ds o' z:=by
  intro c H v tm0 z e1 e2 e3 e4;unfold pM at e4;rw[tA]at e4;obtain⟨w,e5,e6⟩:=e4
  rw[wB]at e6;unfold aU at e6;rw[tA]at e6;obtain⟨e7,l,e8,e9⟩:=e6
  cases e9
  have hd:c.R.defers=D::ds:=by rw[e1]
  have r1:=zd7 hA hφ (acs:=acs) hd e2 e5 (by simpa using e7)
  refine⟨rfl,_,r1,_,rfl,wQ.of ⟨rfl,rfl,by rw[e1],by rw[e1],fn,l,hf,?_,rfl⟩ rfl⟩
  show vU C w.2 c.tm fn.results.toList=some l
  rw[SC e3];exact e8
 refine .step ?_
 rw[vJ rfl];show Fin C (qR C f acs) ds (wM C q.o5 [.code (.seq (.region q.i6 q.o6 false) .ret)] (RR f fn.ntmps none ds) acs q.o5.toList tm.cut H) x
 rw[zag hq h4 (qC.1 h3)]
 refine .step ?_
 rw[vJ rfl];show Fin C (qR C f acs) ds (.next ⟨⟨[.code (.seq (.region q.i6 q.o6 false) .ret)],putA fn.ntmps tm.cut (some q.d) (.func (.func q.cl) [] cells),RR f fn.ntmps none (D::ds)⟩,acs,H⟩) x
 refine .step ?_
 rw[vJ rfl];show Fin C (qR C f acs) ds (wM C q.o6 [.code .ret] (RR f fn.ntmps none (D::ds)) acs q.o6.toList (putA fn.ntmps tm.cut (some q.d) (.func (.func q.cl) [] cells)).cut H) x
 rw[cutK (show tm.cut.k<=q.d from qE.1 h2)]
 have r6:Fin C E6 (D::ds) (wM C q.o6 [.code .ret] (RR f fn.ntmps none (D::ds)) acs q.o6.toList tm.cut.cut H) y:=by
  refine TQ hφ (I:=I) (N:=fn.ntmps) rfl rfl (fun l tm' hI hp=>?_) (fun tm' H' hI hy=>?_) _ _ _ (fun o ho tm' v hI r hr=>?_) (fun r hr=>?_) h5
  ·show if y.1.p=true then _ else _
   rw[yab hp];exact⟨_,rfl,rfl,hI⟩
  ·have:xU C (.next ⟨⟨[.code .ret],tm',RR f fn.ntmps none (D::ds)⟩,acs,H'⟩)=.next ⟨⟨[.code .ret],tm',⟨f,fn.ntmps,D::ds,.returning,false,none⟩⟩,acs,H'⟩:=rfl
   refine .step ?_
   rw[this];obtain⟨z1,o',z2,z3⟩:=close ⟨[.code .ret],tm',⟨f,fn.ntmps,D::ds,.returning,false,none⟩⟩ H' .niliface tm' y rfl (.inl ⟨rfl,rfl⟩) (fun r hr=>by obtain⟨a,t,rfl,_⟩:=hc r hr;exact⟨a,t,rfl,rfl⟩) hy
   refine⟨o',z2,?_⟩
   show if y.1.p=true then _ else _
   rw[z1,yaa (by simp)]
   exact z3
  ·obtain⟨a,t,rfl,h7⟩:=hI r hr
   obtain⟨a',t',e,h8⟩:=hc _ hr
   cases e
   exact⟨a,t,rfl,by rw[sJ,yaa (fun e=>h8 o ho e.1)];exact h7⟩
  ·obtain⟨a,t,rfl,_⟩:=hc r hr
   exact⟨a,t,rfl,rfl⟩
 obtain⟨o',g1,g2⟩:=r6
 have g2:if y.1.p=true then ∃fr,o'=.next ⟨fr,acs,y.2⟩/\fr.R=⟨f,fn.ntmps,D::ds,.panicking [⟨y.1.v,false⟩],false,none⟩/\I fr.tm else qR C f acs false ds o' y:=g2
 cases hp:y.1.p with
 | false=>
  rw[hp]at h6 g2;rw[yaa (by simp)]at g2
  have h6:some y=some x:=h6
  cases h6;exact⟨o',g1,g2⟩
 | true=>
  rw[hp]at h6 g2;rw[yab rfl]at g2;have h6:pM C A φ fn q.cl cells y.1.v tm.cut y.2=some x:=h6
  obtain⟨fr,rfl,e1,e2⟩:=g2
  obtain⟨_,o'',z2,z3⟩:=close fr y.2 y.1.v tm.cut x (by rw[e1]) (.inr (by rw[e1])) e2 h6
  exact⟨o'',g1.trans z2,z3⟩
def ZG(hA:nX C A){φ:fE}(hφ:uR C φ){f:Nat}{fn:Func}{c:pC}(hf:C.fns.get f=some fn){acs:List iB}{tm:Tm}{H:xA}{x:nH × xA}(h:zX C A φ f fn c tm H=some x) :
  Fin C (qR C f acs) [] (.next ⟨⟨[.code (bD c)],tm,RR f fn.ntmps none []⟩,acs,H⟩) x:=by
 unfold zX at h;split at h
 ·have hK:Ji C (qR C f acs) (fun _=>True) f fn.ntmps none acs (jO C fn) []:=⟨fun ds x tm H _ h=>Nb hf h rfl,fun ds x i tm H _ h=>(by cases h),fun ds x tm H _ h k'=>Nb hf h rfl⟩
  exact Sk hφ (Rw ⟨fn,hf⟩) c (jO C fn) [] (Or.inl rfl) hK [] x tm H trivial h
 ·rename_i p hp
  obtain⟨l,q⟩:=p
  obtain⟨h1,h2⟩:=QZ c hp
  rw[h1];clear h1 hp
  have key:∀(l:List pC) ds x tm H,oD C φ f fn.ntmps (sU l) (Bu C A φ fn q) tm H=some x->Fin C (qR C f acs) ds (.next ⟨⟨[.code (Mv l (.seq (.region q.i5 q.o5 false) (.seq (.region q.i6 q.o6 false) .ret)))],tm,RR f fn.ntmps none ds⟩,acs,H⟩) x:=by
   intro l;induction l with
   | nil=>exact fun ds x tm H h=>QB hA hφ hf h2 h
   | cons a l ih=>
    intro ds x tm H h;refine Rz (Rw ⟨fn,hf⟩) (t1:=[.code (Mv (a::l) _)]) rfl (t2:=.code (bD a)::[.code (Mv l (.seq (.region q.i5 q.o5 false) (.seq (.region q.i6 q.o6 false) .ret)))]) (fun _ _=>rfl) ?_
    have hK:Ji C (qR C f acs) (fun _=>True) f fn.ntmps none acs ⟨oD C φ f fn.ntmps (sU l) (Bu C A φ fn q),fun _ _ _=>none,aU C fn⟩ [.code (Mv l (.seq (.region q.i5 q.o5 false) (.seq (.region q.i6 q.o6 false) .ret)))]:=
     ⟨fun ds x tm H _ h=>ih ds x tm H h,fun ds x i tm H _ h=>(by cases h),fun ds x tm H _ h k'=>Nb hf h rfl⟩
    exact Sk hφ (Rw ⟨fn,hf⟩) a _ _ (Or.inl rfl) hK ds x tm H trivial h
  exact key l [] x tm H h
theorem QW(hA:nX C A){φ:fE}(hφ:uR C φ):uR C (Ee C A φ):=by
 refine⟨fun f args H x h=>?_,fun l args H x h=>RZ hφ h⟩
 have h:qS C A φ f args H=some x:=h
 unfold qS at h;rw[tA]at h;obtain⟨c,h1,h⟩:=h
 rw[tA]at h;obtain⟨fn,h2,h⟩:=h
 rw[tA]at h;obtain⟨g,h3,h⟩:=h
 refine⟨g,h3,fun acs=>?_⟩
 obtain⟨fn',c',e1,e2,e3,e4⟩:=XR h3
 rw[h2]at e1;cases e1
 obtain⟨fn',e5,e6⟩:=hA f c h1
 rw[h2]at e5;cases e5
 rw[e2]at e6;cases e6
 obtain⟨gt,gtm,gR⟩:=g
 simp only at e3 e4 h
 subst e3 e4
 obtain⟨o',k1,fr',rfl,k2⟩:=ZG hA hφ h2 (acs:=acs) h
 grind
def GM(hA:nX C A):∀n,uR C (Ce C A n):=by
 intro n;induction n with
 | zero=>exact⟨fun f args H x h=>(by cases h),fun l args H x h=>(by cases h)⟩
 | succ n ih=>exact QW hA ih
def WS(hA:nX C A):uR C (dC C A):=by
 refine⟨fun f args H x h=>?_,fun f args H x h=>?_⟩
 ·obtain⟨n,hn⟩:=Fl.1 h
  exact(GM hA n).fn _ _ _ _ hn
 ·obtain⟨n,hn⟩:=Fl.1 h
  exact(GM hA n).rd _ _ _ _ hn
theorem YV{P:Program}{B N:Nat}{I:World->Prop}{μ:Mu}{w:World}(hS:eK P C B N I)(hI:I w)(hA:nX C A){f:Nat}{args:List zA}{args':Array Value}{H H':xA}{v:zA}(hH:vB B N μ H w)(hl:rB μ args args'.toList)
  (h:dC C A (.func f) args H=some (⟨v,false⟩,H')):Calls P f args' w fun e w'=>∃v' μ',e=.returned v'/\μ.lw μ'/\uA μ' v v'/\vB B N μ' H' w'/\Below N w w':=by
 intro base;obtain⟨g,he,hr⟩:=(WS hA).fn _ _ _ _ h
 obtain⟨fr',r1,hE⟩:=hr []
 obtain⟨h1,h2,h3,h4,fn,l,h5,h6,rfl⟩:=hE.ret rfl
 have h0:eD P C B N μ base (lone (Frame.enter P f args' .normal) base w) w (.next ⟨g,[],H⟩):=Vv hS.fns hH hl he
 obtain⟨μ',b,cs,w',s1,s2,s3,s4,s5,s6⟩:=eD.reach hS hI r1 h0
 cases s6
 have hb:=s5.body
 rw[yaa (by grind [pV.running])]at hb
 obtain⟨v',q1,q2⟩:=ES hS.tys s4 hb h6
 have hm:=s5.rest.mode
 rw[h1]at hm;have hbm:b.mode=.returning:=by
  cases hb:b.mode with
  | returning=>rfl
  | _=>rw[hb]at hm;exact hm.elim
 have hd:=s5.rest.defers
 rw[h2]at hd;have hbd:b.defers=[]:=by
  generalize hx:b.defers=bd at hd
  cases hd;rfl
 have hk:=s5.rest.kind
 rw[h3]at hk;have hfn:b.fn=f:=by rw[s5.rest.fn,h4]
 exact⟨.returned v',w',b,⟨v',μ',rfl,s2,q2,s4,s3⟩,s1,hfn,hbm,hbd,hk,fn,by rw[hfn];exact(hS.fns _ _ h5).1,q1⟩
end
end
section
def mA(C:lA)(t:Nat)(H:xA)(v:zA):Option zA:=ob v.asPtr fun p=>ob (C.tys.get t) fun ty=>ob (mD H p.1) fun c=>wS ty c.1 p.2
def Bj(C:lA)(s d:Nat)(H:xA)(a:zA):Option zA:=ob (C.tys.get s) fun s=>ob (C.tys.get d) fun d=>wV C s d a H
def vG(C:lA)(t:Nat)(H:xA)(a:zA)(l h:Option zA):Option zA:=ob (C.tys.get t) fun ty=>dN C H ty a l h
def Tx(C:lA)(s f:Nat):Option Nat:=ob (C.tys.get s) fun ty=>ob ty.desc.asStruct fun fs=>ob (vD fs f) fun fd=>xB (!Nat.beq fd.2.2 0) (some fd.1)
def mC(C:lA)(s f:Nat)(v:zA):Option zA:=ob (Tx C s f) fun k=>ob v.asPtr fun p=>some (.ptr p.1 (p.2+k))
def sC(C:lA)(t:Nat)(v i:zA):Option zA:=
 ob (C.tys.get t) fun ty=>ob i.asNat fun i=>
  match v.asSlice with
  | some s=>ob ty.desc.asSlice fun el=>ob (C.tys.get el) fun et=>xB (Nat.blt i s.2.2.1) (some (.ptr s.1 (s.2.1+i*et.size)))
  | none=>ob v.asPtr fun p=>ob ty.desc.asArr fun a=>ob (C.tys.get a.2) fun et=>xB (Nat.blt i a.1) (some (.ptr p.1 (p.2+i*et.size)))
def BT(C:lA)(t i:Nat):Option Nat:=ob (C.tys.get t) fun ty=>ob ty.desc.asArr fun a=>ob (C.tys.get a.2) fun et=>xB (Nat.blt i a.1) (some (i*et.size))
def sI(C:lA)(t:Nat)(v i:zA):Option zA:=
 ob (C.tys.get t) fun ty=>ob i.asNat fun i=>
  match v.asStr with
  | some s=>xB ty.desc.isString (ob (vD s i) fun b=>some (.int .u8 (.ofNat b)))
  | none=>ob v.asAgg fun l=>ob ty.desc.asArr fun a=>ob (C.tys.get a.2) fun et=>xB (Nat.blt i a.1) (jQ C a.2 l (i*et.size))
def bF(i:Nat)(v:zA):Option zA:=ob v.asTup fun l=>vD l i
def zU (C:lA)(t:Nat)(H:xA)(v:zA):Option zA:=ob (C.tys.get t) fun ty=>ob (oU H ty v) fun n=>some (.int .i64 (.ofNat n))
def oC(v:zA):Option zA:=
 match v.asSlice with
 | some s=>some (.int .i64 (.ofNat s.2.2.1))
 | none=>xB (Nat.beq v.tag 5) (some (.int .i64 (.ofNat 0)))
def rF (v:zA):Option zA:=xB (Nat.beq v.tag 4||Nat.beq v.tag 9) (some v)
def Dx(C:lA)(u:Nat)(ok:Bool)(v:zA):Option zA:=
 ob (C.tys.get u) fun ty=>xB (Nat.blt ty.desc.tag 9) (
  match v.asIface with
  | some p=>bif Nat.beq p.1 u then some (bif ok then .tup [p.2,.bool true]else p.2)else xB ok (some (.tup [mX ty,.bool false]))
  | none=>xB (Nat.beq v.tag 12&&ok) (some (.tup [mX ty,.bool false])))
def fX(C:lA)(t:Nat)(H:xA)(m k:zA)(ok:Bool):Option zA:=
 ob (C.tys.get t) fun ty=>ob ty.desc.asMap fun ke=>ob (C.tys.get ke.1) fun kty=>xB (kU C kty) (ob (C.tys.get ke.2) fun ety=>
  ob (xW H m) fun es=>xB (tS C kty k) (ob (sL k es) fun r=>
   match r with
   | some v=>some (bif ok then .tup [v,.bool true]else v)
   | none=>some (bif ok then .tup [mX ety,.bool false]else mX ety)))
def rI(C:lA)(t:Nat)(H:xA):Option (zA × xA):=ob (C.tys.get t) fun ty=>some (.ptr H.next 0,fF H ty.zero none)
def xM (v:zA)(H:xA):Option (zA × xA):=some (.ptr H.next 0,fF H v.cells none)
def Dy(C:lA)(t:Nat)(H:xA):Option (zA × xA):=ob (C.tys.get t) fun ty=>some (.ptr H.next 0,fF H ty.zero (jK C t))
def zhf(C:lA)(t:Nat)(v:zA)(H:xA):Option (zA × xA):=some (.ptr H.next 0,fF H v.cells (jK C t))
def eC(C:lA)(t len:Nat)(ps:List (Nat × zA))(H:xA):Option (zA × xA):=
 ob (C.tys.get t) fun ty=>ob ty.desc.asSlice fun el=>ob (C.tys.get el) fun et=>
  xB (Nat.blt (len*et.size) 1000000&&Nat.beq (zB et.zero) et.size) (ob (dL (fun i=>some (i*et.size,et.size)) ps (pI et.zero len)) fun l=>some (.slice H.next 0 len len,fF H l none))
def lB(C:lA)(t:Nat)(a v:zA)(H:xA):Option (zA × xA):=ob (C.tys.get t) fun ty=>ob a.asPtr fun p=>xB (Nat.beq (zB v.cells) ty.size) (ob (mJ C H p.1 p.2 v.cells) fun H'=>some (jD,H'))
def Ol(H:xA):Option (zA × xA):=some (.map H.next,newBlk H (.map []))
def cS(C:lA)(t:Nat)(m k v:zA)(H:xA):Option (zA × xA):=
 ob (C.tys.get t) fun ty=>ob ty.desc.asMap fun ke=>ob (C.tys.get ke.1) fun kty=>xB (kU C kty)
  (ob m.asMap fun b=>xB (!Nat.blt b C.base) (ob (rL H b) fun l=>xB (tS C kty k) (ob (bN k v l) fun l'=>some (jD,setBlk H b (.map l')))))
def oP(C:lA)(t:Nat)(l c:zA)(H:xA):Option (zA × xA):=
 ob (C.tys.get t) fun ty=>ob ty.desc.asSlice fun el=>ob (C.tys.get el) fun et=>ob l.asNat fun l=>ob c.asNat fun c=>
  xB (Nat.ble l c&&Nat.blt c 1000000&&Nat.blt (c*et.bytes) 1000000000&&Nat.beq (zB et.zero) et.size) (some (.slice H.next 0 l c,fF H (pI et.zero c) none))
def Tw(C:lA)(s d:Nat)(v:zA)(H:xA):Option (zA × xA):=
 ob (C.tys.get s) fun _=>ob (C.tys.get d) fun ty=>ob ty.desc.asSlice fun el=>ob (C.tys.get el) fun et=>ob et.desc.asInt fun k=>xB (tN k .u8) (ob v.asStr fun l=>
  some (.slice H.next 0 (zB l) (zB l),fF H (oY l) (some (.ty el))))
def fG(C:lA)(t u:Nat)(a b:zA)(H:xA):Option (zA × xA):=ob (C.tys.get t) fun ty=>ob (C.tys.get u) fun uty=>xB (!Nat.beq uty.desc.tag 1) (wX C H ty a b)
def vNext(v:zA)(H:xA):Option (zA × xA):=ob v.asPtr fun p=>xB (Nat.beq p.2 0) (ob (ob (H.t.get p.1) vA.asIter) fun x=>
 match vD x.1 x.2 with
 | some c=>xB (Nat.blt c 128) (some (.tup [.bool true,.int .i64 (.ofNat x.2),.int .i32 (.ofNat c)],setBlk H p.1 (.siter x.1 (x.2+1))))
 | none=>some (.tup [.bool false],H))
structure zH where
 b:Nat->Bool
 i:Nat->Int
 s:Nat->List Nat
 v:Nat->zA
inductive T where
 | ret (v:zA)
 | fail
 | ite (b:Bool) (x y:T)
 | opt (x:Option zA) (K:zA->T)
 | light (x:Tr vA->Option zA) (K:zA->T)
 | heavy (x:xA->Option (zA × xA)) (K:zA->T)
 | call (f:Nat) (args:List zA) (K:zA->T)
 | callv (f:zA) (args:List zA) (K:zA->T)
 | asI (k:IntKind) (v:zA) (K:Int->T)
 | asB (v:zA) (K:Bool->T)
 | asS (v:zA) (K:List Nat->T)
 | asG (zs:List zA) (v:zA) (K:zH->T)
 | jump (i:Nat) (vals:List zA)
 | range (np:Nat->Bool) (f:zA) (i m:Nat) (vals:List zA) (K R:T)
def yo:Nat:=1099511627776
def pn:Nat:=1099511627775
def Xx(z:zA)(X:zH)(j:Nat):zA:=
 match z with
 | .bool _=>.bool (X.b j)
 | .int k _=>.int k (X.i j)
 | .str _=>.str (X.s j)
 | _=>X.v j
def jZ(zs:List zA)(X:zH):Nat->List zA:=
 List.rec (motive:=fun _=>Nat->List zA) (fun _=>[]) (fun z _ g j=>Xx z X j::g (j+1)) zs
def Ja(l:List zA)(j:Nat):Bool:=match l[j]? with | some (.bool b)=>b | _=>false
def zj1(l:List zA)(j:Nat):Int:=match l[j]? with | some (.int _ n)=>n | _=>0
def strAt(l:List zA)(j:Nat):List Nat:=match l[j]? with | some (.str s)=>s | _=>[]
def Ki(l:List zA)(j:Nat):zA:=match l[j]? with | some v=>v | _=>.nilptr
def cellsOf(l:List zA):zH:=⟨Ja l,zj1 l,strAt l,Ki l⟩
def Ai (z a:zA):Bool:=
 match z with
 | .bool _=>Nat.beq a.tag 0
 | .int k _=>match a.asIntK with | some p=>tN p.1 k | none=>false
 | .str _=>Nat.beq a.tag 2
 | .nilptr=>Nat.beq a.tag 3||Nat.beq a.tag 4
 | .nilslice=>Nat.beq a.tag 5||Nat.beq a.tag 6
 | .nilmap=>Nat.beq a.tag 7||Nat.beq a.tag 8
 | .nilfunc=>Nat.beq a.tag 10||Nat.beq a.tag 9
 | .niliface=>Nat.beq a.tag 12||Nat.beq a.tag 11
 | _=>false
def oS:List zA->List zA->Bool
 | [],[]=>true
 | z::zs,a::l=>Ai z a&&oS zs l
 | _,_=>false
structure aG where
 tm:Tm
 ad:List (Nat × Nat × Nat)
 lo:Tr (List zA)
 lit:List Nat
abbrev KT:=aG->T
structure KtT where
 norm:KT
 exit:Nat->KT
 ret:KT
def zC {α:Type}(x:Option α)(K:α->T):T:=Option.rec (motive:=fun _=>T) .fail K x
def gK (b:Bool)(K:T):T:=Bool.rec (motive:=fun _=>T) .fail K b
def bL(i:Nat)(l:List (Nat × Nat × Nat)):Option (Nat × Nat):=
 List.rec (motive:=fun _=>Option (Nat × Nat)) none (fun a _ g=>Bool.rec (motive:=fun _=>Option (Nat × Nat)) g (some a.2) (Nat.beq i a.1)) l
inductive mO where
 | now (ad:List (Nat × Nat × Nat))
 | mixed (ad old:List (Nat × Nat × Nat)) (olds names:List Nat)
def tAd (e:mO)(t:Nat):Option (Nat × Nat):=
 match e with
 | .now ad=>bL t ad
 | .mixed ad old olds names=>bif dH t names then bL t (bif dH t olds then old else ad)else none
def xAd (e:mO)(x:Operand):Option (Nat × Nat):=
 match x with
 | .tmp t=>tAd e t
 | _=>none
def wN:xA:=⟨0,.leaf⟩
def zI (C:lA)(t:Nat):Nat:=
 match C.tys.get t with
 | some ty=>ty.desc.tag
 | none=>10
def Yx(x:Operand):Bool:=
 match x with
 | .const _=>true
 | _=>false
def MI(x:Operand):Bool:=
 match x with
 | .const (.int _ n) => !aB n 0
 | _=>false
def binDir(C:lA)(op:BinOp)(t:Nat)(y:Operand):Bool:=
 match op with
 | .add=>Nat.beq (zI C t) 1
 | .sub=>true
 | .mul=>true
 | .quo=>MI y
 | .rem=>MI y
 | .shl=>Yx y
 | .shr=>Yx y
 | .eql=>Nat.ble (zI C t) 2
 | .neq=>Nat.ble (zI C t) 2
 | .lss=>Nat.ble (zI C t) 2
 | .leq=>Nat.ble (zI C t) 2
 | .gtr=>Nat.ble (zI C t) 2
 | .geq=>Nat.ble (zI C t) 2
 | _=>false
structure xN where
 K:zA->T
 Kd:zA->T
 KA:Nat->Nat->T
def lR (C:lA)(op:Op)(e:yD)(k:xN):T:=zC ((eF op).f C e wN) k.Kd
def Pc(C:lA)(op:Op)(x:Operand)(e:yD)(ae:mO)(k:xN):T:=
 match xAd ae x with
 | some p=>k.KA p.1 p.2
 | none=>lR C op e k
def tLoad(C:lA)(t:Nat)(a:Operand)(e:yD)(ae:mO)(lo:Tr (List zA))(k:xN):T:=
 match xAd ae a with
 | some p=>zC (lo.get p.1) fun l=>zC (C.tys.get t) fun ty=>gK (Nat.ble (p.2+ty.size) (zB l)) (zC (jQ C t l p.2) k.Kd)
 | none=>zC (ev a e) fun v=>.light (fun m=>mA C t ⟨0,m⟩ v) k.K
def CP(C:lA)(s:Nat)(x:Operand)(f:Nat)(e:yD)(ae:mO)(k:xN):T:=
 match xAd ae x with
 | some p=>zC (Tx C s f) fun o=>k.KA p.1 (p.2+o)
 | none=>zC (ev x e) fun v=>.opt (mC C s f v) k.K
def CN(C:lA)(t:Nat)(x i:Operand)(e:yD)(ae:mO)(k:xN):T:=
 match xAd ae x with
 | some p=>zC (ev i e) fun i=>zC i.asNat fun i=>zC (BT C t i) fun o=>k.KA p.1 (p.2+o)
 | none=>zC (ev x e) fun v=>zC (ev i e) fun i=>.opt (sC C t v i) k.K
def tNil (x:Operand)(e:yD)(ae:mO)(k:xN):T:=
 match xAd ae x with
 | some p=>k.KA p.1 p.2
 | none=>zC (ev x e) fun v=>.opt (rF v) k.K
def tLen (C:lA)(c:Call)(e:yD)(k:xN):T:=
 zC (vD c.argTypes.toList 0) fun t=>zC (vD c.args.toList 0) fun x=>zC (ev x e) fun v=>
  bif Nat.beq (zI C t) 4 then .opt (oC v) k.K else bif Nat.beq (zI C t) 6 then .light (fun m=>zU C t ⟨0,m⟩ v) k.K else zC (zU C t wN v) k.Kd
def tBin (C:lA)(op:BinOp)(t:Nat)(x y:Operand)(u:Nat)(e:yD)(k:xN):T:=
 bif binDir C op t y then lR C (.binOp op t x y u) e k else zC (ev x e) fun a=>zC (ev y e) fun b=>.opt ((aP op).f C t x y a b) k.K
def zhy(C:lA)(s d:Nat)(x:Operand)(e:yD)(k:xN):T:=
 bif Nat.beq (zI C d) 2 then(bif Nat.beq (zI C s) 2 then lR C (.convert s d x) e k else zC (ev x e) fun v=>.light (fun m=>Bj C s d ⟨0,m⟩ v) k.K)else bif Nat.beq (zI C d) 1 then lR C (.convert s d x) e k else .fail
def zet(C:lA)(t:Nat)(x:Operand)(lo hi:Option Operand)(e:yD)(k:xN):T:=
 zC (ev x e) fun a=>zC (kT lo e) fun l=>zC (kT hi e) fun h=>
  bif Nat.beq (zI C t) 2 then .opt (vG C t wN a l h) k.K else .light (fun m=>vG C t ⟨0,m⟩ a l h) k.K
def Ko(C:lA)(c:Call)(e:yD)(k:xN):Builtin->T
 | .len=>tLen C c e k
 | .max=>lR C (.call c) e k
 | .min=>lR C (.call c) e k
 | _=>.fail
def Iw(ty:nD)(v:zA):List zA:=bif ty.desc.isAgg then v.cells else [v]
def zkb(cells:List zA)(off size:Nat)(vc:List zA):Option (List zA):=
 xB (Nat.beq (zB vc) size&&Nat.ble (off+zB vc) (zB cells)) (some (iD (gZ cells off) (iD vc (dQ cells (off+zB vc)))))
def Xf(C:lA)(tyAt:Nat->Option Nat):List (Nat × zA)->Option (List (Nat × zA × List zA) × List zA):=
 List.rec (motive:=fun _=>Option (List (Nat × zA × List zA) × List zA)) (some ([],[]))
  (fun p _ g=>ob (tyAt p.1) fun t=>ob (C.tys.get t) fun ty=>ob g fun r=>some (bif ty.desc.isAgg then((p.1,p.2,p.2.cells)::r.1,r.2)else((p.1,p.2,[p.2])::r.1,p.2::r.2)))
def Sb(place:Nat->Option (Nat × Nat)):List (Nat × zA × List zA)->List zA->Option (List zA):=
 List.rec (motive:=fun _=>List zA->Option (List zA)) (fun cells=>some cells) (fun p _ g cells=>ob (place p.1) fun q=>ob (zkb cells q.1 q.2 p.2.2) fun cells=>g cells)
def tyAtS(ty:nD)(i:Nat):Option Nat:=
 match ty.desc.asStruct with
 | some fs=>ob (vD fs i) fun x=>some x.2.1
 | none=>ob ty.desc.asArr fun a=>some a.2
def Hl(C:lA)(ty:nD)(i:Nat):Option (Nat × Nat):=
 match ty.desc.asStruct with
 | some fs=>ob (vD fs i) fun x=>some (x.1,x.2.2)
 | none=>ob ty.desc.asArr fun a=>ob (C.tys.get a.2) fun et=>some (i*et.size,et.size)
def NN(C:lA)(ty:nD):Bool:=
 match ty.desc.asStruct with
 | some _=>true
 | none=>match ty.desc.asArr with
  | some a=>(match C.tys.get a.2 with | some _=>true | none=>false)
  | none=>false
def zev(C:lA)(t:Nat)(ps:Array (Nat × Operand))(e:yD)(k:xN):T:=
 zC (C.tys.get t) fun ty=>gK (NN C ty) <| zC (lT ps.toList e) fun vs=>zC (Xf C (tyAtS ty) vs) fun q=>zC (Sb (Hl C ty) q.1 ty.zero) fun l=>.ite (kB zA.one q.2) (k.Kd (.agg l)) .fail
def tL (C:lA)(op:Op)(e:yD)(ae:mO)(lo:Tr (List zA))(k:xN):T:=
 match op with
 | .move x=>Pc C (.move x) x e ae k
 | .assign x=>Pc C (.assign x) x e ae k
 | .load t a=>tLoad C t a e ae lo k
 | .fieldAddr s x f=>CP C s x f e ae k
 | .indexAddr t x i=>CN C t x i e ae k
 | .nilCheck x=>tNil x e ae k
 | .binOp op t x y u=>tBin C op t x y u e k
 | .convert s d x=>zhy C s d x e k
 | .slice t x lo hi none=>zet C t x lo hi e k
 | .index t x i=>bif Yx i&&Nat.beq (zI C t) 5 then lR C (.index t x i) e k else zC (ev x e) fun v=>zC (ev i e) fun i=>.opt (sI C t v i) k.K
 | .extract t i=>zC (ev t e) fun v=>.opt (bF i v) k.K
 | .typeAssert x _ u ok=>zC (ev x e) fun v=>.opt (Dx C u ok v) k.K
 | .lookup t x i ok=>zC (ev x e) fun m=>zC (ev i e) fun key=>.light (fun h=>fX C t ⟨0,h⟩ m key ok) k.K
 | .call c=>match c.callee with
  | .builtin b=>Ko C c e k b
  | _=>.fail
 | .pick c a b=>lR C (.pick c a b) e k
 | .unOp o t x=>(match o with
  | .xor=>zC (ev x e) fun v=>.opt (Dz v) k.K
  | o=>lR C (.unOp o t x) e k)
 | .makeInterface t x=>lR C (.makeInterface t x) e k
 | .makeFunc fn a b=>lR C (.makeFunc fn a b) e k
 | .field t x f=>lR C (.field t x f) e k
 | .build t ps=>zev C t ps e k
 | _=>.fail
def laOf (la:List Nat)(dst:Option Nat):Option Nat:=
 match dst with
 | some d=>bif dH d la then some d else none
 | none=>none
structure KLo where
 new:Nat->List zA->T
 set:Nat->List zA->T
def zeu(f:Operand)(args:Array Operand)(e:yD)(k:xN):T:=
 match f with
 | .func g=>gK (Nat.blt g pn) (zC (wO args.toList e) fun aq=>.call g aq k.K)
 | f=>zC (ev f e) fun fv=>zC (wO args.toList e) fun aq=>.callv fv aq k.K
def two' (c:Call)(e:yD)(K:zA->zA->T):T:=zC (two c e) fun p=>K p.1 p.2
def CO(C:lA)(c:Call)(e:yD)(k:xN):Builtin->T
 | .append=>zC (vD c.argTypes.toList 0) fun t=>zC (vD c.argTypes.toList 1) fun u=>two' c e fun a b=>.heavy (fG C t u a b) k.K
 | b=>Ko C c e k b
def zes(C:lA)(t:Nat)(a x:Operand)(e:yD)(ae:mO)(lo:Tr (List zA))(k:xN)(kl:KLo):T:=
 match xAd ae a with
 | some p=>zC (ev x e) fun v=>zC (C.tys.get t) fun ty=>zC (lo.get p.1) fun l=>zC (zkb l p.2 ty.size (Iw ty v)) fun l'=>.ite (kB zA.one (Iw ty v)) (kl.set p.1 l') .fail
 | none=>zC (ev a e) fun a=>zC (ev x e) fun v=>.heavy (lB C t a v) k.Kd
def tH (C:lA)(la:List Nat)(dst:Option Nat)(op:Op)(e:yD)(ae:mO)(lo:Tr (List zA))(k:xN)(kl:KLo):T:=
 match op with
 | .box t x=>bif tE (jK C t)then zC (ev x e) fun v=>(match laOf la dst with
  | some d=>zC (C.tys.get t) fun ty=>bif ty.desc.isAgg then kl.new d v.cells else .ite (zA.one v) (kl.new d [v]) .fail
  | none=>.heavy (xM v) k.K)else zC (ev x e) fun v=>.heavy (zhf C t v) k.K
 | .alloc t=>bif tE (jK C t)then(match laOf la dst with
  | some d=>zC (C.tys.get t) fun ty=>kl.new d ty.zero
  | none=>.heavy (rI C t) k.K)else .heavy (Dy C t) k.K
 | .store t a x=>zes C t a x e ae lo k kl
 | .buildSlice t len ps=>zC (lT ps.toList e) fun ps=>.heavy (eC C t len ps) k.K
 | .makeMap _ none=>.heavy Ol k.K
 | .insert t m key x=>zC (ev m e) fun m=>zC (ev key e) fun key=>zC (ev x e) fun v=>.heavy (cS C t m key v) k.Kd
 | .mapUpdate t m key x=>zC (ev m e) fun m=>zC (ev key e) fun key=>zC (ev x e) fun v=>.heavy (cS C t m key v) k.Kd
 | .makeSlice t l c=>zC (ev l e) fun l=>zC (ev c e) fun c=>.heavy (oP C t l c) k.K
 | .convert s d x=>bif Nat.beq (zI C d) 4 then zC (ev x e) fun v=>.heavy (Tw C s d v) k.K else zhy C s d x e k
 | .call c=>match c.callee with
  | .value f=>zeu f c.args e k
  | .builtin b=>CO C c e k b
  | _=>.fail
 | .panic x=>zC (ev x e) fun v=>zC v.asIface fun p=>.call pn [.iface p.1 p.2] k.K
 | op=>tL C op e ae lo k
def rmNat(i:Nat)(l:List Nat):List Nat:=List.rec (motive:=fun _=>List Nat) [] (fun j _ g=>bif Nat.beq i j then g else j::g) l
def mR (n:Nat)(dst:Option Nat)(v:zA)(lt:Bool)(st:aG)(κ:KT):T:=
 match dst with
 | none=>κ st
 | some d=>bif Nat.blt d n then gK (tE (bL d st.ad)) (κ ⟨st.tm.set d v,st.ad,st.lo,bif lt then d::rmNat d st.lit else rmNat d st.lit⟩)else κ st
def zhv(n:Nat)(dst:Option Nat)(d off:Nat)(st:aG)(κ:KT):T:=
 zC dst fun i=>gK (Nat.blt i n) (gK (tE (st.tm.get i)) (κ ⟨st.tm,(i,d,off)::st.ad,st.lo,st.lit⟩))
def zfn(d:Nat)(ad:List (Nat × Nat × Nat)):Bool:=kB (fun a=>bif Nat.beq a.2.1 d then Nat.beq a.1 d else true) ad
def tNew (n:Nat)(d:Nat)(l:List zA)(st:aG)(κ:KT):T:=
 gK (Nat.blt d n) (gK (tE (st.tm.get d)) (gK (zfn d st.ad) (κ ⟨st.tm,(d,d,0)::st.ad,st.lo.set d l,st.lit⟩)))
def Im (C:lA)(t:Nat)(v:zA):Bool:=
 match C.tys.get t with
 | some ty=>(match ty.desc with
  | .bool=>Nat.beq v.tag 0
  | .int k=>(match v.asIntK with | some p=>tN p.1 k | none=>false)
  | .string=>Nat.beq v.tag 2
  | _=>true)
 | none=>true
def Kn(C:lA)(t:Nat)(v:zA)(K:zA->T):T:=
 match C.tys.get t with
 | some ty=>(match ty.desc with
  | .bool=>.asB v fun b=>K (.bool b)
  | .int k=>.asI k v fun n=>K (.int k n)
  | .string=>.asS v fun s=>K (.str s)
  | .struct _=>bif Nat.ble (zB ty.zero) 40 then .asG ty.zero v fun X=>K (.agg (jZ ty.zero X 0))else K v
  | .arr _ _=>bif Nat.ble (zB ty.zero) 40 then .asG ty.zero v fun X=>K (.agg (jZ ty.zero X 0))else K v
  | _=>K v)
 | none=>K v
def Ci (x:Operand)(lit:List Nat):Bool:=
 match x with
 | .tmp t=>lit.contains t
 | .const _=>true
 | _=>false
def Qy(op:Op)(e:yD)(lit:List Nat):Bool:=
 match op with
 | .move x=>Ci x lit
 | .assign x=>Ci x lit
 | .unOp _ _ x=>Ci x lit
 | .pick c a b=>bif Ci c lit then(match ob (ev c e) zA.asBool with
  | some w=>bif w then Ci a lit else Ci b lit
  | none=>false)else false
 | _=>false
def Rm(all:List Oper)(dst:Option Nat)(l:List Oper):Bool:=
 match dst with
 | none=>false
 | some d => !kB (fun o=>match o.guard with
  | some g=>(match ob (vD all g.1) fun p=>p.dst with | some i => !Nat.beq i d | none=>true)
  | none=>true) l
def Gw(g lt:Bool)(v:zA)(K:zA->Bool->T):T:=
 bif g then(bif lt then K v true else zC v.asBool fun b=>.ite b (K (.bool true) true) (K (.bool false) true))else K v lt
def kop (C:lA)(all:Array Oper)(n:Nat)(o:Oper)(e:yD)(st:aG)(κ:KT):xN:=
 ⟨fun v=>Kn C o.type v fun v=>Gw (Rm all.toList o.dst all.toList) (Qy o.op e st.lit) v fun v lt=>mR n o.dst v lt st κ,
  fun v=>gK (Im C o.type v) (Gw (Rm all.toList o.dst all.toList) (Qy o.op e st.lit) v fun v lt=>mR n o.dst v lt st κ),
  fun d off=>gK (!Nat.ble (zI C o.type) 2) (zhv n o.dst d off st κ)⟩
def klo (C:lA)(n:Nat)(o:Oper)(st:aG)(κ:KT):KLo:=
 ⟨fun d l=>gK (!Nat.ble (zI C o.type) 2) (tNew n d l st κ),
  fun d l=>gK (Im C o.type jD) (mR n o.dst jD false ⟨st.tm,st.ad,st.lo.set d l,st.lit⟩ κ)⟩
def yD.adCut(k:Nat)(l:List (Nat × Nat × Nat)):List (Nat × Nat × Nat):=l.filter fun a=>Nat.blt a.1 k
def aG.cut(st:aG):aG:=⟨st.tm.cut,yD.adCut st.tm.k st.ad,st.lo,st.lit⟩
def tops (C:lA)(la:List Nat)(all:Array Oper)(n:Nat)(κ:KT)(l:List Oper):KT:=
 List.rec (motive:=fun _=>KT) κ
  (fun o _ g st=>zC (wG o.guard all st.tm) fun w=>Bool.rec (motive:=fun _=>T) (mR n o.dst jD false st g)
   (tH C la o.dst o.op (.now st.tm) (.now st.ad) st.lo (kop C all n o (.now st.tm) st g) (klo C n o st g)) w) l
def gQ (st old:aG)(olds:List Nat)(op:Op):yD:=.mixed st.tm old.tm olds (eH op)
def iZ (st old:aG)(olds:List Nat)(op:Op):mO:=.mixed st.ad old.ad olds (eH op)
def aS(C:lA)(all:Array Oper)(n:Nat)(old:aG)(olds:List (Nat × List Nat))(κ:KT)(l:List Nat):KT:=
 List.rec (motive:=fun _=>KT) κ
  (fun i _ g st=>zC (vD all.toList i) fun o=>zC (wG o.guard all st.tm) fun w=>Bool.rec (motive:=fun _=>T) (mR n o.dst jD false st g)
   (tL C o.op (gQ st old (oF i olds) o.op) (iZ st old (oF i olds) o.op) st.lo (kop C all n o (gQ st old (oF i olds) o.op) st g)) w) l
def bX(C:lA)(all:Array Oper)(old:aG)(olds:List (Nat × List Nat))(st:aG)(k:T)(l:List Nat):T:=
 List.rec (motive:=fun _=>T) k
  (fun i _ g=>zC (vD all.toList i) fun o=>zC o.dst fun d=>zC (wG o.guard all st.tm) fun w=>Bool.rec (motive:=fun _=>T) g
   (zC (st.tm.get d) fun u=>gK (Im C o.type u) (tL C o.op (gQ st old (oF i olds) o.op) (iZ st old (oF i olds) o.op) st.lo ⟨fun v=>.ite (same 10 v u) g .fail,fun v=>.ite (same 10 v u) g .fail,fun _ _=>.fail⟩)) w) l
def Gs(C:lA)(es:List kN)(H:xA):Option (zA × xA):=ob (Af C es H) fun H'=>some (jD,H')
def tEff (op:Op)(e:yD)(ae:mO):Option kN:=
 match op with
 | .store t a x=>(match xAd ae a with
  | some _=>none
  | none=>Ao (.store t a x) e)
 | op=>Ao op e
def Pd(all:Array Oper)(old:aG)(olds:List (Nat × List Nat))(st:aG)(l:List Nat):Option (List kN):=
 xH (fun i=>ob (vD all.toList i) fun o=>ob (wG o.guard all st.tm) fun w=>xB w (tEff o.op (gQ st old (oF i olds) o.op) (iZ st old (oF i olds) o.op))) l
def Bl(C:lA)(all:Array Oper)(n:Nat)(old:aG)(olds:List (Nat × List Nat))(κ:KT)(l:List lG):KT:=
 List.rec (motive:=fun _=>KT) κ
  (fun s _ g st=>Bool.rec (motive:=fun _=>T) (zC (vD all.toList (sN all s.heavy)) fun o=>zC (oV C all s.heavy o st.tm) fun w=>
   (fun cont:KT=>Bool.rec (motive:=fun _=>T) (mR n o.dst jD false st cont)
    (tH C [] o.dst o.op (gQ st old (oF (sN all s.heavy) olds) o.op) (iZ st old (oF (sN all s.heavy) olds) o.op) st.lo (kop C all n o (gQ st old (oF (sN all s.heavy) olds) o.op) st cont) (klo C n o st cont)) w)
   (fun st'=>bX C all old olds st' (aS C all n old olds g s.lights st') s.again))
   (gK (wY C all) (zC (Pd all old olds st s.again) fun es=>.heavy (Gs C es) fun _=>aS C all n old olds g s.lights st)) (iU all s)) l
def CB(C:lA)(la:List Nat)(fn n:Nat)(κ:KT)(id:Nat)(all:Array Oper)(draw:Bool):KT:=
 Bool.rec (motive:=fun _=>KT) (fun st=>tops C la all n κ all.toList st.cut)
  (fun st=>zC (ob (C.plans.get fn) fun t=>t.get id) fun p=>gK (qU all p) (aS C all n st.cut p.olds (Bl C all n st.cut p.olds κ p.stages) p.first st.cut)) draw
def Gq(st:aG)(ll:List (Nat × Nat)):Option (List zA):=
 List.rec (motive:=fun _=>Option (List zA)) (some []) (fun p _ g=>ob (bL p.1 st.ad) fun a=>xB (Nat.beq a.1 p.1&&Nat.beq a.2 0) (ob (st.lo.get p.1) fun l=>xB (Nat.beq (zB l) p.2) (ob g fun r=>some (iD l r)))) ll
def Dt(p:PI)(st:aG):Option (List zA):=ob (xH (fun i=>st.tm.get i) p.pl) fun a=>ob (Gq st p.ll) fun b=>some (iD a b)
def iV (ll:List (Nat × Nat)):List zA->Tr (List zA):=
 List.rec (motive:=fun _=>List zA->Tr (List zA)) (fun _=>.leaf) (fun p _ g vals=>(g (dQ vals p.2)).set p.1 (gZ vals p.2)) ll
def iO (pl:List Nat):List zA->Tr zA:=
 List.rec (motive:=fun _=>List zA->Tr zA) (fun _=>.leaf) (fun i _ g vals=>List.rec (motive:=fun _=>Tr zA) .leaf (fun v vals _=>(g vals).set i v) vals) pl
def stAd (ll:List (Nat × Nat)):List (Nat × Nat × Nat):=List.rec (motive:=fun _=>List (Nat × Nat × Nat)) [] (fun p _ g=>(p.1,p.1,0)::g) ll
def kJ (k:Nat)(p:PI)(vals:List zA):aG:=⟨⟨k,iO p.pl vals,[]⟩,stAd p.ll,iV p.ll (dQ vals (zB p.pl)),[]⟩
def aR (C:lA)(g:Nat):Bool:=tE (C.prims.get g)
def zfe(pl:List Nat)(st:aG):Option (List zA):=xH (fun i=>st.tm.get i) pl
def psOk:List Nat->Bool
 | []=>true
 | [_]=>true
 | [p,q] => !Nat.beq p q
 | _=>false
def FA(k n:Nat)(pl ps:List Nat)(ops:List (Nat × Array Oper))(c:pC):Bool:=
 kB (fun p=>Nat.blt p k&&Nat.blt p n && !dH p pl) ps&&psOk ps&&Qb ops&&(match iK c with | []=>true | _=>false)
def rdT:KtT:=⟨fun _=>.ret (.bool true),fun _ _=>.fail,fun _=>.ret (.bool false)⟩
def Wz(C:lA)(n:Nat)(κ:KtT)(i:Nat)(pl:List Nat)(f:Operand)(ps:List Nat)(ops:List (Nat × Array Oper))(c:pC)(st:aG):T:=
 gK (FA st.tm.k n pl ps ops c) (zC (zfe pl st) fun vals=>zC (ev f (.now st.tm)) fun fv=>.range (aR C) fv i (zB ps) vals (κ.norm st) (κ.ret st))
def nJ (C:lA)(la:List Nat)(fn n:Nat)(c:pC):KtT->KT:=
 pC.rec (motive:=fun _=>KtT->KT)
  (fun κ st=>κ.norm st)
  (fun id all draw κ=>CB C la fn n κ.norm id all draw)
  (fun _ _ ga gb κ=>ga ⟨gb κ,κ.exit,κ.ret⟩)
  (fun c _ _ gx gy κ st=>zC (ob (ev c (.now st.tm)) zA.asBool) fun b=>bif Ci c st.lit then Bool.rec (motive:=fun _=>T) (gy κ st) (gx κ st) b else .ite b (gx κ st) (gy κ st))
  (fun id _ g κ=>g ⟨κ.norm,fun i st=>Bool.rec (motive:=fun _=>T) (κ.exit i st) (κ.norm st) (Nat.beq id i),κ.ret⟩)
  (fun p _ _ _ st=>zC (Dt p st) fun vals=>.jump p.id vals)
  (fun id κ st=>κ.exit id st)
  (fun κ st=>κ.ret st)
  (fun p _ _ _ st=>zC (Dt p st) fun vals=>.jump p.id vals)
  (fun i pl f ps ops c _ κ st=>Wz C n κ i pl f ps.toList ops c st) c
structure PtT where
 p:PI
 tree:List zA->T
def mU(p:PI):KT:=fun st=>zC (Dt p st) fun vals=>.jump p.id vals
def Ca(C:lA)(la:List Nat)(fn n k:Nat)(c:pC):KtT->List PtT:=
 pC.rec (motive:=fun _=>KtT->List PtT)
  (fun _=>[])
  (fun _ _ _ _=>[])
  (fun _ b ga gb κ=>iD (ga ⟨nJ C la fn n b κ,κ.exit,κ.ret⟩) (gb κ))
  (fun _ _ _ gx gy κ=>iD (gx κ) (gy κ))
  (fun id _ g κ=>g ⟨κ.norm,fun i st=>Bool.rec (motive:=fun _=>T) (κ.exit i st) (κ.norm st) (Nat.beq id i),κ.ret⟩)
  (fun p c g κ=>⟨p,fun vals=>nJ C la fn n c ⟨mU p,κ.exit,κ.ret⟩ (kJ k p vals)⟩::g ⟨mU p,κ.exit,κ.ret⟩)
  (fun _ _=>[])
  (fun _=>[])
  (fun p c g κ=>⟨p,fun vals=>nJ C la fn n c κ (kJ k p vals)⟩::g κ)
  (fun i pl _ ps ops c g _=>⟨⟨i,iD pl ps.toList,[]⟩,fun vals=>nJ C la fn n (asA c ops) rdT (kJ k ⟨i,iD pl ps.toList,[]⟩ vals)⟩::g rdT) c
def Hf (C:lA)(st:aG)(l:List ResultVar):(List zA->T)->T:=
 List.rec (motive:=fun _=>(List zA->T)->T) (fun K=>K [])
  (fun r _ g K=>match r with
   | .tmp t=>zC (st.tm.get t) fun v=>g fun l=>K (v::l)
   | .cell a t=>match bL a st.ad with
    | some p=>zC (st.lo.get p.1) fun l=>zC (C.tys.get t) fun ty=>gK (Nat.ble (p.2+ty.size) (zB l)) (zC (jQ C t l p.2) fun v=>g fun l=>K (v::l))
    | none=>zC (st.tm.get a) fun a=>.light (fun m=>mA C t ⟨0,m⟩ a) fun v=>g fun l=>K (v::l)) l
def endT (C:lA)(fn:Func):KT:=fun st=>Hf C st fn.results.toList fun l=>.ret (Ec l)
def eX (C:lA)(fn:Func):KtT:=⟨endT C fn,fun _ _=>.fail,endT C fn⟩
structure cD where
 code:pC
 la:List Nat
def entT (C:lA)(fn:Func)(k:Nat)(f:Nat)(A:cD)(args:List zA):T:=nJ C A.la f fn.ntmps A.code (eX C fn) ⟨⟨k,Tr.ofList args,[]⟩,[],.leaf,[]⟩
def ptsT (C:lA)(fn:Func)(k:Nat)(f:Nat)(A:cD):List PtT:=Ca C A.la f fn.ntmps k A.code (eX C fn)
def Er(l:List PtT)(i:Nat)(vals:List zA):List T:=List.rec (motive:=fun _=>List T) [] (fun p _ g=>bif Nat.beq p.p.id i then p.tree vals::g else g) l
end
section
variable {b d n s ty:Nat}{y:vA}{i x:Operand}{l r:Option zA}{c:Call}{a k m u w:zA}{ok:Bool}
def sE {α:Type}(x:Option α)(P:α->Prop):Prop:=
 match x with
 | some a=>P a
 | none=>False
theorem mZ{α:Type}{x:Option α}{P:α->Prop}:sE x P ↔ ∃a,x=some a/\P a:=by
 cases x with
 | none=>simp[sE]
 | some a=>simp[sE]
@[simp] theorem pA {α:Type} {a:α} {P:α->Prop}:sE (some a) P=P a:=rfl
@[simp] theorem optP_none {α:Type} {P:α->Prop}:sE (none:Option α) P=False:=rfl
abbrev qB:=zA->Tr vA->Prop
abbrev wF:=Nat->List zA->Tr vA->qB->Prop
def zgi{α:Type}:List α->Bool | []=>true | _::_=>false
def cL(f:zA)(args:List zA):Option (Nat × List zA):=ob f.asFunc fun p=>match p.1 with
 | .func g=>xB (Nat.blt g pn) (some (g,iD (iD p.2.1 args) p.2.2))
 | .yld l=>xB (zgi p.2.1&&zgi p.2.2) (some (yo+l,args))
def Bw(np:Nat->Bool)(f:zA)(l:Nat):Option (Nat × List zA):=ob f.asFunc fun p=>match p.1 with
 | .func g=>xB (Nat.blt g pn&&np g) (some (g,iD p.2.1 (.func (.yld l) [] []::p.2.2)))
 | .yld _=>none
def Ig (k:IntKind)(v:zA):Option Int:=ob v.asIntK fun p=>xB (tN p.1 k) (some p.2)
def nK (zs:List zA)(v:zA):Option zH:=ob v.asAgg fun l=>xB (oS zs l) (some (cellsOf l))
def rA (base:Nat)(W:wF)(J:wF):T->Tr vA->qB->Prop
 | .ret v,t,Q=>Q v t
 | .fail,_,_=>False
 | .ite b x y,t,Q=>if b=true then rA base W J x t Q else rA base W J y t Q
 | .opt x K,t,Q=>sE x fun v=>rA base W J (K v) t Q
 | .light x K,t,Q=>sE (x t) fun v=>rA base W J (K v) t Q
 | .heavy x K,t,Q=>∀b,t.get b=none->base<=b->sE (x ⟨b,t⟩) fun p=>rA base W J (K p.1) p.2.t Q
 | .call f args K,t,Q=>W f args t fun v t'=>rA base W J (K v) t' Q
 | .callv f args K,t,Q=>sE (cL f args) fun p=>W p.1 p.2 t fun v t'=>rA base W J (K v) t' Q
 | .asI k v K,t,Q=>sE (Ig k v) fun n=>rA base W J (K n) t Q
 | .asB v K,t,Q=>sE v.asBool fun n=>rA base W J (K n) t Q
 | .asS v K,t,Q=>sE v.asStr fun n=>rA base W J (K n) t Q
 | .asG zs v K,t,Q=>sE (nK zs v) fun X=>rA base W J (K X) t Q
 | .jump i vals,t,Q=>J i vals t Q
 | .range np f i m vals K R,t,Q=>256<=base/\∀l r,t.get l=none->base<=l->r.state=.ready->r.pending=none →
   (∀args t1 Q1,args.length=m->t1.get l=some (.loop r)->J i (vals++args) (t1.del l) (fun v t2=>t2.get l=none->∃b,v=.bool b/\Q1 v (t2.set l (.loop (aO b r))))->W (yo+l) args t1 Q1) →
   sE (Bw np f l) fun p=>W p.1 p.2 (t.set l (.loop r)) fun _ t'=>(t'.get l=some (.loop r)/\rA base W J K (t'.del l) Q)\/(t'.get l=some (.loop (aO false r))/\rA base W J R (t'.del l) Q)
abbrev Xt:=Nat->Option vA
def jI (X Y:Xt):Prop:=∀b y,X b=some y->Y b=some y
theorem jI.refl(X:Xt):jI X X:=fun _ _ h=>h
def jI.trans{X Y Z:Xt}(h:jI X Y)(k:jI Y Z):jI X Z:=fun b y e=>k b y (h b y e)
structure Ov (base:Nat) (t:Tr vA) (X:Xt) (H:xA):Prop where
 base:base<=H.next
 same:∀b,X b=none->H.t.get b=t.get b
 ext:∀b y,X b=some y->H.t.get b=some y/\t.get b=none/\b<H.next
 lt:∀b y,t.get b=some y->b<H.next
def HLe (H H':xA):Prop:=∀b y,H.t.get b=some y->H'.t.get b=some y
def cT(e e':yD):Prop:=∀i v,kX i e=some v->kX i e'=some v
section
variable {base:Nat}{t:Tr vA}{X:Xt}{H HA:xA}{e e':yD}{C:lA}{v:zA}
theorem Ov.notX(h:Ov base t X HA)  (hb:t.get b=some y):X b=none:=by
 cases hx:X b with
 | none=>rfl
 | some z=>have:=(h.ext b z hx).2.1;simp_all
theorem Ov.up(h:Ov base t X HA)  (hb:t.get b=some y):HA.t.get b=some y:=by rw[h.same b (h.notX hb)];exact hb
def Ov.le(h:Ov base t X HA)  : HLe ⟨n,t⟩ HA:=fun _ _ hb=>h.up hb
def Ov.nextX(h:Ov base t X HA):X HA.next=none:=by
 cases hx:X HA.next with
 | none=>rfl
 | some z=>exact absurd (h.ext _ z hx).2.2 (Nat.lt_irrefl _)
def Ov.nextT(h:Ov base t X HA):t.get HA.next=none:=by
 cases hx:t.get HA.next with
 | none=>rfl
 | some z=>exact absurd (h.lt _ z hx) (Nat.lt_irrefl _)
theorem nY(h:HLe H HA) {p:Tr zA × Nat × Option Lo}(hb:mD H b=some p):mD HA b=some p:=by
 unfold mD at hb ⊢;rw[tA]at hb ⊢;obtain⟨y,h1,h2⟩:=hb;exact⟨y,h _ _ h1,h2⟩
theorem Gb(h:HLe H HA) {p:List (zA × zA)}(hb:rL H b=some p):rL HA b=some p:=by
 unfold rL at hb ⊢;rw[tA]at hb ⊢;obtain⟨y,h1,h2⟩:=hb;exact⟨y,h _ _ h1,h2⟩
theorem xF(h:cT e e') (hx:ev x e=some v):ev x e'=some v:=by
 cases x with
 | tmp i=>exact h i v hx
 | const c=>exact hx
 | global g=>exact hx
 | func f=>exact hx
theorem Zs(h:cT e e'){l:List Operand}{vs:List zA}(hx:wO l e=some vs):wO l e'=some vs:=Qw l (fun _ _ k=>xF h k) hx
theorem LJ(h:cT e e'){x:Option Operand} (hx:kT x e=some r):kT x e'=some r:=by
 cases x with
 | none=>exact hx
 | some x=>
  have hx:ob (ev x e) (fun v=>some (some v))=some r:=hx
  show ob (ev x e') (fun v=>some (some v))=some r
  grind [tA,xF]
theorem Zt(h:cT e e'){l:List (Nat × Operand)}{vs:List (Nat × zA)}(hx:lT l e=some vs):lT l e'=some vs:=
 Qw l (fun a b k=>by grind [tA,xF]) hx
theorem Ub(h:cT e e') {p:zA × zA}(hx:two c e=some p):two c e'=some p:=by
 grind [two,tA,xF]
theorem BS(h:HLe H HA)  (hx:mA C ty H a=some v):mA C ty HA a=some v:=by
 grind [mA,tA,nY]
theorem AH(h:HLe H HA){s d:nD} (hx:wV C s d a H=some v):wV C s d a HA=some v:=by
 unfold wV at hx ⊢
 split at hx
 ·omega
 ·rename_i hk
  rw[wB]at hx ⊢
  refine⟨hx.1,?_⟩
  have hx:=hx.2
  rw[sD]at hx ⊢
  split at hx
  all_goals grind [tA,wB,Ni,nY]
theorem OY(h:HLe H HA)  (hx:Bj C s d H a=some v):Bj C s d HA a=some v:=by
 grind [Bj,tA,AH]
theorem Vz(h:HLe H HA){ty:nD}  (hx:dN C H ty a l r=some v):dN C HA ty a l r=some v:=by
 have row:∀ {arr e b off len cap},lQ C H arr e b off len cap l r=some v->lQ C HA arr e b off len cap l r=some v:=by
  intro arr e b off len cap hx;unfold lQ at hx ⊢
  simp only[tA]at hx ⊢
  obtain⟨a1,h1,b1,h2,hx⟩:=hx
  refine⟨a1,h1,b1,h2,?_⟩
  cases hb:mD H b with
  | none=>
   have e1:eN H b a1.size cap b1.1 arr=false:=by unfold eN;rw[hb]
   have e2:hO H b a1.size cap b1.1 arr=false:=by unfold hO;rw[hb]
   rw[e1,e2,yay,yay]at hx
   cases hx
  | some c=>
   grind [eN,nY,hO]
 grind [dN,tA]
theorem OR(h:HLe H HA)   (hx:vG C ty H a l r=some v):vG C ty HA a l r=some v:=by
 grind [vG,tA,Vz]
theorem Xy(h:HLe H HA) {l:List (zA × zA)}(hx:xW H m=some l):xW HA m=some l:=by
 grind [xW,Gb]
theorem OU(h:HLe H HA)   (hx:fX C ty H m k ok=some v):fX C ty HA m k ok=some v:=by
 unfold fX at hx ⊢
 simp only[tA,wB]at hx ⊢
 grind [Xy]
theorem Yg(h:HLe H HA){ty:nD}  (hx:oU H ty a=some n):oU HA ty a=some n:=by
 unfold oU at hx ⊢
 split at hx
 all_goals grind [wB,tA,Gb]
theorem OV(h:HLe H HA)  (hx:zU C ty H a=some v):zU C ty HA a=some v:=by
 grind [zU,tA,Yg]
theorem IC {a:Operand}:qW ty a C e H=ob (ev a e) fun v=>mA C ty H v:=rfl
theorem IP   (hx:ev x e=some u):gP s d x C e H=Bj C s d H u:=by simp_all [gP,Bj]
def zdb  {lo hi:Option Operand}  (h1:ev x e=some a)(h2:kT lo e=some l)(h3:kT hi e=some r):dZ ty x lo hi C e H=vG C ty H a l r:=by unfold dZ vG;rw[h1,oA,h2,oA,h3,oA]
theorem IL{f:Nat}  (hx:ev x e=some u):mW s x f C e H=mC C s f u:=by
 unfold mW mC Tx;rw[hx]
 cases C.tys.get s with
 | none=>rfl
 | some ty=>
  simp only[oA]
  cases ty.desc.asStruct with
  | none=>rfl
  | some fs=>
   simp only[oA]
   cases vD fs f with
   | none=>rfl
   | some fd=>simp only[oA];cases hb:(!Nat.beq fd.2.2 0)<;>rfl
theorem IG   (hx:ev x e=some u)(hi:ev i e=some w):oW ty x i C e H=sC C ty u w:=by unfold oW sC;rw[hx,hi];rfl
theorem zdd   (hx:ev x e=some u)(hi:ev i e=some w):nW ty x i C e H=sI C ty u w:=by unfold nW sI;rw[hx,hi];rfl
theorem zfs  (hx:ev x e=some u):bZ x C e H=rF u:=by simp_all [bZ,rF]
theorem VV {i:Nat} (hx:ev x e=some u):lW x i C e H=bF i u:=by simp_all [lW,bF]
theorem lBin_v{op:BinOp} {y:Operand} (hx:ev x e=some u)(hy:ev y e=some w):jW op ty x y C e H=(aP op).f C ty x y u w:=by simp_all [jW]
theorem VX {a:Nat}  (hx:ev x e=some u):iW x a ok C e H=Dx C a ok u:=by
 unfold iW Dx;rw[hx];rfl
def VU    (hx:ev x e=some m)(hi:ev i e=some k):rW ty x i ok C e H=fX C ty H m k ok:=by unfold rW fX;rw[hx,hi];rfl
theorem lLen_v    (h1:vD c.argTypes.toList 0=some ty)(h2:vD c.args.toList 0=some x)(hx:ev x e=some u):cQ c C e H=zU C ty H u:=by grind [cQ,zU,oA]
theorem zdx(he:cT e e'){op:Op}(hp:tU op=true\/(∃s d x,op=.convert s d x/\(zI C d=1\/zI C s=2))\/(∃c,op=.call c/\(c.callee=.builtin .max\/c.callee=.builtin .min))){H':xA}(h:(eF op).f C e H=some v):(eF op).f C e' H'=some v:=by
 rcases hp with hp | hp | hp
 ·cases op<;>simp only[tU]at hp<;>try (cases hp;done)
  case move x=>exact xF he h
  case assign x=>exact xF he h
  case pick c a b=>
   have h:ob (ev c e) (fun c=>ob c.asBool fun c=>bif c then ev a e else ev b e)=some v:=h
   show ob (ev c e') (fun c=>ob c.asBool fun c=>bif c then ev a e' else ev b e')=some v
   grind [tA,xF]
  case nilCheck x=>
   have h:ob (ev x e) (fun u=>xB (Nat.beq u.tag 4||Nat.beq u.tag 9) (some u))=some v:=h
   show ob (ev x e') (fun u=>xB (Nat.beq u.tag 4||Nat.beq u.tag 9) (some u))=some v
   grind [tA,xF]
  case binOp op t x y u=>
   have h:jW op t x y C e H=some v:=h
   show jW op t x y C e' H'=some v
   grind [jW,tA,xF]
  case unOp op t x=>
   have h:lUn op x C e H=some v:=h
   show lUn op x C e' H'=some v
   grind [lUn,tA,xF]
  case makeInterface t x=>
   have h:Cl t x C e H=some v:=h
   show Cl t x C e' H'=some v
   grind [Cl,tA,wB,xF]
  case makeFunc fn a b=>
   have h:(Cm fn a b).f C e H=some v:=h
   show(Cm fn a b).f C e' H'=some v
   unfold Cm at h ⊢
   split at h
   ·grind [Ia,tA,Zs]
   ·cases h
  case fieldAddr s x f=>
   have h:mW s x f C e H=some v:=h
   show mW s x f C e' H'=some v
   unfold mW at h ⊢
   simp only[tA,wB]at h ⊢
   obtain⟨a,h1,b,h2,c,h3,h4,u,h5,h6⟩:=h
   exact⟨a,h1,b,h2,c,h3,h4,u,xF he h5,h6⟩
  case field t x f=>
   have h:Cn t x f C e H=some v:=h
   show Cn t x f C e' H'=some v
   grind [Cn,tA,xF]
  case indexAddr t x i=>
   have h:oW t x i C e H=some v:=h
   show oW t x i C e' H'=some v
   unfold oW at h ⊢
   simp only[tA]at h ⊢
   grind [xF]
  case index t x i=>
   have h:nW t x i C e H=some v:=h
   show nW t x i C e' H'=some v
   unfold nW at h ⊢
   simp only[tA]at h ⊢
   grind [xF]
  case extract t i=>
   have h:lW t i C e H=some v:=h
   show lW t i C e' H'=some v
   grind [lW,tA,xF]
  case build t ps=>
   have h:vY t ps C e H=some v:=h
   show vY t ps C e' H'=some v
   grind [vY,tA,Zt]
  case typeAssert x t u ok=>
   have h:iW x u ok C e H=some v:=h
   show iW x u ok C e' H'=some v
   grind [iW,tA,wB,xF]
 ·obtain⟨s,d,x,rfl,hp⟩:=hp
  have h:gP s d x C e H=some v:=h
  show gP s d x C e' H'=some v
  unfold gP at h ⊢
  simp only[tA]at h ⊢
  obtain⟨u,h1,sy,h2,dy,h3,h4⟩:=h
  refine⟨u,xF he h1,sy,h2,dy,h3,?_⟩
  unfold wV at h4 ⊢
  split at h4
  ·exact h4
  ·rename_i hd
   rw[wB]at h4 ⊢
   refine⟨h4.1,?_⟩
   have h4:=h4.2
   rw[sD]at h4 ⊢
   split at h4
   ·simp_all
   ·rename_i e
    exfalso
    rcases hp with hp | hp
    ·unfold zI at hp
     rw[h3]at hp;have hp:dy.desc.tag=1:=hp
     cases hx:dy.desc<;>rw[hx]at hp hd<;>first
      | (cases hp;done)
      | (cases hd;done)
    ·unfold zI at hp
     rw[h2]at hp;have hp:sy.desc.tag=2:=hp
     simp only[tA]at h4;obtain⟨el,h5,_⟩:=h4
     cases hx:sy.desc<;>rw[hx]at hp h5<;>first
      | (cases hp;done)
      | (cases h5;done)
 ·obtain⟨c,rfl,hc⟩:=hp
  rcases hc with hc | hc
  ·have h:(oT c c.callee).f C e H=some v:=h
   show(oT c c.callee).f C e' H'=some v
   rw[hc]at h ⊢
   have h:sW c C e H=some v:=h
   show sW c C e' H'=some v
   grind [sW,tA,Ub]
  ·have h:(oT c c.callee).f C e H=some v:=h
   show(oT c c.callee).f C e' H'=some v
   rw[hc]at h ⊢
   have h:tW c C e H=some v:=h
   show tW c C e' H'=some v
   grind [tW,tA,Ub]
end
end
section
variable {b d n off ty:Nat}{a u:zA}{l:List zA}{H':xA}{K:zA->T}{op:Op}
section
variable {base:Nat}{t:Tr vA}{X:Xt}{H HA:xA}{e e':yD}{C:lA}{v:zA}
theorem Ov.newBlk(h:Ov base t X HA)(y:vA):Ov base (t.set HA.next y) X (newBlk HA y):=by
 refine⟨Nat.le_succ_of_le h.base,fun b hb=>?_,fun b z hb=>?_,fun b z hb=>?_⟩
 ·show(HA.t.set HA.next y).get b=_
  rw[Tr.get_set,Tr.get_set];split
  ·rfl
  ·exact h.same b hb
 ·obtain⟨h1,h2,h3⟩:=h.ext b z hb
  have hne:b≠HA.next:=Nat.ne_of_lt h3
  refine⟨?_,?_,Nat.lt_succ_of_lt h3⟩
  ·show(HA.t.set HA.next y).get b=_
   grind [Tr.get_set]
  grind [Tr.get_set]
 ·rw[Tr.get_set]at hb
  show b<HA.next+1
  split at hb
  ·omega
  ·exact Nat.lt_succ_of_lt (h.lt _ _ hb)
theorem Ov.setBlk(h:Ov base t X HA){b:Nat}{y:vA}(hb:t.get b=some y)(z:vA):Ov base (t.set b z) X (setBlk HA b z):=by
 refine⟨h.base,fun c hc=>?_,fun c u hc=>?_,fun c u hc=>?_⟩
 ·show(HA.t.set b z).get c=_
  rw[Tr.get_set,Tr.get_set];split
  ·rfl
  ·exact h.same c hc
 ·obtain⟨h1,h2,h3⟩:=h.ext c u hc
  have hne:c≠b:=fun e=>by simp_all
  refine⟨?_,?_,h3⟩
  ·show(HA.t.set b z).get c=_
   grind [Tr.get_set]
  grind [Tr.get_set]
 ·rw[Tr.get_set]at hc
  show c<HA.next
  split at hc
  ·rename_i e;rw[e];exact h.lt _ _ hb
  ·exact h.lt _ _ hc
theorem Ov.delBlk(h:Ov base t X HA) {y:vA}(hb:t.get b=some y):Ov base (t.del b) X ⟨HA.next,HA.t.del b⟩:=by
 refine⟨h.base,fun c hc=>?_,fun c u hc=>?_,fun c u hc=>?_⟩
 ·show(HA.t.del b).get c=_
  rw[Tr.get_del,Tr.get_del];split
  ·rfl
  ·exact h.same c hc
 ·obtain⟨h1,h2,h3⟩:=h.ext c u hc
  grind [Tr.get_del]
 ·rw[Tr.get_del]at hc
  show c<HA.next
  split at hc
  ·cases hc
  ·exact h.lt _ _ hc
def dT (base:Nat)(x:xA->Option (zA × xA)):Prop:=∀t X HA v H',Ov base t X HA->x ⟨HA.next,t⟩=some (v,H')->∃HA',x HA=some (v,HA')/\Ov base H'.t X HA'
theorem lZ(l:List zA)(lo:Option Lo)(h:Ov base t X HA):Ov base (fF ⟨HA.next,t⟩ l lo).t X (fF HA l lo):=h.newBlk _
theorem PC  : dT base (rI C ty):=by
 intro t X HA v H' ho h;unfold rI at h ⊢
 rw[tA]at h;obtain⟨y,h1,h2⟩:=h
 cases h2;simp_all [lZ]
def zhe  : dT base (xM u):=by
 intro t X HA v H' ho h
 cases h;exact⟨_,rfl,lZ _ _ ho⟩
theorem PD  : dT base (Dy C ty):=by
 intro t X HA v H' ho h;unfold Dy at h ⊢
 rw[tA]at h;obtain⟨y,h1,h3⟩:=h
 grind [oA,lZ]
theorem zbh   : dT base (zhf C ty u):=by
 intro t X HA v H' ho h;grind [zhf,lZ]
theorem OZ {ps:List (Nat × zA)}:dT base (eC C ty n ps):=by
 intro t X HA v H' ho h;unfold eC at h ⊢
 simp only[tA,wB]at h;obtain⟨a,h1,b,h2,c,h3,h4,l,h5,h6⟩:=h
 grind [lZ,tA,wB]
theorem Vr(ho:Ov base t X HA)   (h:mJ C ⟨HA.next,t⟩ b off l=some H'):∃HA',mJ C HA b off l=some HA'/\Ov base H'.t X HA':=by
 unfold mJ at h ⊢
 simp only[tA,wB]at h;obtain⟨h1,c,h2,h3,h4⟩:=h
 cases h4;have h2':=h2
 unfold mD at h2';rw[tA]at h2'
 obtain⟨y,h5,_⟩:=h2'
 refine⟨_,?_,ho.setBlk h5 _⟩
 simp only[tA,wB];exact⟨h1,c,nY ho.le h2,h3,rfl⟩
theorem OQ   : dT base (lB C ty a u):=by
 intro t X HA v H' ho h;unfold lB at h ⊢
 simp only[tA,wB]at h;obtain⟨y,h1,p,h2,h3,H1,h4,h5⟩:=h
 grind [Vr,tA,wB]
def OT:dT base Ol:=by
 intro t X HA v H' ho h
 cases h;exact⟨_,rfl,ho.newBlk _⟩
def BQ {m k:zA}:dT base (cS C ty m k u):=by
 intro t X HA v H' ho h;unfold cS at h ⊢
 simp only[tA,wB]at h;obtain⟨a,h1,b,h2,c,h3,h4,d,h5,h6,l,h7,h8,l',h9,h10⟩:=h
 cases h10;have h7':=h7
 unfold rL at h7';rw[tA]at h7'
 obtain⟨y,h11,_⟩:=h7'
 refine⟨_,?_,ho.setBlk h11 _⟩
 simp only[tA,wB];exact⟨a,h1,b,h2,c,h3,h4,d,h5,h6,l,Gb ho.le h7,h8,l',h9,rfl⟩
def zay(ho:Ov base t X HA){e:RE} (h:Bb C ⟨HA.next,t⟩ e=some H'):∃HA',Bb C HA e=some HA'/\Ov base H'.t X HA'/\HA'.next=HA.next/\H'.next=HA.next:=by
 obtain⟨x,y,h1,h2,rfl⟩:=Nm.1 h
 exact⟨setBlk HA e.blk y,Nm.2 ⟨x,y,ho.up h1,h2,rfl⟩,ho.setBlk h1 _,rfl,rfl⟩
theorem NV:∀ {l:List RE} {t:Tr vA} {HA:xA} {H':xA},Ov base t X HA->Gf C l ⟨HA.next,t⟩=some H'->∃HA',Gf C l HA=some HA'/\Ov base H'.t X HA'
 | [],t,HA,H',ho,h=>by cases h;exact⟨HA,rfl,ho⟩
 | e::l,t,HA,H',ho,h=>by
  unfold Gf at h ⊢
  rw[tA]at h;obtain⟨H1,h1,h⟩:=h
  obtain⟨HA1,g1,g2,g3,g4⟩:=zay ho h1
  rw[g1,oA];obtain⟨n1,t1⟩:=H1
  have g4:n1=HA.next:=g4
  subst g4;rw[<- g3]at h;exact NV g2 h
theorem SQ(ho:Ov base t X HA){e:RE}(h:Hh C ⟨HA.next,t⟩ e=true):Hh C HA e=true:=by
 cases e with
 | st b off l=>
  change (!tE (mJ C ⟨HA.next,t⟩ b off l))=true at h
  show(!tE (mJ C HA b off l))=true
  cases hs:mJ C ⟨HA.next,t⟩ b off l with
  | none=>rw[hs]at h;cases h
  | some H'=>obtain⟨HA',g,_⟩:=Vr ho hs;rw[g];rfl
 | up b k v=>
  unfold Hh at h ⊢
  rw[ybb]at h ⊢
  refine⟨h.1,?_⟩
  have h2:=h.2
  split at h2
  ·rename_i hm;rw[Gb ho.le hm]
  grind
theorem OX{es:List kN}:dT base (Gs C es):=by
 intro t X HA v H' ho h;grind [Gs,Af,tA,wB,NV,nI,SQ]
theorem OS {l c:zA}:dT base (oP C ty l c):=by
 intro t X HA v H' ho h;unfold oP at h ⊢
 simp only[tA,wB]at h;obtain⟨a,h1,b,h2,d,h3,n,h4,m,h5,h6,h7⟩:=h
 grind [lZ,tA,wB]
theorem OP{s:Nat}  : dT base (Tw C s d u):=by
 intro t X HA v H' ho h;unfold Tw at h ⊢
 simp only[tA,wB]at h;obtain⟨a,h1,b,h2,c,h3,et,h4,k,h5,h6,l,h7,h8⟩:=h
 cases h8;refine⟨fF HA (oY l) (some (.ty c)),?_,lZ _ _ ho⟩
 grind [tA,wB]
theorem WX(h:HLe H HA){sz:Nat}  (hx:eW H sz n u=some l):eW HA sz n u=some l:=by
 grind [eW,tA,nY]
theorem ZS(ho:Ov base t X HA){ty:nD}{b:zA} (h:wX C ⟨HA.next,t⟩ ty a b=some (v,H')):∃HA',wX C HA ty a b=some (v,HA')/\Ov base H'.t X HA':=by
 unfold wX at h;simp only[tA]at h;obtain⟨el,h1,et,h2,n,h3,new,h4,h5⟩:=h
 have h4':=WX ho.le h4
 suffices hs:∃HA',(match a.asSlice with
  | some s=>bif Nat.ble (s.2.2.1+n) s.2.2.2 then rY C HA et n new s else fW C HA el et n new s
  | none=>xB (Nat.beq a.tag 5) (nT HA el et n new))=some (v,HA')/\Ov base H'.t X HA' by
  grind [wX,tA]
 cases hs:a.asSlice with
 | some s=>
  rw[hs]at h5;simp only[]at h5 ⊢
  rw[sD]at h5;split at h5
  ·rename_i hr
   simp only[hr,cond_true];unfold rY at h5 ⊢
   grind [tA,Vr]
  ·rename_i hr
   simp only[Bool.not_eq_true]at hr;simp only[hr,cond_false];unfold fW at h5 ⊢
   rw[wB]at h5;obtain⟨gm,h5⟩:=h5
   rw[wB]at h5;obtain⟨g0,h5⟩:=h5
   rw[tA]at h5;obtain⟨c,g1,h5⟩:=h5
   have g1':=nY ho.le g1
   unfold mD at g1;rw[tA]at g1;obtain⟨y,g2,_⟩:=g1
   split at h5
   ·rename_i hc
    unfold Ij at h5;rw[tA]at h5;obtain⟨old,g3,g4⟩:=h5
    grind [lZ,wB,tA,Ij]
   ·rename_i es hc
    unfold Fj at h5;rw[wB]at h5;obtain⟨g3,g4⟩:=h5
    cases g4
    refine⟨⟨HA.next+1,(HA.t.del s.1).set HA.next (.cells (c.1.setMany new (s.2.2.1*et.size)) ((s.2.2.1+n)*et.size) (some es))⟩,?_,(ho.delBlk g2).newBlk _⟩
    grind [wB,tA,Fj]
 | none=>
  grind [wB,nT,lZ]
theorem PA{u:Nat}{b:zA}:dT base (fG C ty u a b):=by
 intro t X HA v H' ho h;grind [fG,tA,wB,ZS]
end
def Js(ν:Nat->Nat)(ae:mO)(e:yD):Prop:=∀i p,tAd ae i=some p->kX i e=some (.ptr (ν p.1) p.2)
def Nx(base:Nat)(X0 X:Xt)(ν:Nat->Nat)(lo:Tr (List zA)):Prop:=∀d l,lo.get d=some l->X0 (ν d)=none/\base<=ν d/\∃c,X (ν d)=some (.cells c l.length none)/\∀j a,l[j]?=some a->c.get j=some a
theorem lE{base:Nat}{W J:wF}{α:Type}{x:Option α}{K:α->T}{t:Tr vA}{Q:qB}:rA base W J (zC x K) t Q ↔ ∃a,x=some a/\rA base W J (K a) t Q:=by
 cases x with
 | none=>exact⟨fun h=>(by cases h),fun⟨_,h,_⟩=>(by cases h)⟩
 | some a=>exact⟨fun h=>⟨a,rfl,h⟩,fun⟨_,h,k⟩=>(by cases h;exact k)⟩
def lO{base:Nat}{W J:wF}{b:Bool}{K:T}{t:Tr vA}{Q:qB}:rA base W J (gK b K) t Q ↔ b=true/\rA base W J K t Q:=by
 cases b with
 | false=>exact⟨fun h=>(by cases h),fun⟨h,_⟩=>(by cases h)⟩
 | true=>exact⟨fun h=>⟨rfl,h⟩,fun⟨_,h⟩=>h⟩
theorem jX{base:Nat}{W J:wF}{x:Option zA} {t:Tr vA}{Q:qB}:rA base W J (.opt x K) t Q ↔ ∃a,x=some a/\rA base W J (K a) t Q:=mZ
def Gn{base:Nat}{W J:wF}{x:Tr vA->Option zA} {t:Tr vA}{Q:qB}:rA base W J (.light x K) t Q ↔ ∃a,x t=some a/\rA base W J (K a) t Q:=mZ
theorem Dp{ν:Nat->Nat}{ae:mO}{e:yD}(h:Js ν ae e){x:Operand}{p:Nat × Nat}(hx:xAd ae x=some p):ev x e=some (.ptr (ν p.1) p.2):=by
 cases x with
 | tmp i=>exact h i p hx
 | const _=>cases hx
 | global _=>cases hx
 | func _=>cases hx
theorem GZ{c:Tr zA} (h:∀j a,l[j]?=some a->c.get j=some a):∀(n off:Nat),off+n<=l.length->c.many n off=some ((l.drop off).take n):=by
 intro n;induction n with
 | zero=>intro off _;simp;rfl
 | succ n ih=>
  intro off ho;have hlt:off<l.length:=by omega
  rw[Tr.many_succ,h off l[off] (ybd hlt),oA,ih (off+1) (by omega),oA]
  rw[ybl hlt,List.take_succ_cons]
section
variable {W J:wF}{t:Tr vA}{X X0:Xt}{HA:xA}{e eA:yD}{C:lA}{ν:Nat->Nat}{ae:mO}{lo:Tr (List zA)}{k:xN}{Q:qB}{R:zA->Prop}
theorem HH(ho:Ov C.base t X HA)(hl:Nx C.base X0 X ν lo)  {y:nD}{v:zA}(h1:lo.get d=some l)(h2:C.tys.get ty=some y)(h3:Nat.ble (off+y.size) (zB l)=true)(h4:jQ C ty l off=some v) :
  mA C ty HA (.ptr (ν d) off)=some v:=by
 obtain⟨_,_,c,hc,hg⟩:=hl d l h1
 have hb:=(ho.ext _ _ hc).1
 unfold mA;simp only[zA.asPtr,oA];rw[h2,oA];grind [mD,oA,vA.asCells,jQ,wS,qE,qD,GZ,xS,eQ,dG]
theorem zT(he:cT e eA) (hp:tU op=true\/(∃s d x,op=.convert s d x/\(zI C d=1\/zI C s=2))\/(∃c,op=.call c/\(c.callee=.builtin .max\/c.callee=.builtin .min)))
  (h:rA C.base W J (lR C op e k) t Q) (hKd:∀v,rA C.base W J (k.Kd v) t Q->R v):∃v,(eF op).f C eA HA=some v/\R v:=by
 grind [lR,lE,zdx]
theorem OW {v:zA}{H:xA}(ht:zI C ty=4)(h:oC u=some v):zU C ty H u=some v:=by
 unfold zI at ht
 cases hy:C.tys.get ty with
 | none=>simp_all
 | some y=>
  rw[hy]at ht;have ht:y.desc.tag=4:=ht
  unfold zU;rw[hy,oA];unfold oC at h;unfold oU
  cases u<;>simp only[zA.asSlice,zA.asStr,zA.asMap,zA.tag]at h ⊢ <;> (try (rw[wB]at h;exact absurd h.1 (by decide)))
  case nilslice=>
   rw[wB]at h;have hn:y.desc.asArr=none:=by cases hd:y.desc<;>rw[hd]at ht<;>first | rfl | (cases ht;done)
   simp_all [tA,wB]
  simp_all [tA,wB]
theorem WE {v:zA}{H:xA}(ht:zI C ty≠6)(h:zU C ty H u=some v):zU C ty H' u=some v:=by
 unfold zU at h ⊢
 simp only[tA]at h ⊢
 obtain⟨y,h1,n,h2,h3⟩:=h
 refine⟨y,h1,n,?_,h3⟩
 have ht:¬ Nat.beq y.desc.tag 6=true:=by
  grind [zI,kC]
 unfold oU at h2 ⊢
 split at h2
 all_goals grind [wB]
theorem QK {v:zA}{l h:Option zA}{H:xA}(ht:zI C ty=2)(hx:vG C ty H a l h=some v):vG C ty H' a l h=some v:=by
 unfold vG at hx ⊢
 rw[tA]at hx ⊢
 obtain⟨y,h1,h2⟩:=hx
 refine⟨y,h1,?_⟩
 unfold zI at ht;rw[h1]at ht;have ht:y.desc.tag=2:=ht
 unfold dN at h2 ⊢
 have n1:y.desc.asSlice=none:=by cases hd:y.desc<;>rw[hd]at ht<;>first | rfl | (cases ht;done)
 have n2:y.desc.asArr=none:=by cases hd:y.desc<;>rw[hd]at ht<;>first | rfl | (cases ht;done)
 simp_all
theorem Xm (h:zA.one u=true):u.cells=[u]:=by
 cases u<;>first
  | rfl
  | (have:=qC.1 h;grind [zA.tag])
theorem XE{tyAt:Nat->Option Nat}(place:Nat->Option (Nat × Nat)):∀(vs:List (Nat × zA)) {q:List (Nat × zA × List zA) × List zA},Xf C tyAt vs=some q->kB zA.one q.2=true->∀cells l,Sb place q.1 cells=some l->dL place vs cells=some l:=by
 intro vs;induction vs with
 | nil=>intro q h _ cells l hl;cases h;exact hl
 | cons p vs ih=>
  intro q h h1 cells l hl;have h:(ob (tyAt p.1) fun t=>ob (C.tys.get t) fun ty=>ob (Xf C tyAt vs) fun r=>some (bif ty.desc.isAgg then((p.1,p.2,p.2.cells)::r.1,r.2)else((p.1,p.2,[p.2])::r.1,p.2::r.2)))=some q:=h
  simp only[tA]at h;obtain⟨ty,_,y,_,r,h3,h4⟩:=h
  have fin:∀(rest:List zA),kB zA.one r.2=true->(ob (place p.1) fun q=>ob (zkb cells q.1 q.2 p.2.cells) fun cells=>Sb place r.1 cells)=some l->dL place (p::vs) cells=some l:=by
   intro _ hr hl;show(ob (place p.1) fun q=>ob (bU cells q.1 q.2 p.2) fun cells=>dL place vs cells)=some l
   simp only[tA]at hl ⊢
   obtain⟨a,g1,b,g2,g3⟩:=hl
   exact⟨a,g1,b,g2,ih h3 hr _ _ g3⟩
  cases hb:y.desc.isAgg with
  | true=>
   rw[hb]at h4
   cases h4;exact fin [] h1 hl
  | false=>
   rw[hb]at h4
   cases h4;simp_all [nI,Sb,Xm]
theorem zhw(he:cT e eA)(ha:Js ν ae eA)(ho:Ov C.base t X HA)(hl:Nx C.base X0 X ν lo) (h:rA C.base W J (tL C op e ae lo k) t Q)
  (hK:∀v,rA C.base W J (k.K v) t Q->R v) (hKd:∀v,rA C.base W J (k.Kd v) t Q->R v) (hKA:∀d off,rA C.base W J (k.KA d off) t Q->R (.ptr (ν d) off)) :
  ∃v,(eF op).f C eA HA=some v/\R v:=by
 cases op<;>simp only[tL]at h<;>try (cases h;done)
 case move x=>
  unfold Pc at h;split at h
  ·rename_i p hp
   exact⟨_,Dp ha hp,hKA _ _ h⟩
  ·exact zT he (.inl rfl) h hKd
 case assign x=>
  unfold Pc at h;split at h
  ·rename_i p hp
   exact⟨_,Dp ha hp,hKA _ _ h⟩
  ·exact zT he (.inl rfl) h hKd
 case pick c a b=>exact zT he (.inl rfl) h hKd
 case load ty a=>
  unfold tLoad at h;split at h
  ·rename_i p hp
   simp only[lE,lO]at h;obtain⟨l,h1,y,h2,h3,v,h4,h5⟩:=h
   refine⟨v,?_,hKd v h5⟩
   show qW ty a C eA HA=some v
   grind [IC,Dp,oA,HH]
  ·rw[lE]at h
   obtain⟨u,h1,h2⟩:=h
   rw[Gn]at h2;obtain⟨v,h3,h4⟩:=h2
   refine⟨v,?_,hK v h4⟩
   show qW ty a C eA HA=some v
   rw[IC,xF he h1,oA];exact BS ho.le h3
 case nilCheck x=>
  unfold tNil at h;split at h
  ·rename_i p hp
   refine⟨_,?_,hKA _ _ h⟩
   show bZ x C eA HA=_
   rw[zfs (Dp ha hp)];rfl
  ·rw[lE]at h
   obtain⟨u,h1,h2⟩:=h
   rw[jX]at h2;obtain⟨v,h3,h4⟩:=h2
   refine⟨v,?_,hK v h4⟩
   show bZ x C eA HA=_
   grind [zfs,xF]
 case binOp op ty x y u=>
  unfold tBin at h;rw[sD]at h;split at h
  ·exact zT he (.inl rfl) h hKd
  ·simp only[lE,jX]at h
   obtain⟨a,h1,b,h2,v,h3,h4⟩:=h
   refine⟨v,?_,hK v h4⟩
   show jW op ty x y C eA HA=_
   grind [lBin_v,xF]
 case unOp o ty x=>
  split at h
  ·simp only[lE,jX]at h
   obtain⟨u,h1,v,h2,h3⟩:=h
   refine⟨v,?_,hK v h3⟩
   show lUn .xor x C eA HA=_
   unfold lUn;rw[xF he h1];exact h2
  ·exact zT he (.inl rfl) h hKd
 case convert s d x=>
  unfold zhy at h;rw[sD]at h;split at h
  ·rename_i hd
   rw[sD]at h;split at h
   ·rename_i hs
    exact zT he (.inr (.inl ⟨s,d,x,rfl,.inr (kC.1 hs)⟩)) h hKd
   ·simp only[lE,Gn]at h
    obtain⟨u,h1,v,h2,h3⟩:=h
    refine⟨v,?_,hK v h3⟩
    show gP s d x C eA HA=_
    rw[IP (xF he h1)];exact OY ho.le h2
  ·rw[sD]at h
   split at h
   ·rename_i hd
    exact zT he (.inr (.inl ⟨s,d,x,rfl,.inl (kC.1 hd)⟩)) h hKd
   ·cases h
 case makeInterface ty x=>exact zT he (.inl rfl) h hKd
 case makeFunc fn a b=>exact zT he (.inl rfl) h hKd
 case slice ty x lo' hi mx=>
  cases mx with
  | some _=>cases h
  | none=>
   simp only[zet,lE]at h;obtain⟨a,h1,l,h2,r,h3,h4⟩:=h
   rw[sD]at h4;show ∃v,dZ ty x lo' hi C eA HA=some v/\R v
   rw[zdb (xF he h1) (LJ he h2) (LJ he h3)]
   split at h4
   ·grind [jX,QK,kC]
   ·rw[Gn]at h4
    obtain⟨v,h5,h6⟩:=h4
    exact⟨v,OR ho.le h5,hK v h6⟩
 case fieldAddr s x f=>
  unfold CP at h;show ∃v,mW s x f C eA HA=some v/\R v
  split at h
  ·rename_i p hp
   rw[lE]at h;obtain⟨o,h1,h2⟩:=h
   refine⟨_,?_,hKA _ _ h2⟩
   rw[IL (Dp ha hp)]
   unfold mC;rw[h1];rfl
  grind [lE,jX,IL,xF]
 case field ty x f=>exact zT he (.inl rfl) h hKd
 case indexAddr ty x i=>
  unfold CN at h;show ∃v,oW ty x i C eA HA=some v/\R v
  split at h
  ·rename_i p hp
   simp only[lE]at h;obtain⟨iv,h1,n,h2,o,h3,h4⟩:=h
   refine⟨_,?_,hKA _ _ h4⟩
   rw[IG (Dp ha hp) (xF he h1)]
   unfold BT at h3;simp only[tA,wB]at h3;obtain⟨y,g1,a,g2,et,g3,g4,g5⟩:=h3
   cases g5
   unfold sC;rw[g1,oA,h2,oA];simp only[zA.asSlice,zA.asPtr,oA];rw[g2,oA,g3,oA,g4];rfl
  grind [lE,jX,IG,xF]
 case index ty x i=>
  rw[sD]at h;split at h
  ·exact zT he (.inl rfl) h hKd
  ·simp only[lE,jX]at h
   obtain⟨u,h1,w,h2,v,h3,h4⟩:=h
   refine⟨v,?_,hK v h4⟩
   show nW ty x i C eA HA=_
   grind [zdd,xF]
 case lookup ty x i ok=>
  simp only[lE,Gn]at h;obtain⟨m,h1,key,h2,v,h3,h4⟩:=h
  refine⟨v,?_,hK v h4⟩
  show rW ty x i ok C eA HA=_
  rw[VU (xF he h1) (xF he h2)];exact OU ho.le h3
 case extract x i=>
  simp only[lE,jX]at h;obtain⟨u,h1,v,h2,h3⟩:=h
  refine⟨v,?_,hK v h3⟩
  show lW x i C eA HA=_
  grind [VV,xF]
 case typeAssert x a u ok=>
  simp only[lE,jX]at h;obtain⟨w,h1,v,h2,h3⟩:=h
  refine⟨v,?_,hK v h3⟩
  show iW x u ok C eA HA=_
  grind [VX,xF]
 case build ty ps=>
  unfold zev at h;simp only[lE,lO]at h;obtain⟨y,h1,hbd,vs,h2,q,h3,l,h4,h5⟩:=h
  have h5:if kB zA.one q.2=true then rA C.base W J (k.Kd (.agg l)) t Q else False:=h5
  split at h5
  ·rename_i hone
   refine⟨_,?_,hKd _ h5⟩
   show vY ty ps C eA HA=_
   have hf:=XE (Hl C y) vs h3 hone y.zero l h4
   unfold vY;rw[h1,oA,Zt he h2,oA]
   cases hs:y.desc.asStruct with
   | some fs=>
    simp only[];have:(fun i=>ob (vD fs i) fun x=>some (x.1,x.2.2))=Hl C y:=by funext i;unfold Hl;rw[hs]
    simp_all
   | none=>
    simp only[];unfold NN at hbd;rw[hs]at hbd;simp only[]at hbd
    cases ha:y.desc.asArr with
    | none=>simp_all
    | some a=>
     rw[ha]at hbd;simp only[]at hbd
     cases hy:C.tys.get a.2 with
     | none=>simp_all
     | some et=>
      simp only[oA];have:(fun i=>some (i*et.size,et.size))=Hl C y:=by funext i;unfold Hl;rw[hs];simp only[];rw[ha,oA,hy,oA]
      simp_all
  simp_all
 case call c=>
  split at h
  ·rename_i b hb
   cases b<;>simp only[Ko]at h<;>try (cases h;done)
   case len=>
    unfold tLen at h;simp only[lE]at h;obtain⟨ty,h1,x,h2,u,h3,h4⟩:=h
    show ∃v,(oT c c.callee).f C eA HA=some v/\R v
    rw[hb];show ∃v,cQ c C eA HA=some v/\R v
    rw[lLen_v h1 h2 (xF he h3)]
    rw[sD]at h4;split at h4
    ·grind [jX,OW,kC]
    ·rw[sD]at h4
     split at h4
     ·rw[Gn]at h4
      obtain⟨v,h5,h6⟩:=h4
      exact⟨v,OV ho.le h5,hK v h6⟩
     grind [lE,WE,kC]
   case max=>exact zT he (.inr (.inr ⟨c,rfl,.inl hb⟩)) h hKd
   case min=>exact zT he (.inr (.inr ⟨c,rfl,.inr hb⟩)) h hKd
  ·cases h
end
end
end Go.Am
