/- Code as a function: all functions of a program; what a value is worth. -/
import Derived.Test.YtfmlbimokklmgaaGreatDoorB04
set_option linter.all false
noncomputable section
namespace Go.Am
open Go Go.RowKit
def zT (C:rA)(fn:Func)(tm:Tm)(H:xA):sB:=ob (rS C H tm fn.results.toList) fun l=>some (⟨Bt l,false⟩,H)
def yN (C:rA)(fn:Func):Kt:=⟨zT C fn,fun _ _ _=>none,zT C fn⟩
def dZ(ops:List Oper):Bool:=cB (fun o=>match o.op with | .move _=>jD o.guard | .assign _=>jD o.guard | .alloc _=>jD o.guard | .store _ _ _=>jD o.guard | _=>false) ops
def Nn(l:List (Nat × Array Oper)):Bool:=match l with | []=>false | x::r=>cB (fun x=>dZ x.2.toList) (x::r)
def Ja(c:zC):Option Dh:=match dJ c with | [q]=>some q | _=>none
def rdOk (r:lL)(q:Dh):Prop:=r.assign=asC q.as/\r.body=lD q.c/\r.params=q.ps.toList/\LoopState.tag r.state=0/\Nn q.as=true/\dJ q.c=[]
def Da(r:lL):lL:=⟨.busy,r.pending,r.fn,r.n,r.tm,r.params,r.assign,r.body,r.defers⟩
def rN(b:Bool)(r:lL):lL:=⟨if b then .ready else .done,if b then none else some .ret,r.fn,r.n,r.tm,r.params,r.assign,r.body,r.defers⟩
def bT:Kt:=⟨fun _ H=>some (⟨.bool true,false⟩,H),fun _ _ _=>none,fun _ H=>some (⟨.bool false,false⟩,H)⟩
def Qo(C:rA)(φ:aD)(fn n:Nat)(q:Dh)(tm:Tm)(H:xA):sB:=aC C φ fn n (asA q.c q.as) bT tm H
def Cd(C:rA)(A:Tr zC)(φ:aD)(l:Nat)(args:List zA)(H:xA):sB:=
 ob (eH H l) fun r=>ob (aW r.n r.params args r.tm) fun tm=>ob (A.get r.fn) fun c=>ob (Ja c) fun q=>@ite _ (rdOk r q/\l<H.next) (Classical.propDecidable _)
  (ob (Qo C φ r.fn r.n q tm (setBlk H l (.loop (Da r)))) fun x=>yB (!x.1.p) (ob (eH x.2 l) fun r2=>ob x.1.v.asBool fun b=>some (⟨.bool b,false⟩,setBlk x.2 l (.loop (rN b r2))))) none
def regO (c:zC):Option (Nat × Array Oper):=match c with
 | .region id ops false=>some (id,ops)
 | .cut _ (.region id ops false)=>some (id,ops)
 | _=>none
structure sO where
 i5:Nat
 o5:Array Oper
 d:Nat
 cl:Nat
 bs:List Operand
 i6:Nat
 o6:Array Oper
def Cx (l:List Oper):Option (Nat × Nat × List Operand):=match l with
 | [⟨some d,.makeFunc (.func cl) as bs,_,_,_,none⟩,⟨none,.defer cc,_,_,_,none⟩]=>(match as.toList,cc.callee,cc.args.toList with
  | [],.value (.tmp e),[]=>bif Nat.beq d e then some (d,cl,bs.toList)else none
  | _,_,_=>none)
 | _=>none
def Mj(c:zC):Option sO:=match c with
 | .seq a (.seq b .ret)=>ob (regO a) fun u=>ob (regO b) fun v=>ob (Cx u.2.toList) fun q=>some ⟨u.1,u.2,q.1,q.2.1,q.2.2,v.1,v.2⟩
 | _=>none
def eT(c:zC):Option (List zC × sO):=
 zC.rec (motive:=fun _=>Option (List zC × sO)) none (fun _ _ _=>none)
  (fun a b _ g=>match Mj (.seq a b)with | some q=>some ([],q) | none=>ob g fun p=>some (a::p.1,p.2))
  (fun _ _ _ _ _=>none) (fun _ _ _=>none) (fun _ _ _=>none) (fun _=>none) none (fun _ _ _=>none) (fun _ _ _ _ _ _ _=>none) c
def mV (l:List zC):zC:=List.rec (motive:=fun _=>zC) .skip (fun a _ g=>.seq a g) l
def Ij (l:List Oper):Option (Nat × Nat):=match l with
 | [⟨some d,.call cc,_,_,_,none⟩,⟨some e,.assign (.tmp f),_,_,_,none⟩]=>(match cc.callee with
  | .builtin .recover=>bif Nat.beq d f then some (d,e)else none
  | _=>none)
 | _=>none
structure ClQ where
 i:Nat
 o:Array Oper
 d:Nat
 e:Nat
 c:zC
def Cz (c:zC):Option ClQ:=match c with
 | .seq a b=>ob (regO a) fun u=>ob (Ij u.2.toList) fun p=>some ⟨u.1,u.2,p.1,p.2,b⟩
 | _=>none
def clTm (n:Nat)(q:ClQ)(tm:Tm)(v:zA):Tm:=putA n (putA n tm.cut (some q.d) v) (some q.e) v
def kQ(C:rA)(A:Tr zC)(φ:aD)(cl:Nat)(cells:List zA)(v:zA)(H:xA):sB:=
 ob (C.fns.get cl) fun fc=>ob (A.get cl) fun cc=>ob (Cz cc) fun q=>yB (jD (C.prims.get cl)&&Nat.blt q.d fc.ntmps) (ob (eI C cl cells true) fun g=>aC C φ cl fc.ntmps q.c (yN C fc) (clTm fc.ntmps q g.tm v) H)
def fK (C:rA)(A:Tr zC)(φ:aD)(fn:Func)(cl:Nat)(cells:List zA)(v:zA)(tm:Tm)(H:xA):sB:=
 ob (kQ C A φ cl cells v H) fun y=>yB (!y.1.p) (zT C fn tm y.2)
def Kw(l:List ResultVar)(o6:List Oper):Bool:=cB (fun r=>match r with | .cell a _=>cB (fun o=>match o.dst with | some d => !Nat.beq d a | none=>true) o6 | .tmp _=>false) l
def lO(C:rA)(A:Tr zC)(φ:aD)(fn:Func)(q:sO)(tm:Tm)(H:xA):sB:=
 yB (Kw fn.results.toList q.o6.toList&&(Nat.ble tm.k q.d&&Nat.blt q.d fn.ntmps)) (ob (lM q.bs (.now tm.cut)) fun cells=>
  ob (kK C φ q.o6 fn.ntmps (fun tm' H'=>fK C A φ fn q.cl cells .niliface tm' H') q.o6.toList tm.cut H) fun x=>
   Bool.rec (motive:=fun _=>sB) (some x) (fK C A φ fn q.cl cells x.1.v tm.cut x.2) x.1.p)
def jZ (C:rA)(A:Tr zC)(φ:aD)(fn:Func)(q:sO):Kt:=⟨lO C A φ fn q,fun _ _ _=>none,zT C fn⟩
def dU(C:rA)(A:Tr zC)(φ:aD)(f:Nat)(fn:Func)(c:zC)(tm:Tm)(H:xA):sB:=
 match eT c with
 | none=>aC C φ f fn.ntmps c (yN C fn) tm H
 | some p=>aC C φ f fn.ntmps (mV p.1) (jZ C A φ fn p.2) tm H
def nQ (C:rA)(A:Tr zC)(φ:aD)(f:Nat)(args:List zA)(H:xA):sB:=
 ob (A.get f) fun c=>ob (C.fns.get f) fun fn=>ob (eI C f args false) fun g=>dU C A φ f fn c g.tm H
def Bu(C:rA)(A:Tr zC)(φ:aD):aD
 | .func f=>nQ C A φ f
 | .yld l=>Cd C A φ l
def aZ (C:rA)(A:Tr zC):Nat->aD
 | 0=>fun _ _ _=>none
 | n+1=>Bu C A (aZ C A n)
def nC (C:rA)(A:Tr zC):aD:=fun f args H=>lim fun n=>aZ C A n f args H
section
variable {C:rA}{A:Tr zC}
theorem Ed{φ:aD}{l:Nat}{args:List zA}{H:xA}{x:kG × xA}:Cd C A φ l args H=some x ↔ ∃r tm c q y r2 b,eH H l=some r/\aW r.n r.params args r.tm=some tm/\A.get r.fn=some c/\Ja c=some q/\(rdOk r q/\l<H.next)/\Qo C φ r.fn r.n q tm (setBlk H l (.loop (Da r)))=some y/\eH y.2 l=some r2/\y.1=⟨.bool b,false⟩/\x=(⟨.bool b,false⟩,setBlk y.2 l (.loop (rN b r2))):=by
 have out:∀(o:kG) (b:Bool),o=⟨.bool b,false⟩ ↔ o.v=.bool b/\o.p=false:=fun o b=>by cases o;simp
 unfold Cd;simp only[out];grind [tA,Au,xB]
theorem XV{φ φ':aD}(h:eM φ φ'){cl:Nat}{cells:List zA}{v:zA}{H:xA}{x:kG × xA}(hx:kQ C A φ cl cells v H=some x):kQ C A φ' cl cells v H=some x:=by
 unfold kQ at hx ⊢
 simp only[tA,xB]at hx ⊢
 obtain⟨fc,h1,cc,h2,q,h3,h4,g,h5,h6⟩:=hx
 exact⟨fc,h1,cc,h2,q,h3,h4,g,h5,mY h _ _ _ (lN.refl _) _ _ _ h6⟩
theorem Kr{φ φ':aD}(h:eM φ φ'){fn:Func}{cl:Nat}{cells:List zA}{v:zA}{tm:Tm}{H:xA}{x:kG × xA}(hx:fK C A φ fn cl cells v tm H=some x):fK C A φ' fn cl cells v tm H=some x:=by
 unfold fK at hx ⊢
 rw[tA]at hx ⊢
 obtain⟨y,h1,h2⟩:=hx
 exact⟨y,XV h h1,h2⟩
theorem Zx{φ φ':aD}(h:eM φ φ'){fn:Func}{q:sO}:nI (lO C A φ fn q) (lO C A φ' fn q):=by
 intro tm H x hx;unfold lO at hx ⊢
 simp only[xB,tA]at hx ⊢
 obtain⟨h1,cells,h2,y,h3,h4⟩:=hx
 refine⟨h1,cells,h2,y,Iy h (fun tm H x hx=>Kr h hx) _ _ _ _ h3,?_⟩
 cases hp:y.1.p with
 | false=>rw[hp]at h4;exact h4
 | true=>rw[hp]at h4;exact Kr h h4
theorem YS{φ φ':aD}(h:eM φ φ'){f:Nat}{fn:Func}{c:zC}:nI (dU C A φ f fn c) (dU C A φ' f fn c):=by
 intro tm H x hx;unfold dU at hx ⊢
 split at hx
 ·exact mY h c _ _ (lN.refl _) _ _ _ hx
 ·exact mY h _ (jZ C A φ fn _) (jZ C A φ' fn _) ⟨Zx h,fun _ _ _ _ h=>h,fun _ _ _ h=>h⟩ _ _ _ hx
theorem JV{φs:Nat->aD}{φ:aD}(h:xT φs φ){fn:Func}{cl:Nat}{cells:List zA}{v:zA}:iM (fun n=>fK C A (φs n) fn cl cells v) (fK C A φ fn cl cells v):=by
 refine⟨fun n tm H x hx=>Kr (h.up n) hx,fun tm H x hx=>?_⟩
 unfold fK at hx;rw[tA]at hx;obtain⟨y,h1,h2⟩:=hx
 unfold kQ at h1;simp only[tA,xB]at h1;obtain⟨fc,g1,cc,g2,q,g3,g4,g,g5,g6⟩:=h1
 have sup:Az (fun _=>yN C fc) (yN C fc):=⟨⟨fun _ _ _ _ h=>h,fun _ _ _ h=>⟨0,h⟩⟩,fun i=>⟨fun _ _ _ _ h=>h,fun _ _ _ h=>⟨0,h⟩⟩,⟨fun _ _ _ _ h=>h,fun _ _ _ h=>⟨0,h⟩⟩⟩
 obtain⟨n,hn⟩:=(Ks h q.c _ _ sup).ex _ _ _ g6
 refine⟨n,?_⟩
 show fK C A (φs n) fn cl cells v tm H=some x
 unfold fK kQ;simp only[tA,xB];rw[xB]at h2;exact⟨y,⟨fc,g1,cc,g2,q,g3,g4,g,g5,hn⟩,h2⟩
theorem NX{φs:Nat->aD}{φ:aD}(h:xT φs φ){fn:Func}{q:sO}:iM (fun n=>lO C A (φs n) fn q) (lO C A φ fn q):=by
 refine⟨fun n=>Zx (h.up n),fun tm H x hx=>?_⟩
 unfold lO at hx;simp only[xB,tA]at hx;obtain⟨h1,cells,h2,y,h3,h4⟩:=hx
 obtain⟨n,hn⟩:=(DZ h (JV h) _).ex _ _ _ h3
 have key:∀m,n<=m->kK C (φs m) q.o6 fn.ntmps (fun tm' H'=>fK C A (φs m) fn q.cl cells .niliface tm' H') q.o6.toList tm.cut H=some y:=
  fun m hm=>Iy (h.le hm) (fun tm H x hx=>Kr (h.le hm) hx) _ _ _ _ hn
 cases hp:y.1.p with
 | false=>
  rw[hp]at h4;refine⟨n,?_⟩
  show lO C A (φs n) fn q tm H=some x
  unfold lO;simp only[xB,tA];exact⟨h1,cells,h2,y,hn,by rw[hp];exact h4⟩
 | true=>
  rw[hp]at h4;obtain⟨m,hm⟩:=(JV h).ex _ _ _ h4
  refine⟨max n m,?_⟩
  show lO C A (φs (max n m)) fn q tm H=some x
  unfold lO;simp only[xB,tA];exact⟨h1,cells,h2,y,key _ (Nat.le_max_left _ _),by rw[hp];exact Kr (h.le (Nat.le_max_right _ _)) hm⟩
theorem YQ{φs:Nat->aD}{φ:aD}(h:xT φs φ){f:Nat}{fn:Func}{c:zC}{tm:Tm}{H:xA}{x:kG × xA}(hx:dU C A φ f fn c tm H=some x):∃n,dU C A (φs n) f fn c tm H=some x:=by
 unfold dU at hx ⊢
 split at hx
 ·have sup:Az (fun _=>yN C fn) (yN C fn):=⟨⟨fun _ _ _ _ h=>h,fun _ _ _ h=>⟨0,h⟩⟩,fun i=>⟨fun _ _ _ _ h=>h,fun _ _ _ h=>⟨0,h⟩⟩,⟨fun _ _ _ _ h=>h,fun _ _ _ h=>⟨0,h⟩⟩⟩
  exact(Ks h c _ _ sup).ex _ _ _ hx
 ·rename_i p _
  exact(Ks h (mV p.1) (fun n=>jZ C A (φs n) fn p.2) (jZ C A φ fn p.2) ⟨NX h,fun i=>⟨fun _ _ _ _ h=>h,fun _ _ _ h=>⟨0,h⟩⟩,⟨fun _ _ _ _ h=>h,fun _ _ _ h=>⟨0,h⟩⟩⟩).ex _ _ _ hx
theorem BP{φ φ':aD}(h:eM φ φ'):eM (Bu C A φ) (Bu C A φ'):=by
 intro f args H x hx
 cases f with
 | yld l=>
  have hx:Cd C A φ l args H=some x:=hx
  obtain⟨r,tm,c,q,y,r2,b,h1,h2,h3,h4,hq,h5,h6,h7,h8⟩:=Ed.1 hx
  exact Ed.2 ⟨r,tm,c,q,y,r2,b,h1,h2,h3,h4,hq,mY h _ _ _ (lN.refl _) _ _ _ h5,h6,h7,h8⟩
 | func f=>
 have hx:nQ C A φ f args H=some x:=hx
 show nQ C A φ' f args H=some x
 unfold nQ at hx ⊢
 rw[tA]at hx ⊢
 obtain⟨c,h1,hx⟩:=hx
 refine⟨c,h1,?_⟩
 rw[tA]at hx ⊢
 obtain⟨fn,h2,hx⟩:=hx
 refine⟨fn,h2,?_⟩
 rw[tA]at hx ⊢
 obtain⟨g,h3,hx⟩:=hx
 exact⟨g,h3,YS h _ _ _ hx⟩
theorem EJ:∀n,eM (aZ C A n) (aZ C A (n+1)):=by
 intro n;induction n with
 | zero=>intro f args H x h;cases h
 | succ n ih=>exact BP ih
theorem Cr{f:oT}{args:List zA}{H:xA}{x:kG × xA}:nC C A f args H=some x ↔ ∃n,aZ C A n f args H=some x:=
 Ox fun n _ hy=>EJ n _ _ _ _ hy
theorem JC:xT (aZ C A) (nC C A):=⟨EJ,fun _ _ _ _ h=>Cr.1 h⟩
theorem Xm(f:oT)(args:List zA)(H:xA):nC C A f args H=Bu C A (nC C A) f args H:=by
 have key:∀x,nC C A f args H=some x ↔ Bu C A (nC C A) f args H=some x:=by
  intro x;constructor
  ·intro h
   obtain⟨n,hn⟩:=Cr.1 h
   cases n with
   | zero=>cases hn
   | succ n=>exact BP (fun f a H y hy=>Cr.2 ⟨n,hy⟩) _ _ _ _ hn
  ·intro h
   cases f with
   | yld l=>
    have h:Cd C A (nC C A) l args H=some x:=h
    obtain⟨r,tm,c,q,y,r2,b,h1,h2,h3,h4,hq,h5,h6,h7,h8⟩:=Ed.1 h
    have sup:Az (fun _=>bT) bT:=⟨⟨fun _ _ _ _ h=>h,fun _ _ _ h=>⟨0,h⟩⟩,fun i=>⟨fun _ _ _ _ h=>h,fun _ _ _ h=>⟨0,h⟩⟩,⟨fun _ _ _ _ h=>h,fun _ _ _ h=>⟨0,h⟩⟩⟩
    obtain⟨n,hn⟩:=(Ks JC _ _ _ sup).ex _ _ _ h5
    exact Cr.2 ⟨n+1,Ed.2 ⟨r,tm,c,q,y,r2,b,h1,h2,h3,h4,hq,hn,h6,h7,h8⟩⟩
   | func f=>
   have h:nQ C A (nC C A) f args H=some x:=h
   unfold nQ at h;rw[tA]at h;obtain⟨c,h1,h⟩:=h
   rw[tA]at h;obtain⟨fn,h2,h⟩:=h
   rw[tA]at h;obtain⟨g,h3,h⟩:=h
   obtain⟨n,hn⟩:=YQ JC h
   refine Cr.2 ⟨n+1,?_⟩
   show nQ C A (aZ C A n) f args H=some x
   grind [nQ,qA]
 cases h:nC C A f args H with
 | some x=>grind
 | none=>
  cases h2:Bu C A (nC C A) f args H with
  | none=>rfl
  | some x=>simp_all
def vV(C:rA)(A:Tr zC):Prop:=∀f c,A.get f=some c->∃fn,C.fns.get f=some fn/\fn.body=some (lD c)
theorem WP{f:Nat}{args:List zA}{g:pB}(h:eI C f args false=some g):∃fn c,C.fns.get f=some fn/\fn.body=some c/\g.todo=[.code c]/\g.R=⟨f,fn.ntmps,[],.run,false,none⟩:=by
 grind [eI,tA,xB]
theorem Oq{α β:Type}{f g:α->Option β}:∀(l:List α) {r:List β},(∀a b,f a=some b->g a=some b)->lG f l=some r->lG g l=some r:=by
 intro l;induction l with
 | nil=>intro r _ h;exact h
 | cons a l ih=>
  grind [zP,tA]
def jP(C:rA)(f:Nat)(acs:List pB)(fl:Bool:=false):wV:=fun ds o x=>∃fr',o=.next ⟨fr',acs,x.2⟩/\tO C f ds fr' x.2 x.1 fl
theorem QP{H:xA}{tm:Tm}{r:Nat}{d e:Option (List jG)}(hr:H.t.get r=some (.deferred d)):∀(l:List ResultVar) vs,rS C H tm l=some vs->rS C (setBlk H r (.deferred e)) tm l=some vs:=by
 intro l vs h;refine Oq l (fun rv v h=>?_) h
 cases rv with
 | tmp t=>exact h
 | cell a t=>
  have h:(ob (ob (tm.get a) zA.asPtr) fun p=>ob (C.tys.get t) fun ty=>ob (bD H p.1) fun c=>sQ ty c.1 p.2)=some v:=h
  show(ob (ob (tm.get a) zA.asPtr) fun p=>ob (C.tys.get t) fun ty=>ob (bD (setBlk H r (.deferred e)) p.1) fun c=>sQ ty c.1 p.2)=some v
  simp only[tA]at h ⊢
  obtain⟨p,hp,ty,ht,c,hc,hv⟩:=h
  refine⟨p,hp,ty,ht,c,?_,hv⟩
  unfold bD at hc ⊢
  rw[tA]at hc ⊢
  obtain⟨y,h1,h2⟩:=hc
  refine⟨y,?_,h2⟩
  show(H.t.set r (.deferred e)).get p.1=some y
  rw[Tr.get_set,yaa fun e=>by rw[e,hr]at h1;cases h1;cases h2]
  exact h1
theorem tO.ret{f:Nat}{ds:List jG}{fr:pB}{H:xA}{o:kG}{fl:Bool}(h:tO C f ds fr H o fl)(hp:o.p=false):Dg C f ds fr H o.v fl:=by
 unfold tO at h;rwa [hp,yaa (by simp)]at h
theorem tO.of{f:Nat}{ds:List jG}{fr:pB}{H:xA}{o:kG}{fl:Bool}(h:Dg C f ds fr H o.v fl)(hp:o.p=false):tO C f ds fr H o fl:=by
 unfold tO;rwa [hp,yaa (by simp)]
theorem Pr{f N:Nat}{acs:List pB}{fl:Bool}(hfn:∃fn,C.fns.get f=some fn):Gm C (jP C f acs fl) (fun _=>True) f N none acs fl:=by
 refine⟨?_,fun _ _=>trivial,?_,fun ds todo tm x _ hp=>⟨_,rfl,by unfold tO;rw[yab hp];exact⟨⟨rfl,rfl,rfl,rfl⟩,hfn⟩⟩⟩
 ·rintro ds todo tm H x ⟨fr',h1,h2⟩
  cases h1;unfold tO at h2;split at h2
  ·have:=h2.1.1;cases this
  ·have:=h2.1;cases this
 ·rintro _ r ds o x hp ⟨fr',rfl,hE⟩ hd
  obtain⟨h1,h2,h3,h4,fn,l,h5,h6,h7⟩:=hE.ret hp
  obtain⟨todo,tm,ffn,n,defers,mode,deferred,round⟩:=fr'
  simp only at h1 h2 h3 h4 h6
  subst h1 h2 h3 h4
  have hr:x.2.t.get r=some (.deferred (some [])):=by
   unfold gU at hd;rw[xB,tA]at hd;obtain⟨_,y,e1,e2⟩:=hd
   cases y<;>cases e2
   exact e1
  refine⟨_,.step ?_,⟨⟨todo,tm,⟨ffn,n,ds,.returning,deferred,round⟩⟩,rfl,tO.of ⟨rfl,rfl,rfl,rfl,fn,l,h5,QP hr _ _ h6,h7⟩ hp⟩⟩
  show uJ C (Bs C ⟨none,r,[]⟩ ds ⟨todo,tm,⟨ffn,n,⟨none,r,[]⟩::ds,.returning,deferred,round⟩⟩ acs x.2) _
  unfold Bs;simp only[hd,qA];exact .refl _
theorem Kq{f:Nat}{fn:Func}{acs:List pB}{x:kG × xA}{ds:List jG}{fl:Bool}(hf:C.fns.get f=some fn){tm:Tm}{H:xA}(h:zT C fn tm H=some x){todo:List mD}{N:Nat}
  (hs:lQ C todo tm (RR f N none ds fl) acs H=.next ⟨zX ⟨todo,tm,RR f N none ds fl⟩ .returning,acs,H⟩):Fin C (jP C f acs fl) ds (.next ⟨⟨todo,tm,RR f N none ds fl⟩,acs,H⟩) x:=by
 unfold zT at h;rw[tA]at h;obtain⟨l,h1,h2⟩:=h
 cases h2;refine .step ?_
 rw[fH rfl,hs];exact⟨_,.refl _,_,rfl,tO.of ⟨rfl,rfl,rfl,rfl,fn,l,hf,h1,rfl⟩ rfl⟩
def RdG (l:Nat)(c:pB):kG × xA->Prop:=fun x=>∃b r2 c',x.1=⟨.bool b,false⟩/\eH x.2 l=some r2/\iG c (.bool b)=some c'
def RdEnd(l:Nat)(c:pB)(acs:List pB):wV:=fun _ o x=>∃b r2 c',x.1=⟨.bool b,false⟩/\eH x.2 l=some r2/\iG c (.bool b)=some c'/\o=.next ⟨c',acs,setBlk x.2 l (.loop (rN b r2))⟩
theorem BX{l b:Nat}(h:b≠l)(t:Tr vA)(x y:vA):(t.set l x).set b y=(t.set b y).set l x:=Tr.set_comm t _ _ _ _ (fun e=>h e.symm)
theorem ZA{C:rA}{φ:aD}{all:Array Oper}{n:Nat}{κn:Tm->xA->sB}{l0:Nat}{r0 r1:lL}:∀(l:List Oper) (tm:Tm) (H:xA) (x:kG × xA),dZ l=true->l0<H.next->H.t.get l0=some (.loop r0)->kK C φ all n κn l tm (setBlk H l0 (.loop r1))=some x →
  ∃tm' H',κn tm' (setBlk H' l0 (.loop r1))=some x/\l0<H'.next/\H'.t.get l0=some (.loop r0)/\∀(k:List mD) (R:kI) (cs:List pB),R.n=n->lK C all k R cs l tm H=xGo k tm' R cs H':=by
 intro l;induction l with
 | nil=>intro tm H x _ h1 h2 h;exact⟨tm,H,h,h1,h2,fun _ _ _ _=>rfl⟩
 | cons o l ih=>
  intro tm H x hp hl hg h;have hp:(bif (match o.op with | .move _=>jD o.guard | .assign _=>jD o.guard | .alloc _=>jD o.guard | .store _ _ _=>jD o.guard | _=>false)then dZ l else false)=true:=hp
  have hp1:(match o.op with | .move _=>jD o.guard | .assign _=>jD o.guard | .alloc _=>jD o.guard | .store _ _ _=>jD o.guard | _=>false)=true:=by
   simp_all
  rw[hp1]at hp;have hp:dZ l=true:=hp
  have hw:tF o.guard all tm=some true:=by
   have:jD o.guard=true:=by cases ho:o.op<;>rw[ho]at hp1<;>first | exact hp1 | (cases hp1;done)
   cases hx:o.guard with
   | none=>rfl
   | some g=>rw[hx]at this;cases this
  rw[cZ,hw,qA,yab rfl]at h;have key:∃v H',(rE o.op).f C (.now tm) (setBlk H l0 (.loop r1))=.val v (setBlk H' l0 (.loop r1))/\(rE o.op).f C (.now tm) H=.val v H'/\l0<H'.next/\H'.t.get l0=some (.loop r0):=by
   cases ho:o.op<;>rw[ho]at hp1 h<;>try (cases hp1;done)
   case move u=>
    have e:∀H,(rE (.move u)).f C (.now tm) H=lv (mM u) C (.now tm) H:=fun _=>rfl
    rw[e]at h
    cases hv:ev u (.now tm)with
    | none=>
     have:lv (mM u) C (.now tm) (setBlk H l0 (.loop r1))=.fail:=by unfold lv mM;rw[hv]
     rw[this]at h;cases h
    | some v=>exact⟨v,H,by rw[e];unfold lv mM;rw[hv],by rw[e];unfold lv mM;rw[hv],hl,hg⟩
   case assign u=>
    have e:∀H,(rE (.assign u)).f C (.now tm) H=lv (mM u) C (.now tm) H:=fun _=>rfl
    rw[e]at h
    cases hv:ev u (.now tm)with
    | none=>
     have:lv (mM u) C (.now tm) (setBlk H l0 (.loop r1))=.fail:=by unfold lv mM;rw[hv]
     rw[this]at h;cases h
    | some v=>exact⟨v,H,by rw[e];unfold lv mM;rw[hv],by rw[e];unfold lv mM;rw[hv],hl,hg⟩
   case alloc t=>
    have e:∀H,(rE (.alloc t)).f C (.now tm) H=fJ (ob (C.tys.get t) fun ty=>some (.ptr H.next 0,dE H ty.zero (qJ C t))):=fun _=>rfl
    rw[e]at h
    cases ht:C.tys.get t with
    | none=>rw[ht]at h;cases h
    | some ty=>
     refine⟨.ptr H.next 0,dE H ty.zero (qJ C t),?_,by rw[e,ht];rfl,Nat.lt_succ_of_lt hl,?_⟩
     ·rw[e,ht]
      show iI.val (.ptr H.next 0) (dE (setBlk H l0 (.loop r1)) ty.zero (qJ C t))=_
      congr 1
      show(⟨H.next+1,(H.t.set l0 _).set H.next _⟩:xA)=⟨H.next+1,(H.t.set H.next _).set l0 _⟩
      rw[BX (by omega)]
     ·show(H.t.set H.next _).get l0=_
      rw[Tr.get_set,yaa (by omega),hg]
   case store t a u=>
    have e:∀H,(rE (.store t a u)).f C (.now tm) H=fJ (ob (C.tys.get t) fun ty=>ob (ev a (.now tm)) fun a=>ob a.asPtr fun p=>ob (ev u (.now tm)) fun v=>yB (Nat.beq (bA v.cells) ty.size) (ob (wI C H p.1 p.2 v.cells) fun H'=>some (rD,H'))):=fun _=>rfl
    rw[e]at h
    cases hs:(ob (C.tys.get t) fun ty=>ob (ev a (.now tm)) fun a=>ob a.asPtr fun p=>ob (ev u (.now tm)) fun v=>yB (Nat.beq (bA v.cells) ty.size) (ob (wI C (setBlk H l0 (.loop r1)) p.1 p.2 v.cells) fun H'=>some (rD,H')))with
    | none=>rw[hs]at h;cases h
    | some q=>
     have hs0:=hs
     simp only[tA,xB]at hs;obtain⟨ty,h1,a',h2,p,h3,v,h4,h5,H1,h6,h7⟩:=hs
     unfold wI at h6;simp only[tA,xB]at h6;obtain⟨g1,c,g2,g3,g4⟩:=h6
     have hne:p.1≠l0:=by
      intro e;unfold bD at g2;have:(setBlk H l0 (.loop r1)).t.get p.1=some (.loop r1):=by
       show(H.t.set l0 _).get p.1=_
       rw[Tr.get_set,yab e]
      rw[this,qA]at g2;cases g2
     have g2':bD H p.1=some c:=by
      unfold bD at g2 ⊢
      have:(setBlk H l0 (.loop r1)).t.get p.1=H.t.get p.1:=by
       show(H.t.set l0 _).get p.1=_
       rw[Tr.get_set,yaa hne]
      rw[this]at g2;exact g2
     refine⟨rD,setBlk H p.1 (.cells (c.1.setMany v.cells p.2) c.2.1 c.2.2),?_,?_,hl,?_⟩
     ·rw[e,hs0,<- h7,<- yci g4]
      show iI.val rD (setBlk (setBlk H l0 (.loop r1)) p.1 _)=_
      congr 1
      show(⟨H.next,(H.t.set l0 _).set p.1 _⟩:xA)=⟨H.next,(H.t.set p.1 _).set l0 _⟩
      rw[BX hne]
     ·rw[e,h1,qA,h2,qA,h3,qA,h4,qA,h5]
      unfold wI;rw[g1,g2'];simp only[qA];rw[g3];rfl
     ·show(H.t.set p.1 _).get l0=_
      rw[Tr.get_set,yaa (fun e=>hne e.symm),hg]
  obtain⟨v,H',k1,k2,k3,k4⟩:=key
  rw[k1]at h;have h:cJ C o.type v (fun v=>kK C φ all n κn l (putA n tm o.dst v) (setBlk H' l0 (.loop r1)))=some x:=h
  rw[fN]at h;obtain⟨tm',H2,m1,m2,m3,m4⟩:=ih _ H' x hp k3 k4 h.2
  refine⟨tm',H2,m1,m2,m3,fun k R cs hR=>?_⟩
  rw[kZ,hw];simp only[if_true];rw[k2];simp only[iI.asVal];rw[hR];exact m4 k R cs hR
theorem YZ{C:rA}{φ:aD}{fn n:Nat}{κ:Kt}{c:zC}{l0:Nat}{r0 r1:lL}:∀(as:List (Nat × Array Oper)) (tm:Tm) (H:xA) (x:kG × xA),Nn as=true->l0<H.next->H.t.get l0=some (.loop r0)->aC C φ fn n (asA c as) κ tm (setBlk H l0 (.loop r1))=some x →
  ∃tm' H',aC C φ fn n c κ tm' (setBlk H' l0 (.loop r1))=some x/\H'.t.get l0=some (.loop r0)/\∀(k:List mD) (R:kI) (cs:List pB),R.n=n->R.mode.running=true->uJ C (.next ⟨⟨.code (asC as)::k,tm,R⟩,cs,H⟩) (.next ⟨⟨k,tm',R⟩,cs,H'⟩):=by
 intro as;induction as with
 | nil=>intro _ _ _ h;cases h
 | cons z as ih=>
  intro tm H x hp hl hg h;have hp:(bif dZ z.2.toList then cB (fun x=>dZ x.2.toList) as else false)=true:=hp
  have hp1:dZ z.2.toList=true:=by simp_all
  have h:kK C φ z.2 n (aC C φ fn n (asA c as) κ) z.2.toList tm.cut (setBlk H l0 (.loop r1))=some x:=h
  obtain⟨tm1,H1,h1,h2,h3,h4⟩:=ZA _ _ _ _ hp1 hl hg h
  cases as with
  | nil=>
   refine⟨tm1,H1,h1,h3,fun k R cs hR hm=>.step ?_⟩
   rw[fH hm];show uJ C (lK C z.2 k R cs z.2.toList tm.cut H) _
   rw[h4 _ _ _ hR];exact .refl _
  | cons w as=>
   have hp2:Nn (w::as)=true:=by
    show cB (fun x=>dZ x.2.toList) (w::as)=true
    simp_all
   obtain⟨tm2,H2,g1,g2,g3⟩:=ih tm1 H1 x hp2 h2 h3 h1
   refine⟨tm2,H2,g1,g2,fun k R cs hR hm=>.step ?_⟩
   rw[fH hm];show uJ C (lK C z.2 (.code (asC (w::as))::k) R cs z.2.toList tm.cut H) _
   rw[h4 _ _ _ hR];exact g3 _ _ _ hR hm
theorem QL{φ:aD}(hφ:nP C φ){l:Nat}{args:List zA}{H:xA}{x:kG × xA}(h:Cd C A φ l args H=some x) :
  ∃r tm,eH H l=some r/\aW r.n r.params args r.tm=some tm/\x.1.p=false/\∀c acs c',iG c x.1.v=some c'->uJ C (.next ⟨Us r l tm,c::acs,H⟩) (.next ⟨c',acs,x.2⟩):=by
 obtain⟨r,tm,cc,q,y,r2,b,h1,h2,h3,h4,⟨⟨q1,q2,q3,q4,q5,q6⟩,hlt⟩,h5,h6,h7,rfl⟩:=Ed.1 h
 refine⟨r,tm,h1,h2,rfl,fun c acs c' hc=>?_⟩
 have hg:H.t.get l=some (.loop r):=by
  unfold eH at h1;rw[xB,tA]at h1;obtain⟨_,y,e1,e2⟩:=h1
  cases y<;>cases e2
  exact e1
 have h256:256<=l:=by
  unfold eH at h1;rw[xB]at h1;exact qE.1 h1.1
 have h5:aC C φ r.fn r.n (asA q.c q.as) bT tm (setBlk H l (.loop (Da r)))=some y:=h5
 obtain⟨tm',H',h8,hg',h9⟩:=YZ _ _ _ _ q5 hlt hg h5
 have h1':eH H' l=some r:=by
  unfold eH;rw[hg',qA,qE.2 h256];rfl
 unfold Us;rw[q1,q2];refine(h9 [.beginRound,.code (lD q.c)] _ _ rfl rfl).trans (.step ?_)
 show uJ C (lQ C (.beginRound::[.code (lD q.c)]) tm' ⟨r.fn,r.n,[],.run,false,some l⟩ (c::acs) H') _
 have hb:lQ C (.beginRound::[.code (lD q.c)]) tm' ⟨r.fn,r.n,[],.run,false,some l⟩ (c::acs) H'=.next ⟨⟨[.code (lD q.c)],tm',RR r.fn r.n (some l) []⟩,c::acs,setBlk H' l (.loop (Da r))⟩:=by
  show Gw C [.code (lD q.c)] tm' _ (c::acs) H'=_
  unfold Gw;simp only[qA];rw[h1',qA,q4];rfl
 rw[hb];have hc:iG c (.bool b)=some c':=hc
 have hE:Gm C (RdEnd l c acs) (RdG l c) r.fn r.n (some l) (c::acs):=by
  refine⟨?_,fun e=>(by cases e),fun e=>(by cases e),?_⟩
  ·rintro ds todo tm H x ⟨b,r2,c',_,_,_,e⟩
   simp_all
  ·rintro ds todo tm x ⟨b,r2,c',e,_,_⟩ hp
   rw[e]at hp;cases hp
 have hK:Gi C (RdEnd l c acs) (RdG l c) r.fn r.n (some l) (c::acs) bT []:=by
  refine⟨?_,fun _ _ _ _ _ _ h=>(by cases h),?_⟩
  ·rintro ds x tm H ⟨b,r2,c',g1,g2,g3⟩ h
   cases h
   cases g1
   refine .step ?_
   rw[fH rfl];have:lQ C [] tm (RR r.fn r.n (some l) ds) (c::acs) H=.next ⟨c',acs,setBlk H l (.loop (rN true r2))⟩:=by
    have e0:lQ C [] tm (RR r.fn r.n (some l) ds) (c::acs) H=oR none C ⟨[],tm,RR r.fn r.n (some l) ds⟩ (c::acs) H:=rfl
    rw[e0];unfold oR;simp only[g2,qA];show bJ (ob (iG c (.bool true)) _) 7=_
    rw[g3];rfl
   rw[this];exact⟨_,.refl _,true,r2,c',rfl,g2,g3,rfl⟩
  ·rintro ds x tm H ⟨b,r2,c',g1,g2,g3⟩ h k'
   cases h
   cases g1
   refine .step ?_
   rw[fH rfl];have:lQ C (.code .ret::k') tm (RR r.fn r.n (some l) ds) (c::acs) H=.next ⟨c',acs,setBlk H l (.loop (rN false r2))⟩:=by
    have e0:lQ C (.code .ret::k') tm (RR r.fn r.n (some l) ds) (c::acs) H=oR (some .ret) C ⟨.code .ret::k',tm,RR r.fn r.n (some l) ds⟩ (c::acs) H:=rfl
    rw[e0];unfold oR;simp only[g2,qA];show bJ (ob (iG c (.bool false)) _) 7=_
    rw[g3];rfl
   rw[this];exact⟨_,.refl _,false,r2,c',rfl,g2,g3,rfl⟩
 obtain⟨o',k1,b',r2',c'',k2,k3,k4,rfl⟩:=Qf hφ hE q.c bT [] (Or.inr q6) hK [] y tm' _ ⟨b,r2,c',h7,h6,hc⟩ h8
 simp_all
theorem Ux{c:zC}{i:Nat}{o:Array Oper}(h:regO c=some (i,o)):lD c=.region i o false:=by
 cases c with
 | region id ops d=>cases d<;>cases h;rfl
 | cut p c=>
  cases c with
  | region id ops d=>cases d<;>cases h;rfl
  | _=>cases h
 | _=>cases h
theorem NW{c:zC}{q:sO}(h:Mj c=some q):lD c=.seq (.region q.i5 q.o5 false) (.seq (.region q.i6 q.o6 false) .ret)/\Cx q.o5.toList=some (q.d,q.cl,q.bs):=by
 unfold Mj at h;split at h
 ·simp only[tA]at h
  obtain⟨u,h1,v,h2,r,h3,h4⟩:=h
  cases h4;refine⟨?_,h3⟩
  show Code.seq (lD _) (.seq (lD _) .ret)=_
  rw[Ux h1,Ux h2]
 ·cases h
def Ki(l:List zC)(e:Code):Code:=List.rec (motive:=fun _=>Code) e (fun a _ g=>.seq (lD a) g) l
theorem PF:∀(c:zC) {l:List zC} {q:sO},eT c=some (l,q)->lD c=Ki l (.seq (.region q.i5 q.o5 false) (.seq (.region q.i6 q.o6 false) .ret))/\Cx q.o5.toList=some (q.d,q.cl,q.bs):=by
 intro c;induction c with
 | seq a b _ ih=>
  intro l q h;have h:(match Mj (.seq a b)with | some q=>some ([],q) | none=>ob (eT b) fun p=>some (a::p.1,p.2))=some (l,q):=h
  split at h
  ·rename_i h1
   cases h;exact NW h1
  ·rw[tA]at h
   obtain⟨p,h1,h2⟩:=h
   cases h2;obtain⟨g1,g2⟩:=ih h1
   exact⟨by show Code.seq (lD a) (lD b)=_;rw[g1];rfl,g2⟩
 | _=>intro l q h;cases h
theorem XW{c:zC}{q:ClQ}(h:Cz c=some q):lD c=.seq (.region q.i q.o false) (lD q.c)/\Ij q.o.toList=some (q.d,q.e):=by
 unfold Cz at h;split at h
 ·simp only[tA]at h
  obtain⟨u,h1,v,h2,h3⟩:=h
  cases h3;refine⟨?_,h2⟩
  show Code.seq (lD _) (lD _)=_
  rw[Ux h1]
 ·cases h
theorem XK{l:List Oper}{d cl:Nat}{bs:List Operand}(h:Cx l=some (d,cl,bs)):∃as' bs' t p a cc t' p' a',l=[⟨some d,.makeFunc (.func cl) as' bs',t,p,a,none⟩,⟨none,.defer cc,t',p',a',none⟩]/\as'.toList=[]/\bs'.toList=bs/\cc.callee=.value (.tmp d)/\cc.args.toList=[]:=by
 unfold Cx at h;split at h
 ·split at h
  ·rename_i e1 e2 e3
   simp only[dC]at h;split at h
   ·rename_i e
    cases h;exact⟨_,_,_,_,_,_,_,_,_,rfl,e1,rfl,by rw[e2,sC.1 e],e3⟩
   ·cases h
  ·cases h
 ·cases h
theorem QZ{l:List Oper}{d e:Nat}(h:Ij l=some (d,e)):∃cc t p a t' p' a',l=[⟨some d,.call cc,t,p,a,none⟩,⟨some e,.assign (.tmp d),t',p',a',none⟩]/\cc.callee=.builtin .recover:=by
 unfold Ij at h;split at h
 ·split at h
  ·rename_i e1
   simp only[dC]at h;split at h
   ·rename_i e
    cases h;exact⟨_,_,_,_,_,_,_,by rw[sC.1 e],e1⟩
   ·cases h
  ·cases h
 ·cases h
theorem SH{φ:aD}(hφ:nP C φ){E:wV}{ds:List jG}{x:kG × xA}{R:kI}{acs:List pB}{k:List mD}{all:Array Oper}{N:Nat}{I:Tm->Prop}(hR:R.mode.running=true)(hN:R.n=N)(hP:∀l tm,I tm->x.1.p=true->E ds (.next ⟨aT ⟨.ops all l::k,tm,R⟩ [⟨x.1.v,false⟩],acs,x.2⟩) x){κn:Tm->xA->sB}(hκ:∀tm H,I tm->κn tm H=some x->Fin C E ds (.next ⟨⟨k,tm,R⟩,acs,H⟩) x) :
  ∀(l:List Oper) (tm:Tm) (H:xA),(∀o∈l,∀tm v,I tm->I (putA N tm o.dst v))->I tm->kK C φ all N κn l tm H=some x->Fin C E ds (lK C all k R acs l tm H) x:=by
 intro l;induction l with
 | nil=>exact fun tm H _ hI h=>hκ tm H hI h
 | cons o l ih=>
  intro tm H hd hI h;have hd1:=fun tm v h=>hd o yby tm v h
  have ih:=fun tm H=>ih tm H fun o ho=>hd o (ybr _ ho)
  rw[cZ,tA]at h;obtain⟨w,h1,h⟩:=h
  rw[kZ,h1]
  cases w with
  | false=>
   simp only[ybq,if_false]at h ⊢
   rw[hN];exact ih _ _ (hd1 _ _ hI) h
  | true=>
   rw[yab rfl]at h;simp only[];generalize (rE o.op).f C (.now tm) H=r at h
   cases hv:r.asVal with
   | some p=>
    have e:r=.val p.1 p.2:=by cases r<;>simp[iI.asVal]at hv;rw[<- hv]
    rw[e]at h;simp only[jF]at h;rw[fN]at h;simp only[if_true];rw[hN];exact ih _ _ (hd1 _ _ hI) h.2
   | none=>
    simp only[if_true];refine Uv hφ h (fun v H' c' hc hK=>?_) (fun v=>⟨⟨.ops all l::k,putA R.n tm o.dst v,R⟩,by unfold iG;simp only[hR,cond_true];rfl⟩) (lZ hR) (hP _ _ hI)
    unfold iG at hc;simp only[hR,cond_true]at hc;have hc:some (⟨.ops all l::k,putA R.n tm o.dst v,R⟩:pB)=some c':=hc
    cases hc;refine .step ?_
    rw[fH hR,hN];rw[fN]at hK;exact ih _ _ (hd1 _ _ hI) hK.2
theorem cutK{n:Nat}{tm:Tm}{d:Nat}{v:zA}(h:tm.k<=d):(putA n tm (some d) v).cut=tm.cut:=by
 show(Ej d n tm v).cut=_
 unfold Ej;simp only[dC];split
 ·unfold Tm.set
  rw[bI,yaa (by rw[vC];omega)]
  rfl
 ·rfl
theorem XJ{l:List Oper}{d cl:Nat}{bs:List Operand}{cells:List zA}(h:Cx l=some (d,cl,bs)){tm:Tm}{H:xA}(he:lM bs (.now tm)=some cells){f n:Nat}{ds:List jG}{acs:List pB}{k:List mD}{all:Array Oper}(hd:d<n) :
  lK C all k (RR f n none ds) acs l tm H=.next ⟨⟨.ops all []::k,putA n tm (some d) (.func (.func cl) [] cells),RR f n none (⟨some (.func cl),0,cells⟩::ds)⟩,acs,H⟩:=by
 obtain⟨as',bs',t,p,a,cc,t',p',a',rfl,e1,e2,e3,e4⟩:=XK h
 subst e2;obtain⟨ca,cargs,caty⟩:=cc
 simp only at e3 e4
 subst e3;have f1:(rE (.makeFunc (.func cl) as' bs')).f C (.now tm) H=.val (.func (.func cl) [] cells) H:=by
  show lv (Ew cl as' bs') C (.now tm) H=_
  unfold lv Ew;rw[e1];show(match ob (some []) _ with | some v=>iI.val v H | none=>.fail)=_
  rw[qA,he];rfl
 have f2:(rE (.defer ⟨.value (.tmp d),cargs,caty⟩)).f C (.now (putA n tm (some d) (.func (.func cl) [] cells))) H=.defer ⟨some (.func cl),0,cells⟩:=by
  show xX (ob (yQ (.tmp d) cargs (.now (putA n tm (some d) (.func (.func cl) [] cells)))) fun p=>some (.defer ⟨some p.1,0,qD p.2.1 p.2.2⟩))=_
  have:yQ (.tmp d) cargs (.now (putA n tm (some d) (.func (.func cl) [] cells)))=some (.func cl,[],cells):=by
   unfold yQ;rw[e4,show ev (.tmp d) (.now (putA n tm (some d) (.func (.func cl) [] cells)))=(putA n tm (some d) (.func (.func cl) [] cells)).get d from rfl,cH,yab ⟨rfl,hd⟩]
   rfl
  rw[this];rfl
 rw[kZ];show(match ((rE (.makeFunc (.func cl) as' bs')).f C (.now tm) H).asVal with | some p=>_ | none=>_)=_
 rw[f1];show lK C all k (RR f n none ds) acs _ (putA n tm (some d) (.func (.func cl) [] cells)) H=_
 rw[kZ];show(match ((rE (.defer ⟨.value (.tmp d),cargs,caty⟩)).f C (.now (putA n tm (some d) (.func (.func cl) [] cells))) H).asVal with | some p=>_ | none=>_)=_
 rw[f2];rfl
theorem QY{φ:aD}{E:wV}{l:List Oper}{d e:Nat}(h:Ij l=some (d,e)){tm:Tm}{H:xA}{f n:Nat}{ds:List jG}{acs:List pB}{k:List mD}{all:Array Oper}{x:kG × xA}(hd:d<n){c c':pB}{v:zA}
  (hc:(c.R.mode=.returning/\v=.niliface/\c'=c)\/(c.R.mode=.panicking [⟨v,false⟩]/\c'=zX c (.panicking [⟨v,true⟩]))) (hf:Fin C E ds (.next ⟨⟨k,putA n (putA n tm (some d) v) (some e) v,RR f n none ds true⟩,c'::acs,H⟩) x) :
  Fin C E ds (lK C all k (RR f n none ds true) (c::acs) l tm H) x:=by
 obtain⟨cc,t,p,a,t',p',a',rfl,e1⟩:=QZ h
 obtain⟨ca,cargs,caty⟩:=cc
 simp only at e1
 subst e1;have f1:(rE (.call ⟨.builtin .recover,cargs,caty⟩)).f C (.now tm) H=.recover:=rfl
 rw[kZ];have f3:lK C all k (RR f n none ds true) (c'::acs) [⟨some e,.assign (.tmp d),t',p',a',none⟩] (putA n tm (some d) v) H=.next ⟨⟨k,putA n (putA n tm (some d) v) (some e) v,RR f n none ds true⟩,c'::acs,H⟩:=by
  rw[kZ];show(match ((rE (.assign (.tmp d))).f C (.now (putA n tm (some d) v)) H).asVal with | some p=>_ | none=>_)=_
  have:(rE (.assign (.tmp d))).f C (.now (putA n tm (some d) v)) H=.val v H:=by
   show lv (mM (.tmp d)) C (.now (putA n tm (some d) v)) H=_
   unfold lv mM;rw[show ev (.tmp d) (.now (putA n tm (some d) v))=(putA n tm (some d) v).get d from rfl,cH,yab ⟨rfl,hd⟩]
  rw[this];rfl
 have f4:Im C ⟨.ops all (⟨some d,.call ⟨.builtin .recover,cargs,caty⟩,t,p,a,none⟩::[⟨some e,.assign (.tmp d),t',p',a',none⟩])::k,tm,RR f n none ds true⟩ (c::acs) H=.next ⟨⟨.ops all [⟨some e,.assign (.tmp d),t',p',a',none⟩]::k,putA n tm (some d) v,RR f n none ds true⟩,c'::acs,H⟩:=by
  obtain⟨ctodo,ctm,cfn,cn,cdefers,cmode,cdef,cround⟩:=c
  rcases hc with⟨h1,rfl,rfl⟩ | ⟨h1,rfl⟩
  ·simp only at h1
   subst h1;rfl
  ·simp only at h1
   subst h1;rfl
 show Fin C E ds (Im C ⟨.ops all (⟨some d,.call ⟨.builtin .recover,cargs,caty⟩,t,p,a,none⟩::[⟨some e,.assign (.tmp d),t',p',a',none⟩])::k,tm,RR f n none ds true⟩ (c::acs) H) x
 rw[f4];refine .step ?_
 rw[fH rfl];show Fin C E ds (lK C all k (RR f n none ds true) (c'::acs) [⟨some e,.assign (.tmp d),t',p',a',none⟩] (putA n tm (some d) v) H) x
 rw[f3];exact hf
theorem XU(hA:vV C A){φ:aD}(hφ:nP C φ){cl:Nat}{cells:List zA}{v:zA}{H:xA}{y:kG × xA}{acs:List pB}{c c':pB}
  (hc:(c.R.mode=.returning/\v=.niliface/\c'=c)\/(c.R.mode=.panicking [⟨v,false⟩]/\c'=zX c (.panicking [⟨v,true⟩]))) (h:kQ C A φ cl cells v H=some y) (hy:y.1.p=false) :
  C.prims.get cl=none/\∃g,eI C cl cells true=some g/\∃fr',uJ C (.next ⟨g,c::acs,H⟩) (.next ⟨fr',c'::acs,y.2⟩)/\Dg C cl [] fr' y.2 y.1.v true:=by
 unfold kQ at h;simp only[tA,xB,ybb]at h;obtain⟨fc,h1,cc,h2,q,h3,⟨h4,h5⟩,g,h6,h7⟩:=h
 have hpr:C.prims.get cl=none:=by
  cases hx:C.prims.get cl with
  | none=>rfl
  | some u=>rw[hx]at h4;cases h4
 refine⟨hpr,g,h6,?_⟩
 obtain⟨fc',g1,g2⟩:=hA _ _ h2
 rw[h1]at g1
 cases g1
 obtain⟨g3,g4⟩:=XW h3
 have g5:g.todo=[.code (lD cc)]/\g.R=⟨cl,fc.ntmps,[],.run,true,none⟩:=by
  grind [eI,tA,xB]
 obtain⟨gt,gtm,gR⟩:=g
 obtain⟨rfl,rfl⟩:=g5
 have hK:Gi C (jP C cl (c'::acs) true) (fun _=>True) cl fc.ntmps none (c'::acs) (yN C fc) [] true:=⟨fun ds x tm H _ h=>Kq h1 h rfl,fun ds x i tm H _ h=>(by cases h),fun ds x tm H _ h k'=>Kq h1 h rfl⟩
 have k1:=Qf hφ (Pr (fl:=true) ⟨fc,h1⟩) q.c (yN C fc) [] (Or.inl rfl) hK [] y _ H trivial h7
 have k2:Fin C (jP C cl (c'::acs) true) [] (.next ⟨⟨[.code (lD cc)],gtm,RR cl fc.ntmps none [] true⟩,c::acs,H⟩) y:=by
  refine .step ?_
  rw[fH rfl,g3];exact QY (φ:=φ) g4 (vC.1 h5) hc k1
 obtain⟨o',k3,fr',rfl,k4⟩:=k2
 exact⟨fr',k3,k4.ret hy⟩
theorem zay(hA:vV C A){φ:aD}(hφ:nP C φ){cl:Nat}{cells:List zA}{v:zA}{H:xA}{y:kG × xA}{acs:List pB}{c:pB}{ds:List jG}(hd:c.R.defers=⟨some (.func cl),0,cells⟩::ds)
  (hm:(c.R.mode=.returning/\v=.niliface)\/c.R.mode=.panicking [⟨v,false⟩]) (h:kQ C A φ cl cells v H=some y) (hy:y.1.p=false) :
  uJ C (.next ⟨c,acs,H⟩) (.next ⟨⟨c.todo,c.tm,⟨c.R.fn,c.R.n,ds,.returning,c.R.deferred,c.R.roundOf⟩⟩,acs,y.2⟩):=by
 obtain⟨ctodo,ctm,cfn,cn,cdefers,cmode,cdef,cround⟩:=c
 simp only at hd hm
 subst hd;have hx:∀m:qT,((m=.returning/\v=.niliface)\/m=.panicking [⟨v,false⟩])->∀c':pB,c'=(⟨ctodo,ctm,⟨cfn,cn,ds,m,cdef,cround⟩⟩:pB)->∃c'':pB,((c'.R.mode=.returning/\v=.niliface/\c''=c')\/(c'.R.mode=.panicking [⟨v,false⟩]/\c''=zX c' (.panicking [⟨v,true⟩])))/\∀fr' H,Dg C cl [] fr' H y.1.v true->tS C (.next ⟨fr',c''::acs,H⟩)=.next ⟨⟨ctodo,ctm,⟨cfn,cn,ds,.returning,cdef,cround⟩⟩,acs,H⟩:=by
  intro m hm c' hc';subst hc'
  have ret:∀(c'':pB),c''.R.mode=.returning\/c''.R.mode=.panicking [⟨v,true⟩]->∀fr' H,Dg C cl [] fr' H y.1.v true->tS C (.next ⟨fr',c''::acs,H⟩)=.next ⟨zX c'' .returning,acs,H⟩:=by
   rintro c'' hcm fr' H ⟨h1,h2,h3,h4,fn,l,h5,h6,h7⟩
   obtain⟨todo,tm,ffn,n,defers,mode,deferred,round⟩:=fr'
   obtain⟨c2todo,c2tm,c2fn,c2n,c2defers,c2mode,c2def,c2round⟩:=c''
   simp only at h1 h2 h3 h4 h6 hcm
   subst h1 h2 h3 h4
   show Br C ⟨todo,tm,_⟩ (_::acs) H=_
   unfold Br;rw[h5,qA,h6];rcases hcm with rfl | rfl<;>rfl
  rcases hm with⟨rfl,rfl⟩ | rfl
  ·exact⟨_,.inl ⟨rfl,rfl,rfl⟩,fun fr' H hr=>ret _ (.inl rfl) fr' H hr⟩
  ·exact⟨_,.inr ⟨rfl,rfl⟩,fun fr' H hr=>ret _ (.inr rfl) fr' H hr⟩
 obtain⟨c'',h1,h2⟩:=hx cmode hm _ rfl
 obtain⟨hp,g,h3,fr',h4,h5⟩:=XU hA hφ (acs:=acs) h1 h hy
 refine .step ?_
 have e:tS C (.next ⟨⟨ctodo,ctm,⟨cfn,cn,⟨some (.func cl),0,cells⟩::ds,cmode,cdef,cround⟩⟩,acs,H⟩)=.next ⟨g,⟨ctodo,ctm,⟨cfn,cn,ds,cmode,cdef,cround⟩⟩::acs,H⟩:=by
  have e1:tS C (.next ⟨⟨ctodo,ctm,⟨cfn,cn,⟨some (.func cl),0,cells⟩::ds,cmode,cdef,cround⟩⟩,acs,H⟩)=Bs C ⟨some (.func cl),0,cells⟩ ds ⟨ctodo,ctm,⟨cfn,cn,⟨some (.func cl),0,cells⟩::ds,cmode,cdef,cround⟩⟩ acs H:=by
   rcases hm with⟨rfl,_⟩ | rfl<;>rfl
  rw[e1];unfold Bs;simp only[];rw[hp];simp only[];rw[h3];rfl
 rw[e];refine h4.trans (.step ?_)
 rw[h2 _ _ h5];exact .refl _
theorem QN{H:xA}{tm tm':Tm}:∀ {l:List ResultVar},(∀r∈l,∃a t,r=.cell a t/\tm'.get a=tm.get a)->rS C H tm' l=rS C H tm l:=by
 intro l;induction l with
 | nil=>exact fun _=>rfl
 | cons r l ih=>
  intro h;obtain⟨a,t,rfl,h1⟩:=h _ yby
  have ih:=ih fun r hr=>h r (ybr _ hr)
  show lG (zQ C H tm') _=lG (zQ C H tm) _
  rw[zP,zP];have e:zQ C H tm' (.cell a t)=zQ C H tm (.cell a t):=by
   show(ob (ob (tm'.get a) zA.asPtr) fun p=>ob (C.tys.get t) fun ty=>ob (bD H p.1) fun c=>sQ ty c.1 p.2)=_
   rw[h1];rfl
  rw[e];have ih:lG (zQ C H tm') l=lG (zQ C H tm) l:=ih
  rw[ih]
theorem YE{l:List ResultVar}{o6:List Oper}(h:Kw l o6=true):∀r∈l,∃a t,r=.cell a t/\∀o∈o6,o.dst≠some a:=by
 unfold Kw at h;rw[dH,ycb]at h;intro r hr;have:=h r hr
 cases r with
 | tmp t=>cases this
 | cell a t=>
  refine⟨a,t,rfl,fun o ho e=>?_⟩
  have this:cB (fun o=>match o.dst with | some d => !Nat.beq d a | none=>true) o6=true:=this
  rw[dH,ycb]at this;have:=this o ho
  rw[e]at this;simp at this
theorem NY(hA:vV C A){φ:aD}(hφ:nP C φ){f:Nat}{fn:Func}{q:sO}(hf:C.fns.get f=some fn)(hq:Cx q.o5.toList=some (q.d,q.cl,q.bs)){acs:List pB}{ds:List jG}{tm:Tm}{H:xA}{x:kG × xA}(h:lO C A φ fn q tm H=some x) :
  Fin C (jP C f acs) ds (.next ⟨⟨[.code (.seq (.region q.i5 q.o5 false) (.seq (.region q.i6 q.o6 false) .ret))],tm,RR f fn.ntmps none ds⟩,acs,H⟩) x:=by
 unfold lO at h;simp only[xB,tA,ybb]at h;obtain⟨⟨h1,h2,h3⟩,cells,h4,y,h5,h6⟩:=h
 have hc:=YE h1
 let I:Tm->Prop:=fun tm'=>∀r∈fn.results.toList,∃a t,r=.cell a t/\tm'.get a=tm.cut.get a
 let D:jG:=⟨some (.func q.cl),0,cells⟩
 let E6:wV:=fun _ o y=>if y.1.p=true then ∃fr,o=.next ⟨fr,acs,y.2⟩/\fr.R=⟨f,fn.ntmps,D::ds,.panicking [⟨y.1.v,false⟩],false,none⟩/\I fr.tm else jP C f acs false ds o y
 have close:∀(c:pB) (H:xA) (v:zA) (tm0:Tm) (z:kG × xA),c.R=⟨f,fn.ntmps,D::ds,c.R.mode,false,none⟩->((c.R.mode=.returning/\v=.niliface)\/c.R.mode=.panicking [⟨v,false⟩])->(∀r∈fn.results.toList,∃a t,r=.cell a t/\c.tm.get a=tm0.get a)->fK C A φ fn q.cl cells v tm0 H=some z->z.1.p=false/\∃o',uJ C (.next ⟨c,acs,H⟩) o'/\jP C f acs false ds o' z:=by
  intro c H v tm0 z e1 e2 e3 e4;unfold fK at e4;rw[tA]at e4;obtain⟨w,e5,e6⟩:=e4
  rw[xB]at e6;unfold zT at e6;rw[tA]at e6;obtain⟨e7,l,e8,e9⟩:=e6
  cases e9
  have hd:c.R.defers=D::ds:=by rw[e1]
  have r1:=zay hA hφ (acs:=acs) hd e2 e5 (by simpa using e7)
  refine⟨rfl,_,r1,_,rfl,tO.of ⟨rfl,rfl,by rw[e1],by rw[e1],fn,l,hf,?_,rfl⟩ rfl⟩
  show rS C w.2 c.tm fn.results.toList=some l
  rw[QN e3];exact e8
 refine .step ?_
 rw[fH rfl];show Fin C (jP C f acs) ds (lK C q.o5 [.code (.seq (.region q.i6 q.o6 false) .ret)] (RR f fn.ntmps none ds) acs q.o5.toList tm.cut H) x
 rw[XJ hq h4 (vC.1 h3)]
 refine .step ?_
 rw[fH rfl];show Fin C (jP C f acs) ds (.next ⟨⟨[.code (.seq (.region q.i6 q.o6 false) .ret)],putA fn.ntmps tm.cut (some q.d) (.func (.func q.cl) [] cells),RR f fn.ntmps none (D::ds)⟩,acs,H⟩) x
 refine .step ?_
 rw[fH rfl];show Fin C (jP C f acs) ds (lK C q.o6 [.code .ret] (RR f fn.ntmps none (D::ds)) acs q.o6.toList (putA fn.ntmps tm.cut (some q.d) (.func (.func q.cl) [] cells)).cut H) x
 rw[cutK (show tm.cut.k<=q.d from qE.1 h2)]
 have r6:Fin C E6 (D::ds) (lK C q.o6 [.code .ret] (RR f fn.ntmps none (D::ds)) acs q.o6.toList tm.cut.cut H) y:=by
  refine SH hφ (I:=I) (N:=fn.ntmps) rfl rfl (fun l tm' hI hp=>?_) (fun tm' H' hI hy=>?_) _ _ _ (fun o ho tm' v hI r hr=>?_) (fun r hr=>?_) h5
  ·show if y.1.p=true then _ else _
   rw[yab hp];exact⟨_,rfl,rfl,hI⟩
  ·have:tS C (.next ⟨⟨[.code .ret],tm',RR f fn.ntmps none (D::ds)⟩,acs,H'⟩)=.next ⟨⟨[.code .ret],tm',⟨f,fn.ntmps,D::ds,.returning,false,none⟩⟩,acs,H'⟩:=rfl
   refine .step ?_
   rw[this];obtain⟨z1,o',z2,z3⟩:=close ⟨[.code .ret],tm',⟨f,fn.ntmps,D::ds,.returning,false,none⟩⟩ H' .niliface tm' y rfl (.inl ⟨rfl,rfl⟩) (fun r hr=>by obtain⟨a,t,rfl,_⟩:=hc r hr;exact⟨a,t,rfl,rfl⟩) hy
   refine⟨o',z2,?_⟩
   show if y.1.p=true then _ else _
   rw[z1,yaa (by simp)]
   exact z3
  ·obtain⟨a,t,rfl,h7⟩:=hI r hr
   obtain⟨a',t',e,h8⟩:=hc _ hr
   cases e
   exact⟨a,t,rfl,by rw[cH,yaa (fun e=>h8 o ho e.1)];exact h7⟩
  ·obtain⟨a,t,rfl,_⟩:=hc r hr
   exact⟨a,t,rfl,rfl⟩
 obtain⟨o',g1,g2⟩:=r6
 have g2:if y.1.p=true then ∃fr,o'=.next ⟨fr,acs,y.2⟩/\fr.R=⟨f,fn.ntmps,D::ds,.panicking [⟨y.1.v,false⟩],false,none⟩/\I fr.tm else jP C f acs false ds o' y:=g2
 cases hp:y.1.p with
 | false=>
  rw[hp]at h6 g2;rw[yaa (by simp)]at g2
  have h6:some y=some x:=h6
  cases h6;exact⟨o',g1,g2⟩
 | true=>
  rw[hp]at h6 g2;rw[yab rfl]at g2;have h6:fK C A φ fn q.cl cells y.1.v tm.cut y.2=some x:=h6
  obtain⟨fr,rfl,e1,e2⟩:=g2
  obtain⟨_,o'',z2,z3⟩:=close fr y.2 y.1.v tm.cut x (by rw[e1]) (.inr (by rw[e1])) e2 h6
  exact⟨o'',g1.trans z2,z3⟩
theorem YR(hA:vV C A){φ:aD}(hφ:nP C φ){f:Nat}{fn:Func}{c:zC}(hf:C.fns.get f=some fn){acs:List pB}{tm:Tm}{H:xA}{x:kG × xA}(h:dU C A φ f fn c tm H=some x) :
  Fin C (jP C f acs) [] (.next ⟨⟨[.code (lD c)],tm,RR f fn.ntmps none []⟩,acs,H⟩) x:=by
 unfold dU at h;split at h
 ·have hK:Gi C (jP C f acs) (fun _=>True) f fn.ntmps none acs (yN C fn) []:=⟨fun ds x tm H _ h=>Kq hf h rfl,fun ds x i tm H _ h=>(by cases h),fun ds x tm H _ h k'=>Kq hf h rfl⟩
  exact Qf hφ (Pr ⟨fn,hf⟩) c (yN C fn) [] (Or.inl rfl) hK [] x tm H trivial h
 ·rename_i p hp
  obtain⟨l,q⟩:=p
  obtain⟨h1,h2⟩:=PF c hp
  rw[h1];clear h1 hp
  have key:∀(l:List zC) ds x tm H,aC C φ f fn.ntmps (mV l) (jZ C A φ fn q) tm H=some x->Fin C (jP C f acs) ds (.next ⟨⟨[.code (Ki l (.seq (.region q.i5 q.o5 false) (.seq (.region q.i6 q.o6 false) .ret)))],tm,RR f fn.ntmps none ds⟩,acs,H⟩) x:=by
   intro l;induction l with
   | nil=>exact fun ds x tm H h=>NY hA hφ hf h2 h
   | cons a l ih=>
    intro ds x tm H h;refine Pu (Pr ⟨fn,hf⟩) (t1:=[.code (Ki (a::l) _)]) rfl (t2:=.code (lD a)::[.code (Ki l (.seq (.region q.i5 q.o5 false) (.seq (.region q.i6 q.o6 false) .ret)))]) (fun _ _=>rfl) ?_
    have hK:Gi C (jP C f acs) (fun _=>True) f fn.ntmps none acs ⟨aC C φ f fn.ntmps (mV l) (jZ C A φ fn q),fun _ _ _=>none,zT C fn⟩ [.code (Ki l (.seq (.region q.i5 q.o5 false) (.seq (.region q.i6 q.o6 false) .ret)))]:=
     ⟨fun ds x tm H _ h=>ih ds x tm H h,fun ds x i tm H _ h=>(by cases h),fun ds x tm H _ h k'=>Kq hf h rfl⟩
    exact Qf hφ (Pr ⟨fn,hf⟩) a _ _ (Or.inl rfl) hK ds x tm H trivial h
  exact key l [] x tm H h
theorem OW(hA:vV C A){φ:aD}(hφ:nP C φ):nP C (Bu C A φ):=by
 refine⟨fun f args H x h=>?_,fun l args H x h=>QL hφ h⟩
 have h:nQ C A φ f args H=some x:=h
 unfold nQ at h;rw[tA]at h;obtain⟨c,h1,h⟩:=h
 rw[tA]at h;obtain⟨fn,h2,h⟩:=h
 rw[tA]at h;obtain⟨g,h3,h⟩:=h
 refine⟨g,h3,fun acs=>?_⟩
 obtain⟨fn',c',e1,e2,e3,e4⟩:=WP h3
 rw[h2]at e1;cases e1
 obtain⟨fn',e5,e6⟩:=hA f c h1
 rw[h2]at e5;cases e5
 rw[e2]at e6;cases e6
 obtain⟨gt,gtm,gR⟩:=g
 simp only at e3 e4 h
 subst e3 e4
 obtain⟨o',k1,fr',rfl,k2⟩:=YR hA hφ h2 (acs:=acs) h
 grind
theorem EK(hA:vV C A):∀n,nP C (aZ C A n):=by
 intro n;induction n with
 | zero=>exact⟨fun f args H x h=>(by cases h),fun l args H x h=>(by cases h)⟩
 | succ n ih=>exact OW hA ih
theorem VR(hA:vV C A):nP C (nC C A):=by
 refine⟨fun f args H x h=>?_,fun f args H x h=>?_⟩
 ·obtain⟨n,hn⟩:=Cr.1 h
  exact(EK hA n).fn _ _ _ _ hn
 ·obtain⟨n,hn⟩:=Cr.1 h
  exact(EK hA n).rd _ _ _ _ hn
theorem YF{P:Program}{B N:Nat}{I:World->Prop}{μ:Mu}{w:World}(hS:vJ P C B N I)(hI:I w)(hA:vV C A){f:Nat}{args:List zA}{args':Array Value}{H H':xA}{v:zA}(hH:wB B N μ H w)(hl:rB μ args args'.toList)
  (h:nC C A (.func f) args H=some (⟨v,false⟩,H')):Calls P f args' w fun e w'=>∃v' μ',e=.returned v'/\μ.lw μ'/\uA μ' v v'/\wB B N μ' H' w'/\Below N w w':=by
 intro base;obtain⟨g,he,hr⟩:=(VR hA).fn _ _ _ _ h
 obtain⟨fr',r1,hE⟩:=hr []
 obtain⟨h1,h2,h3,h4,fn,l,h5,h6,rfl⟩:=hE.ret rfl
 have h0:pD P C B N μ base (lone (Frame.enter P f args' .normal) base w) w (.next ⟨g,[],H⟩):=Uf hS.fns hH hl he
 obtain⟨μ',b,cs,w',s1,s2,s3,s4,s5,s6⟩:=pD.reach hS hI r1 h0
 cases s6
 have hb:=s5.body
 rw[yaa (by grind [qT.running])]at hb
 obtain⟨v',q1,q2⟩:=CU hS.tys s4 hb h6
 have hm:=s5.rest.mode
 rw[h1]at hm;have hbm:b.mode=.returning:=by
  cases hb:b.mode with
  | returning=>rfl
  | _=>rw[hb]at hm;exact hm.elim
 have hd:=s5.rest.defers
 rw[h2]at hd;have hbd:b.defers=[]:=by
  generalize hx:b.defers=bd at hd
  cases hd;rfl
 have hk:=s5.rest.kind
 rw[h3]at hk;have hfn:b.fn=f:=by rw[s5.rest.fn,h4]
 exact⟨.returned v',w',b,⟨v',μ',rfl,s2,q2,s4,s3⟩,s1,hfn,hbm,hbd,hk,fn,by rw[hfn];exact(hS.fns _ _ h5).1,q1⟩
end
end Go.Am
namespace Go.Am
open Go Go.RowKit
def iA(C:rA)(t:Nat)(H:xA)(v:zA):Option zA:=ob v.asPtr fun p=>ob (C.tys.get t) fun ty=>ob (bD H p.1) fun c=>sQ ty c.1 p.2
def sZ(C:rA)(s d:Nat)(H:xA)(a:zA):Option zA:=ob (C.tys.get s) fun s=>ob (C.tys.get d) fun d=>yT C s d a H
def sF(C:rA)(t:Nat)(H:xA)(a:zA)(l h:Option zA):Option zA:=ob (C.tys.get t) fun ty=>rM C H ty a l h
def Rr(C:rA)(s f:Nat):Option Nat:=ob (C.tys.get s) fun ty=>ob ty.desc.asStruct fun fs=>ob (fC fs f) fun fd=>yB (!Nat.beq fd.2.2 0) (some fd.1)
def tD(C:rA)(s f:Nat)(v:zA):Option zA:=ob (Rr C s f) fun k=>ob v.asPtr fun p=>some (.ptr p.1 (p.2+k))
def aB(C:rA)(t:Nat)(v i:zA):Option zA:=
 ob (C.tys.get t) fun ty=>ob i.asNat fun i=>
  match v.asSlice with
  | some s=>ob ty.desc.asSlice fun el=>ob (C.tys.get el) fun et=>yB (Nat.blt i s.2.2.1) (some (.ptr s.1 (s.2.1+i*et.size)))
  | none=>ob v.asPtr fun p=>ob ty.desc.asArr fun a=>ob (C.tys.get a.2) fun et=>yB (Nat.blt i a.1) (some (.ptr p.1 (p.2+i*et.size)))
def Zj(C:rA)(t i:Nat):Option Nat:=ob (C.tys.get t) fun ty=>ob ty.desc.asArr fun a=>ob (C.tys.get a.2) fun et=>yB (Nat.blt i a.1) (some (i*et.size))
def qH(C:rA)(t:Nat)(v i:zA):Option zA:=
 ob (C.tys.get t) fun ty=>ob i.asNat fun i=>
  match v.asStr with
  | some s=>yB ty.desc.isString (ob (fC s i) fun b=>some (.int .u8 (.ofNat b)))
  | none=>ob v.asAgg fun l=>ob ty.desc.asArr fun a=>ob (C.tys.get a.2) fun et=>yB (Nat.blt i a.1) (eO C a.2 l (i*et.size))
def wH(i:Nat)(v:zA):Option zA:=ob v.asTup fun l=>fC l i
def vS (C:rA)(t:Nat)(H:xA)(v:zA):Option zA:=ob (C.tys.get t) fun ty=>ob (mS H ty v) fun n=>some (.int .i64 (.ofNat n))
def mC(v:zA):Option zA:=
 match v.asSlice with
 | some s=>some (.int .i64 (.ofNat s.2.2.1))
 | none=>yB (Nat.beq v.tag 5) (some (.int .i64 (.ofNat 0)))
def kL (v:zA):Option zA:=yB (Nat.beq v.tag 4||Nat.beq v.tag 9) (some v)
def Hg(C:rA)(u:Nat)(ok:Bool)(v:zA):Option zA:=
 ob (C.tys.get u) fun ty=>yB (Nat.blt ty.desc.tag 9) (
  match v.asIface with
  | some p=>bif Nat.beq p.1 u then some (bif ok then .tup [p.2,.bool true]else p.2)else yB ok (some (.tup [uV ty,.bool false]))
  | none=>yB (Nat.beq v.tag 12&&ok) (some (.tup [uV ty,.bool false])))
def pV(C:rA)(t:Nat)(H:xA)(m k:zA)(ok:Bool):Option zA:=
 ob (C.tys.get t) fun ty=>ob ty.desc.asMap fun ke=>ob (C.tys.get ke.1) fun kty=>yB (jS C kty) (ob (C.tys.get ke.2) fun ety=>
  ob (yU H m) fun es=>yB (qQ C kty k) (ob (mJ k es) fun r=>
   match r with
   | some v=>some (bif ok then .tup [v,.bool true]else v)
   | none=>some (bif ok then .tup [uV ety,.bool false]else uV ety)))
def sJ(C:rA)(t:Nat)(H:xA):Option (zA × xA):=ob (C.tys.get t) fun ty=>some (.ptr H.next 0,dE H ty.zero none)
def jL (v:zA)(H:xA):Option (zA × xA):=some (.ptr H.next 0,dE H v.cells none)
def Mc(C:rA)(t:Nat)(H:xA):Option (zA × xA):=ob (C.tys.get t) fun ty=>some (.ptr H.next 0,dE H ty.zero (qJ C t))
def Rs(C:rA)(t:Nat)(v:zA)(H:xA):Option (zA × xA):=some (.ptr H.next 0,dE H v.cells (qJ C t))
def oD(C:rA)(t len:Nat)(ps:List (Nat × zA))(H:xA):Option (zA × xA):=
 ob (C.tys.get t) fun ty=>ob ty.desc.asSlice fun el=>ob (C.tys.get el) fun et=>
  yB (Nat.blt (len*et.size) 1000000&&Nat.beq (bA et.zero) et.size) (ob (yK (fun i=>some (i*et.size,et.size)) ps (pH et.zero len)) fun l=>some (.slice H.next 0 len len,dE H l none))
def uC(C:rA)(t:Nat)(a v:zA)(H:xA):Option (zA × xA):=ob (C.tys.get t) fun ty=>ob a.asPtr fun p=>yB (Nat.beq (bA v.cells) ty.size) (ob (wI C H p.1 p.2 v.cells) fun H'=>some (rD,H'))
def Mb(H:xA):Option (zA × xA):=some (.map H.next,newBlk H (.map []))
def bQ(C:rA)(t:Nat)(m k v:zA)(H:xA):Option (zA × xA):=
 ob (C.tys.get t) fun ty=>ob ty.desc.asMap fun ke=>ob (C.tys.get ke.1) fun kty=>yB (jS C kty)
  (ob m.asMap fun b=>yB (!Nat.blt b C.base) (ob (lJ H b) fun l=>yB (qQ C kty k) (ob (qM k v l) fun l'=>some (rD,setBlk H b (.map l')))))
def iN(C:rA)(t:Nat)(l c:zA)(H:xA):Option (zA × xA):=
 ob (C.tys.get t) fun ty=>ob ty.desc.asSlice fun el=>ob (C.tys.get el) fun et=>ob l.asNat fun l=>ob c.asNat fun c=>
  yB (Nat.ble l c&&Nat.blt c 1000000&&Nat.blt (c*et.bytes) 1000000000&&Nat.beq (bA et.zero) et.size) (some (.slice H.next 0 l c,dE H (pH et.zero c) none))
def Rq(C:rA)(s d:Nat)(v:zA)(H:xA):Option (zA × xA):=
 ob (C.tys.get s) fun _=>ob (C.tys.get d) fun ty=>ob ty.desc.asSlice fun el=>ob (C.tys.get el) fun et=>ob et.desc.asInt fun k=>yB (eL k .u8) (ob v.asStr fun l=>
  some (.slice H.next 0 (bA l) (bA l),dE H (tW l) (some (.ty el))))
def yJ(C:rA)(t u:Nat)(a b:zA)(H:xA):Option (zA × xA):=ob (C.tys.get t) fun ty=>ob (C.tys.get u) fun uty=>yB (!Nat.beq uty.desc.tag 1) (oW C H ty a b)
def vNext(v:zA)(H:xA):Option (zA × xA):=ob v.asPtr fun p=>yB (Nat.beq p.2 0) (ob (ob (H.t.get p.1) vA.asIter) fun x=>
 match fC x.1 x.2 with
 | some c=>yB (Nat.blt c 128) (some (.tup [.bool true,.int .i64 (.ofNat x.2),.int .i32 (.ofNat c)],setBlk H p.1 (.siter x.1 (x.2+1))))
 | none=>some (.tup [.bool false],H))
structure jI where
 b:Nat->Bool
 i:Nat->Int
 s:Nat->List Nat
 v:Nat->zA
inductive T where
 | ret (v:zA)
 | fail
 | ite (b:Bool) (x y:T)
 | opt (x:Option zA) (K:zA->T)
 | light (x:Tr vA->Option zA) (K:zA->T)
 | heavy (x:xA->Option (zA × xA)) (K:zA->T)
 | call (f:Nat) (args:List zA) (K:zA->T)
 | callv (f:zA) (args:List zA) (K:zA->T)
 | asI (k:IntKind) (v:zA) (K:Int->T)
 | asB (v:zA) (K:Bool->T)
 | asS (v:zA) (K:List Nat->T)
 | asG (zs:List zA) (v:zA) (K:jI->T)
 | jump (i:Nat) (vals:List zA)
 | range (np:Nat->Bool) (f:zA) (i m:Nat) (vals:List zA) (K R:T)
def yo:Nat:=1099511627776
def pn:Nat:=1099511627775
def Wb(z:zA)(X:jI)(j:Nat):zA:=
 match z with
 | .bool _=>.bool (X.b j)
 | .int k _=>.int k (X.i j)
 | .str _=>.str (X.s j)
 | _=>X.v j
def Es(zs:List zA)(X:jI):Nat->List zA:=
 List.rec (motive:=fun _=>Nat->List zA) (fun _=>[]) (fun z _ g j=>Wb z X j::g (j+1)) zs
def Fv(l:List zA)(j:Nat):Bool:=match l[j]? with | some (.bool b)=>b | _=>false
def Xe(l:List zA)(j:Nat):Int:=match l[j]? with | some (.int _ n)=>n | _=>0
def strAt(l:List zA)(j:Nat):List Nat:=match l[j]? with | some (.str s)=>s | _=>[]
def Hf(l:List zA)(j:Nat):zA:=match l[j]? with | some v=>v | _=>.nilptr
def cellsOf(l:List zA):jI:=⟨Fv l,Xe l,strAt l,Hf l⟩
def rY (z a:zA):Bool:=
 match z with
 | .bool _=>Nat.beq a.tag 0
 | .int k _=>match a.asIntK with | some p=>eL p.1 k | none=>false
 | .str _=>Nat.beq a.tag 2
 | .nilptr=>Nat.beq a.tag 3||Nat.beq a.tag 4
 | .nilslice=>Nat.beq a.tag 5||Nat.beq a.tag 6
 | .nilmap=>Nat.beq a.tag 7||Nat.beq a.tag 8
 | .nilfunc=>Nat.beq a.tag 10||Nat.beq a.tag 9
 | .niliface=>Nat.beq a.tag 12||Nat.beq a.tag 11
 | _=>false
def mQ:List zA->List zA->Bool
 | [],[]=>true
 | z::zs,a::l=>rY z a&&mQ zs l
 | _,_=>false
structure tG where
 tm:Tm
 ad:List (Nat × Nat × Nat)
 lo:Tr (List zA)
 lit:List Nat
abbrev KT:=tG->T
structure KtT where
 norm:KT
 exit:Nat->KT
 ret:KT
def kB {α:Type}(x:Option α)(K:α->T):T:=Option.rec (motive:=fun _=>T) .fail K x
def wJ (b:Bool)(K:T):T:=Bool.rec (motive:=fun _=>T) .fail K b
def uK(i:Nat)(l:List (Nat × Nat × Nat)):Option (Nat × Nat):=
 List.rec (motive:=fun _=>Option (Nat × Nat)) none (fun a _ g=>Bool.rec (motive:=fun _=>Option (Nat × Nat)) g (some a.2) (Nat.beq i a.1)) l
inductive bM where
 | now (ad:List (Nat × Nat × Nat))
 | mixed (ad old:List (Nat × Nat × Nat)) (olds names:List Nat)
def tAd (e:bM)(t:Nat):Option (Nat × Nat):=
 match e with
 | .now ad=>uK t ad
 | .mixed ad old olds names=>bif bG t names then uK t (bif bG t olds then old else ad)else none
def xAd (e:bM)(x:Operand):Option (Nat × Nat):=
 match x with
 | .tmp t=>tAd e t
 | _=>none
def nL:xA:=⟨0,.leaf⟩
def yH (C:rA)(t:Nat):Nat:=
 match C.tys.get t with
 | some ty=>ty.desc.tag
 | none=>10
def Xd(x:Operand):Bool:=
 match x with
 | .const _=>true
 | _=>false
def KI(x:Operand):Bool:=
 match x with
 | .const (.int _ n) => !tC n 0
 | _=>false
def binDir(C:rA)(op:BinOp)(t:Nat)(y:Operand):Bool:=
 match op with
 | .add=>Nat.beq (yH C t) 1
 | .sub=>true
 | .mul=>true
 | .quo=>KI y
 | .rem=>KI y
 | .shl=>Xd y
 | .shr=>Xd y
 | .eql=>Nat.ble (yH C t) 2
 | .neq=>Nat.ble (yH C t) 2
 | .lss=>Nat.ble (yH C t) 2
 | .leq=>Nat.ble (yH C t) 2
 | .gtr=>Nat.ble (yH C t) 2
 | .geq=>Nat.ble (yH C t) 2
 | _=>false
structure pL where
 K:zA->T
 Kd:zA->T
 KA:Nat->Nat->T
def bP (C:rA)(op:Op)(e:kC)(k:pL):T:=kB ((vF op).f C e nL) k.Kd
def Mm(C:rA)(op:Op)(x:Operand)(e:kC)(ae:bM)(k:pL):T:=
 match xAd ae x with
 | some p=>k.KA p.1 p.2
 | none=>bP C op e k
def tLoad(C:rA)(t:Nat)(a:Operand)(e:kC)(ae:bM)(lo:Tr (List zA))(k:pL):T:=
 match xAd ae a with
 | some p=>kB (lo.get p.1) fun l=>kB (C.tys.get t) fun ty=>wJ (Nat.ble (p.2+ty.size) (bA l)) (kB (eO C t l p.2) k.Kd)
 | none=>kB (ev a e) fun v=>.light (fun m=>iA C t ⟨0,m⟩ v) k.K
def AE(C:rA)(s:Nat)(x:Operand)(f:Nat)(e:kC)(ae:bM)(k:pL):T:=
 match xAd ae x with
 | some p=>kB (Rr C s f) fun o=>k.KA p.1 (p.2+o)
 | none=>kB (ev x e) fun v=>.opt (tD C s f v) k.K
def AC(C:rA)(t:Nat)(x i:Operand)(e:kC)(ae:bM)(k:pL):T:=
 match xAd ae x with
 | some p=>kB (ev i e) fun i=>kB i.asNat fun i=>kB (Zj C t i) fun o=>k.KA p.1 (p.2+o)
 | none=>kB (ev x e) fun v=>kB (ev i e) fun i=>.opt (aB C t v i) k.K
def tNil (x:Operand)(e:kC)(ae:bM)(k:pL):T:=
 match xAd ae x with
 | some p=>k.KA p.1 p.2
 | none=>kB (ev x e) fun v=>.opt (kL v) k.K
def tLen (C:rA)(c:Call)(e:kC)(k:pL):T:=
 kB (fC c.argTypes.toList 0) fun t=>kB (fC c.args.toList 0) fun x=>kB (ev x e) fun v=>
  bif Nat.beq (yH C t) 4 then .opt (mC v) k.K else bif Nat.beq (yH C t) 6 then .light (fun m=>vS C t ⟨0,m⟩ v) k.K else kB (vS C t nL v) k.Kd
def tBin (C:rA)(op:BinOp)(t:Nat)(x y:Operand)(u:Nat)(e:kC)(k:pL):T:=
 bif binDir C op t y then bP C (.binOp op t x y u) e k else kB (ev x e) fun a=>kB (ev y e) fun b=>.opt ((rW op).f C t x y a b) k.K
def Sm(C:rA)(s d:Nat)(x:Operand)(e:kC)(k:pL):T:=
 bif Nat.beq (yH C d) 2 then(bif Nat.beq (yH C s) 2 then bP C (.convert s d x) e k else kB (ev x e) fun v=>.light (fun m=>sZ C s d ⟨0,m⟩ v) k.K)else bif Nat.beq (yH C d) 1 then bP C (.convert s d x) e k else .fail
def AA(C:rA)(t:Nat)(x:Operand)(lo hi:Option Operand)(e:kC)(k:pL):T:=
 kB (ev x e) fun a=>kB (jR lo e) fun l=>kB (jR hi e) fun h=>
  bif Nat.beq (yH C t) 2 then .opt (sF C t nL a l h) k.K else .light (fun m=>sF C t ⟨0,m⟩ a l h) k.K
def Hr(C:rA)(c:Call)(e:kC)(k:pL):Builtin->T
 | .len=>tLen C c e k
 | .max=>bP C (.call c) e k
 | .min=>bP C (.call c) e k
 | _=>.fail
def Fq(ty:rC)(v:zA):List zA:=bif ty.desc.isAgg then v.cells else [v]
def zdg(cells:List zA)(off size:Nat)(vc:List zA):Option (List zA):=
 yB (Nat.beq (bA vc) size&&Nat.ble (off+bA vc) (bA cells)) (some (qD (kX cells off) (qD vc (wP cells (off+bA vc)))))
def Vi(C:rA)(tyAt:Nat->Option Nat):List (Nat × zA)->Option (List (Nat × zA × List zA) × List zA):=
 List.rec (motive:=fun _=>Option (List (Nat × zA × List zA) × List zA)) (some ([],[]))
  (fun p _ g=>ob (tyAt p.1) fun t=>ob (C.tys.get t) fun ty=>ob g fun r=>some (bif ty.desc.isAgg then((p.1,p.2,p.2.cells)::r.1,r.2)else((p.1,p.2,[p.2])::r.1,p.2::r.2)))
def Pw(place:Nat->Option (Nat × Nat)):List (Nat × zA × List zA)->List zA->Option (List zA):=
 List.rec (motive:=fun _=>List zA->Option (List zA)) (fun cells=>some cells) (fun p _ g cells=>ob (place p.1) fun q=>ob (zdg cells q.1 q.2 p.2.2) fun cells=>g cells)
def tyAtS(ty:rC)(i:Nat):Option Nat:=
 match ty.desc.asStruct with
 | some fs=>ob (fC fs i) fun x=>some x.2.1
 | none=>ob ty.desc.asArr fun a=>some a.2
def Ek(C:rA)(ty:rC)(i:Nat):Option (Nat × Nat):=
 match ty.desc.asStruct with
 | some fs=>ob (fC fs i) fun x=>some (x.1,x.2.2)
 | none=>ob ty.desc.asArr fun a=>ob (C.tys.get a.2) fun et=>some (i*et.size,et.size)
def LH(C:rA)(ty:rC):Bool:=
 match ty.desc.asStruct with
 | some _=>true
 | none=>match ty.desc.asArr with
  | some a=>(match C.tys.get a.2 with | some _=>true | none=>false)
  | none=>false
def AG(C:rA)(t:Nat)(ps:Array (Nat × Operand))(e:kC)(k:pL):T:=
 kB (C.tys.get t) fun ty=>wJ (LH C ty) <| kB (kR ps.toList e) fun vs=>kB (Vi C (tyAtS ty) vs) fun q=>kB (Pw (Ek C ty) q.1 ty.zero) fun l=>.ite (cB zA.one q.2) (k.Kd (.agg l)) .fail
def tL (C:rA)(op:Op)(e:kC)(ae:bM)(lo:Tr (List zA))(k:pL):T:=
 match op with
 | .move x=>Mm C (.move x) x e ae k
 | .assign x=>Mm C (.assign x) x e ae k
 | .load t a=>tLoad C t a e ae lo k
 | .fieldAddr s x f=>AE C s x f e ae k
 | .indexAddr t x i=>AC C t x i e ae k
 | .nilCheck x=>tNil x e ae k
 | .binOp op t x y u=>tBin C op t x y u e k
 | .convert s d x=>Sm C s d x e k
 | .slice t x lo hi none=>AA C t x lo hi e k
 | .index t x i=>bif Xd i&&Nat.beq (yH C t) 5 then bP C (.index t x i) e k else kB (ev x e) fun v=>kB (ev i e) fun i=>.opt (qH C t v i) k.K
 | .extract t i=>kB (ev t e) fun v=>.opt (wH i v) k.K
 | .typeAssert x _ u ok=>kB (ev x e) fun v=>.opt (Hg C u ok v) k.K
 | .lookup t x i ok=>kB (ev x e) fun m=>kB (ev i e) fun key=>.light (fun h=>pV C t ⟨0,h⟩ m key ok) k.K
 | .call c=>match c.callee with
  | .builtin b=>Hr C c e k b
  | _=>.fail
 | .pick c a b=>bP C (.pick c a b) e k
 | .unOp o t x=>(match o with
  | .xor=>kB (ev x e) fun v=>.opt (Bq v) k.K
  | o=>bP C (.unOp o t x) e k)
 | .makeInterface t x=>bP C (.makeInterface t x) e k
 | .makeFunc fn a b=>bP C (.makeFunc fn a b) e k
 | .field t x f=>bP C (.field t x f) e k
 | .build t ps=>AG C t ps e k
 | _=>.fail
def Jp (la:List Nat)(dst:Option Nat):Option Nat:=
 match dst with
 | some d=>bif bG d la then some d else none
 | none=>none
structure KLo where
 new:Nat->List zA->T
 set:Nat->List zA->T
def AF(f:Operand)(args:Array Operand)(e:kC)(k:pL):T:=
 match f with
 | .func g=>wJ (Nat.blt g pn) (kB (lM args.toList e) fun aq=>.call g aq k.K)
 | f=>kB (ev f e) fun fv=>kB (lM args.toList e) fun aq=>.callv fv aq k.K
def two' (c:Call)(e:kC)(K:zA->zA->T):T:=kB (two c e) fun p=>K p.1 p.2
def AD(C:rA)(c:Call)(e:kC)(k:pL):Builtin->T
 | .append=>kB (fC c.argTypes.toList 0) fun t=>kB (fC c.argTypes.toList 1) fun u=>two' c e fun a b=>.heavy (yJ C t u a b) k.K
 | b=>Hr C c e k b
def Zz(C:rA)(t:Nat)(a x:Operand)(e:kC)(ae:bM)(lo:Tr (List zA))(k:pL)(kl:KLo):T:=
 match xAd ae a with
 | some p=>kB (ev x e) fun v=>kB (C.tys.get t) fun ty=>kB (lo.get p.1) fun l=>kB (zdg l p.2 ty.size (Fq ty v)) fun l'=>.ite (cB zA.one (Fq ty v)) (kl.set p.1 l') .fail
 | none=>kB (ev a e) fun a=>kB (ev x e) fun v=>.heavy (uC C t a v) k.Kd
def tH (C:rA)(la:List Nat)(dst:Option Nat)(op:Op)(e:kC)(ae:bM)(lo:Tr (List zA))(k:pL)(kl:KLo):T:=
 match op with
 | .box t x=>bif jD (qJ C t)then kB (ev x e) fun v=>(match Jp la dst with
  | some d=>kB (C.tys.get t) fun ty=>bif ty.desc.isAgg then kl.new d v.cells else .ite (zA.one v) (kl.new d [v]) .fail
  | none=>.heavy (jL v) k.K)else kB (ev x e) fun v=>.heavy (Rs C t v) k.K
 | .alloc t=>bif jD (qJ C t)then(match Jp la dst with
  | some d=>kB (C.tys.get t) fun ty=>kl.new d ty.zero
  | none=>.heavy (sJ C t) k.K)else .heavy (Mc C t) k.K
 | .store t a x=>Zz C t a x e ae lo k kl
 | .buildSlice t len ps=>kB (kR ps.toList e) fun ps=>.heavy (oD C t len ps) k.K
 | .makeMap _ none=>.heavy Mb k.K
 | .insert t m key x=>kB (ev m e) fun m=>kB (ev key e) fun key=>kB (ev x e) fun v=>.heavy (bQ C t m key v) k.Kd
 | .mapUpdate t m key x=>kB (ev m e) fun m=>kB (ev key e) fun key=>kB (ev x e) fun v=>.heavy (bQ C t m key v) k.Kd
 | .makeSlice t l c=>kB (ev l e) fun l=>kB (ev c e) fun c=>.heavy (iN C t l c) k.K
 | .convert s d x=>bif Nat.beq (yH C d) 4 then kB (ev x e) fun v=>.heavy (Rq C s d v) k.K else Sm C s d x e k
 | .call c=>match c.callee with
  | .value f=>AF f c.args e k
  | .builtin b=>AD C c e k b
  | _=>.fail
 | .panic x=>kB (ev x e) fun v=>kB v.asIface fun p=>.call pn [.iface p.1 p.2] k.K
 | op=>tL C op e ae lo k
def rmNat(i:Nat)(l:List Nat):List Nat:=List.rec (motive:=fun _=>List Nat) [] (fun j _ g=>bif Nat.beq i j then g else j::g) l
def cP (n:Nat)(dst:Option Nat)(v:zA)(lt:Bool)(st:tG)(κ:KT):T:=
 match dst with
 | none=>κ st
 | some d=>bif Nat.blt d n then wJ (jD (uK d st.ad)) (κ ⟨st.tm.set d v,st.ad,st.lo,bif lt then d::rmNat d st.lit else rmNat d st.lit⟩)else κ st
def Sk(n:Nat)(dst:Option Nat)(d off:Nat)(st:tG)(κ:KT):T:=
 kB dst fun i=>wJ (Nat.blt i n) (wJ (jD (st.tm.get i)) (κ ⟨st.tm,(i,d,off)::st.ad,st.lo,st.lit⟩))
def EQ(d:Nat)(ad:List (Nat × Nat × Nat)):Bool:=cB (fun a=>bif Nat.beq a.2.1 d then Nat.beq a.1 d else true) ad
def tNew (n:Nat)(d:Nat)(l:List zA)(st:tG)(κ:KT):T:=
 wJ (Nat.blt d n) (wJ (jD (st.tm.get d)) (wJ (EQ d st.ad) (κ ⟨st.tm,(d,d,0)::st.ad,st.lo.set d l,st.lit⟩)))
def Fi (C:rA)(t:Nat)(v:zA):Bool:=
 match C.tys.get t with
 | some ty=>(match ty.desc with
  | .bool=>Nat.beq v.tag 0
  | .int k=>(match v.asIntK with | some p=>eL p.1 k | none=>false)
  | .string=>Nat.beq v.tag 2
  | _=>true)
 | none=>true
def Hq(C:rA)(t:Nat)(v:zA)(K:zA->T):T:=
 match C.tys.get t with
 | some ty=>(match ty.desc with
  | .bool=>.asB v fun b=>K (.bool b)
  | .int k=>.asI k v fun n=>K (.int k n)
  | .string=>.asS v fun s=>K (.str s)
  | .struct _=>bif Nat.ble (bA ty.zero) 40 then .asG ty.zero v fun X=>K (.agg (Es ty.zero X 0))else K v
  | .arr _ _=>bif Nat.ble (bA ty.zero) 40 then .asG ty.zero v fun X=>K (.agg (Es ty.zero X 0))else K v
  | _=>K v)
 | none=>K v
def Ab (x:Operand)(lit:List Nat):Bool:=
 match x with
 | .tmp t=>lit.contains t
 | .const _=>true
 | _=>false
def Ou(op:Op)(e:kC)(lit:List Nat):Bool:=
 match op with
 | .move x=>Ab x lit
 | .assign x=>Ab x lit
 | .unOp _ _ x=>Ab x lit
 | .pick c a b=>bif Ab c lit then(match ob (ev c e) zA.asBool with
  | some w=>bif w then Ab a lit else Ab b lit
  | none=>false)else false
 | _=>false
def Ph(all:List Oper)(dst:Option Nat)(l:List Oper):Bool:=
 match dst with
 | none=>false
 | some d => !cB (fun o=>match o.guard with
  | some g=>(match ob (fC all g.1) fun p=>p.dst with | some i => !Nat.beq i d | none=>true)
  | none=>true) l
def Dw(g lt:Bool)(v:zA)(K:zA->Bool->T):T:=
 bif g then(bif lt then K v true else kB v.asBool fun b=>.ite b (K (.bool true) true) (K (.bool false) true))else K v lt
def kop (C:rA)(all:Array Oper)(n:Nat)(o:Oper)(e:kC)(st:tG)(κ:KT):pL:=
 ⟨fun v=>Hq C o.type v fun v=>Dw (Ph all.toList o.dst all.toList) (Ou o.op e st.lit) v fun v lt=>cP n o.dst v lt st κ,
  fun v=>wJ (Fi C o.type v) (Dw (Ph all.toList o.dst all.toList) (Ou o.op e st.lit) v fun v lt=>cP n o.dst v lt st κ),
  fun d off=>wJ (!Nat.ble (yH C o.type) 2) (Sk n o.dst d off st κ)⟩
def klo (C:rA)(n:Nat)(o:Oper)(st:tG)(κ:KT):KLo:=
 ⟨fun d l=>wJ (!Nat.ble (yH C o.type) 2) (tNew n d l st κ),
  fun d l=>wJ (Fi C o.type rD) (cP n o.dst rD false ⟨st.tm,st.ad,st.lo.set d l,st.lit⟩ κ)⟩
def kC.adCut(k:Nat)(l:List (Nat × Nat × Nat)):List (Nat × Nat × Nat):=l.filter fun a=>Nat.blt a.1 k
def tG.cut(st:tG):tG:=⟨st.tm.cut,kC.adCut st.tm.k st.ad,st.lo,st.lit⟩
def Ho (C:rA)(la:List Nat)(all:Array Oper)(n:Nat)(κ:KT)(l:List Oper):KT:=
 List.rec (motive:=fun _=>KT) κ
  (fun o _ g st=>kB (tF o.guard all st.tm) fun w=>Bool.rec (motive:=fun _=>T) (cP n o.dst rD false st g)
   (tH C la o.dst o.op (.now st.tm) (.now st.ad) st.lo (kop C all n o (.now st.tm) st g) (klo C n o st g)) w) l
def aO (st old:tG)(olds:List Nat)(op:Op):kC:=.mixed st.tm old.tm olds (cG op)
def mX (st old:tG)(olds:List Nat)(op:Op):bM:=.mixed st.ad old.ad olds (cG op)
def zR(C:rA)(all:Array Oper)(n:Nat)(old:tG)(olds:List (Nat × List Nat))(κ:KT)(l:List Nat):KT:=
 List.rec (motive:=fun _=>KT) κ
  (fun i _ g st=>kB (fC all.toList i) fun o=>kB (tF o.guard all st.tm) fun w=>Bool.rec (motive:=fun _=>T) (cP n o.dst rD false st g)
   (tL C o.op (aO st old (eE i olds) o.op) (mX st old (eE i olds) o.op) st.lo (kop C all n o (aO st old (eE i olds) o.op) st g)) w) l
def oV(C:rA)(all:Array Oper)(old:tG)(olds:List (Nat × List Nat))(st:tG)(k:T)(l:List Nat):T:=
 List.rec (motive:=fun _=>T) k
  (fun i _ g=>kB (fC all.toList i) fun o=>kB o.dst fun d=>kB (tF o.guard all st.tm) fun w=>Bool.rec (motive:=fun _=>T) g
   (kB (st.tm.get d) fun u=>wJ (Fi C o.type u) (tL C o.op (aO st old (eE i olds) o.op) (mX st old (eE i olds) o.op) st.lo ⟨fun v=>.ite (same 10 v u) g .fail,fun v=>.ite (same 10 v u) g .fail,fun _ _=>.fail⟩)) w) l
def Dq(C:rA)(es:List mL)(H:xA):Option (zA × xA):=ob (tY C es H) fun H'=>some (rD,H')
def tEff (op:Op)(e:kC)(ae:bM):Option mL:=
 match op with
 | .store t a x=>(match xAd ae a with
  | some _=>none
  | none=>nY (.store t a x) e)
 | op=>nY op e
def Mn(all:Array Oper)(old:tG)(olds:List (Nat × List Nat))(st:tG)(l:List Nat):Option (List mL):=
 lG (fun i=>ob (fC all.toList i) fun o=>ob (tF o.guard all st.tm) fun w=>yB w (tEff o.op (aO st old (eE i olds) o.op) (mX st old (eE i olds) o.op))) l
def qZ(C:rA)(all:Array Oper)(n:Nat)(old:tG)(olds:List (Nat × List Nat))(κ:KT)(l:List iE):KT:=
 List.rec (motive:=fun _=>KT) κ
  (fun s _ g st=>Bool.rec (motive:=fun _=>T) (kB (fC all.toList (dL all s.heavy)) fun o=>kB (nT C all s.heavy o st.tm) fun w=>
   (fun cont:KT=>Bool.rec (motive:=fun _=>T) (cP n o.dst rD false st cont)
    (tH C [] o.dst o.op (aO st old (eE (dL all s.heavy) olds) o.op) (mX st old (eE (dL all s.heavy) olds) o.op) st.lo (kop C all n o (aO st old (eE (dL all s.heavy) olds) o.op) st cont) (klo C n o st cont)) w)
   (fun st'=>oV C all old olds st' (zR C all n old olds g s.lights st') s.again))
   (wJ (iV C all) (kB (Mn all old olds st s.again) fun es=>.heavy (Dq C es) fun _=>zR C all n old olds g s.lights st)) (gS all s)) l
def Zt(C:rA)(la:List Nat)(fn n:Nat)(κ:KT)(id:Nat)(all:Array Oper)(draw:Bool):KT:=
 Bool.rec (motive:=fun _=>KT) (fun st=>Ho C la all n κ all.toList st.cut)
  (fun st=>kB (ob (C.plans.get fn) fun t=>t.get id) fun p=>wJ (nS all p) (zR C all n st.cut p.olds (qZ C all n st.cut p.olds κ p.stages) p.first st.cut)) draw
def Dn(st:tG)(ll:List (Nat × Nat)):Option (List zA):=
 List.rec (motive:=fun _=>Option (List zA)) (some []) (fun p _ g=>ob (uK p.1 st.ad) fun a=>yB (Nat.beq a.1 p.1&&Nat.beq a.2 0) (ob (st.lo.get p.1) fun l=>yB (Nat.beq (bA l) p.2) (ob g fun r=>some (qD l r)))) ll
def Bm(p:PI)(st:tG):Option (List zA):=ob (lG (fun i=>st.tm.get i) p.pl) fun a=>ob (Dn st p.ll) fun b=>some (qD a b)
def gT (ll:List (Nat × Nat)):List zA->Tr (List zA):=
 List.rec (motive:=fun _=>List zA->Tr (List zA)) (fun _=>.leaf) (fun p _ g vals=>(g (wP vals p.2)).set p.1 (kX vals p.2)) ll
def xN (pl:List Nat):List zA->Tr zA:=
 List.rec (motive:=fun _=>List zA->Tr zA) (fun _=>.leaf) (fun i _ g vals=>List.rec (motive:=fun _=>Tr zA) .leaf (fun v vals _=>(g vals).set i v) vals) pl
def Hw (ll:List (Nat × Nat)):List (Nat × Nat × Nat):=List.rec (motive:=fun _=>List (Nat × Nat × Nat)) [] (fun p _ g=>(p.1,p.1,0)::g) ll
def mK (k:Nat)(p:PI)(vals:List zA):tG:=⟨⟨k,xN p.pl vals,[]⟩,Hw p.ll,gT p.ll (wP vals (bA p.pl)),[]⟩
def uQ (C:rA)(g:Nat):Bool:=jD (C.prims.get g)
def BQ(pl:List Nat)(st:tG):Option (List zA):=lG (fun i=>st.tm.get i) pl
def psOk:List Nat->Bool
 | []=>true
 | [_]=>true
 | [p,q] => !Nat.beq p q
 | _=>false
def DD(k n:Nat)(pl ps:List Nat)(ops:List (Nat × Array Oper))(c:zC):Bool:=
 cB (fun p=>Nat.blt p k&&Nat.blt p n && !bG p pl) ps&&psOk ps&&Nn ops&&(match dJ c with | []=>true | _=>false)
def rdT:KtT:=⟨fun _=>.ret (.bool true),fun _ _=>.fail,fun _=>.ret (.bool false)⟩
def Vc(C:rA)(n:Nat)(κ:KtT)(i:Nat)(pl:List Nat)(f:Operand)(ps:List Nat)(ops:List (Nat × Array Oper))(c:zC)(st:tG):T:=
 wJ (DD st.tm.k n pl ps ops c) (kB (BQ pl st) fun vals=>kB (ev f (.now st.tm)) fun fv=>.range (uQ C) fv i (bA ps) vals (κ.norm st) (κ.ret st))
def nK (C:rA)(la:List Nat)(fn n:Nat)(c:zC):KtT->KT:=
 zC.rec (motive:=fun _=>KtT->KT)
  (fun κ st=>κ.norm st)
  (fun id all draw κ=>Zt C la fn n κ.norm id all draw)
  (fun _ _ ga gb κ=>ga ⟨gb κ,κ.exit,κ.ret⟩)
  (fun c _ _ gx gy κ st=>kB (ob (ev c (.now st.tm)) zA.asBool) fun b=>bif Ab c st.lit then Bool.rec (motive:=fun _=>T) (gy κ st) (gx κ st) b else .ite b (gx κ st) (gy κ st))
  (fun id _ g κ=>g ⟨κ.norm,fun i st=>Bool.rec (motive:=fun _=>T) (κ.exit i st) (κ.norm st) (Nat.beq id i),κ.ret⟩)
  (fun p _ _ _ st=>kB (Bm p st) fun vals=>.jump p.id vals)
  (fun id κ st=>κ.exit id st)
  (fun κ st=>κ.ret st)
  (fun p _ _ _ st=>kB (Bm p st) fun vals=>.jump p.id vals)
  (fun i pl f ps ops c _ κ st=>Vc C n κ i pl f ps.toList ops c st) c
structure PtT where
 p:PI
 tree:List zA->T
def fV(p:PI):KT:=fun st=>kB (Bm p st) fun vals=>.jump p.id vals
def eZ(C:rA)(la:List Nat)(fn n k:Nat)(c:zC):KtT->List PtT:=
 zC.rec (motive:=fun _=>KtT->List PtT)
  (fun _=>[])
  (fun _ _ _ _=>[])
  (fun _ b ga gb κ=>qD (ga ⟨nK C la fn n b κ,κ.exit,κ.ret⟩) (gb κ))
  (fun _ _ _ gx gy κ=>qD (gx κ) (gy κ))
  (fun id _ g κ=>g ⟨κ.norm,fun i st=>Bool.rec (motive:=fun _=>T) (κ.exit i st) (κ.norm st) (Nat.beq id i),κ.ret⟩)
  (fun p c g κ=>⟨p,fun vals=>nK C la fn n c ⟨fV p,κ.exit,κ.ret⟩ (mK k p vals)⟩::g ⟨fV p,κ.exit,κ.ret⟩)
  (fun _ _=>[])
  (fun _=>[])
  (fun p c g κ=>⟨p,fun vals=>nK C la fn n c κ (mK k p vals)⟩::g κ)
  (fun i pl _ ps ops c g _=>⟨⟨i,qD pl ps.toList,[]⟩,fun vals=>nK C la fn n (asA c ops) rdT (mK k ⟨i,qD pl ps.toList,[]⟩ vals)⟩::g rdT) c
def Ef (C:rA)(st:tG)(l:List ResultVar):(List zA->T)->T:=
 List.rec (motive:=fun _=>(List zA->T)->T) (fun K=>K [])
  (fun r _ g K=>match r with
   | .tmp t=>kB (st.tm.get t) fun v=>g fun l=>K (v::l)
   | .cell a t=>match uK a st.ad with
    | some p=>kB (st.lo.get p.1) fun l=>kB (C.tys.get t) fun ty=>wJ (Nat.ble (p.2+ty.size) (bA l)) (kB (eO C t l p.2) fun v=>g fun l=>K (v::l))
    | none=>kB (st.tm.get a) fun a=>.light (fun m=>iA C t ⟨0,m⟩ a) fun v=>g fun l=>K (v::l)) l
def endT (C:rA)(fn:Func):KT:=fun st=>Ef C st fn.results.toList fun l=>.ret (Bt l)
def oZ (C:rA)(fn:Func):KtT:=⟨endT C fn,fun _ _=>.fail,endT C fn⟩
structure kD where
 code:zC
 la:List Nat
def dI (C:rA)(fn:Func)(k:Nat)(f:Nat)(A:kD)(args:List zA):T:=nK C A.la f fn.ntmps A.code (oZ C fn) ⟨⟨k,Tr.ofList args,[]⟩,[],.leaf,[]⟩
def pM (C:rA)(fn:Func)(k:Nat)(f:Nat)(A:kD):List PtT:=eZ C A.la f fn.ntmps k A.code (oZ C fn)
def zL(l:List PtT)(i:Nat)(vals:List zA):List T:=List.rec (motive:=fun _=>List T) [] (fun p _ g=>bif Nat.beq p.p.id i then p.tree vals::g else g) l
end Go.Am
namespace Go.Am
open Go Go.RowKit
def xD {α:Type}(x:Option α)(P:α->Prop):Prop:=
 match x with
 | some a=>P a
 | none=>False
theorem rX{α:Type}{x:Option α}{P:α->Prop}:xD x P ↔ ∃a,x=some a/\P a:=by
 cases x with
 | none=>simp[xD]
 | some a=>simp[xD]
@[simp] theorem sA {α:Type} {a:α} {P:α->Prop}:xD (some a) P=P a:=rfl
@[simp] theorem optP_none {α:Type} {P:α->Prop}:xD (none:Option α) P=False:=rfl
abbrev fA:=zA->Tr vA->Prop
abbrev pF:=Nat->List zA->Tr vA->fA->Prop
def IG{α:Type}:List α->Bool | []=>true | _::_=>false
def wK(f:zA)(args:List zA):Option (Nat × List zA):=ob f.asFunc fun p=>match p.1 with
 | .func g=>yB (Nat.blt g pn) (some (g,qD (qD p.2.1 args) p.2.2))
 | .yld l=>yB (IG p.2.1&&IG p.2.2) (some (yo+l,args))
def hZ(np:Nat->Bool)(f:zA)(l:Nat):Option (Nat × List zA):=ob f.asFunc fun p=>match p.1 with
 | .func g=>yB (Nat.blt g pn&&np g) (some (g,qD p.2.1 (.func (.yld l) [] []::p.2.2)))
 | .yld _=>none
def Fa (k:IntKind)(v:zA):Option Int:=ob v.asIntK fun p=>yB (eL p.1 k) (some p.2)
def vK (zs:List zA)(v:zA):Option jI:=ob v.asAgg fun l=>yB (mQ zs l) (some (cellsOf l))
def oA (base:Nat)(W:pF)(J:pF):T->Tr vA->fA->Prop
 | .ret v,t,Q=>Q v t
 | .fail,_,_=>False
 | .ite b x y,t,Q=>if b=true then oA base W J x t Q else oA base W J y t Q
 | .opt x K,t,Q=>xD x fun v=>oA base W J (K v) t Q
 | .light x K,t,Q=>xD (x t) fun v=>oA base W J (K v) t Q
 | .heavy x K,t,Q=>∀b,t.get b=none->base<=b->xD (x ⟨b,t⟩) fun p=>oA base W J (K p.1) p.2.t Q
 | .call f args K,t,Q=>W f args t fun v t'=>oA base W J (K v) t' Q
 | .callv f args K,t,Q=>xD (wK f args) fun p=>W p.1 p.2 t fun v t'=>oA base W J (K v) t' Q
 | .asI k v K,t,Q=>xD (Fa k v) fun n=>oA base W J (K n) t Q
 | .asB v K,t,Q=>xD v.asBool fun n=>oA base W J (K n) t Q
 | .asS v K,t,Q=>xD v.asStr fun n=>oA base W J (K n) t Q
 | .asG zs v K,t,Q=>xD (vK zs v) fun X=>oA base W J (K X) t Q
 | .jump i vals,t,Q=>J i vals t Q
 | .range np f i m vals K R,t,Q=>256<=base/\∀l r,t.get l=none->base<=l->r.state=.ready->r.pending=none →
   (∀args t1 Q1,args.length=m->t1.get l=some (.loop r)->J i (vals++args) (t1.del l) (fun v t2=>t2.get l=none->∃b,v=.bool b/\Q1 v (t2.set l (.loop (rN b r))))->W (yo+l) args t1 Q1) →
   xD (hZ np f l) fun p=>W p.1 p.2 (t.set l (.loop r)) fun _ t'=>(t'.get l=some (.loop r)/\oA base W J K (t'.del l) Q)\/(t'.get l=some (.loop (rN false r))/\oA base W J R (t'.del l) Q)
abbrev Xt:=Nat->Option vA
def gH (X Y:Xt):Prop:=∀b y,X b=some y->Y b=some y
theorem gH.refl(X:Xt):gH X X:=fun _ _ h=>h
theorem gH.trans{X Y Z:Xt}(h:gH X Y)(k:gH Y Z):gH X Z:=fun b y e=>k b y (h b y e)
structure Ov (base:Nat) (t:Tr vA) (X:Xt) (H:xA):Prop where
 base:base<=H.next
 same:∀b,X b=none->H.t.get b=t.get b
 ext:∀b y,X b=some y->H.t.get b=some y/\t.get b=none/\b<H.next
 lt:∀b y,t.get b=some y->b<H.next
def HLe (H H':xA):Prop:=∀b y,H.t.get b=some y->H'.t.get b=some y
def yS(e e':kC):Prop:=∀i v,sV i e=some v->sV i e'=some v
section
variable {base:Nat}{t:Tr vA}{X:Xt}{H HA:xA}{e e':kC}{C:rA}{v:zA}
theorem Ov.notX(h:Ov base t X HA){b:Nat}{y:vA}(hb:t.get b=some y):X b=none:=by
 cases hx:X b with
 | none=>rfl
 | some z=>have:=(h.ext b z hx).2.1;simp_all
theorem Ov.up(h:Ov base t X HA){b:Nat}{y:vA}(hb:t.get b=some y):HA.t.get b=some y:=by rw[h.same b (h.notX hb)];exact hb
theorem Ov.le(h:Ov base t X HA){n:Nat}:HLe ⟨n,t⟩ HA:=fun _ _ hb=>h.up hb
theorem Ov.nextX(h:Ov base t X HA):X HA.next=none:=by
 cases hx:X HA.next with
 | none=>rfl
 | some z=>exact absurd (h.ext _ z hx).2.2 (Nat.lt_irrefl _)
theorem Ov.nextT(h:Ov base t X HA):t.get HA.next=none:=by
 cases hx:t.get HA.next with
 | none=>rfl
 | some z=>exact absurd (h.lt _ z hx) (Nat.lt_irrefl _)
theorem sW(h:HLe H HA){b:Nat}{p:Tr zA × Nat × Option Lo}(hb:bD H b=some p):bD HA b=some p:=by
 unfold bD at hb ⊢;rw[tA]at hb ⊢;obtain⟨y,h1,h2⟩:=hb;exact⟨y,h _ _ h1,h2⟩
theorem Db(h:HLe H HA){b:Nat}{p:List (zA × zA)}(hb:lJ H b=some p):lJ HA b=some p:=by
 unfold lJ at hb ⊢;rw[tA]at hb ⊢;obtain⟨y,h1,h2⟩:=hb;exact⟨y,h _ _ h1,h2⟩
theorem kE(h:yS e e'){x:Operand}(hx:ev x e=some v):ev x e'=some v:=by
 cases x with
 | tmp i=>exact h i v hx
 | const c=>exact hx
 | global g=>exact hx
 | func f=>exact hx
theorem Xx(h:yS e e'){l:List Operand}{vs:List zA}(hx:lM l e=some vs):lM l e'=some vs:=Oq l (fun _ _ k=>kE h k) hx
theorem JQ(h:yS e e'){x:Option Operand}{r:Option zA}(hx:jR x e=some r):jR x e'=some r:=by
 cases x with
 | none=>exact hx
 | some x=>
  have hx:ob (ev x e) (fun v=>some (some v))=some r:=hx
  show ob (ev x e') (fun v=>some (some v))=some r
  grind [tA,kE]
theorem Xy(h:yS e e'){l:List (Nat × Operand)}{vs:List (Nat × zA)}(hx:kR l e=some vs):kR l e'=some vs:=
 Oq l (fun a b k=>by grind [tA,kE]) hx
theorem Ry(h:yS e e'){c:Call}{p:zA × zA}(hx:two c e=some p):two c e'=some p:=by
 grind [two,tA,kE]
theorem Zi(h:HLe H HA){ty:Nat}{a:zA}(hx:iA C ty H a=some v):iA C ty HA a=some v:=by
 grind [iA,tA,sW]
theorem Yk(h:HLe H HA){s d:rC}{a:zA}(hx:yT C s d a H=some v):yT C s d a HA=some v:=by
 unfold yT at hx ⊢
 split at hx
 ·omega
 ·rename_i hk
  rw[xB]at hx ⊢
  refine⟨hx.1,?_⟩
  have hx:=hx.2
  rw[dC]at hx ⊢
  split at hx
  all_goals grind [tA,xB,Ku,sW]
theorem MV(h:HLe H HA){s d:Nat}{a:zA}(hx:sZ C s d H a=some v):sZ C s d HA a=some v:=by
 grind [sZ,tA,Yk]
theorem Uj(h:HLe H HA){ty:rC}{a:zA}{l r:Option zA}(hx:rM C H ty a l r=some v):rM C HA ty a l r=some v:=by
 have row:∀ {arr e b off len cap},jO C H arr e b off len cap l r=some v->jO C HA arr e b off len cap l r=some v:=by
  intro arr e b off len cap hx;unfold jO at hx ⊢
  simp only[tA]at hx ⊢
  obtain⟨a1,h1,b1,h2,hx⟩:=hx
  refine⟨a1,h1,b1,h2,?_⟩
  cases hb:bD H b with
  | none=>
   have e1:sM H b a1.size cap b1.1 arr=false:=by unfold sM;rw[hb]
   have e2:wN H b a1.size cap b1.1 arr=false:=by unfold wN;rw[hb]
   rw[e1,e2,yay,yay]at hx
   cases hx
  | some c=>
   grind [sM,sW,wN]
 grind [rM,tA]
theorem MO(h:HLe H HA){ty:Nat}{a:zA}{l r:Option zA}(hx:sF C ty H a l r=some v):sF C ty HA a l r=some v:=by
 grind [sF,tA,Uj]
theorem We(h:HLe H HA){m:zA}{l:List (zA × zA)}(hx:yU H m=some l):yU HA m=some l:=by
 grind [yU,Db]
theorem MR(h:HLe H HA){ty:Nat}{m k:zA}{ok:Bool}(hx:pV C ty H m k ok=some v):pV C ty HA m k ok=some v:=by
 unfold pV at hx ⊢
 simp only[tA,xB]at hx ⊢
 grind [We]
theorem Wn(h:HLe H HA){ty:rC}{a:zA}{n:Nat}(hx:mS H ty a=some n):mS HA ty a=some n:=by
 unfold mS at hx ⊢
 split at hx
 all_goals grind [xB,tA,Db]
theorem MS(h:HLe H HA){ty:Nat}{a:zA}(hx:vS C ty H a=some v):vS C ty HA a=some v:=by
 grind [vS,tA,Wn]
theorem FV{ty:Nat}{a:Operand}:sU ty a C e H=ob (ev a e) fun v=>iA C ty H v:=rfl
theorem GJ{s d:Nat}{x:Operand}{u:zA}(hx:ev x e=some u):cN s d x C e H=sZ C s d H u:=by simp_all [cN,sZ]
theorem UK{ty:Nat}{x:Operand}{lo hi:Option Operand}{a:zA}{l r:Option zA}(h1:ev x e=some a)(h2:jR lo e=some l)(h3:jR hi e=some r):fX ty x lo hi C e H=sF C ty H a l r:=by unfold fX sF;rw[h1,qA,h2,qA,h3,qA]
theorem GG{s f:Nat}{x:Operand}{u:zA}(hx:ev x e=some u):pU s x f C e H=tD C s f u:=by
 unfold pU tD Rr;rw[hx]
 cases C.tys.get s with
 | none=>rfl
 | some ty=>
  simp only[qA]
  cases ty.desc.asStruct with
  | none=>rfl
  | some fs=>
   simp only[qA]
   cases fC fs f with
   | none=>rfl
   | some fd=>simp only[qA];cases hb:(!Nat.beq fd.2.2 0)<;>rfl
theorem FZ{ty:Nat}{x i:Operand}{u w:zA}(hx:ev x e=some u)(hi:ev i e=some w):rU ty x i C e H=aB C ty u w:=by unfold rU aB;rw[hx,hi];rfl
theorem UN{ty:Nat}{x i:Operand}{u w:zA}(hx:ev x e=some u)(hi:ev i e=some w):qU ty x i C e H=qH C ty u w:=by unfold qU qH;rw[hx,hi];rfl
theorem FO{x:Operand}{u:zA}(hx:ev x e=some u):dX x C e H=kL u:=by simp_all [dX,kL]
theorem UO{x:Operand}{i:Nat}{u:zA}(hx:ev x e=some u):oU x i C e H=wH i u:=by simp_all [oU,wH]
theorem lBin_v{op:BinOp}{ty:Nat}{x y:Operand}{u w:zA}(hx:ev x e=some u)(hy:ev y e=some w):nU op ty x y C e H=(rW op).f C ty x y u w:=by simp_all [nU]
theorem UP{x:Operand}{a:Nat}{ok:Bool}{u:zA}(hx:ev x e=some u):mU x a ok C e H=Hg C a ok u:=by
 unfold mU Hg;rw[hx];rfl
theorem UL{ty:Nat}{x i:Operand}{ok:Bool}{m k:zA}(hx:ev x e=some m)(hi:ev i e=some k):tU ty x i ok C e H=pV C ty H m k ok:=by unfold tU pV;rw[hx,hi];rfl
theorem lLen_v{c:Call}{ty:Nat}{x:Operand}{u:zA}(h1:fC c.argTypes.toList 0=some ty)(h2:fC c.args.toList 0=some x)(hx:ev x e=some u):vP c C e H=vS C ty H u:=by grind [vP,vS,qA]
theorem zam(he:yS e e'){op:Op}(hp:qS op=true\/(∃s d x,op=.convert s d x/\(yH C d=1\/yH C s=2))\/(∃c,op=.call c/\(c.callee=.builtin .max\/c.callee=.builtin .min))){H':xA}(h:(vF op).f C e H=some v):(vF op).f C e' H'=some v:=by
 rcases hp with hp | hp | hp
 ·cases op<;>simp only[qS]at hp<;>try (cases hp;done)
  case move x=>exact kE he h
  case assign x=>exact kE he h
  case pick c a b=>
   have h:ob (ev c e) (fun c=>ob c.asBool fun c=>bif c then ev a e else ev b e)=some v:=h
   show ob (ev c e') (fun c=>ob c.asBool fun c=>bif c then ev a e' else ev b e')=some v
   grind [tA,kE]
  case nilCheck x=>
   have h:ob (ev x e) (fun u=>yB (Nat.beq u.tag 4||Nat.beq u.tag 9) (some u))=some v:=h
   show ob (ev x e') (fun u=>yB (Nat.beq u.tag 4||Nat.beq u.tag 9) (some u))=some v
   grind [tA,kE]
  case binOp op t x y u=>
   have h:nU op t x y C e H=some v:=h
   show nU op t x y C e' H'=some v
   grind [nU,tA,kE]
  case unOp op t x=>
   have h:lUn op x C e H=some v:=h
   show lUn op x C e' H'=some v
   grind [lUn,tA,kE]
  case makeInterface t x=>
   have h:Ad t x C e H=some v:=h
   show Ad t x C e' H'=some v
   grind [Ad,tA,xB,kE]
  case makeFunc fn a b=>
   have h:(Ae fn a b).f C e H=some v:=h
   show(Ae fn a b).f C e' H'=some v
   unfold Ae at h ⊢
   split at h
   ·grind [Ew,tA,Xx]
   ·cases h
  case fieldAddr s x f=>
   have h:pU s x f C e H=some v:=h
   show pU s x f C e' H'=some v
   unfold pU at h ⊢
   simp only[tA,xB]at h ⊢
   obtain⟨a,h1,b,h2,c,h3,h4,u,h5,h6⟩:=h
   exact⟨a,h1,b,h2,c,h3,h4,u,kE he h5,h6⟩
  case field t x f=>
   have h:Af t x f C e H=some v:=h
   show Af t x f C e' H'=some v
   grind [Af,tA,kE]
  case indexAddr t x i=>
   have h:rU t x i C e H=some v:=h
   show rU t x i C e' H'=some v
   unfold rU at h ⊢
   simp only[tA]at h ⊢
   grind [kE]
  case index t x i=>
   have h:qU t x i C e H=some v:=h
   show qU t x i C e' H'=some v
   unfold qU at h ⊢
   simp only[tA]at h ⊢
   grind [kE]
  case extract t i=>
   have h:oU t i C e H=some v:=h
   show oU t i C e' H'=some v
   grind [oU,tA,kE]
  case build t ps=>
   have h:gV t ps C e H=some v:=h
   show gV t ps C e' H'=some v
   grind [gV,tA,Xy]
  case typeAssert x t u ok=>
   have h:mU x u ok C e H=some v:=h
   show mU x u ok C e' H'=some v
   grind [mU,tA,xB,kE]
 ·obtain⟨s,d,x,rfl,hp⟩:=hp
  have h:cN s d x C e H=some v:=h
  show cN s d x C e' H'=some v
  unfold cN at h ⊢
  simp only[tA]at h ⊢
  obtain⟨u,h1,sy,h2,dy,h3,h4⟩:=h
  refine⟨u,kE he h1,sy,h2,dy,h3,?_⟩
  unfold yT at h4 ⊢
  split at h4
  ·exact h4
  ·rename_i hd
   rw[xB]at h4 ⊢
   refine⟨h4.1,?_⟩
   have h4:=h4.2
   rw[dC]at h4 ⊢
   split at h4
   ·simp_all
   ·rename_i e
    exfalso
    rcases hp with hp | hp
    ·unfold yH at hp
     rw[h3]at hp;have hp:dy.desc.tag=1:=hp
     cases hx:dy.desc<;>rw[hx]at hp hd<;>first
      | (cases hp;done)
      | (cases hd;done)
    ·unfold yH at hp
     rw[h2]at hp;have hp:sy.desc.tag=2:=hp
     simp only[tA]at h4;obtain⟨el,h5,_⟩:=h4
     cases hx:sy.desc<;>rw[hx]at hp h5<;>first
      | (cases hp;done)
      | (cases h5;done)
 ·obtain⟨c,rfl,hc⟩:=hp
  rcases hc with hc | hc
  ·have h:(mR c c.callee).f C e H=some v:=h
   show(mR c c.callee).f C e' H'=some v
   rw[hc]at h ⊢
   have h:vU c C e H=some v:=h
   show vU c C e' H'=some v
   grind [vU,tA,Ry]
  ·have h:(mR c c.callee).f C e H=some v:=h
   show(mR c c.callee).f C e' H'=some v
   rw[hc]at h ⊢
   have h:wU c C e H=some v:=h
   show wU c C e' H'=some v
   grind [wU,tA,Ry]
end
end Go.Am
namespace Go.Am
open Go Go.RowKit
section
variable {base:Nat}{t:Tr vA}{X:Xt}{H HA:xA}{e e':kC}{C:rA}{v:zA}
theorem Ov.newBlk(h:Ov base t X HA)(y:vA):Ov base (t.set HA.next y) X (newBlk HA y):=by
 refine⟨Nat.le_succ_of_le h.base,fun b hb=>?_,fun b z hb=>?_,fun b z hb=>?_⟩
 ·show(HA.t.set HA.next y).get b=_
  rw[Tr.get_set,Tr.get_set];split
  ·rfl
  ·exact h.same b hb
 ·obtain⟨h1,h2,h3⟩:=h.ext b z hb
  have hne:b≠HA.next:=Nat.ne_of_lt h3
  refine⟨?_,?_,Nat.lt_succ_of_lt h3⟩
  ·show(HA.t.set HA.next y).get b=_
   grind [Tr.get_set]
  grind [Tr.get_set]
 ·rw[Tr.get_set]at hb
  show b<HA.next+1
  split at hb
  ·omega
  ·exact Nat.lt_succ_of_lt (h.lt _ _ hb)
theorem Ov.setBlk(h:Ov base t X HA){b:Nat}{y:vA}(hb:t.get b=some y)(z:vA):Ov base (t.set b z) X (setBlk HA b z):=by
 refine⟨h.base,fun c hc=>?_,fun c u hc=>?_,fun c u hc=>?_⟩
 ·show(HA.t.set b z).get c=_
  rw[Tr.get_set,Tr.get_set];split
  ·rfl
  ·exact h.same c hc
 ·obtain⟨h1,h2,h3⟩:=h.ext c u hc
  have hne:c≠b:=fun e=>by simp_all
  refine⟨?_,?_,h3⟩
  ·show(HA.t.set b z).get c=_
   grind [Tr.get_set]
  grind [Tr.get_set]
 ·rw[Tr.get_set]at hc
  show c<HA.next
  split at hc
  ·rename_i e;rw[e];exact h.lt _ _ hb
  ·exact h.lt _ _ hc
theorem Ov.delBlk(h:Ov base t X HA){b:Nat}{y:vA}(hb:t.get b=some y):Ov base (t.del b) X ⟨HA.next,HA.t.del b⟩:=by
 refine⟨h.base,fun c hc=>?_,fun c u hc=>?_,fun c u hc=>?_⟩
 ·show(HA.t.del b).get c=_
  rw[Tr.get_del,Tr.get_del];split
  ·rfl
  ·exact h.same c hc
 ·obtain⟨h1,h2,h3⟩:=h.ext c u hc
  grind [Tr.get_del]
 ·rw[Tr.get_del]at hc
  show c<HA.next
  split at hc
  ·cases hc
  ·exact h.lt _ _ hc
def zS (base:Nat)(x:xA->Option (zA × xA)):Prop:=∀t X HA v H',Ov base t X HA->x ⟨HA.next,t⟩=some (v,H')->∃HA',x HA=some (v,HA')/\Ov base H'.t X HA'
theorem oX(l:List zA)(lo:Option Lo)(h:Ov base t X HA):Ov base (dE ⟨HA.next,t⟩ l lo).t X (dE HA l lo):=h.newBlk _
theorem MZ{ty:Nat}:zS base (sJ C ty):=by
 intro t X HA v H' ho h;unfold sJ at h ⊢
 rw[tA]at h;obtain⟨y,h1,h2⟩:=h
 cases h2;simp_all [oX]
theorem zbx{u:zA}:zS base (jL u):=by
 intro t X HA v H' ho h
 cases h;exact⟨_,rfl,oX _ _ ho⟩
theorem NA{ty:Nat}:zS base (Mc C ty):=by
 intro t X HA v H' ho h;unfold Mc at h ⊢
 rw[tA]at h;obtain⟨y,h1,h3⟩:=h
 grind [qA,oX]
theorem MX{ty:Nat}{u:zA}:zS base (Rs C ty u):=by
 intro t X HA v H' ho h;grind [Rs,oX]
theorem MW{ty n:Nat}{ps:List (Nat × zA)}:zS base (oD C ty n ps):=by
 intro t X HA v H' ho h;unfold oD at h ⊢
 simp only[tA,xB]at h;obtain⟨a,h1,b,h2,c,h3,h4,l,h5,h6⟩:=h
 grind [oX,tA,xB]
theorem Uc(ho:Ov base t X HA){b off:Nat}{l:List zA}{H':xA}(h:wI C ⟨HA.next,t⟩ b off l=some H'):∃HA',wI C HA b off l=some HA'/\Ov base H'.t X HA':=by
 unfold wI at h ⊢
 simp only[tA,xB]at h;obtain⟨h1,c,h2,h3,h4⟩:=h
 cases h4;have h2':=h2
 unfold bD at h2';rw[tA]at h2'
 obtain⟨y,h5,_⟩:=h2'
 refine⟨_,?_,ho.setBlk h5 _⟩
 simp only[tA,xB];exact⟨h1,c,sW ho.le h2,h3,rfl⟩
theorem MN{ty:Nat}{a u:zA}:zS base (uC C ty a u):=by
 intro t X HA v H' ho h;unfold uC at h ⊢
 simp only[tA,xB]at h;obtain⟨y,h1,p,h2,h3,H1,h4,h5⟩:=h
 grind [Uc,tA,xB]
theorem MQ:zS base Mb:=by
 intro t X HA v H' ho h
 cases h;exact⟨_,rfl,ho.newBlk _⟩
theorem Zh{ty:Nat}{m k u:zA}:zS base (bQ C ty m k u):=by
 intro t X HA v H' ho h;unfold bQ at h ⊢
 simp only[tA,xB]at h;obtain⟨a,h1,b,h2,c,h3,h4,d,h5,h6,l,h7,h8,l',h9,h10⟩:=h
 cases h10;have h7':=h7
 unfold lJ at h7';rw[tA]at h7'
 obtain⟨y,h11,_⟩:=h7'
 refine⟨_,?_,ho.setBlk h11 _⟩
 simp only[tA,xB];exact⟨a,h1,b,h2,c,h3,h4,d,h5,h6,l,Db ho.le h7,h8,l',h9,rfl⟩
theorem ZE(ho:Ov base t X HA){e:RE}{H':xA}(h:yZ C ⟨HA.next,t⟩ e=some H'):∃HA',yZ C HA e=some HA'/\Ov base H'.t X HA'/\HA'.next=HA.next/\H'.next=HA.next:=by
 obtain⟨x,y,h1,h2,rfl⟩:=Ky.1 h
 exact⟨setBlk HA e.blk y,Ky.2 ⟨x,y,ho.up h1,h2,rfl⟩,ho.setBlk h1 _,rfl,rfl⟩
theorem LN:∀ {l:List RE} {t:Tr vA} {HA:xA} {H':xA},Ov base t X HA->De C l ⟨HA.next,t⟩=some H'->∃HA',De C l HA=some HA'/\Ov base H'.t X HA'
 | [],t,HA,H',ho,h=>by cases h;exact⟨HA,rfl,ho⟩
 | e::l,t,HA,H',ho,h=>by
  unfold De at h ⊢
  rw[tA]at h;obtain⟨H1,h1,h⟩:=h
  obtain⟨HA1,g1,g2,g3,g4⟩:=ZE ho h1
  rw[g1,qA];obtain⟨n1,t1⟩:=H1
  have g4:n1=HA.next:=g4
  subst g4;rw[<- g3]at h;exact LN g2 h
theorem RC(ho:Ov base t X HA){e:RE}(h:Eh C ⟨HA.next,t⟩ e=true):Eh C HA e=true:=by
 cases e with
 | st b off l=>
  change (!jD (wI C ⟨HA.next,t⟩ b off l))=true at h
  show(!jD (wI C HA b off l))=true
  cases hs:wI C ⟨HA.next,t⟩ b off l with
  | none=>rw[hs]at h;cases h
  | some H'=>obtain⟨HA',g,_⟩:=Uc ho hs;rw[g];rfl
 | up b k v=>
  unfold Eh at h ⊢
  rw[ybb]at h ⊢
  refine⟨h.1,?_⟩
  have h2:=h.2
  split at h2
  ·rename_i hm;rw[Db ho.le hm]
  grind
theorem MU{es:List mL}:zS base (Dq C es):=by
 intro t X HA v H' ho h;grind [Dq,tY,tA,xB,LN,dH,RC]
theorem MP{ty:Nat}{l c:zA}:zS base (iN C ty l c):=by
 intro t X HA v H' ho h;unfold iN at h ⊢
 simp only[tA,xB]at h;obtain⟨a,h1,b,h2,d,h3,n,h4,m,h5,h6,h7⟩:=h
 grind [oX,tA,xB]
theorem MM{s d:Nat}{u:zA}:zS base (Rq C s d u):=by
 intro t X HA v H' ho h;unfold Rq at h ⊢
 simp only[tA,xB]at h;obtain⟨a,h1,b,h2,c,h3,et,h4,k,h5,h6,l,h7,h8⟩:=h
 cases h8;refine⟨dE HA (tW l) (some (.ty c)),?_,oX _ _ ho⟩
 grind [tA,xB]
theorem VW(h:HLe H HA){sz n:Nat}{u:zA}{l:List zA}(hx:oY H sz n u=some l):oY HA sz n u=some l:=by
 grind [oY,tA,sW]
theorem ZJ(ho:Ov base t X HA){ty:rC}{a b:zA}{H':xA}(h:oW C ⟨HA.next,t⟩ ty a b=some (v,H')):∃HA',oW C HA ty a b=some (v,HA')/\Ov base H'.t X HA':=by
 unfold oW at h;simp only[tA]at h;obtain⟨el,h1,et,h2,n,h3,new,h4,h5⟩:=h
 have h4':=VW ho.le h4
 suffices hs:∃HA',(match a.asSlice with
  | some s=>bif Nat.ble (s.2.2.1+n) s.2.2.2 then xY C HA et n new s else vY C HA el et n new s
  | none=>yB (Nat.beq a.tag 5) (aV HA el et n new))=some (v,HA')/\Ov base H'.t X HA' by
  grind [oW,tA]
 cases hs:a.asSlice with
 | some s=>
  rw[hs]at h5;simp only[]at h5 ⊢
  rw[dC]at h5;split at h5
  ·rename_i hr
   simp only[hr,cond_true];unfold xY at h5 ⊢
   grind [tA,Uc]
  ·rename_i hr
   simp only[Bool.not_eq_true]at hr;simp only[hr,cond_false];unfold vY at h5 ⊢
   rw[xB]at h5;obtain⟨gm,h5⟩:=h5
   rw[xB]at h5;obtain⟨g0,h5⟩:=h5
   rw[tA]at h5;obtain⟨c,g1,h5⟩:=h5
   have g1':=sW ho.le g1
   unfold bD at g1;rw[tA]at g1;obtain⟨y,g2,_⟩:=g1
   split at h5
   ·rename_i hc
    unfold Fdzx at h5;rw[tA]at h5;obtain⟨old,g3,g4⟩:=h5
    grind [oX,xB,tA,Fdzx]
   ·rename_i es hc
    unfold Fe at h5;rw[xB]at h5;obtain⟨g3,g4⟩:=h5
    cases g4
    refine⟨⟨HA.next+1,(HA.t.del s.1).set HA.next (.cells (c.1.setMany new (s.2.2.1*et.size)) ((s.2.2.1+n)*et.size) (some es))⟩,?_,(ho.delBlk g2).newBlk _⟩
    grind [xB,tA,Fe]
 | none=>
  grind [xB,aV,oX]
theorem MY{ty u:Nat}{a b:zA}:zS base (yJ C ty u a b):=by
 intro t X HA v H' ho h;grind [yJ,tA,xB,ZJ]
end
def Gq(ν:Nat->Nat)(ae:bM)(e:kC):Prop:=∀i p,tAd ae i=some p->sV i e=some (.ptr (ν p.1) p.2)
def Li(base:Nat)(X0 X:Xt)(ν:Nat->Nat)(lo:Tr (List zA)):Prop:=∀d l,lo.get d=some l->X0 (ν d)=none/\base<=ν d/\∃c,X (ν d)=some (.cells c l.length none)/\∀j a,l[j]?=some a->c.get j=some a
theorem xE{base:Nat}{W J:pF}{α:Type}{x:Option α}{K:α->T}{t:Tr vA}{Q:fA}:oA base W J (kB x K) t Q ↔ ∃a,x=some a/\oA base W J (K a) t Q:=by
 cases x with
 | none=>exact⟨fun h=>(by cases h),fun⟨_,h,_⟩=>(by cases h)⟩
 | some a=>exact⟨fun h=>⟨a,rfl,h⟩,fun⟨_,h,k⟩=>(by cases h;exact k)⟩
theorem aM{base:Nat}{W J:pF}{b:Bool}{K:T}{t:Tr vA}{Q:fA}:oA base W J (wJ b K) t Q ↔ b=true/\oA base W J K t Q:=by
 cases b with
 | false=>exact⟨fun h=>(by cases h),fun⟨h,_⟩=>(by cases h)⟩
 | true=>exact⟨fun h=>⟨rfl,h⟩,fun⟨_,h⟩=>h⟩
theorem rV{base:Nat}{W J:pF}{x:Option zA}{K:zA->T}{t:Tr vA}{Q:fA}:oA base W J (.opt x K) t Q ↔ ∃a,x=some a/\oA base W J (K a) t Q:=rX
theorem Dm{base:Nat}{W J:pF}{x:Tr vA->Option zA}{K:zA->T}{t:Tr vA}{Q:fA}:oA base W J (.light x K) t Q ↔ ∃a,x t=some a/\oA base W J (K a) t Q:=rX
theorem Bi{ν:Nat->Nat}{ae:bM}{e:kC}(h:Gq ν ae e){x:Operand}{p:Nat × Nat}(hx:xAd ae x=some p):ev x e=some (.ptr (ν p.1) p.2):=by
 cases x with
 | tmp i=>exact h i p hx
 | const _=>cases hx
 | global _=>cases hx
 | func _=>cases hx
theorem zch{c:Tr zA}{l:List zA}(h:∀j a,l[j]?=some a->c.get j=some a):∀(n off:Nat),off+n<=l.length->c.many n off=some ((l.drop off).take n):=by
 intro n;induction n with
 | zero=>intro off _;simp;rfl
 | succ n ih=>
  intro off ho;have hlt:off<l.length:=by omega
  rw[Tr.many_succ,h off l[off] (ybd hlt),qA,ih (off+1) (by omega),qA]
  rw[ybl hlt,List.take_succ_cons]
section
variable {W J:pF}{t:Tr vA}{X X0:Xt}{HA:xA}{e eA:kC}{C:rA}{ν:Nat->Nat}{ae:bM}{lo:Tr (List zA)}{k:pL}{Q:fA}{R:zA->Prop}
theorem FC(ho:Ov C.base t X HA)(hl:Li C.base X0 X ν lo){d off ty:Nat}{l:List zA}{y:rC}{v:zA}(h1:lo.get d=some l)(h2:C.tys.get ty=some y)(h3:Nat.ble (off+y.size) (bA l)=true)(h4:eO C ty l off=some v) :
  iA C ty HA (.ptr (ν d) off)=some v:=by
 obtain⟨_,_,c,hc,hg⟩:=hl d l h1
 have hb:=(ho.ext _ _ hc).1
 unfold iA;simp only[zA.asPtr,qA];rw[h2,qA];grind [bD,qA,vA.asCells,eO,sQ,qE,sD,zch,rR,xP,zG]
theorem yR(he:yS e eA){op:Op}(hp:qS op=true\/(∃s d x,op=.convert s d x/\(yH C d=1\/yH C s=2))\/(∃c,op=.call c/\(c.callee=.builtin .max\/c.callee=.builtin .min)))
  (h:oA C.base W J (bP C op e k) t Q) (hKd:∀v,oA C.base W J (k.Kd v) t Q->R v):∃v,(vF op).f C eA HA=some v/\R v:=by
 grind [bP,xE,zam]
theorem MT{ty:Nat}{u v:zA}{H:xA}(ht:yH C ty=4)(h:mC u=some v):vS C ty H u=some v:=by
 unfold yH at ht
 cases hy:C.tys.get ty with
 | none=>simp_all
 | some y=>
  rw[hy]at ht;have ht:y.desc.tag=4:=ht
  unfold vS;rw[hy,qA];unfold mC at h;unfold mS
  cases u<;>simp only[zA.asSlice,zA.asStr,zA.asMap,zA.tag]at h ⊢ <;> (try (rw[xB]at h;exact absurd h.1 (by decide)))
  case nilslice=>
   rw[xB]at h;have hn:y.desc.asArr=none:=by cases hd:y.desc<;>rw[hd]at ht<;>first | rfl | (cases ht;done)
   simp_all [tA,xB]
  simp_all [tA,xB]
theorem VB{ty:Nat}{u v:zA}{H H':xA}(ht:yH C ty≠6)(h:vS C ty H u=some v):vS C ty H' u=some v:=by
 unfold vS at h ⊢
 simp only[tA]at h ⊢
 obtain⟨y,h1,n,h2,h3⟩:=h
 refine⟨y,h1,n,?_,h3⟩
 have ht:¬ Nat.beq y.desc.tag 6=true:=by
  grind [yH,sC]
 unfold mS at h2 ⊢
 split at h2
 all_goals grind [xB]
theorem OJ{ty:Nat}{a v:zA}{l h:Option zA}{H H':xA}(ht:yH C ty=2)(hx:sF C ty H a l h=some v):sF C ty H' a l h=some v:=by
 unfold sF at hx ⊢
 rw[tA]at hx ⊢
 obtain⟨y,h1,h2⟩:=hx
 refine⟨y,h1,?_⟩
 unfold yH at ht;rw[h1]at ht;have ht:y.desc.tag=2:=ht
 unfold rM at h2 ⊢
 have n1:y.desc.asSlice=none:=by cases hd:y.desc<;>rw[hd]at ht<;>first | rfl | (cases ht;done)
 have n2:y.desc.asArr=none:=by cases hd:y.desc<;>rw[hd]at ht<;>first | rfl | (cases ht;done)
 simp_all
theorem Vp{u:zA}(h:zA.one u=true):u.cells=[u]:=by
 cases u<;>first
  | rfl
  | (have:=vC.1 h;grind [zA.tag])
theorem WC{tyAt:Nat->Option Nat}(place:Nat->Option (Nat × Nat)):∀(vs:List (Nat × zA)) {q:List (Nat × zA × List zA) × List zA},Vi C tyAt vs=some q->cB zA.one q.2=true->∀cells l,Pw place q.1 cells=some l->yK place vs cells=some l:=by
 intro vs;induction vs with
 | nil=>intro q h _ cells l hl;cases h;exact hl
 | cons p vs ih=>
  intro q h h1 cells l hl;have h:(ob (tyAt p.1) fun t=>ob (C.tys.get t) fun ty=>ob (Vi C tyAt vs) fun r=>some (bif ty.desc.isAgg then((p.1,p.2,p.2.cells)::r.1,r.2)else((p.1,p.2,[p.2])::r.1,p.2::r.2)))=some q:=h
  simp only[tA]at h;obtain⟨ty,_,y,_,r,h3,h4⟩:=h
  have bH:∀(rest:List zA),cB zA.one r.2=true->(ob (place p.1) fun q=>ob (zdg cells q.1 q.2 p.2.cells) fun cells=>Pw place r.1 cells)=some l->yK place (p::vs) cells=some l:=by
   intro _ hr hl;show(ob (place p.1) fun q=>ob (aS cells q.1 q.2 p.2) fun cells=>yK place vs cells)=some l
   simp only[tA]at hl ⊢
   obtain⟨a,g1,b,g2,g3⟩:=hl
   exact⟨a,g1,b,g2,ih h3 hr _ _ g3⟩
  cases hb:y.desc.isAgg with
  | true=>
   rw[hb]at h4
   cases h4;exact bH [] h1 hl
  | false=>
   rw[hb]at h4
   cases h4;simp_all [dH,Pw,Vp]
theorem Sl(he:yS e eA)(ha:Gq ν ae eA)(ho:Ov C.base t X HA)(hl:Li C.base X0 X ν lo){op:Op}(h:oA C.base W J (tL C op e ae lo k) t Q)
  (hK:∀v,oA C.base W J (k.K v) t Q->R v) (hKd:∀v,oA C.base W J (k.Kd v) t Q->R v) (hKA:∀d off,oA C.base W J (k.KA d off) t Q->R (.ptr (ν d) off)) :
  ∃v,(vF op).f C eA HA=some v/\R v:=by
 cases op<;>simp only[tL]at h<;>try (cases h;done)
 case move x=>
  unfold Mm at h;split at h
  ·rename_i p hp
   exact⟨_,Bi ha hp,hKA _ _ h⟩
  ·exact yR he (.inl rfl) h hKd
 case assign x=>
  unfold Mm at h;split at h
  ·rename_i p hp
   exact⟨_,Bi ha hp,hKA _ _ h⟩
  ·exact yR he (.inl rfl) h hKd
 case pick c a b=>exact yR he (.inl rfl) h hKd
 case load ty a=>
  unfold tLoad at h;split at h
  ·rename_i p hp
   simp only[xE,aM]at h;obtain⟨l,h1,y,h2,h3,v,h4,h5⟩:=h
   refine⟨v,?_,hKd v h5⟩
   show sU ty a C eA HA=some v
   grind [FV,Bi,qA,FC]
  ·rw[xE]at h
   obtain⟨u,h1,h2⟩:=h
   rw[Dm]at h2;obtain⟨v,h3,h4⟩:=h2
   refine⟨v,?_,hK v h4⟩
   show sU ty a C eA HA=some v
   rw[FV,kE he h1,qA];exact Zi ho.le h3
 case nilCheck x=>
  unfold tNil at h;split at h
  ·rename_i p hp
   refine⟨_,?_,hKA _ _ h⟩
   show dX x C eA HA=_
   rw[FO (Bi ha hp)];rfl
  ·rw[xE]at h
   obtain⟨u,h1,h2⟩:=h
   rw[rV]at h2;obtain⟨v,h3,h4⟩:=h2
   refine⟨v,?_,hK v h4⟩
   show dX x C eA HA=_
   grind [FO,kE]
 case binOp op ty x y u=>
  unfold tBin at h;rw[dC]at h;split at h
  ·exact yR he (.inl rfl) h hKd
  ·simp only[xE,rV]at h
   obtain⟨a,h1,b,h2,v,h3,h4⟩:=h
   refine⟨v,?_,hK v h4⟩
   show nU op ty x y C eA HA=_
   grind [lBin_v,kE]
 case unOp o ty x=>
  split at h
  ·simp only[xE,rV]at h
   obtain⟨u,h1,v,h2,h3⟩:=h
   refine⟨v,?_,hK v h3⟩
   show lUn .xor x C eA HA=_
   unfold lUn;rw[kE he h1];exact h2
  ·exact yR he (.inl rfl) h hKd
 case convert s d x=>
  unfold Sm at h;rw[dC]at h;split at h
  ·rename_i hd
   rw[dC]at h;split at h
   ·rename_i hs
    exact yR he (.inr (.inl ⟨s,d,x,rfl,.inr (sC.1 hs)⟩)) h hKd
   ·simp only[xE,Dm]at h
    obtain⟨u,h1,v,h2,h3⟩:=h
    refine⟨v,?_,hK v h3⟩
    show cN s d x C eA HA=_
    rw[GJ (kE he h1)];exact MV ho.le h2
  ·rw[dC]at h
   split at h
   ·rename_i hd
    exact yR he (.inr (.inl ⟨s,d,x,rfl,.inl (sC.1 hd)⟩)) h hKd
   ·cases h
 case makeInterface ty x=>exact yR he (.inl rfl) h hKd
 case makeFunc fn a b=>exact yR he (.inl rfl) h hKd
 case slice ty x lo' hi mx=>
  cases mx with
  | some _=>cases h
  | none=>
   simp only[AA,xE]at h;obtain⟨a,h1,l,h2,r,h3,h4⟩:=h
   rw[dC]at h4;show ∃v,fX ty x lo' hi C eA HA=some v/\R v
   rw[UK (kE he h1) (JQ he h2) (JQ he h3)]
   split at h4
   ·grind [rV,OJ,sC]
   ·rw[Dm]at h4
    obtain⟨v,h5,h6⟩:=h4
    exact⟨v,MO ho.le h5,hK v h6⟩
 case fieldAddr s x f=>
  unfold AE at h;show ∃v,pU s x f C eA HA=some v/\R v
  split at h
  ·rename_i p hp
   rw[xE]at h;obtain⟨o,h1,h2⟩:=h
   refine⟨_,?_,hKA _ _ h2⟩
   rw[GG (Bi ha hp)]
   unfold tD;rw[h1];rfl
  grind [xE,rV,GG,kE]
 case field ty x f=>exact yR he (.inl rfl) h hKd
 case indexAddr ty x i=>
  unfold AC at h;show ∃v,rU ty x i C eA HA=some v/\R v
  split at h
  ·rename_i p hp
   simp only[xE]at h;obtain⟨iv,h1,n,h2,o,h3,h4⟩:=h
   refine⟨_,?_,hKA _ _ h4⟩
   rw[FZ (Bi ha hp) (kE he h1)]
   unfold Zj at h3;simp only[tA,xB]at h3;obtain⟨y,g1,a,g2,et,g3,g4,g5⟩:=h3
   cases g5
   unfold aB;rw[g1,qA,h2,qA];simp only[zA.asSlice,zA.asPtr,qA];rw[g2,qA,g3,qA,g4];rfl
  grind [xE,rV,FZ,kE]
 case index ty x i=>
  rw[dC]at h;split at h
  ·exact yR he (.inl rfl) h hKd
  ·simp only[xE,rV]at h
   obtain⟨u,h1,w,h2,v,h3,h4⟩:=h
   refine⟨v,?_,hK v h4⟩
   show qU ty x i C eA HA=_
   grind [UN,kE]
 case lookup ty x i ok=>
  simp only[xE,Dm]at h;obtain⟨m,h1,key,h2,v,h3,h4⟩:=h
  refine⟨v,?_,hK v h4⟩
  show tU ty x i ok C eA HA=_
  rw[UL (kE he h1) (kE he h2)];exact MR ho.le h3
 case extract x i=>
  simp only[xE,rV]at h;obtain⟨u,h1,v,h2,h3⟩:=h
  refine⟨v,?_,hK v h3⟩
  show oU x i C eA HA=_
  grind [UO,kE]
 case typeAssert x a u ok=>
  simp only[xE,rV]at h;obtain⟨w,h1,v,h2,h3⟩:=h
  refine⟨v,?_,hK v h3⟩
  show mU x u ok C eA HA=_
  grind [UP,kE]
 case build ty ps=>
  unfold AG at h;simp only[xE,aM]at h;obtain⟨y,h1,hbd,vs,h2,q,h3,l,h4,h5⟩:=h
  have h5:if cB zA.one q.2=true then oA C.base W J (k.Kd (.agg l)) t Q else False:=h5
  split at h5
  ·rename_i hone
   refine⟨_,?_,hKd _ h5⟩
   show gV ty ps C eA HA=_
   have hf:=WC (Ek C y) vs h3 hone y.zero l h4
   unfold gV;rw[h1,qA,Xy he h2,qA]
   cases hs:y.desc.asStruct with
   | some fs=>
    simp only[];have:(fun i=>ob (fC fs i) fun x=>some (x.1,x.2.2))=Ek C y:=by funext i;unfold Ek;rw[hs]
    simp_all
   | none=>
    simp only[];unfold LH at hbd;rw[hs]at hbd;simp only[]at hbd
    cases ha:y.desc.asArr with
    | none=>simp_all
    | some a=>
     rw[ha]at hbd;simp only[]at hbd
     cases hy:C.tys.get a.2 with
     | none=>simp_all
     | some et=>
      simp only[qA];have:(fun i=>some (i*et.size,et.size))=Ek C y:=by funext i;unfold Ek;rw[hs];simp only[];rw[ha,qA,hy,qA]
      simp_all
  simp_all
 case call c=>
  split at h
  ·rename_i b hb
   cases b<;>simp only[Hr]at h<;>try (cases h;done)
   case len=>
    unfold tLen at h;simp only[xE]at h;obtain⟨ty,h1,x,h2,u,h3,h4⟩:=h
    show ∃v,(mR c c.callee).f C eA HA=some v/\R v
    rw[hb];show ∃v,vP c C eA HA=some v/\R v
    rw[lLen_v h1 h2 (kE he h3)]
    rw[dC]at h4;split at h4
    ·grind [rV,MT,sC]
    ·rw[dC]at h4
     split at h4
     ·rw[Dm]at h4
      obtain⟨v,h5,h6⟩:=h4
      exact⟨v,MS ho.le h5,hK v h6⟩
     grind [xE,VB,sC]
   case max=>exact yR he (.inr (.inr ⟨c,rfl,.inl hb⟩)) h hKd
   case min=>exact yR he (.inr (.inr ⟨c,rfl,.inr hb⟩)) h hKd
  ·cases h
end
end Go.Am
