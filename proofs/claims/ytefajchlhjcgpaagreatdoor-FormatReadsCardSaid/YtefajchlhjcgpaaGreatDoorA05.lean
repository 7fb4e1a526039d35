/- Code as a function: all functions of a program; what a value is worth. -/
import Derived.Test.YtefajchlhjcgpaaGreatDoorA04
set_option linter.all false
noncomputable section
namespace Go.Am
open Go Go.RowKit
section
def mW (C:iA)(fn:Func)(tm:Tm)(H:xA):iB:=ob (rX C H tm fn.results.toList) fun l=>some (⟨Gm l,false⟩,H)
def uP (C:iA)(fn:Func):Kt:=⟨mW C fn,fun _ _ _=>none,mW C fn⟩
def Ef(ops:List Oper):Bool:=sD (fun o=>match o.op with | .move _=>rE o.guard | .assign _=>rE o.guard | .alloc _=>rE o.guard | .store _ _ _=>rE o.guard | _=>false) ops
def Sr(l:List (Nat × Array Oper)):Bool:=match l with | []=>false | x::r=>sD (fun x=>Ef x.2.toList) (x::r)
def Od(c:oC):Option It:=match mK c with | [q]=>some q | _=>none
def rdOk (r:mN)(q:It):Prop:=r.assign=asC q.as/\r.body=qE q.c/\r.params=q.ps.toList/\LoopState.tag r.state=0/\Sr q.as=true/\mK q.c=[]
def Ig(r:mN):mN:=⟨.busy,r.pending,r.fn,r.n,r.tm,r.params,r.assign,r.body,r.defers⟩
def kP(b:Bool)(r:mN):mN:=⟨if b then .ready else .done,if b then none else some .ret,r.fn,r.n,r.tm,r.params,r.assign,r.body,r.defers⟩
def rdK:Kt:=⟨fun _ H=>some (⟨.bool true,false⟩,H),fun _ _ _=>none,fun _ H=>some (⟨.bool false,false⟩,H)⟩
def zj3(C:iA)(φ:dE)(fn n:Nat)(q:It)(tm:Tm)(H:xA):iB:=mD C φ fn n (asA q.c q.as) rdK tm H
def Gt(C:iA)(A:Tr oC)(φ:dE)(l:Nat)(args:List zA)(H:xA):iB:=
 ob (xJ H l) fun r=>ob (Ax r.n r.params args r.tm) fun tm=>ob (A.get r.fn) fun c=>ob (Od c) fun q=>@ite _ (rdOk r q/\l<H.next) (Classical.propDecidable _)
  (ob (zj3 C φ r.fn r.n q tm (setBlk H l (.loop (Ig r)))) fun x=>tB (!x.1.p) (ob (xJ x.2 l) fun r2=>ob x.1.v.asBool fun b=>some (⟨.bool b,false⟩,setBlk x.2 l (.loop (kP b r2))))) none
def regO (c:oC):Option (Nat × Array Oper):=match c with
 | .region id ops false=>some (id,ops)
 | .cut _ (.region id ops false)=>some (id,ops)
 | _=>none
structure lQ where
 i5:Nat
 o5:Array Oper
 d:Nat
 cl:Nat
 bs:List Operand
 i6:Nat
 o6:Array Oper
def Hz (l:List Oper):Option (Nat × Nat × List Operand):=match l with
 | [⟨some d,.makeFunc (.func cl) as bs,_,_,_,none⟩,⟨none,.defer cc,_,_,_,none⟩]=>(match as.toList,cc.callee,cc.args.toList with
  | [],.value (.tmp e),[]=>bif Nat.beq d e then some (d,cl,bs.toList)else none
  | _,_,_=>none)
 | _=>none
def zgk(c:oC):Option lQ:=match c with
 | .seq a (.seq b .ret)=>ob (regO a) fun u=>ob (regO b) fun v=>ob (Hz u.2.toList) fun q=>some ⟨u.1,u.2,q.1,q.2.1,q.2.2,v.1,v.2⟩
 | _=>none
def tX(c:oC):Option (List oC × lQ):=
 oC.rec (motive:=fun _=>Option (List oC × lQ)) none (fun _ _ _=>none)
  (fun a b _ g=>match zgk (.seq a b)with | some q=>some ([],q) | none=>ob g fun p=>some (a::p.1,p.2))
  (fun _ _ _ _ _=>none) (fun _ _ _=>none) (fun _ _ _=>none) (fun _=>none) none (fun _ _ _=>none) (fun _ _ _ _ _ _ _=>none) c
def mX (l:List oC):oC:=List.rec (motive:=fun _=>oC) .skip (fun a _ g=>.seq a g) l
def recO (l:List Oper):Option (Nat × Nat):=match l with
 | [⟨some d,.call cc,_,_,_,none⟩,⟨some e,.assign (.tmp f),_,_,_,none⟩]=>(match cc.callee with
  | .builtin .recover=>bif Nat.beq d f then some (d,e)else none
  | _=>none)
 | _=>none
structure ClQ where
 i:Nat
 o:Array Oper
 d:Nat
 e:Nat
 c:oC
def Ic (c:oC):Option ClQ:=match c with
 | .seq a b=>ob (regO a) fun u=>ob (recO u.2.toList) fun p=>some ⟨u.1,u.2,p.1,p.2,b⟩
 | _=>none
def clTm (n:Nat)(q:ClQ)(tm:Tm)(v:zA):Tm:=putA n (putA n tm.cut (some q.d) v) (some q.e) v
def aR(C:iA)(A:Tr oC)(φ:dE)(cl:Nat)(cells:List zA)(v:zA)(H:xA):iB:=
 ob (C.fns.get cl) fun fc=>ob (A.get cl) fun cc=>ob (Ic cc) fun q=>tB (rE (C.prims.get cl)&&Nat.blt q.d fc.ntmps) (ob (yK C cl cells true) fun g=>mD C φ cl fc.ntmps q.c (uP C fc) (clTm fc.ntmps q g.tm v) H)
def rN (C:iA)(A:Tr oC)(φ:dE)(fn:Func)(cl:Nat)(cells:List zA)(v:zA)(tm:Tm)(H:xA):iB:=
 ob (aR C A φ cl cells v H) fun y=>tB (!y.1.p) (mW C fn tm y.2)
def Qj(l:List ResultVar)(o6:List Oper):Bool:=sD (fun r=>match r with | .cell a _=>sD (fun o=>match o.dst with | some d => !Nat.beq d a | none=>true) o6 | .tmp _=>false) l
def kS(C:iA)(A:Tr oC)(φ:dE)(fn:Func)(q:lQ)(tm:Tm)(H:xA):iB:=
 tB (Qj fn.results.toList q.o6.toList&&(Nat.ble tm.k q.d&&Nat.blt q.d fn.ntmps)) (ob (kO q.bs (.now tm.cut)) fun cells=>
  ob (nM C φ q.o6 fn.ntmps (fun tm' H'=>rN C A φ fn q.cl cells .niliface tm' H') q.o6.toList tm.cut H) fun x=>
   Bool.rec (motive:=fun _=>iB) (some x) (rN C A φ fn q.cl cells x.1.v tm.cut x.2) x.1.p)
def Dz (C:iA)(A:Tr oC)(φ:dE)(fn:Func)(q:lQ):Kt:=⟨kS C A φ fn q,fun _ _ _=>none,mW C fn⟩
def mY(C:iA)(A:Tr oC)(φ:dE)(f:Nat)(fn:Func)(c:oC)(tm:Tm)(H:xA):iB:=
 match tX c with
 | none=>mD C φ f fn.ntmps c (uP C fn) tm H
 | some p=>mD C φ f fn.ntmps (mX p.1) (Dz C A φ fn p.2) tm H
def kT (C:iA)(A:Tr oC)(φ:dE)(f:Nat)(args:List zA)(H:xA):iB:=
 ob (A.get f) fun c=>ob (C.fns.get f) fun fn=>ob (yK C f args false) fun g=>mY C A φ f fn c g.tm H
def Gn(C:iA)(A:Tr oC)(φ:dE):dE
 | .func f=>kT C A φ f
 | .yld l=>Gt C A φ l
def Ei (C:iA)(A:Tr oC):Nat->dE
 | 0=>fun _ _ _=>none
 | n+1=>Gn C A (Ei C A n)
def zD (C:iA)(A:Tr oC):dE:=fun f args H=>lim fun n=>Ei C A n f args H
section
variable {C:iA}{A:Tr oC}
theorem Jt{φ:dE}{l:Nat}{args:List zA}{H:xA}{x:nH × xA}:Gt C A φ l args H=some x ↔ ∃r tm c q y r2 b,xJ H l=some r/\Ax r.n r.params args r.tm=some tm/\A.get r.fn=some c/\Od c=some q/\(rdOk r q/\l<H.next)/\zj3 C φ r.fn r.n q tm (setBlk H l (.loop (Ig r)))=some y/\xJ y.2 l=some r2/\y.1=⟨.bool b,false⟩/\x=(⟨.bool b,false⟩,setBlk y.2 l (.loop (kP b r2))):=by
 have out:∀(o:nH) (b:Bool),o=⟨.bool b,false⟩ ↔ o.v=.bool b/\o.p=false:=fun o b=>by cases o;simp
 unfold Gt;grind [sA,Fj,sB]
theorem YK{φ φ':dE}(h:bO φ φ'){cl:Nat}{cells:List zA}{v:zA}{H:xA}{x:nH × xA}(hx:aR C A φ cl cells v H=some x):aR C A φ' cl cells v H=some x:=by
 unfold aR at hx ⊢
 simp only[sA,sB]at hx ⊢
 obtain⟨fc,h1,cc,h2,q,h3,h4,g,h5,h6⟩:=hx
 exact⟨fc,h1,cc,h2,q,h3,h4,g,h5,Ck h _ _ _ (iP.refl _) _ _ _ h6⟩
theorem Pz{φ φ':dE}(h:bO φ φ'){fn:Func}{cl:Nat}{cells:List zA}{v:zA}{tm:Tm}{H:xA}{x:nH × xA}(hx:rN C A φ fn cl cells v tm H=some x):rN C A φ' fn cl cells v tm H=some x:=by
 grind [rN,sA,YK]
theorem FO{φ φ':dE}(h:bO φ φ'){fn:Func}{q:lQ}:fJ (kS C A φ fn q) (kS C A φ' fn q):=by
 intro tm H x hx;unfold kS at hx ⊢
 simp only[sB,sA]at hx ⊢
 obtain⟨h1,cells,h2,y,h3,h4⟩:=hx
 refine⟨h1,cells,h2,y,Ob h (fun tm H x hx=>Pz h hx) _ _ _ _ h3,?_⟩
 cases hp:y.1.p with
 | false=>simp_all
 | true=>rw[hp]at h4;exact Pz h h4
def ZH{φ φ':dE}(h:bO φ φ'){f:Nat}{fn:Func}{c:oC}:fJ (mY C A φ f fn c) (mY C A φ' f fn c):=by
 intro tm H x hx;unfold mY at hx ⊢
 split at hx
 ·exact Ck h c _ _ (iP.refl _) _ _ _ hx
 ·exact Ck h _ (Dz C A φ fn _) (Dz C A φ' fn _) ⟨FO h,fun _ _ _ _ h=>h,fun _ _ _ h=>h⟩ _ _ _ hx
theorem OH{φs:Nat->dE}{φ:dE}(h:gW φs φ){fn:Func}{cl:Nat}{cells:List zA}{v:zA}:hO (fun n=>rN C A (φs n) fn cl cells v) (rN C A φ fn cl cells v):=by
 refine⟨fun n tm H x hx=>Pz (h.up n) hx,fun tm H x hx=>?_⟩
 unfold rN at hx;rw[sA]at hx;obtain⟨y,h1,h2⟩:=hx
 unfold aR at h1;simp only[sA,sB]at h1;obtain⟨fc,g1,cc,g2,q,g3,g4,g,g5,g6⟩:=h1
 have sup:Fp (fun _=>uP C fc) (uP C fc):=⟨⟨fun _ _ _ _ h=>h,fun _ _ _ h=>⟨0,h⟩⟩,fun i=>⟨fun _ _ _ _ h=>h,fun _ _ _ h=>⟨0,h⟩⟩,⟨fun _ _ _ _ h=>h,fun _ _ _ h=>⟨0,h⟩⟩⟩
 obtain⟨n,hn⟩:=(Qf h q.c _ _ sup).ex _ _ _ g6
 grind [rN,aR,sA,sB]
theorem zav{φs:Nat->dE}{φ:dE}(h:gW φs φ){fn:Func}{q:lQ}:hO (fun n=>kS C A (φs n) fn q) (kS C A φ fn q):=by
 refine⟨fun n=>FO (h.up n),fun tm H x hx=>?_⟩
 unfold kS at hx;simp only[sB,sA]at hx;obtain⟨h1,cells,h2,y,h3,h4⟩:=hx
 obtain⟨n,hn⟩:=(JC h (OH h) _).ex _ _ _ h3
 have key:∀m,n<=m->nM C (φs m) q.o6 fn.ntmps (fun tm' H'=>rN C A (φs m) fn q.cl cells .niliface tm' H') q.o6.toList tm.cut H=some y:=
  fun m hm=>Ob (h.le hm) (fun tm H x hx=>Pz (h.le hm) hx) _ _ _ _ hn
 cases hp:y.1.p with
 | false=>
  rw[hp]at h4;refine⟨n,?_⟩
  simp_all [kS,sB]
 | true=>
  rw[hp]at h4;obtain⟨m,hm⟩:=(OH h).ex _ _ _ h4
  refine⟨max n m,?_⟩
  show kS C A (φs (max n m)) fn q tm H=some x
  unfold kS;simp only[sB,sA];exact⟨h1,cells,h2,y,key _ (Nat.le_max_left _ _),by rw[hp];exact Pz (h.le (Nat.le_max_right _ _)) hm⟩
def zfj{φs:Nat->dE}{φ:dE}(h:gW φs φ){f:Nat}{fn:Func}{c:oC}{tm:Tm}{H:xA}{x:nH × xA}(hx:mY C A φ f fn c tm H=some x):∃n,mY C A (φs n) f fn c tm H=some x:=by
 unfold mY at hx ⊢
 split at hx
 ·have sup:Fp (fun _=>uP C fn) (uP C fn):=⟨⟨fun _ _ _ _ h=>h,fun _ _ _ h=>⟨0,h⟩⟩,fun i=>⟨fun _ _ _ _ h=>h,fun _ _ _ h=>⟨0,h⟩⟩,⟨fun _ _ _ _ h=>h,fun _ _ _ h=>⟨0,h⟩⟩⟩
  exact(Qf h c _ _ sup).ex _ _ _ hx
 ·rename_i p _
  exact(Qf h (mX p.1) (fun n=>Dz C A (φs n) fn p.2) (Dz C A φ fn p.2) ⟨zav h,fun i=>⟨fun _ _ _ _ h=>h,fun _ _ _ h=>⟨0,h⟩⟩,⟨fun _ _ _ _ h=>h,fun _ _ _ h=>⟨0,h⟩⟩⟩).ex _ _ _ hx
def GF{φ φ':dE}(h:bO φ φ'):bO (Gn C A φ) (Gn C A φ'):=by
 intro f args H x hx
 cases f with
 | yld l=>
  have hx:Gt C A φ l args H=some x:=hx
  obtain⟨r,tm,c,q,y,r2,b,h1,h2,h3,h4,hq,h5,h6,h7,h8⟩:=Jt.1 hx
  exact Jt.2 ⟨r,tm,c,q,y,r2,b,h1,h2,h3,h4,hq,Ck h _ _ _ (iP.refl _) _ _ _ h5,h6,h7,h8⟩
 | func f=>
 have hx:kT C A φ f args H=some x:=hx
 show kT C A φ' f args H=some x
 unfold kT at hx ⊢
 rw[sA]at hx ⊢
 obtain⟨c,h1,hx⟩:=hx
 refine⟨c,h1,?_⟩
 rw[sA]at hx ⊢
 obtain⟨fn,h2,hx⟩:=hx
 refine⟨fn,h2,?_⟩
 rw[sA]at hx ⊢
 obtain⟨g,h3,hx⟩:=hx
 exact⟨g,h3,ZH h _ _ _ hx⟩
def zci:∀n,bO (Ei C A n) (Ei C A (n+1)):=by
 intro n;induction n with
 | zero=>intro f args H x h;cases h
 | succ n ih=>exact GF ih
def Hu{f:AFn}{args:List zA}{H:xA}{x:nH × xA}:zD C A f args H=some x ↔ ∃n,Ei C A n f args H=some x:=
 Ti fun n _ hy=>zci n _ _ _ _ hy
def zea:gW (Ei C A) (zD C A):=⟨zci,fun _ _ _ _ h=>Hu.1 h⟩
theorem CJ(f:AFn)(args:List zA)(H:xA):zD C A f args H=Gn C A (zD C A) f args H:=by
 have key:∀x,zD C A f args H=some x ↔ Gn C A (zD C A) f args H=some x:=by
  intro x;constructor
  ·intro h
   obtain⟨n,hn⟩:=Hu.1 h
   cases n with
   | zero=>cases hn
   | succ n=>exact GF (fun f a H y hy=>Hu.2 ⟨n,hy⟩) _ _ _ _ hn
  ·intro h
   cases f with
   | yld l=>
    have h:Gt C A (zD C A) l args H=some x:=h
    obtain⟨r,tm,c,q,y,r2,b,h1,h2,h3,h4,hq,h5,h6,h7,h8⟩:=Jt.1 h
    have sup:Fp (fun _=>rdK) rdK:=⟨⟨fun _ _ _ _ h=>h,fun _ _ _ h=>⟨0,h⟩⟩,fun i=>⟨fun _ _ _ _ h=>h,fun _ _ _ h=>⟨0,h⟩⟩,⟨fun _ _ _ _ h=>h,fun _ _ _ h=>⟨0,h⟩⟩⟩
    obtain⟨n,hn⟩:=(Qf zea _ _ _ sup).ex _ _ _ h5
    exact Hu.2 ⟨n+1,Jt.2 ⟨r,tm,c,q,y,r2,b,h1,h2,h3,h4,hq,hn,h6,h7,h8⟩⟩
   | func f=>
   have h:kT C A (zD C A) f args H=some x:=h
   unfold kT at h;rw[sA]at h;obtain⟨c,h1,h⟩:=h
   rw[sA]at h;obtain⟨fn,h2,h⟩:=h
   rw[sA]at h;obtain⟨g,h3,h⟩:=h
   obtain⟨n,hn⟩:=zfj zea h
   refine Hu.2 ⟨n+1,?_⟩
   show kT C A (Ei C A n) f args H=some x
   grind [kT,pA]
 cases h:zD C A f args H with
 | some x=>grind
 | none=>
  cases h2:Gn C A (zD C A) f args H with
  | none=>rfl
  | some x=>simp_all
def dY(C:iA)(A:Tr oC):Prop:=∀f c,A.get f=some c->∃fn,C.fns.get f=some fn/\fn.body=some (qE c)
theorem XM{f:Nat}{args:List zA}{g:xC}(h:yK C f args false=some g):∃fn c,C.fns.get f=some fn/\fn.body=some c/\g.todo=[.code c]/\g.R=⟨f,fn.ntmps,[],.run,false,none⟩:=by
 grind [yK,sA,sB]
theorem Tg{α β:Type}{f g:α->Option β}:∀(l:List α) {r:List β},(∀a b,f a=some b->g a=some b)->pG f l=some r->pG g l=some r:=by
 intro l;induction l with
 | nil=>intro r _ h;exact h
 | cons a l ih=>
  grind [lO,sA]
def qS(C:iA)(f:Nat)(acs:List xC)(fl:Bool:=false):eY:=fun ds o x=>∃fr',o=.next ⟨fr',acs,x.2⟩/\mQ C f ds fr' x.2 x.1 fl
def UI{H:xA}{tm:Tm}{r:Nat}{d e:Option (List mH)}(hr:H.t.get r=some (.deferred d)):∀(l:List ResultVar) vs,rX C H tm l=some vs->rX C (setBlk H r (.deferred e)) tm l=some vs:=by
 intro l vs h;refine Tg l (fun rv v h=>?_) h
 cases rv with
 | tmp t=>exact h
 | cell a t=>
  have h:(ob (ob (tm.get a) zA.asPtr) fun p=>ob (C.tys.get t) fun ty=>ob (qD H p.1) fun c=>wT ty c.1 p.2)=some v:=h
  show(ob (ob (tm.get a) zA.asPtr) fun p=>ob (C.tys.get t) fun ty=>ob (qD (setBlk H r (.deferred e)) p.1) fun c=>wT ty c.1 p.2)=some v
  simp only[sA]at h ⊢
  obtain⟨p,hp,ty,ht,c,hc,hv⟩:=h
  refine⟨p,hp,ty,ht,c,?_,hv⟩
  unfold qD at hc ⊢
  rw[sA]at hc ⊢
  obtain⟨y,h1,h2⟩:=hc
  refine⟨y,?_,h2⟩
  show(H.t.set r (.deferred e)).get p.1=some y
  rw[Tr.get_set,yaa fun e=>by rw[e,hr]at h1;cases h1;cases h2]
  exact h1
def mQ.ret{f:Nat}{ds:List mH}{fr:xC}{H:xA}{o:nH}{fl:Bool}(h:mQ C f ds fr H o fl)(hp:o.p=false):Ir C f ds fr H o.v fl:=by
 unfold mQ at h;rwa [hp,yaa (by simp)]at h
theorem mQ.of{f:Nat}{ds:List mH}{fr:xC}{H:xA}{o:nH}{fl:Bool}(h:Ir C f ds fr H o.v fl)(hp:o.p=false):mQ C f ds fr H o fl:=by
 unfold mQ;rwa [hp,yaa (by simp)]
def Ui{f N:Nat}{acs:List xC}{fl:Bool}(hfn:∃fn,C.fns.get f=some fn):Mc C (qS C f acs fl) (fun _=>True) f N none acs fl:=by
 refine⟨?_,fun _ _=>trivial,?_,fun ds todo tm x _ hp=>⟨_,rfl,by unfold mQ;rw[yab hp];exact⟨⟨rfl,rfl,rfl,rfl⟩,hfn⟩⟩⟩
 ·rintro ds todo tm H x ⟨fr',h1,h2⟩
  cases h1;unfold mQ at h2;split at h2
  ·have:=h2.1.1;cases this
  ·have:=h2.1;cases this
 ·rintro _ r ds o x hp ⟨fr',rfl,hE⟩ hd
  obtain⟨h1,h2,h3,h4,fn,l,h5,h6,h7⟩:=hE.ret hp
  obtain⟨todo,tm,ffn,n,defers,mode,deferred,round⟩:=fr'
  simp only at h1 h2 h3 h4 h6
  subst h1 h2 h3 h4
  have hr:x.2.t.get r=some (.deferred (some [])):=by
   unfold pY at hd;rw[sB,sA]at hd;obtain⟨_,y,e1,e2⟩:=hd
   cases y<;>cases e2
   exact e1
  refine⟨_,.step ?_,⟨⟨todo,tm,⟨ffn,n,ds,.returning,deferred,round⟩⟩,rfl,mQ.of ⟨rfl,rfl,rfl,rfl,fn,l,h5,UI hr _ _ h6,h7⟩ hp⟩⟩
  show cK C (Gl C ⟨none,r,[]⟩ ds ⟨todo,tm,⟨ffn,n,⟨none,r,[]⟩::ds,.returning,deferred,round⟩⟩ acs x.2) _
  unfold Gl;simp only[hd,pA];exact .refl _
def Py{f:Nat}{fn:Func}{acs:List xC}{x:nH × xA}{ds:List mH}{fl:Bool}(hf:C.fns.get f=some fn){tm:Tm}{H:xA}(h:mW C fn tm H=some x){todo:List oE}{N:Nat}
  (hs:iT C todo tm (RR f N none ds fl) acs H=.next ⟨Ay ⟨todo,tm,RR f N none ds fl⟩ .returning,acs,H⟩):Fin C (qS C f acs fl) ds (.next ⟨⟨todo,tm,RR f N none ds fl⟩,acs,H⟩) x:=by
 unfold mW at h;rw[sA]at h;obtain⟨l,h1,h2⟩:=h
 cases h2;refine .step ?_
 rw[yJ rfl,hs];exact⟨_,.refl _,_,rfl,mQ.of ⟨rfl,rfl,rfl,rfl,fn,l,hf,h1,rfl⟩ rfl⟩
def RdG (l:Nat)(c:xC):nH × xA->Prop:=fun x=>∃b r2 c',x.1=⟨.bool b,false⟩/\xJ x.2 l=some r2/\kH c (.bool b)=some c'
def RdEnd(l:Nat)(c:xC)(acs:List xC):eY:=fun _ o x=>∃b r2 c',x.1=⟨.bool b,false⟩/\xJ x.2 l=some r2/\kH c (.bool b)=some c'/\o=.next ⟨c',acs,setBlk x.2 l (.loop (kP b r2))⟩
def zbk{l b:Nat}(h:b≠l)(t:Tr tA)(x y:tA):(t.set l x).set b y=(t.set b y).set l x:=Tr.set_comm t _ _ _ _ (fun e=>h e.symm)
theorem ZK{C:iA}{φ:dE}{all:Array Oper}{n:Nat}{κn:Tm->xA->iB}{l0:Nat}{r0 r1:mN}:∀(l:List Oper) (tm:Tm) (H:xA) (x:nH × xA),Ef l=true->l0<H.next->H.t.get l0=some (.loop r0)->nM C φ all n κn l tm (setBlk H l0 (.loop r1))=some x →
  ∃tm' H',κn tm' (setBlk H' l0 (.loop r1))=some x/\l0<H'.next/\H'.t.get l0=some (.loop r0)/\∀(k:List oE) (R:bJ) (cs:List xC),R.n=n->pM C all k R cs l tm H=xGo k tm' R cs H':=by
 intro l;induction l with
 | nil=>intro tm H x _ h1 h2 h;exact⟨tm,H,h,h1,h2,fun _ _ _ _=>rfl⟩
 | cons o l ih=>
  intro tm H x hp hl hg h;have hp:(bif (match o.op with | .move _=>rE o.guard | .assign _=>rE o.guard | .alloc _=>rE o.guard | .store _ _ _=>rE o.guard | _=>false)then Ef l else false)=true:=hp
  have hp1:(match o.op with | .move _=>rE o.guard | .assign _=>rE o.guard | .alloc _=>rE o.guard | .store _ _ _=>rE o.guard | _=>false)=true:=by
   simp_all
  rw[hp1]at hp;have hp:Ef l=true:=hp
  have hw:cF o.guard all tm=some true:=by
   have:rE o.guard=true:=by cases ho:o.op<;>rw[ho]at hp1<;>first | exact hp1 | (cases hp1;done)
   cases hx:o.guard with
   | none=>rfl
   | some g=>rw[hx]at this;cases this
  rw[Eg,hw,pA,yab rfl]at h;have key:∃v H',(eE o.op).f C (.now tm) (setBlk H l0 (.loop r1))=.val v (setBlk H' l0 (.loop r1))/\(eE o.op).f C (.now tm) H=.val v H'/\l0<H'.next/\H'.t.get l0=some (.loop r0):=by
   cases ho:o.op<;>rw[ho]at hp1 h<;>try (cases hp1;done)
   case move u=>
    have e:∀H,(eE (.move u)).f C (.now tm) H=lv (tQ u) C (.now tm) H:=fun _=>rfl
    rw[e]at h
    cases hv:ev u (.now tm)with
    | none=>
     have:lv (tQ u) C (.now tm) (setBlk H l0 (.loop r1))=.fail:=by unfold lv tQ;rw[hv]
     rw[this]at h;cases h
    | some v=>grind [lv,tQ]
   case assign u=>
    have e:∀H,(eE (.assign u)).f C (.now tm) H=lv (tQ u) C (.now tm) H:=fun _=>rfl
    rw[e]at h
    cases hv:ev u (.now tm)with
    | none=>
     have:lv (tQ u) C (.now tm) (setBlk H l0 (.loop r1))=.fail:=by unfold lv tQ;rw[hv]
     rw[this]at h;cases h
    | some v=>grind [lv,tQ]
   case alloc t=>
    have e:∀H,(eE (.alloc t)).f C (.now tm) H=dL (ob (C.tys.get t) fun ty=>some (.ptr H.next 0,rF H ty.zero (pK C t))):=fun _=>rfl
    rw[e]at h
    cases ht:C.tys.get t with
    | none=>rw[ht]at h;cases h
    | some ty=>
     refine⟨.ptr H.next 0,rF H ty.zero (pK C t),?_,by rw[e,ht];rfl,Nat.lt_succ_of_lt hl,?_⟩
     ·rw[e,ht]
      show sK.val (.ptr H.next 0) (rF (setBlk H l0 (.loop r1)) ty.zero (pK C t))=_
      congr 1
      show(⟨H.next+1,(H.t.set l0 _).set H.next _⟩:xA)=⟨H.next+1,(H.t.set H.next _).set l0 _⟩
      rw[zbk (by omega)]
     ·show(H.t.set H.next _).get l0=_
      rw[Tr.get_set,yaa (by omega),hg]
   case store t a u=>
    have e:∀H,(eE (.store t a u)).f C (.now tm) H=dL (ob (C.tys.get t) fun ty=>ob (ev a (.now tm)) fun a=>ob a.asPtr fun p=>ob (ev u (.now tm)) fun v=>tB (Nat.beq (yB v.cells) ty.size) (ob (sJ C H p.1 p.2 v.cells) fun H'=>some (pD,H'))):=fun _=>rfl
    rw[e]at h
    cases hs:(ob (C.tys.get t) fun ty=>ob (ev a (.now tm)) fun a=>ob a.asPtr fun p=>ob (ev u (.now tm)) fun v=>tB (Nat.beq (yB v.cells) ty.size) (ob (sJ C (setBlk H l0 (.loop r1)) p.1 p.2 v.cells) fun H'=>some (pD,H')))with
    | none=>rw[hs]at h;cases h
    | some q=>
     have hs0:=hs
     simp only[sA,sB]at hs;obtain⟨ty,h1,a',h2,p,h3,v,h4,h5,H1,h6,h7⟩:=hs
     unfold sJ at h6;simp only[sA,sB]at h6;obtain⟨g1,c,g2,g3,g4⟩:=h6
     have hne:p.1≠l0:=by
      intro e;unfold qD at g2;have:(setBlk H l0 (.loop r1)).t.get p.1=some (.loop r1):=by
       show(H.t.set l0 _).get p.1=_
       rw[Tr.get_set,yab e]
      rw[this,pA]at g2;cases g2
     have g2':qD H p.1=some c:=by
      grind [qD,setBlk,Tr.get_set]
     refine⟨pD,setBlk H p.1 (.cells (c.1.setMany v.cells p.2) c.2.1 c.2.2),?_,?_,hl,?_⟩
     ·rw[e,hs0,<- h7,<- yci g4]
      show sK.val pD (setBlk (setBlk H l0 (.loop r1)) p.1 _)=_
      congr 1
      show(⟨H.next,(H.t.set l0 _).set p.1 _⟩:xA)=⟨H.next,(H.t.set p.1 _).set l0 _⟩
      rw[zbk hne]
     ·rw[e,h1,pA,h2,pA,h3,pA,h4,pA,h5]
      unfold sJ;rw[g1,g2'];simp only[pA];rw[g3];rfl
     ·show(H.t.set p.1 _).get l0=_
      rw[Tr.get_set,yaa (fun e=>hne e.symm),hg]
  obtain⟨v,H',k1,k2,k3,k4⟩:=key
  rw[k1]at h;have h:zM C o.type v (fun v=>nM C φ all n κn l (putA n tm o.dst v) (setBlk H' l0 (.loop r1)))=some x:=h
  grind [wQ,Dy,sK.asVal]
theorem ZJ{C:iA}{φ:dE}{fn n:Nat}{κ:Kt}{c:oC}{l0:Nat}{r0 r1:mN}:∀(as:List (Nat × Array Oper)) (tm:Tm) (H:xA) (x:nH × xA),Sr as=true->l0<H.next->H.t.get l0=some (.loop r0)->mD C φ fn n (asA c as) κ tm (setBlk H l0 (.loop r1))=some x →
  ∃tm' H',mD C φ fn n c κ tm' (setBlk H' l0 (.loop r1))=some x/\H'.t.get l0=some (.loop r0)/\∀(k:List oE) (R:bJ) (cs:List xC),R.n=n->R.mode.running=true->cK C (.next ⟨⟨.code (asC as)::k,tm,R⟩,cs,H⟩) (.next ⟨⟨k,tm',R⟩,cs,H'⟩):=by
 intro as;induction as with
 | nil=>intro _ _ _ h;cases h
 | cons z as ih=>
  intro tm H x hp hl hg h;have hp:(bif Ef z.2.toList then sD (fun x=>Ef x.2.toList) as else false)=true:=hp
  have hp1:Ef z.2.toList=true:=by simp_all
  have h:nM C φ z.2 n (mD C φ fn n (asA c as) κ) z.2.toList tm.cut (setBlk H l0 (.loop r1))=some x:=h
  obtain⟨tm1,H1,h1,h2,h3,h4⟩:=ZK _ _ _ _ hp1 hl hg h
  cases as with
  | nil=>
   refine⟨tm1,H1,h1,h3,fun k R cs hR hm=>.step ?_⟩
   rw[yJ hm];show cK C (pM C z.2 k R cs z.2.toList tm.cut H) _
   rw[h4 _ _ _ hR];exact .refl _
  | cons w as=>
   have hp2:Sr (w::as)=true:=by
    show sD (fun x=>Ef x.2.toList) (w::as)=true
    simp_all
   obtain⟨tm2,H2,g1,g2,g3⟩:=ih tm1 H1 x hp2 h2 h3 h1
   refine⟨tm2,H2,g1,g2,fun k R cs hR hm=>.step ?_⟩
   rw[yJ hm];show cK C (pM C z.2 (.code (asC (w::as))::k) R cs z.2.toList tm.cut H) _
   rw[h4 _ _ _ hR];exact g3 _ _ _ hR hm
theorem UE{φ:dE}(hφ:tS C φ){l:Nat}{args:List zA}{H:xA}{x:nH × xA}(h:Gt C A φ l args H=some x) :
  ∃r tm,xJ H l=some r/\Ax r.n r.params args r.tm=some tm/\x.1.p=false/\∀c acs c',kH c x.1.v=some c'->cK C (.next ⟨Zk r l tm,c::acs,H⟩) (.next ⟨c',acs,x.2⟩):=by
 obtain⟨r,tm,cc,q,y,r2,b,h1,h2,h3,h4,⟨⟨q1,q2,q3,q4,q5,q6⟩,hlt⟩,h5,h6,h7,rfl⟩:=Jt.1 h
 refine⟨r,tm,h1,h2,rfl,fun c acs c' hc=>?_⟩
 have hg:H.t.get l=some (.loop r):=by
  unfold xJ at h1;rw[sB,sA]at h1;obtain⟨_,y,e1,e2⟩:=h1
  cases y<;>cases e2
  exact e1
 have h256:256<=l:=by
  grind [xJ,sB,aE]
 have h5:mD C φ r.fn r.n (asA q.c q.as) rdK tm (setBlk H l (.loop (Ig r)))=some y:=h5
 obtain⟨tm',H',h8,hg',h9⟩:=ZJ _ _ _ _ q5 hlt hg h5
 have h1':xJ H' l=some r:=by
  grind [xJ]
 unfold Zk;rw[q1,q2];refine(h9 [.beginRound,.code (qE q.c)] _ _ rfl rfl).trans (.step ?_)
 show cK C (iT C (.beginRound::[.code (qE q.c)]) tm' ⟨r.fn,r.n,[],.run,false,some l⟩ (c::acs) H') _
 have hb:iT C (.beginRound::[.code (qE q.c)]) tm' ⟨r.fn,r.n,[],.run,false,some l⟩ (c::acs) H'=.next ⟨⟨[.code (qE q.c)],tm',RR r.fn r.n (some l) []⟩,c::acs,setBlk H' l (.loop (Ig r))⟩:=by
  show Ml C [.code (qE q.c)] tm' _ (c::acs) H'=_
  unfold Ml;simp only[pA];rw[h1',pA,q4];rfl
 rw[hb];have hc:kH c (.bool b)=some c':=hc
 have hE:Mc C (RdEnd l c acs) (RdG l c) r.fn r.n (some l) (c::acs):=by
  refine⟨?_,fun e=>(by cases e),fun e=>(by cases e),?_⟩
  ·rintro ds todo tm H x ⟨b,r2,c',_,_,_,e⟩
   simp_all
  ·rintro ds todo tm x ⟨b,r2,c',e,_,_⟩ hp
   simp_all
 have hK:Lv C (RdEnd l c acs) (RdG l c) r.fn r.n (some l) (c::acs) rdK []:=by
  refine⟨?_,fun _ _ _ _ _ _ h=>(by cases h),?_⟩
  ·rintro ds x tm H ⟨b,r2,c',g1,g2,g3⟩ h
   cases h
   cases g1
   refine .step ?_
   rw[yJ rfl];have:iT C [] tm (RR r.fn r.n (some l) ds) (c::acs) H=.next ⟨c',acs,setBlk H l (.loop (kP true r2))⟩:=by
    have e0:iT C [] tm (RR r.fn r.n (some l) ds) (c::acs) H=fU none C ⟨[],tm,RR r.fn r.n (some l) ds⟩ (c::acs) H:=rfl
    rw[e0];unfold fU;simp only[g2,pA];show yM (ob (kH c (.bool true)) _) 7=_
    rw[g3];rfl
   rw[this];exact⟨_,.refl _,true,r2,c',rfl,g2,g3,rfl⟩
  ·rintro ds x tm H ⟨b,r2,c',g1,g2,g3⟩ h k'
   cases h
   cases g1
   refine .step ?_
   rw[yJ rfl];have:iT C (.code .ret::k') tm (RR r.fn r.n (some l) ds) (c::acs) H=.next ⟨c',acs,setBlk H l (.loop (kP false r2))⟩:=by
    have e0:iT C (.code .ret::k') tm (RR r.fn r.n (some l) ds) (c::acs) H=fU (some .ret) C ⟨.code .ret::k',tm,RR r.fn r.n (some l) ds⟩ (c::acs) H:=rfl
    rw[e0];unfold fU;simp only[g2,pA];show yM (ob (kH c (.bool false)) _) 7=_
    rw[g3];rfl
   rw[this];exact⟨_,.refl _,false,r2,c',rfl,g2,g3,rfl⟩
 obtain⟨o',k1,b',r2',c'',k2,k3,k4,rfl⟩:=Uy hφ hE q.c rdK [] (Or.inr q6) hK [] y tm' _ ⟨b,r2,c',h7,h6,hc⟩ h8
 simp_all
theorem HW{c:oC}{i:Nat}{o:Array Oper}(h:regO c=some (i,o)):qE c=.region i o false:=by
 cases c with
 | region id ops d=>cases d<;>cases h;rfl
 | cut p c=>
  cases c with
  | region id ops d=>cases d<;>cases h;rfl
  | _=>cases h
 | _=>cases h
theorem SS{c:oC}{q:lQ}(h:zgk c=some q):qE c=.seq (.region q.i5 q.o5 false) (.seq (.region q.i6 q.o6 false) .ret)/\Hz q.o5.toList=some (q.d,q.cl,q.bs):=by
 unfold zgk at h;grind [sA,qE,HW]
def Pp(l:List oC)(e:Code):Code:=List.rec (motive:=fun _=>Code) e (fun a _ g=>.seq (qE a) g) l
def TM:∀(c:oC) {l:List oC} {q:lQ},tX c=some (l,q)->qE c=Pp l (.seq (.region q.i5 q.o5 false) (.seq (.region q.i6 q.o6 false) .ret))/\Hz q.o5.toList=some (q.d,q.cl,q.bs):=by
 intro c;induction c with
 | seq a b _ ih=>
  intro l q h;have h:(match zgk (.seq a b)with | some q=>some ([],q) | none=>ob (tX b) fun p=>some (a::p.1,p.2))=some (l,q):=h
  split at h
  ·rename_i h1
   cases h;exact SS h1
  ·rw[sA]at h
   obtain⟨p,h1,h2⟩:=h
   cases h2;obtain⟨g1,g2⟩:=ih h1
   exact⟨by show Code.seq (qE a) (qE b)=_;rw[g1];rfl,g2⟩
 | _=>intro l q h;cases h
theorem zfa{c:oC}{q:ClQ}(h:Ic c=some q):qE c=.seq (.region q.i q.o false) (qE q.c)/\recO q.o.toList=some (q.d,q.e):=by
 unfold Ic at h;grind [sA,qE,HW]
theorem zev{l:List Oper}{d cl:Nat}{bs:List Operand}(h:Hz l=some (d,cl,bs)):∃as' bs' t p a cc t' p' a',l=[⟨some d,.makeFunc (.func cl) as' bs',t,p,a,none⟩,⟨none,.defer cc,t',p',a',none⟩]/\as'.toList=[]/\bs'.toList=bs/\cc.callee=.value (.tmp d)/\cc.args.toList=[]:=by
 unfold Hz at h;grind [gC]
theorem zbw{l:List Oper}{d e:Nat}(h:recO l=some (d,e)):∃cc t p a t' p' a',l=[⟨some d,.call cc,t,p,a,none⟩,⟨some e,.assign (.tmp d),t',p',a',none⟩]/\cc.callee=.builtin .recover:=by
 unfold recO at h;grind [gC]
theorem VF{φ:dE}(hφ:tS C φ){E:eY}{ds:List mH}{x:nH × xA}{R:bJ}{acs:List xC}{k:List oE}{all:Array Oper}{N:Nat}{I:Tm->Prop}(hR:R.mode.running=true)(hN:R.n=N)(hP:∀l tm,I tm->x.1.p=true->E ds (.next ⟨nX ⟨.ops all l::k,tm,R⟩ [⟨x.1.v,false⟩],acs,x.2⟩) x){κn:Tm->xA->iB}(hκ:∀tm H,I tm->κn tm H=some x->Fin C E ds (.next ⟨⟨k,tm,R⟩,acs,H⟩) x) :
  ∀(l:List Oper) (tm:Tm) (H:xA),(∀o∈l,∀tm v,I tm->I (putA N tm o.dst v))->I tm->nM C φ all N κn l tm H=some x->Fin C E ds (pM C all k R acs l tm H) x:=by
 intro l;induction l with
 | nil=>exact fun tm H _ hI h=>hκ tm H hI h
 | cons o l ih=>
  intro tm H hd hI h;have hd1:=fun tm v h=>hd o yby tm v h
  have ih:=fun tm H=>ih tm H fun o ho=>hd o (ybr _ ho)
  rw[Eg,sA]at h;obtain⟨w,h1,h⟩:=h
  rw[Dy,h1]
  cases w with
  | false=>
   simp_all
  | true=>
   rw[yab rfl]at h;simp only[];generalize (eE o.op).f C (.now tm) H=r at h
   cases hv:r.asVal with
   | some p=>
    have e:r=.val p.1 p.2:=by cases r<;>simp[sK.asVal]at hv;rw[<- hv]
    grind [nG,wQ]
   | none=>
    simp only[if_true];refine Zo hφ h (fun v H' c' hc hK=>?_) (fun v=>⟨⟨.ops all l::k,putA R.n tm o.dst v,R⟩,by unfold kH;simp only[hR,cond_true];rfl⟩) (sX hR) (hP _ _ hI)
    unfold kH at hc;simp only[hR,cond_true]at hc;have hc:some (⟨.ops all l::k,putA R.n tm o.dst v,R⟩:xC)=some c':=hc
    cases hc;refine .step ?_
    rw[yJ hR,hN];rw[wQ]at hK;exact ih _ _ (hd1 _ _ hI) hK.2
theorem cutK{n:Nat}{tm:Tm}{d:Nat}{v:zA}(h:tm.k<=d):(putA n tm (some d) v).cut=tm.cut:=by
 show(Jz d n tm v).cut=_
 unfold Jz;simp only[rD];split
 ·unfold Tm.set
  rw[vK,yaa (by simp_all)]
  rfl
 ·rfl
theorem zeu{l:List Oper}{d cl:Nat}{bs:List Operand}{cells:List zA}(h:Hz l=some (d,cl,bs)){tm:Tm}{H:xA}(he:kO bs (.now tm)=some cells){f n:Nat}{ds:List mH}{acs:List xC}{k:List oE}{all:Array Oper}(hd:d<n) :
  pM C all k (RR f n none ds) acs l tm H=.next ⟨⟨.ops all []::k,putA n tm (some d) (.func (.func cl) [] cells),RR f n none (⟨some (.func cl),0,cells⟩::ds)⟩,acs,H⟩:=by
 obtain⟨as',bs',t,p,a,cc,t',p',a',rfl,e1,e2,e3,e4⟩:=zev h
 subst e2;obtain⟨ca,cargs,caty⟩:=cc
 simp only at e3 e4
 subst e3;have f1:(eE (.makeFunc (.func cl) as' bs')).f C (.now tm) H=.val (.func (.func cl) [] cells) H:=by
  show lv (Kn cl as' bs') C (.now tm) H=_
  unfold lv Kn;rw[e1];show(match ob (some []) _ with | some v=>sK.val v H | none=>.fail)=_
  simp_all
 have f2:(eE (.defer ⟨.value (.tmp d),cargs,caty⟩)).f C (.now (putA n tm (some d) (.func (.func cl) [] cells))) H=.defer ⟨some (.func cl),0,cells⟩:=by
  show Ba (ob (eS (.tmp d) cargs (.now (putA n tm (some d) (.func (.func cl) [] cells)))) fun p=>some (.defer ⟨some p.1,0,fD p.2.1 p.2.2⟩))=_
  have:eS (.tmp d) cargs (.now (putA n tm (some d) (.func (.func cl) [] cells)))=some (.func cl,[],cells):=by
   unfold eS;rw[e4,show ev (.tmp d) (.now (putA n tm (some d) (.func (.func cl) [] cells)))=(putA n tm (some d) (.func (.func cl) [] cells)).get d from rfl,wJ,yab ⟨rfl,hd⟩]
   rfl
  rw[this];rfl
 rw[Dy];show(match ((eE (.makeFunc (.func cl) as' bs')).f C (.now tm) H).asVal with | some p=>_ | none=>_)=_
 rw[f1];show pM C all k (RR f n none ds) acs _ (putA n tm (some d) (.func (.func cl) [] cells)) H=_
 rw[Dy];show(match ((eE (.defer ⟨.value (.tmp d),cargs,caty⟩)).f C (.now (putA n tm (some d) (.func (.func cl) [] cells))) H).asVal with | some p=>_ | none=>_)=_
 rw[f2];rfl
theorem UN{φ:dE}{E:eY}{l:List Oper}{d e:Nat}(h:recO l=some (d,e)){tm:Tm}{H:xA}{f n:Nat}{ds:List mH}{acs:List xC}{k:List oE}{all:Array Oper}{x:nH × xA}(hd:d<n){c c':xC}{v:zA}
  (hc:(c.R.mode=.returning/\v=.niliface/\c'=c)\/(c.R.mode=.panicking [⟨v,false⟩]/\c'=Ay c (.panicking [⟨v,true⟩]))) (hf:Fin C E ds (.next ⟨⟨k,putA n (putA n tm (some d) v) (some e) v,RR f n none ds true⟩,c'::acs,H⟩) x) :
  Fin C E ds (pM C all k (RR f n none ds true) (c::acs) l tm H) x:=by
 obtain⟨cc,t,p,a,t',p',a',rfl,e1⟩:=zbw h
 obtain⟨ca,cargs,caty⟩:=cc
 simp only at e1
 subst e1;have f1:(eE (.call ⟨.builtin .recover,cargs,caty⟩)).f C (.now tm) H=.recover:=rfl
 rw[Dy];have f3:pM C all k (RR f n none ds true) (c'::acs) [⟨some e,.assign (.tmp d),t',p',a',none⟩] (putA n tm (some d) v) H=.next ⟨⟨k,putA n (putA n tm (some d) v) (some e) v,RR f n none ds true⟩,c'::acs,H⟩:=by
  rw[Dy];show(match ((eE (.assign (.tmp d))).f C (.now (putA n tm (some d) v)) H).asVal with | some p=>_ | none=>_)=_
  have:(eE (.assign (.tmp d))).f C (.now (putA n tm (some d) v)) H=.val v H:=by
   show lv (tQ (.tmp d)) C (.now (putA n tm (some d) v)) H=_
   unfold lv tQ;rw[show ev (.tmp d) (.now (putA n tm (some d) v))=(putA n tm (some d) v).get d from rfl,wJ,yab ⟨rfl,hd⟩]
  rw[this];rfl
 have f4:Nu C ⟨.ops all (⟨some d,.call ⟨.builtin .recover,cargs,caty⟩,t,p,a,none⟩::[⟨some e,.assign (.tmp d),t',p',a',none⟩])::k,tm,RR f n none ds true⟩ (c::acs) H=.next ⟨⟨.ops all [⟨some e,.assign (.tmp d),t',p',a',none⟩]::k,putA n tm (some d) v,RR f n none ds true⟩,c'::acs,H⟩:=by
  obtain⟨ctodo,ctm,cfn,cn,cdefers,cmode,cdef,cround⟩:=c
  rcases hc with⟨h1,rfl,rfl⟩ | ⟨h1,rfl⟩
  ·simp only at h1
   subst h1;rfl
  ·simp only at h1
   subst h1;rfl
 show Fin C E ds (Nu C ⟨.ops all (⟨some d,.call ⟨.builtin .recover,cargs,caty⟩,t,p,a,none⟩::[⟨some e,.assign (.tmp d),t',p',a',none⟩])::k,tm,RR f n none ds true⟩ (c::acs) H) x
 rw[f4];refine .step ?_
 rw[yJ rfl];show Fin C E ds (pM C all k (RR f n none ds true) (c'::acs) [⟨some e,.assign (.tmp d),t',p',a',none⟩] (putA n tm (some d) v) H) x
 simp_all
theorem YJ(hA:dY C A){φ:dE}(hφ:tS C φ){cl:Nat}{cells:List zA}{v:zA}{H:xA}{y:nH × xA}{acs:List xC}{c c':xC}
  (hc:(c.R.mode=.returning/\v=.niliface/\c'=c)\/(c.R.mode=.panicking [⟨v,false⟩]/\c'=Ay c (.panicking [⟨v,true⟩]))) (h:aR C A φ cl cells v H=some y) (hy:y.1.p=false) :
  C.prims.get cl=none/\∃g,yK C cl cells true=some g/\∃fr',cK C (.next ⟨g,c::acs,H⟩) (.next ⟨fr',c'::acs,y.2⟩)/\Ir C cl [] fr' y.2 y.1.v true:=by
 unfold aR at h;simp only[sA,sB,ybb]at h;obtain⟨fc,h1,cc,h2,q,h3,⟨h4,h5⟩,g,h6,h7⟩:=h
 have hpr:C.prims.get cl=none:=by
  cases hx:C.prims.get cl with
  | none=>rfl
  | some u=>rw[hx]at h4;cases h4
 refine⟨hpr,g,h6,?_⟩
 obtain⟨fc',g1,g2⟩:=hA _ _ h2
 rw[h1]at g1
 cases g1
 obtain⟨g3,g4⟩:=zfa h3
 have g5:g.todo=[.code (qE cc)]/\g.R=⟨cl,fc.ntmps,[],.run,true,none⟩:=by
  grind [yK,sA,sB]
 obtain⟨gt,gtm,gR⟩:=g
 obtain⟨rfl,rfl⟩:=g5
 have hK:Lv C (qS C cl (c'::acs) true) (fun _=>True) cl fc.ntmps none (c'::acs) (uP C fc) [] true:=⟨fun ds x tm H _ h=>Py h1 h rfl,fun ds x i tm H _ h=>(by cases h),fun ds x tm H _ h k'=>Py h1 h rfl⟩
 have k1:=Uy hφ (Ui (fl:=true) ⟨fc,h1⟩) q.c (uP C fc) [] (Or.inl rfl) hK [] y _ H trivial h7
 have k2:Fin C (qS C cl (c'::acs) true) [] (.next ⟨⟨[.code (qE cc)],gtm,RR cl fc.ntmps none [] true⟩,c::acs,H⟩) y:=by
  refine .step ?_
  rw[yJ rfl,g3];exact UN (φ:=φ) g4 (qC.1 h5) hc k1
 obtain⟨o',k3,fr',rfl,k4⟩:=k2
 exact⟨fr',k3,k4.ret hy⟩
def zjx(hA:dY C A){φ:dE}(hφ:tS C φ){cl:Nat}{cells:List zA}{v:zA}{H:xA}{y:nH × xA}{acs:List xC}{c:xC}{ds:List mH}(hd:c.R.defers=⟨some (.func cl),0,cells⟩::ds)
  (hm:(c.R.mode=.returning/\v=.niliface)\/c.R.mode=.panicking [⟨v,false⟩]) (h:aR C A φ cl cells v H=some y) (hy:y.1.p=false) :
  cK C (.next ⟨c,acs,H⟩) (.next ⟨⟨c.todo,c.tm,⟨c.R.fn,c.R.n,ds,.returning,c.R.deferred,c.R.roundOf⟩⟩,acs,y.2⟩):=by
 obtain⟨ctodo,ctm,cfn,cn,cdefers,cmode,cdef,cround⟩:=c
 simp only at hd hm
 subst hd;have hx:∀m:bW,((m=.returning/\v=.niliface)\/m=.panicking [⟨v,false⟩])->∀c':xC,c'=(⟨ctodo,ctm,⟨cfn,cn,ds,m,cdef,cround⟩⟩:xC)->∃c'':xC,((c'.R.mode=.returning/\v=.niliface/\c''=c')\/(c'.R.mode=.panicking [⟨v,false⟩]/\c''=Ay c' (.panicking [⟨v,true⟩])))/\∀fr' H,Ir C cl [] fr' H y.1.v true->lV C (.next ⟨fr',c''::acs,H⟩)=.next ⟨⟨ctodo,ctm,⟨cfn,cn,ds,.returning,cdef,cround⟩⟩,acs,H⟩:=by
  intro m hm c' hc';subst hc'
  have ret:∀(c'':xC),c''.R.mode=.returning\/c''.R.mode=.panicking [⟨v,true⟩]->∀fr' H,Ir C cl [] fr' H y.1.v true->lV C (.next ⟨fr',c''::acs,H⟩)=.next ⟨Ay c'' .returning,acs,H⟩:=by
   rintro c'' hcm fr' H ⟨h1,h2,h3,h4,fn,l,h5,h6,h7⟩
   obtain⟨todo,tm,ffn,n,defers,mode,deferred,round⟩:=fr'
   obtain⟨c2todo,c2tm,c2fn,c2n,c2defers,c2mode,c2def,c2round⟩:=c''
   simp only at h1 h2 h3 h4 h6 hcm
   subst h1 h2 h3 h4
   show Gk C ⟨todo,tm,_⟩ (_::acs) H=_
   unfold Gk;rw[h5,pA,h6];rcases hcm with rfl | rfl<;>rfl
  rcases hm with⟨rfl,rfl⟩ | rfl
  ·exact⟨_,.inl ⟨rfl,rfl,rfl⟩,fun fr' H hr=>ret _ (.inl rfl) fr' H hr⟩
  ·exact⟨_,.inr ⟨rfl,rfl⟩,fun fr' H hr=>ret _ (.inr rfl) fr' H hr⟩
 obtain⟨c'',h1,h2⟩:=hx cmode hm _ rfl
 obtain⟨hp,g,h3,fr',h4,h5⟩:=YJ hA hφ (acs:=acs) h1 h hy
 refine .step ?_
 have e:lV C (.next ⟨⟨ctodo,ctm,⟨cfn,cn,⟨some (.func cl),0,cells⟩::ds,cmode,cdef,cround⟩⟩,acs,H⟩)=.next ⟨g,⟨ctodo,ctm,⟨cfn,cn,ds,cmode,cdef,cround⟩⟩::acs,H⟩:=by
  have e1:lV C (.next ⟨⟨ctodo,ctm,⟨cfn,cn,⟨some (.func cl),0,cells⟩::ds,cmode,cdef,cround⟩⟩,acs,H⟩)=Gl C ⟨some (.func cl),0,cells⟩ ds ⟨ctodo,ctm,⟨cfn,cn,⟨some (.func cl),0,cells⟩::ds,cmode,cdef,cround⟩⟩ acs H:=by
   rcases hm with⟨rfl,_⟩ | rfl<;>rfl
  rw[e1];unfold Gl;simp only[];rw[hp];simp only[];rw[h3];rfl
 rw[e];refine h4.trans (.step ?_)
 rw[h2 _ _ h5];exact .refl _
theorem UG{H:xA}{tm tm':Tm}:∀ {l:List ResultVar},(∀r∈l,∃a t,r=.cell a t/\tm'.get a=tm.get a)->rX C H tm' l=rX C H tm l:=by
 intro l;induction l with
 | nil=>exact fun _=>rfl
 | cons r l ih=>
  intro h;obtain⟨a,t,rfl,h1⟩:=h _ yby
  have ih:=ih fun r hr=>h r (ybr _ hr)
  show pG (fS C H tm') _=pG (fS C H tm) _
  rw[lO,lO];have e:fS C H tm' (.cell a t)=fS C H tm (.cell a t):=by
   show(ob (ob (tm'.get a) zA.asPtr) fun p=>ob (C.tys.get t) fun ty=>ob (qD H p.1) fun c=>wT ty c.1 p.2)=_
   rw[h1];rfl
  rw[e];have ih:pG (fS C H tm') l=pG (fS C H tm) l:=ih
  rw[ih]
theorem YT{l:List ResultVar}{o6:List Oper}(h:Qj l o6=true):∀r∈l,∃a t,r=.cell a t/\∀o∈o6,o.dst≠some a:=by
 unfold Qj at h;rw[mI,ycb]at h;intro r hr;have:=h r hr
 cases r with
 | tmp t=>cases this
 | cell a t=>
  refine⟨a,t,rfl,fun o ho e=>?_⟩
  have this:sD (fun o=>match o.dst with | some d => !Nat.beq d a | none=>true) o6=true:=this
  rw[mI,ycb]at this;have:=this o ho
  simp_all
theorem STzx(hA:dY C A){φ:dE}(hφ:tS C φ){f:Nat}{fn:Func}{q:lQ}(hf:C.fns.get f=some fn)(hq:Hz q.o5.toList=some (q.d,q.cl,q.bs)){acs:List xC}{ds:List mH}{tm:Tm}{H:xA}{x:nH × xA}(h:kS C A φ fn q tm H=some x) :
  Fin C (qS C f acs) ds (.next ⟨⟨[.code (.seq (.region q.i5 q.o5 false) (.seq (.region q.i6 q.o6 false) .ret))],tm,RR f fn.ntmps none ds⟩,acs,H⟩) x:=by
 unfold kS at h;simp only[sB,sA,ybb]at h;obtain⟨⟨h1,h2,h3⟩,cells,h4,y,h5,h6⟩:=h
 have hc:=YT h1
 let I:Tm->Prop:=fun tm'=>∀r∈fn.results.toList,∃a t,r=.cell a t/\tm'.get a=tm.cut.get a
 let D:mH:=⟨some (.func q.cl),0,cells⟩
 let E6:eY:=fun _ o y=>if y.1.p=true then ∃fr,o=.next ⟨fr,acs,y.2⟩/\fr.R=⟨f,fn.ntmps,D::ds,.panicking [⟨y.1.v,false⟩],false,none⟩/\I fr.tm else qS C f acs false ds o y
 have close:∀(c:xC) (H:xA) (v:zA) (tm0:Tm) (z:nH × xA),c.R=⟨f,fn.ntmps,D::ds,c.R.mode,false,none⟩->((c.R.mode=.returning/\v=.niliface)\/c.R.mode=.panicking [⟨v,false⟩])->(∀r∈fn.results.toList,∃a t,r=.cell a t/\c.tm.get a=tm0.get a)->rN C A φ fn q.cl cells v tm0 H=some z->z.1.p=false/\∃o',cK C (.next ⟨c,acs,H⟩) o'/\qS C f acs false ds o' z:=by
  intro c H v tm0 z e1 e2 e3 e4;unfold rN at e4;rw[sA]at e4;obtain⟨w,e5,e6⟩:=e4
  rw[sB]at e6;unfold mW at e6;rw[sA]at e6;obtain⟨e7,l,e8,e9⟩:=e6
  cases e9
  have hd:c.R.defers=D::ds:=by rw[e1]
  have r1:=zjx hA hφ (acs:=acs) hd e2 e5 (by grind)
  refine⟨rfl,_,r1,_,rfl,mQ.of ⟨rfl,rfl,by rw[e1],by rw[e1],fn,l,hf,?_,rfl⟩ rfl⟩
  grind [UG]
 refine .step ?_
 rw[yJ rfl];show Fin C (qS C f acs) ds (pM C q.o5 [.code (.seq (.region q.i6 q.o6 false) .ret)] (RR f fn.ntmps none ds) acs q.o5.toList tm.cut H) x
 rw[zeu hq h4 (qC.1 h3)]
 refine .step ?_
 rw[yJ rfl];show Fin C (qS C f acs) ds (.next ⟨⟨[.code (.seq (.region q.i6 q.o6 false) .ret)],putA fn.ntmps tm.cut (some q.d) (.func (.func q.cl) [] cells),RR f fn.ntmps none (D::ds)⟩,acs,H⟩) x
 refine .step ?_
 rw[yJ rfl];show Fin C (qS C f acs) ds (pM C q.o6 [.code .ret] (RR f fn.ntmps none (D::ds)) acs q.o6.toList (putA fn.ntmps tm.cut (some q.d) (.func (.func q.cl) [] cells)).cut H) x
 rw[cutK (show tm.cut.k<=q.d from aE.1 h2)]
 have r6:Fin C E6 (D::ds) (pM C q.o6 [.code .ret] (RR f fn.ntmps none (D::ds)) acs q.o6.toList tm.cut.cut H) y:=by
  refine VF hφ (I:=I) (N:=fn.ntmps) rfl rfl (fun l tm' hI hp=>?_) (fun tm' H' hI hy=>?_) _ _ _ (fun o ho tm' v hI r hr=>?_) (fun r hr=>?_) h5
  ·show if y.1.p=true then _ else _
   rw[yab hp];exact⟨_,rfl,rfl,hI⟩
  ·have:lV C (.next ⟨⟨[.code .ret],tm',RR f fn.ntmps none (D::ds)⟩,acs,H'⟩)=.next ⟨⟨[.code .ret],tm',⟨f,fn.ntmps,D::ds,.returning,false,none⟩⟩,acs,H'⟩:=rfl
   refine .step ?_
   rw[this];obtain⟨z1,o',z2,z3⟩:=close ⟨[.code .ret],tm',⟨f,fn.ntmps,D::ds,.returning,false,none⟩⟩ H' .niliface tm' y rfl (.inl ⟨rfl,rfl⟩) (fun r hr=>by grind) hy
   refine⟨o',z2,?_⟩
   grind
  ·grind [wJ]
  ·obtain⟨a,t,rfl,_⟩:=hc r hr
   exact⟨a,t,rfl,rfl⟩
 obtain⟨o',g1,g2⟩:=r6
 have g2:if y.1.p=true then ∃fr,o'=.next ⟨fr,acs,y.2⟩/\fr.R=⟨f,fn.ntmps,D::ds,.panicking [⟨y.1.v,false⟩],false,none⟩/\I fr.tm else qS C f acs false ds o' y:=g2
 cases hp:y.1.p with
 | false=>
  rw[hp]at h6 g2;rw[yaa (by simp)]at g2
  have h6:some y=some x:=h6
  cases h6;exact⟨o',g1,g2⟩
 | true=>
  rw[hp]at h6 g2;rw[yab rfl]at g2;have h6:rN C A φ fn q.cl cells y.1.v tm.cut y.2=some x:=h6
  obtain⟨fr,rfl,e1,e2⟩:=g2
  obtain⟨_,o'',z2,z3⟩:=close fr y.2 y.1.v tm.cut x (by rw[e1]) (.inr (by rw[e1])) e2 h6
  exact⟨o'',g1.trans z2,z3⟩
theorem ZG(hA:dY C A){φ:dE}(hφ:tS C φ){f:Nat}{fn:Func}{c:oC}(hf:C.fns.get f=some fn){acs:List xC}{tm:Tm}{H:xA}{x:nH × xA}(h:mY C A φ f fn c tm H=some x) :
  Fin C (qS C f acs) [] (.next ⟨⟨[.code (qE c)],tm,RR f fn.ntmps none []⟩,acs,H⟩) x:=by
 unfold mY at h;split at h
 ·have hK:Lv C (qS C f acs) (fun _=>True) f fn.ntmps none acs (uP C fn) []:=⟨fun ds x tm H _ h=>Py hf h rfl,fun ds x i tm H _ h=>(by cases h),fun ds x tm H _ h k'=>Py hf h rfl⟩
  exact Uy hφ (Ui ⟨fn,hf⟩) c (uP C fn) [] (Or.inl rfl) hK [] x tm H trivial h
 ·rename_i p hp
  obtain⟨l,q⟩:=p
  obtain⟨h1,h2⟩:=TM c hp
  rw[h1];clear h1 hp
  have key:∀(l:List oC) ds x tm H,mD C φ f fn.ntmps (mX l) (Dz C A φ fn q) tm H=some x->Fin C (qS C f acs) ds (.next ⟨⟨[.code (Pp l (.seq (.region q.i5 q.o5 false) (.seq (.region q.i6 q.o6 false) .ret)))],tm,RR f fn.ntmps none ds⟩,acs,H⟩) x:=by
   intro l;induction l with
   | nil=>exact fun ds x tm H h=>STzx hA hφ hf h2 h
   | cons a l ih=>
    intro ds x tm H h;refine Ul (Ui ⟨fn,hf⟩) (t1:=[.code (Pp (a::l) _)]) rfl (t2:=.code (qE a)::[.code (Pp l (.seq (.region q.i5 q.o5 false) (.seq (.region q.i6 q.o6 false) .ret)))]) (fun _ _=>rfl) ?_
    have hK:Lv C (qS C f acs) (fun _=>True) f fn.ntmps none acs ⟨mD C φ f fn.ntmps (mX l) (Dz C A φ fn q),fun _ _ _=>none,mW C fn⟩ [.code (Pp l (.seq (.region q.i5 q.o5 false) (.seq (.region q.i6 q.o6 false) .ret)))]:=
     ⟨fun ds x tm H _ h=>ih ds x tm H h,fun ds x i tm H _ h=>(by cases h),fun ds x tm H _ h k'=>Py hf h rfl⟩
    exact Uy hφ (Ui ⟨fn,hf⟩) a _ _ (Or.inl rfl) hK ds x tm H trivial h
  simp_all
theorem TH(hA:dY C A){φ:dE}(hφ:tS C φ):tS C (Gn C A φ):=by
 refine⟨fun f args H x h=>?_,fun l args H x h=>UE hφ h⟩
 have h:kT C A φ f args H=some x:=h
 unfold kT at h;rw[sA]at h;obtain⟨c,h1,h⟩:=h
 rw[sA]at h;obtain⟨fn,h2,h⟩:=h
 rw[sA]at h;obtain⟨g,h3,h⟩:=h
 refine⟨g,h3,fun acs=>?_⟩
 obtain⟨fn',c',e1,e2,e3,e4⟩:=XM h3
 rw[h2]at e1;cases e1
 obtain⟨fn',e5,e6⟩:=hA f c h1
 rw[h2]at e5;cases e5
 rw[e2]at e6;cases e6
 obtain⟨gt,gtm,gR⟩:=g
 simp only at e3 e4 h
 subst e3 e4
 obtain⟨o',k1,fr',rfl,k2⟩:=ZG hA hφ h2 (acs:=acs) h
 grind
def JM(hA:dY C A):∀n,tS C (Ei C A n):=by
 intro n;induction n with
 | zero=>exact⟨fun f args H x h=>(by cases h),fun l args H x h=>(by cases h)⟩
 | succ n ih=>exact TH hA ih
def zeb(hA:dY C A):tS C (zD C A):=by
 refine⟨fun f args H x h=>?_,fun f args H x h=>?_⟩
 ·obtain⟨n,hn⟩:=Hu.1 h
  exact(JM hA n).fn _ _ _ _ hn
 ·obtain⟨n,hn⟩:=Hu.1 h
  exact(JM hA n).rd _ _ _ _ hn
theorem YU{P:Program}{B N:Nat}{I:World->Prop}{μ:Mu}{w:World}(hS:uK P C B N I)(hI:I w)(hA:dY C A){f:Nat}{args:List zA}{args':Array Value}{H H':xA}{v:zA}(hH:rB B N μ H w)(hl:pB μ args args'.toList)
  (h:zD C A (.func f) args H=some (⟨v,false⟩,H')):Calls P f args' w fun e w'=>∃v' μ',e=.returned v'/\μ.lw μ'/\vA μ' v v'/\rB B N μ' H' w'/\Below N w w':=by
 intro base;obtain⟨g,he,hr⟩:=(zeb hA).fn _ _ _ _ h
 obtain⟨fr',r1,hE⟩:=hr []
 obtain⟨h1,h2,h3,h4,fn,l,h5,h6,rfl⟩:=hE.ret rfl
 have h0:aD P C B N μ base (lone (Frame.enter P f args' .normal) base w) w (.next ⟨g,[],H⟩):=Yv hS.fns hH hl he
 obtain⟨μ',b,cs,w',s1,s2,s3,s4,s5,s6⟩:=aD.reach hS hI r1 h0
 cases s6
 have hb:=s5.body
 rw[yaa (by grind [bW.running])]at hb
 obtain⟨v',q1,q2⟩:=HR hS.tys s4 hb h6
 have hm:=s5.rest.mode
 rw[h1]at hm;have hbm:b.mode=.returning:=by
  cases hb:b.mode with
  | returning=>rfl
  | _=>rw[hb]at hm;exact hm.elim
 have hd:=s5.rest.defers
 rw[h2]at hd;have hbd:b.defers=[]:=by
  generalize hx:b.defers=bd at hd
  cases hd;rfl
 have hk:=s5.rest.kind
 rw[h3]at hk;have hfn:b.fn=f:=by rw[s5.rest.fn,h4]
 exact⟨.returned v',w',b,⟨v',μ',rfl,s2,q2,s4,s3⟩,s1,hfn,hbm,hbd,hk,fn,by rw[hfn];exact(hS.fns _ _ h5).1,q1⟩
end
end
section
def cA(C:iA)(t:Nat)(H:xA)(v:zA):Option zA:=ob v.asPtr fun p=>ob (C.tys.get t) fun ty=>ob (qD H p.1) fun c=>wT ty c.1 p.2
def eP(C:iA)(s d:Nat)(H:xA)(a:zA):Option zA:=ob (C.tys.get s) fun s=>ob (C.tys.get d) fun d=>gT C s d a H
def vF(C:iA)(t:Nat)(H:xA)(a:zA)(l h:Option zA):Option zA:=ob (C.tys.get t) fun ty=>kN C H ty a l h
def Mv(C:iA)(s f:Nat):Option Nat:=ob (C.tys.get s) fun ty=>ob ty.desc.asStruct fun fs=>ob (tD fs f) fun fd=>tB (!Nat.beq fd.2.2 0) (some fd.1)
def tC(C:iA)(s f:Nat)(v:zA):Option zA:=ob (Mv C s f) fun k=>ob v.asPtr fun p=>some (.ptr p.1 (p.2+k))
def uC(C:iA)(t:Nat)(v i:zA):Option zA:=
 ob (C.tys.get t) fun ty=>ob i.asNat fun i=>
  match v.asSlice with
  | some s=>ob ty.desc.asSlice fun el=>ob (C.tys.get el) fun et=>tB (Nat.blt i s.2.2.1) (some (.ptr s.1 (s.2.1+i*et.size)))
  | none=>ob v.asPtr fun p=>ob ty.desc.asArr fun a=>ob (C.tys.get a.2) fun et=>tB (Nat.blt i a.1) (some (.ptr p.1 (p.2+i*et.size)))
def EV(C:iA)(t i:Nat):Option Nat:=ob (C.tys.get t) fun ty=>ob ty.desc.asArr fun a=>ob (C.tys.get a.2) fun et=>tB (Nat.blt i a.1) (some (i*et.size))
def rI(C:iA)(t:Nat)(v i:zA):Option zA:=
 ob (C.tys.get t) fun ty=>ob i.asNat fun i=>
  match v.asStr with
  | some s=>tB ty.desc.isString (ob (tD s i) fun b=>some (.int .u8 (.ofNat b)))
  | none=>ob v.asAgg fun l=>ob ty.desc.asArr fun a=>ob (C.tys.get a.2) fun et=>tB (Nat.blt i a.1) (eQ C a.2 l (i*et.size))
def aI(i:Nat)(v:zA):Option zA:=ob v.asTup fun l=>tD l i
def nV (C:iA)(t:Nat)(H:xA)(v:zA):Option zA:=ob (C.tys.get t) fun ty=>ob (yW H ty v) fun n=>some (.int .i64 (.ofNat n))
def pC(v:zA):Option zA:=
 match v.asSlice with
 | some s=>some (.int .i64 (.ofNat s.2.2.1))
 | none=>tB (Nat.beq v.tag 5) (some (.int .i64 (.ofNat 0)))
def Dl (v:zA):Option zA:=tB (Nat.beq v.tag 4||Nat.beq v.tag 9) (some v)
def Rp(C:iA)(u:Nat)(ok:Bool)(v:zA):Option zA:=
 ob (C.tys.get u) fun ty=>tB (Nat.blt ty.desc.tag 9) (
  match v.asIface with
  | some p=>bif Nat.beq p.1 u then some (bif ok then .tup [p.2,.bool true]else p.2)else tB ok (some (.tup [cY ty,.bool false]))
  | none=>tB (Nat.beq v.tag 12&&ok) (some (.tup [cY ty,.bool false])))
def xZ(C:iA)(t:Nat)(H:xA)(m k:zA)(ok:Bool):Option zA:=
 ob (C.tys.get t) fun ty=>ob ty.desc.asMap fun ke=>ob (C.tys.get ke.1) fun kty=>tB (wW C kty) (ob (C.tys.get ke.2) fun ety=>
  ob (lX H m) fun es=>tB (rT C kty k) (ob (pL k es) fun r=>
   match r with
   | some v=>some (bif ok then .tup [v,.bool true]else v)
   | none=>some (bif ok then .tup [cY ety,.bool false]else cY ety)))
def iL(C:iA)(t:Nat)(H:xA):Option (zA × xA):=ob (C.tys.get t) fun ty=>some (.ptr H.next 0,rF H ty.zero none)
def jL (v:zA)(H:xA):Option (zA × xA):=some (.ptr H.next 0,rF H v.cells none)
def Rq(C:iA)(t:Nat)(H:xA):Option (zA × xA):=ob (C.tys.get t) fun ty=>some (.ptr H.next 0,rF H ty.zero (pK C t))
def Jg(C:iA)(t:Nat)(v:zA)(H:xA):Option (zA × xA):=some (.ptr H.next 0,rF H v.cells (pK C t))
def tE(C:iA)(t len:Nat)(ps:List (Nat × zA))(H:xA):Option (zA × xA):=
 ob (C.tys.get t) fun ty=>ob ty.desc.asSlice fun el=>ob (C.tys.get el) fun et=>
  tB (Nat.blt (len*et.size) 1000000&&Nat.beq (yB et.zero) et.size) (ob (vM (fun i=>some (i*et.size,et.size)) ps (oI et.zero len)) fun l=>some (.slice H.next 0 len len,rF H l none))
def mC(C:iA)(t:Nat)(a v:zA)(H:xA):Option (zA × xA):=ob (C.tys.get t) fun ty=>ob a.asPtr fun p=>tB (Nat.beq (yB v.cells) ty.size) (ob (sJ C H p.1 p.2 v.cells) fun H'=>some (pD,H'))
def Rn(H:xA):Option (zA × xA):=some (.map H.next,newBlk H (.map []))
def rU(C:iA)(t:Nat)(m k v:zA)(H:xA):Option (zA × xA):=
 ob (C.tys.get t) fun ty=>ob ty.desc.asMap fun ke=>ob (C.tys.get ke.1) fun kty=>tB (wW C kty)
  (ob m.asMap fun b=>tB (!Nat.blt b C.base) (ob (nL H b) fun l=>tB (rT C kty k) (ob (qO k v l) fun l'=>some (pD,setBlk H b (.map l')))))
def fP(C:iA)(t:Nat)(l c:zA)(H:xA):Option (zA × xA):=
 ob (C.tys.get t) fun ty=>ob ty.desc.asSlice fun el=>ob (C.tys.get el) fun et=>ob l.asNat fun l=>ob c.asNat fun c=>
  tB (Nat.ble l c&&Nat.blt c 1000000&&Nat.blt (c*et.bytes) 1000000000&&Nat.beq (yB et.zero) et.size) (some (.slice H.next 0 l c,rF H (oI et.zero c) none))
def Wk(C:iA)(s d:Nat)(v:zA)(H:xA):Option (zA × xA):=
 ob (C.tys.get s) fun _=>ob (C.tys.get d) fun ty=>ob ty.desc.asSlice fun el=>ob (C.tys.get el) fun et=>ob et.desc.asInt fun k=>tB (gN k .u8) (ob v.asStr fun l=>
  some (.slice H.next 0 (yB l) (yB l),rF H (eZ l) (some (.ty el))))
def sH(C:iA)(t u:Nat)(a b:zA)(H:xA):Option (zA × xA):=ob (C.tys.get t) fun ty=>ob (C.tys.get u) fun uty=>tB (!Nat.beq uty.desc.tag 1) (Aa C H ty a b)
def vNext(v:zA)(H:xA):Option (zA × xA):=ob v.asPtr fun p=>tB (Nat.beq p.2 0) (ob (ob (H.t.get p.1) tA.asIter) fun x=>
 match tD x.1 x.2 with
 | some c=>tB (Nat.blt c 128) (some (.tup [.bool true,.int .i64 (.ofNat x.2),.int .i32 (.ofNat c)],setBlk H p.1 (.siter x.1 (x.2+1))))
 | none=>some (.tup [.bool false],H))
structure sI where
 b:Nat->Bool
 i:Nat->Int
 s:Nat->List Nat
 v:Nat->zA
inductive T where
 | ret (v:zA)
 | fail
 | ite (b:Bool) (x y:T)
 | opt (x:Option zA) (K:zA->T)
 | light (x:Tr tA->Option zA) (K:zA->T)
 | heavy (x:xA->Option (zA × xA)) (K:zA->T)
 | call (f:Nat) (args:List zA) (K:zA->T)
 | callv (f:zA) (args:List zA) (K:zA->T)
 | asI (k:IntKind) (v:zA) (K:Int->T)
 | asB (v:zA) (K:Bool->T)
 | asS (v:zA) (K:List Nat->T)
 | asG (zs:List zA) (v:zA) (K:sI->T)
 | jump (i:Nat) (vals:List zA)
 | range (np:Nat->Bool) (f:zA) (i m:Nat) (vals:List zA) (K R:T)
def yo:Nat:=1099511627776
def pn:Nat:=1099511627775
def AO(z:zA)(X:sI)(j:Nat):zA:=
 match z with
 | .bool _=>.bool (X.b j)
 | .int k _=>.int k (X.i j)
 | .str _=>.str (X.s j)
 | _=>X.v j
def Bj(zs:List zA)(X:sI):Nat->List zA:=
 List.rec (motive:=fun _=>Nat->List zA) (fun _=>[]) (fun z _ g j=>AO z X j::g (j+1)) zs
def Ih(l:List zA)(j:Nat):Bool:=match l[j]? with | some (.bool b)=>b | _=>false
def zir(l:List zA)(j:Nat):Int:=match l[j]? with | some (.int _ n)=>n | _=>0
def zn5(l:List zA)(j:Nat):List Nat:=match l[j]? with | some (.str s)=>s | _=>[]
def Je(l:List zA)(j:Nat):zA:=match l[j]? with | some v=>v | _=>.nilptr
def cellsOf(l:List zA):sI:=⟨Ih l,zir l,zn5 l,Je l⟩
def Ce (z a:zA):Bool:=
 match z with
 | .bool _=>Nat.beq a.tag 0
 | .int k _=>match a.asIntK with | some p=>gN p.1 k | none=>false
 | .str _=>Nat.beq a.tag 2
 | .nilptr=>Nat.beq a.tag 3||Nat.beq a.tag 4
 | .nilslice=>Nat.beq a.tag 5||Nat.beq a.tag 6
 | .nilmap=>Nat.beq a.tag 7||Nat.beq a.tag 8
 | .nilfunc=>Nat.beq a.tag 10||Nat.beq a.tag 9
 | .niliface=>Nat.beq a.tag 12||Nat.beq a.tag 11
 | _=>false
def jT:List zA->List zA->Bool
 | [],[]=>true
 | z::zs,a::l=>Ce z a&&jT zs l
 | _,_=>false
structure zH where
 tm:Tm
 ad:List (Nat × Nat × Nat)
 lo:Tr (List zA)
 lit:List Nat
abbrev KT:=zH->T
structure KtT where
 norm:KT
 exit:Nat->KT
 ret:KT
def vC {α:Type}(x:Option α)(K:α->T):T:=Option.rec (motive:=fun _=>T) .fail K x
def fK (b:Bool)(K:T):T:=Bool.rec (motive:=fun _=>T) .fail K b
def tM(i:Nat)(l:List (Nat × Nat × Nat)):Option (Nat × Nat):=
 List.rec (motive:=fun _=>Option (Nat × Nat)) none (fun a _ g=>Bool.rec (motive:=fun _=>Option (Nat × Nat)) g (some a.2) (Nat.beq i a.1)) l
inductive yP where
 | now (ad:List (Nat × Nat × Nat))
 | mixed (ad old:List (Nat × Nat × Nat)) (olds names:List Nat)
def tAd (e:yP)(t:Nat):Option (Nat × Nat):=
 match e with
 | .now ad=>tM t ad
 | .mixed ad old olds names=>bif dH t names then tM t (bif dH t olds then old else ad)else none
def xAd (e:yP)(x:Operand):Option (Nat × Nat):=
 match x with
 | .tmp t=>tAd e t
 | _=>none
def kL:xA:=⟨0,.leaf⟩
def bH (C:iA)(t:Nat):Nat:=
 match C.tys.get t with
 | some ty=>ty.desc.tag
 | none=>10
def BW(x:Operand):Bool:=
 match x with
 | .const _=>true
 | _=>false
def ze2(x:Operand):Bool:=
 match x with
 | .const (.int _ n) => !lB n 0
 | _=>false
def binDir(C:iA)(op:BinOp)(t:Nat)(y:Operand):Bool:=
 match op with
 | .add=>Nat.beq (bH C t) 1
 | .sub=>true
 | .mul=>true
 | .quo=>ze2 y
 | .rem=>ze2 y
 | .shl=>BW y
 | .shr=>BW y
 | .eql=>Nat.ble (bH C t) 2
 | .neq=>Nat.ble (bH C t) 2
 | .lss=>Nat.ble (bH C t) 2
 | .leq=>Nat.ble (bH C t) 2
 | .gtr=>Nat.ble (bH C t) 2
 | .geq=>Nat.ble (bH C t) 2
 | _=>false
structure oN where
 K:zA->T
 Kd:zA->T
 KA:Nat->Nat->T
def iS (C:iA)(op:Op)(e:vD)(k:oN):T:=vC ((jF op).f C e kL) k.Kd
def zgo(C:iA)(op:Op)(x:Operand)(e:vD)(ae:yP)(k:oN):T:=
 match xAd ae x with
 | some p=>k.KA p.1 p.2
 | none=>iS C op e k
def tLoad(C:iA)(t:Nat)(a:Operand)(e:vD)(ae:yP)(lo:Tr (List zA))(k:oN):T:=
 match xAd ae a with
 | some p=>vC (lo.get p.1) fun l=>vC (C.tys.get t) fun ty=>fK (Nat.ble (p.2+ty.size) (yB l)) (vC (eQ C t l p.2) k.Kd)
 | none=>vC (ev a e) fun v=>.light (fun m=>cA C t ⟨0,m⟩ v) k.K
def FU(C:iA)(s:Nat)(x:Operand)(f:Nat)(e:vD)(ae:yP)(k:oN):T:=
 match xAd ae x with
 | some p=>vC (Mv C s f) fun o=>k.KA p.1 (p.2+o)
 | none=>vC (ev x e) fun v=>.opt (tC C s f v) k.K
def FS(C:iA)(t:Nat)(x i:Operand)(e:vD)(ae:yP)(k:oN):T:=
 match xAd ae x with
 | some p=>vC (ev i e) fun i=>vC i.asNat fun i=>vC (EV C t i) fun o=>k.KA p.1 (p.2+o)
 | none=>vC (ev x e) fun v=>vC (ev i e) fun i=>.opt (uC C t v i) k.K
def tNil (x:Operand)(e:vD)(ae:yP)(k:oN):T:=
 match xAd ae x with
 | some p=>k.KA p.1 p.2
 | none=>vC (ev x e) fun v=>.opt (Dl v) k.K
def tLen (C:iA)(c:Call)(e:vD)(k:oN):T:=
 vC (tD c.argTypes.toList 0) fun t=>vC (tD c.args.toList 0) fun x=>vC (ev x e) fun v=>
  bif Nat.beq (bH C t) 4 then .opt (pC v) k.K else bif Nat.beq (bH C t) 6 then .light (fun m=>nV C t ⟨0,m⟩ v) k.K else vC (nV C t kL v) k.Kd
def tBin (C:iA)(op:BinOp)(t:Nat)(x y:Operand)(u:Nat)(e:vD)(k:oN):T:=
 bif binDir C op t y then iS C (.binOp op t x y u) e k else vC (ev x e) fun a=>vC (ev y e) fun b=>.opt ((Cu op).f C t x y a b) k.K
def zn0(C:iA)(s d:Nat)(x:Operand)(e:vD)(k:oN):T:=
 bif Nat.beq (bH C d) 2 then(bif Nat.beq (bH C s) 2 then iS C (.convert s d x) e k else vC (ev x e) fun v=>.light (fun m=>eP C s d ⟨0,m⟩ v) k.K)else bif Nat.beq (bH C d) 1 then iS C (.convert s d x) e k else .fail
def zkl(C:iA)(t:Nat)(x:Operand)(lo hi:Option Operand)(e:vD)(k:oN):T:=
 vC (ev x e) fun a=>vC (evo lo e) fun l=>vC (evo hi e) fun h=>
  bif Nat.beq (bH C t) 2 then .opt (vF C t kL a l h) k.K else .light (fun m=>vF C t ⟨0,m⟩ a l h) k.K
def Nf(C:iA)(c:Call)(e:vD)(k:oN):Builtin->T
 | .len=>tLen C c e k
 | .max=>iS C (.call c) e k
 | .min=>iS C (.call c) e k
 | _=>.fail
def Lh(ty:lD)(v:zA):List zA:=bif ty.desc.isAgg then v.cells else [v]
def zp1(cells:List zA)(off size:Nat)(vc:List zA):Option (List zA):=
 tB (Nat.beq (yB vc) size&&Nat.ble (off+yB vc) (yB cells)) (some (fD (Bm cells off) (fD vc (uR cells (off+yB vc)))))
def Zv(C:iA)(tyAt:Nat->Option Nat):List (Nat × zA)->Option (List (Nat × zA × List zA) × List zA):=
 List.rec (motive:=fun _=>Option (List (Nat × zA × List zA) × List zA)) (some ([],[]))
  (fun p _ g=>ob (tyAt p.1) fun t=>ob (C.tys.get t) fun ty=>ob g fun r=>some (bif ty.desc.isAgg then((p.1,p.2,p.2.cells)::r.1,r.2)else((p.1,p.2,[p.2])::r.1,p.2::r.2)))
def zi6(place:Nat->Option (Nat × Nat)):List (Nat × zA × List zA)->List zA->Option (List zA):=
 List.rec (motive:=fun _=>List zA->Option (List zA)) (fun cells=>some cells) (fun p _ g cells=>ob (place p.1) fun q=>ob (zp1 cells q.1 q.2 p.2.2) fun cells=>g cells)
def tyAtS(ty:lD)(i:Nat):Option Nat:=
 match ty.desc.asStruct with
 | some fs=>ob (tD fs i) fun x=>some x.2.1
 | none=>ob ty.desc.asArr fun a=>some a.2
def Ka(C:iA)(ty:lD)(i:Nat):Option (Nat × Nat):=
 match ty.desc.asStruct with
 | some fs=>ob (tD fs i) fun x=>some (x.1,x.2.2)
 | none=>ob ty.desc.asArr fun a=>ob (C.tys.get a.2) fun et=>some (i*et.size,et.size)
def QB(C:iA)(ty:lD):Bool:=
 match ty.desc.asStruct with
 | some _=>true
 | none=>match ty.desc.asArr with
  | some a=>(match C.tys.get a.2 with | some _=>true | none=>false)
  | none=>false
def zkn(C:iA)(t:Nat)(ps:Array (Nat × Operand))(e:vD)(k:oN):T:=
 vC (C.tys.get t) fun ty=>fK (QB C ty) <| vC (evp ps.toList e) fun vs=>vC (Zv C (tyAtS ty) vs) fun q=>vC (zi6 (Ka C ty) q.1 ty.zero) fun l=>.ite (sD zA.one q.2) (k.Kd (.agg l)) .fail
def tL (C:iA)(op:Op)(e:vD)(ae:yP)(lo:Tr (List zA))(k:oN):T:=
 match op with
 | .move x=>zgo C (.move x) x e ae k
 | .assign x=>zgo C (.assign x) x e ae k
 | .load t a=>tLoad C t a e ae lo k
 | .fieldAddr s x f=>FU C s x f e ae k
 | .indexAddr t x i=>FS C t x i e ae k
 | .nilCheck x=>tNil x e ae k
 | .binOp op t x y u=>tBin C op t x y u e k
 | .convert s d x=>zn0 C s d x e k
 | .slice t x lo hi none=>zkl C t x lo hi e k
 | .index t x i=>bif BW i&&Nat.beq (bH C t) 5 then iS C (.index t x i) e k else vC (ev x e) fun v=>vC (ev i e) fun i=>.opt (rI C t v i) k.K
 | .extract t i=>vC (ev t e) fun v=>.opt (aI i v) k.K
 | .typeAssert x _ u ok=>vC (ev x e) fun v=>.opt (Rp C u ok v) k.K
 | .lookup t x i ok=>vC (ev x e) fun m=>vC (ev i e) fun key=>.light (fun h=>xZ C t ⟨0,h⟩ m key ok) k.K
 | .call c=>match c.callee with
  | .builtin b=>Nf C c e k b
  | _=>.fail
 | .pick c a b=>iS C (.pick c a b) e k
 | .unOp o t x=>(match o with
  | .xor=>vC (ev x e) fun v=>.opt (Gj v) k.K
  | o=>iS C (.unOp o t x) e k)
 | .makeInterface t x=>iS C (.makeInterface t x) e k
 | .makeFunc fn a b=>iS C (.makeFunc fn a b) e k
 | .field t x f=>iS C (.field t x f) e k
 | .build t ps=>zkn C t ps e k
 | _=>.fail
def laOf (la:List Nat)(dst:Option Nat):Option Nat:=
 match dst with
 | some d=>bif dH d la then some d else none
 | none=>none
structure KLo where
 new:Nat->List zA->T
 set:Nat->List zA->T
def zkm(f:Operand)(args:Array Operand)(e:vD)(k:oN):T:=
 match f with
 | .func g=>fK (Nat.blt g pn) (vC (kO args.toList e) fun aq=>.call g aq k.K)
 | f=>vC (ev f e) fun fv=>vC (kO args.toList e) fun aq=>.callv fv aq k.K
def two' (c:Call)(e:vD)(K:zA->zA->T):T:=vC (two c e) fun p=>K p.1 p.2
def FT(C:iA)(c:Call)(e:vD)(k:oN):Builtin->T
 | .append=>vC (tD c.argTypes.toList 0) fun t=>vC (tD c.argTypes.toList 1) fun u=>two' c e fun a b=>.heavy (sH C t u a b) k.K
 | b=>Nf C c e k b
def zkk(C:iA)(t:Nat)(a x:Operand)(e:vD)(ae:yP)(lo:Tr (List zA))(k:oN)(kl:KLo):T:=
 match xAd ae a with
 | some p=>vC (ev x e) fun v=>vC (C.tys.get t) fun ty=>vC (lo.get p.1) fun l=>vC (zp1 l p.2 ty.size (Lh ty v)) fun l'=>.ite (sD zA.one (Lh ty v)) (kl.set p.1 l') .fail
 | none=>vC (ev a e) fun a=>vC (ev x e) fun v=>.heavy (mC C t a v) k.Kd
def tH (C:iA)(la:List Nat)(dst:Option Nat)(op:Op)(e:vD)(ae:yP)(lo:Tr (List zA))(k:oN)(kl:KLo):T:=
 match op with
 | .box t x=>bif rE (pK C t)then vC (ev x e) fun v=>(match laOf la dst with
  | some d=>vC (C.tys.get t) fun ty=>bif ty.desc.isAgg then kl.new d v.cells else .ite (zA.one v) (kl.new d [v]) .fail
  | none=>.heavy (jL v) k.K)else vC (ev x e) fun v=>.heavy (Jg C t v) k.K
 | .alloc t=>bif rE (pK C t)then(match laOf la dst with
  | some d=>vC (C.tys.get t) fun ty=>kl.new d ty.zero
  | none=>.heavy (iL C t) k.K)else .heavy (Rq C t) k.K
 | .store t a x=>zkk C t a x e ae lo k kl
 | .buildSlice t len ps=>vC (evp ps.toList e) fun ps=>.heavy (tE C t len ps) k.K
 | .makeMap _ none=>.heavy Rn k.K
 | .insert t m key x=>vC (ev m e) fun m=>vC (ev key e) fun key=>vC (ev x e) fun v=>.heavy (rU C t m key v) k.Kd
 | .mapUpdate t m key x=>vC (ev m e) fun m=>vC (ev key e) fun key=>vC (ev x e) fun v=>.heavy (rU C t m key v) k.Kd
 | .makeSlice t l c=>vC (ev l e) fun l=>vC (ev c e) fun c=>.heavy (fP C t l c) k.K
 | .convert s d x=>bif Nat.beq (bH C d) 4 then vC (ev x e) fun v=>.heavy (Wk C s d v) k.K else zn0 C s d x e k
 | .call c=>match c.callee with
  | .value f=>zkm f c.args e k
  | .builtin b=>FT C c e k b
  | _=>.fail
 | .panic x=>vC (ev x e) fun v=>vC v.asIface fun p=>.call pn [.iface p.1 p.2] k.K
 | op=>tL C op e ae lo k
def rmNat(i:Nat)(l:List Nat):List Nat:=List.rec (motive:=fun _=>List Nat) [] (fun j _ g=>bif Nat.beq i j then g else j::g) l
def jS (n:Nat)(dst:Option Nat)(v:zA)(lt:Bool)(st:zH)(κ:KT):T:=
 match dst with
 | none=>κ st
 | some d=>bif Nat.blt d n then fK (rE (tM d st.ad)) (κ ⟨st.tm.set d v,st.ad,st.lo,bif lt then d::rmNat d st.lit else rmNat d st.lit⟩)else κ st
def znx(n:Nat)(dst:Option Nat)(d off:Nat)(st:zH)(κ:KT):T:=
 vC dst fun i=>fK (Nat.blt i n) (fK (rE (st.tm.get i)) (κ ⟨st.tm,(i,d,off)::st.ad,st.lo,st.lit⟩))
def zld(d:Nat)(ad:List (Nat × Nat × Nat)):Bool:=sD (fun a=>bif Nat.beq a.2.1 d then Nat.beq a.1 d else true) ad
def tNew (n:Nat)(d:Nat)(l:List zA)(st:zH)(κ:KT):T:=
 fK (Nat.blt d n) (fK (rE (st.tm.get d)) (fK (zld d st.ad) (κ ⟨st.tm,(d,d,0)::st.ad,st.lo.set d l,st.lit⟩)))
def fitB (C:iA)(t:Nat)(v:zA):Bool:=
 match C.tys.get t with
 | some ty=>(match ty.desc with
  | .bool=>Nat.beq v.tag 0
  | .int k=>(match v.asIntK with | some p=>gN p.1 k | none=>false)
  | .string=>Nat.beq v.tag 2
  | _=>true)
 | none=>true
def Nd(C:iA)(t:Nat)(v:zA)(K:zA->T):T:=
 match C.tys.get t with
 | some ty=>(match ty.desc with
  | .bool=>.asB v fun b=>K (.bool b)
  | .int k=>.asI k v fun n=>K (.int k n)
  | .string=>.asS v fun s=>K (.str s)
  | .struct _=>bif Nat.ble (yB ty.zero) 40 then .asG ty.zero v fun X=>K (.agg (Bj ty.zero X 0))else K v
  | .arr _ _=>bif Nat.ble (yB ty.zero) 40 then .asG ty.zero v fun X=>K (.agg (Bj ty.zero X 0))else K v
  | _=>K v)
 | none=>K v
def El (x:Operand)(lit:List Nat):Bool:=
 match x with
 | .tmp t=>lit.contains t
 | .const _=>true
 | _=>false
def zh5(op:Op)(e:vD)(lit:List Nat):Bool:=
 match op with
 | .move x=>El x lit
 | .assign x=>El x lit
 | .unOp _ _ x=>El x lit
 | .pick c a b=>bif El c lit then(match ob (ev c e) zA.asBool with
  | some w=>bif w then El a lit else El b lit
  | none=>false)else false
 | _=>false
def Tv(all:List Oper)(dst:Option Nat)(l:List Oper):Bool:=
 match dst with
 | none=>false
 | some d => !sD (fun o=>match o.guard with
  | some g=>(match ob (tD all g.1) fun p=>p.dst with | some i => !Nat.beq i d | none=>true)
  | none=>true) l
def Jk(g lt:Bool)(v:zA)(K:zA->Bool->T):T:=
 bif g then(bif lt then K v true else vC v.asBool fun b=>.ite b (K (.bool true) true) (K (.bool false) true))else K v lt
def kop (C:iA)(all:Array Oper)(n:Nat)(o:Oper)(e:vD)(st:zH)(κ:KT):oN:=
 ⟨fun v=>Nd C o.type v fun v=>Jk (Tv all.toList o.dst all.toList) (zh5 o.op e st.lit) v fun v lt=>jS n o.dst v lt st κ,
  fun v=>fK (fitB C o.type v) (Jk (Tv all.toList o.dst all.toList) (zh5 o.op e st.lit) v fun v lt=>jS n o.dst v lt st κ),
  fun d off=>fK (!Nat.ble (bH C o.type) 2) (znx n o.dst d off st κ)⟩
def klo (C:iA)(n:Nat)(o:Oper)(st:zH)(κ:KT):KLo:=
 ⟨fun d l=>fK (!Nat.ble (bH C o.type) 2) (tNew n d l st κ),
  fun d l=>fK (fitB C o.type pD) (jS n o.dst pD false ⟨st.tm,st.ad,st.lo.set d l,st.lit⟩ κ)⟩
def vD.adCut(k:Nat)(l:List (Nat × Nat × Nat)):List (Nat × Nat × Nat):=l.filter fun a=>Nat.blt a.1 k
def zH.cut(st:zH):zH:=⟨st.tm.cut,vD.adCut st.tm.k st.ad,st.lo,st.lit⟩
def tops (C:iA)(la:List Nat)(all:Array Oper)(n:Nat)(κ:KT)(l:List Oper):KT:=
 List.rec (motive:=fun _=>KT) κ
  (fun o _ g st=>vC (cF o.guard all st.tm) fun w=>Bool.rec (motive:=fun _=>T) (jS n o.dst pD false st g)
   (tH C la o.dst o.op (.now st.tm) (.now st.ad) st.lo (kop C all n o (.now st.tm) st g) (klo C n o st g)) w) l
def yR (st old:zH)(olds:List Nat)(op:Op):vD:=.mixed st.tm old.tm olds (eH op)
def Bk (st old:zH)(olds:List Nat)(op:Op):yP:=.mixed st.ad old.ad olds (eH op)
def pU(C:iA)(all:Array Oper)(n:Nat)(old:zH)(olds:List (Nat × List Nat))(κ:KT)(l:List Nat):KT:=
 List.rec (motive:=fun _=>KT) κ
  (fun i _ g st=>vC (tD all.toList i) fun o=>vC (cF o.guard all st.tm) fun w=>Bool.rec (motive:=fun _=>T) (jS n o.dst pD false st g)
   (tL C o.op (yR st old (sF i olds) o.op) (Bk st old (sF i olds) o.op) st.lo (kop C all n o (yR st old (sF i olds) o.op) st g)) w) l
def wZ(C:iA)(all:Array Oper)(old:zH)(olds:List (Nat × List Nat))(st:zH)(k:T)(l:List Nat):T:=
 List.rec (motive:=fun _=>T) k
  (fun i _ g=>vC (tD all.toList i) fun o=>vC o.dst fun d=>vC (cF o.guard all st.tm) fun w=>Bool.rec (motive:=fun _=>T) g
   (vC (st.tm.get d) fun u=>fK (fitB C o.type u) (tL C o.op (yR st old (sF i olds) o.op) (Bk st old (sF i olds) o.op) st.lo ⟨fun v=>.ite (same 10 v u) g .fail,fun v=>.ite (same 10 v u) g .fail,fun _ _=>.fail⟩)) w) l
def Jf(C:iA)(es:List wO)(H:xA):Option (zA × xA):=ob (Cb C es H) fun H'=>some (pD,H')
def tEff (op:Op)(e:vD)(ae:yP):Option wO:=
 match op with
 | .store t a x=>(match xAd ae a with
  | some _=>none
  | none=>Cj (.store t a x) e)
 | op=>Cj op e
def zgq(all:Array Oper)(old:zH)(olds:List (Nat × List Nat))(st:zH)(l:List Nat):Option (List wO):=
 pG (fun i=>ob (tD all.toList i) fun o=>ob (cF o.guard all st.tm) fun w=>tB w (tEff o.op (yR st old (sF i olds) o.op) (Bk st old (sF i olds) o.op))) l
def Dn(C:iA)(all:Array Oper)(n:Nat)(old:zH)(olds:List (Nat × List Nat))(κ:KT)(l:List lG):KT:=
 List.rec (motive:=fun _=>KT) κ
  (fun s _ g st=>Bool.rec (motive:=fun _=>T) (vC (tD all.toList (eN all s.heavy)) fun o=>vC (aW C all s.heavy o st.tm) fun w=>
   (fun cont:KT=>Bool.rec (motive:=fun _=>T) (jS n o.dst pD false st cont)
    (tH C [] o.dst o.op (yR st old (sF (eN all s.heavy) olds) o.op) (Bk st old (sF (eN all s.heavy) olds) o.op) st.lo (kop C all n o (yR st old (sF (eN all s.heavy) olds) o.op) st cont) (klo C n o st cont)) w)
   (fun st'=>wZ C all old olds st' (pU C all n old olds g s.lights st') s.again))
   (fK (mZ C all) (vC (zgq all old olds st s.again) fun es=>.heavy (Jf C es) fun _=>pU C all n old olds g s.lights st)) (tW all s)) l
def zar(C:iA)(la:List Nat)(fn n:Nat)(κ:KT)(id:Nat)(all:Array Oper)(draw:Bool):KT:=
 Bool.rec (motive:=fun _=>KT) (fun st=>tops C la all n κ all.toList st.cut)
  (fun st=>vC (ob (C.plans.get fn) fun t=>t.get id) fun p=>fK (dV all p) (pU C all n st.cut p.olds (Dn C all n st.cut p.olds κ p.stages) p.first st.cut)) draw
def Jb(st:zH)(ll:List (Nat × Nat)):Option (List zA):=
 List.rec (motive:=fun _=>Option (List zA)) (some []) (fun p _ g=>ob (tM p.1 st.ad) fun a=>tB (Nat.beq a.1 p.1&&Nat.beq a.2 0) (ob (st.lo.get p.1) fun l=>tB (Nat.beq (yB l) p.2) (ob g fun r=>some (fD l r)))) ll
def Gf(p:PI)(st:zH):Option (List zA):=ob (pG (fun i=>st.tm.get i) p.pl) fun a=>ob (Jb st p.ll) fun b=>some (fD a b)
def vX (ll:List (Nat × Nat)):List zA->Tr (List zA):=
 List.rec (motive:=fun _=>List zA->Tr (List zA)) (fun _=>.leaf) (fun p _ g vals=>(g (uR vals p.2)).set p.1 (Bm vals p.2)) ll
def sP (pl:List Nat):List zA->Tr zA:=
 List.rec (motive:=fun _=>List zA->Tr zA) (fun _=>.leaf) (fun i _ g vals=>List.rec (motive:=fun _=>Tr zA) .leaf (fun v vals _=>(g vals).set i v) vals) pl
def stAd (ll:List (Nat × Nat)):List (Nat × Nat × Nat):=List.rec (motive:=fun _=>List (Nat × Nat × Nat)) [] (fun p _ g=>(p.1,p.1,0)::g) ll
def oK (k:Nat)(p:PI)(vals:List zA):zH:=⟨⟨k,sP p.pl vals,[]⟩,stAd p.ll,vX p.ll (uR vals (yB p.pl)),[]⟩
def bQ (C:iA)(g:Nat):Bool:=rE (C.prims.get g)
def zk5(pl:List Nat)(st:zH):Option (List zA):=pG (fun i=>st.tm.get i) pl
def psOk:List Nat->Bool
 | []=>true
 | [_]=>true
 | [p,q] => !Nat.beq p q
 | _=>false
def zb1(k n:Nat)(pl ps:List Nat)(ops:List (Nat × Array Oper))(c:oC):Bool:=
 sD (fun p=>Nat.blt p k&&Nat.blt p n && !dH p pl) ps&&psOk ps&&Sr ops&&(match mK c with | []=>true | _=>false)
def rdT:KtT:=⟨fun _=>.ret (.bool true),fun _ _=>.fail,fun _=>.ret (.bool false)⟩
def Zq(C:iA)(n:Nat)(κ:KtT)(i:Nat)(pl:List Nat)(f:Operand)(ps:List Nat)(ops:List (Nat × Array Oper))(c:oC)(st:zH):T:=
 fK (zb1 st.tm.k n pl ps ops c) (vC (zk5 pl st) fun vals=>vC (ev f (.now st.tm)) fun fv=>.range (bQ C) fv i (yB ps) vals (κ.norm st) (κ.ret st))
def qK (C:iA)(la:List Nat)(fn n:Nat)(c:oC):KtT->KT:=
 oC.rec (motive:=fun _=>KtT->KT)
  (fun κ st=>κ.norm st)
  (fun id all draw κ=>zar C la fn n κ.norm id all draw)
  (fun _ _ ga gb κ=>ga ⟨gb κ,κ.exit,κ.ret⟩)
  (fun c _ _ gx gy κ st=>vC (ob (ev c (.now st.tm)) zA.asBool) fun b=>bif El c st.lit then Bool.rec (motive:=fun _=>T) (gy κ st) (gx κ st) b else .ite b (gx κ st) (gy κ st))
  (fun id _ g κ=>g ⟨κ.norm,fun i st=>Bool.rec (motive:=fun _=>T) (κ.exit i st) (κ.norm st) (Nat.beq id i),κ.ret⟩)
  (fun p _ _ _ st=>vC (Gf p st) fun vals=>.jump p.id vals)
  (fun id κ st=>κ.exit id st)
  (fun κ st=>κ.ret st)
  (fun p _ _ _ st=>vC (Gf p st) fun vals=>.jump p.id vals)
  (fun i pl f ps ops c _ κ st=>Zq C n κ i pl f ps.toList ops c st) c
structure PtT where
 p:PI
 tree:List zA->T
def wY(p:PI):KT:=fun st=>vC (Gf p st) fun vals=>.jump p.id vals
def Ee(C:iA)(la:List Nat)(fn n k:Nat)(c:oC):KtT->List PtT:=
 oC.rec (motive:=fun _=>KtT->List PtT)
  (fun _=>[])
  (fun _ _ _ _=>[])
  (fun _ b ga gb κ=>fD (ga ⟨qK C la fn n b κ,κ.exit,κ.ret⟩) (gb κ))
  (fun _ _ _ gx gy κ=>fD (gx κ) (gy κ))
  (fun id _ g κ=>g ⟨κ.norm,fun i st=>Bool.rec (motive:=fun _=>T) (κ.exit i st) (κ.norm st) (Nat.beq id i),κ.ret⟩)
  (fun p c g κ=>⟨p,fun vals=>qK C la fn n c ⟨wY p,κ.exit,κ.ret⟩ (oK k p vals)⟩::g ⟨wY p,κ.exit,κ.ret⟩)
  (fun _ _=>[])
  (fun _=>[])
  (fun p c g κ=>⟨p,fun vals=>qK C la fn n c κ (oK k p vals)⟩::g κ)
  (fun i pl _ ps ops c g _=>⟨⟨i,fD pl ps.toList,[]⟩,fun vals=>qK C la fn n (asA c ops) rdT (oK k ⟨i,fD pl ps.toList,[]⟩ vals)⟩::g rdT) c
def resT (C:iA)(st:zH)(l:List ResultVar):(List zA->T)->T:=
 List.rec (motive:=fun _=>(List zA->T)->T) (fun K=>K [])
  (fun r _ g K=>match r with
   | .tmp t=>vC (st.tm.get t) fun v=>g fun l=>K (v::l)
   | .cell a t=>match tM a st.ad with
    | some p=>vC (st.lo.get p.1) fun l=>vC (C.tys.get t) fun ty=>fK (Nat.ble (p.2+ty.size) (yB l)) (vC (eQ C t l p.2) fun v=>g fun l=>K (v::l))
    | none=>vC (st.tm.get a) fun a=>.light (fun m=>cA C t ⟨0,m⟩ a) fun v=>g fun l=>K (v::l)) l
def endT (C:iA)(fn:Func):KT:=fun st=>resT C st fn.results.toList fun l=>.ret (Gm l)
def An (C:iA)(fn:Func):KtT:=⟨endT C fn,fun _ _=>.fail,endT C fn⟩
structure xE where
 code:oC
 la:List Nat
def entT (C:iA)(fn:Func)(k:Nat)(f:Nat)(A:xE)(args:List zA):T:=qK C A.la f fn.ntmps A.code (An C fn) ⟨⟨k,Tr.ofList args,[]⟩,[],.leaf,[]⟩
def ptsT (C:iA)(fn:Func)(k:Nat)(f:Nat)(A:xE):List PtT:=Ee C A.la f fn.ntmps k A.code (An C fn)
def Gy(l:List PtT)(i:Nat)(vals:List zA):List T:=List.rec (motive:=fun _=>List T) [] (fun p _ g=>bif Nat.beq p.p.id i then p.tree vals::g else g) l
end
section
variable {b d n s ty:Nat}{y:tA}{i x:Operand}{l r:Option zA}{c:Call}{a k m u w:zA}{ok:Bool}
def oD {α:Type}(x:Option α)(P:α->Prop):Prop:=
 match x with
 | some a=>P a
 | none=>False
theorem Be{α:Type}{x:Option α}{P:α->Prop}:oD x P ↔ ∃a,x=some a/\P a:=by
 cases x with
 | none=>simp[oD]
 | some a=>simp[oD]
@[simp] theorem uA {α:Type} {a:α} {P:α->Prop}:oD (some a) P=P a:=rfl
@[simp] theorem optP_none {α:Type} {P:α->Prop}:oD (none:Option α) P=False:=rfl
abbrev mB:=zA->Tr tA->Prop
abbrev eF:=Nat->List zA->Tr tA->mB->Prop
def zmi{α:Type}:List α->Bool | []=>true | _::_=>false
def mL(f:zA)(args:List zA):Option (Nat × List zA):=ob f.asFunc fun p=>match p.1 with
 | .func g=>tB (Nat.blt g pn) (some (g,fD (fD p.2.1 args) p.2.2))
 | .yld l=>tB (zmi p.2.1&&zmi p.2.2) (some (yo+l,args))
def Eb(np:Nat->Bool)(f:zA)(l:Nat):Option (Nat × List zA):=ob f.asFunc fun p=>match p.1 with
 | .func g=>tB (Nat.blt g pn&&np g) (some (g,fD p.2.1 (.func (.yld l) [] []::p.2.2)))
 | .yld _=>none
def intK (k:IntKind)(v:zA):Option Int:=ob v.asIntK fun p=>tB (gN p.1 k) (some p.2)
def eK (zs:List zA)(v:zA):Option sI:=ob v.asAgg fun l=>tB (jT zs l) (some (cellsOf l))
def oA (base:Nat)(W:eF)(J:eF):T->Tr tA->mB->Prop
 | .ret v,t,Q=>Q v t
 | .fail,_,_=>False
 | .ite b x y,t,Q=>if b=true then oA base W J x t Q else oA base W J y t Q
 | .opt x K,t,Q=>oD x fun v=>oA base W J (K v) t Q
 | .light x K,t,Q=>oD (x t) fun v=>oA base W J (K v) t Q
 | .heavy x K,t,Q=>∀b,t.get b=none->base<=b->oD (x ⟨b,t⟩) fun p=>oA base W J (K p.1) p.2.t Q
 | .call f args K,t,Q=>W f args t fun v t'=>oA base W J (K v) t' Q
 | .callv f args K,t,Q=>oD (mL f args) fun p=>W p.1 p.2 t fun v t'=>oA base W J (K v) t' Q
 | .asI k v K,t,Q=>oD (intK k v) fun n=>oA base W J (K n) t Q
 | .asB v K,t,Q=>oD v.asBool fun n=>oA base W J (K n) t Q
 | .asS v K,t,Q=>oD v.asStr fun n=>oA base W J (K n) t Q
 | .asG zs v K,t,Q=>oD (eK zs v) fun X=>oA base W J (K X) t Q
 | .jump i vals,t,Q=>J i vals t Q
 | .range np f i m vals K R,t,Q=>256<=base/\∀l r,t.get l=none->base<=l->r.state=.ready->r.pending=none →
   (∀args t1 Q1,args.length=m->t1.get l=some (.loop r)->J i (vals++args) (t1.del l) (fun v t2=>t2.get l=none->∃b,v=.bool b/\Q1 v (t2.set l (.loop (kP b r))))->W (yo+l) args t1 Q1) →
   oD (Eb np f l) fun p=>W p.1 p.2 (t.set l (.loop r)) fun _ t'=>(t'.get l=some (.loop r)/\oA base W J K (t'.del l) Q)\/(t'.get l=some (.loop (kP false r))/\oA base W J R (t'.del l) Q)
abbrev Xt:=Nat->Option tA
def iI (X Y:Xt):Prop:=∀b y,X b=some y->Y b=some y
theorem iI.refl(X:Xt):iI X X:=fun _ _ h=>h
def iI.trans{X Y Z:Xt}(h:iI X Y)(k:iI Y Z):iI X Z:=fun b y e=>k b y (h b y e)
structure Ov (base:Nat) (t:Tr tA) (X:Xt) (H:xA):Prop where
 base:base<=H.next
 same:∀b,X b=none->H.t.get b=t.get b
 ext:∀b y,X b=some y->H.t.get b=some y/\t.get b=none/\b<H.next
 lt:∀b y,t.get b=some y->b<H.next
def HLe (H H':xA):Prop:=∀b y,H.t.get b=some y->H'.t.get b=some y
def tV(e e':vD):Prop:=∀i v,aY i e=some v->aY i e'=some v
section
variable {base:Nat}{t:Tr tA}{X:Xt}{H HA:xA}{e e':vD}{C:iA}{v:zA}
theorem Ov.notX(h:Ov base t X HA)  (hb:t.get b=some y):X b=none:=by
 cases hx:X b with
 | none=>rfl
 | some z=>have:=(h.ext b z hx).2.1;simp_all
theorem Ov.up(h:Ov base t X HA)  (hb:t.get b=some y):HA.t.get b=some y:=by rw[h.same b (h.notX hb)];exact hb
def Ov.le(h:Ov base t X HA)  : HLe ⟨n,t⟩ HA:=fun _ _ hb=>h.up hb
def Ov.nextX(h:Ov base t X HA):X HA.next=none:=by
 cases hx:X HA.next with
 | none=>rfl
 | some z=>exact absurd (h.ext _ z hx).2.2 (Nat.lt_irrefl _)
def Ov.nextT(h:Ov base t X HA):t.get HA.next=none:=by
 cases hx:t.get HA.next with
 | none=>rfl
 | some z=>exact absurd (h.lt _ z hx) (Nat.lt_irrefl _)
theorem dZ(h:HLe H HA) {p:Tr zA × Nat × Option Lo}(hb:qD H b=some p):qD HA b=some p:=by
 unfold qD at hb ⊢;rw[sA]at hb ⊢;obtain⟨y,h1,h2⟩:=hb;exact⟨y,h _ _ h1,h2⟩
theorem Ii(h:HLe H HA) {p:List (zA × zA)}(hb:nL H b=some p):nL HA b=some p:=by
 unfold nL at hb ⊢;rw[sA]at hb ⊢;obtain⟨y,h1,h2⟩:=hb;exact⟨y,h _ _ h1,h2⟩
theorem xF(h:tV e e') (hx:ev x e=some v):ev x e'=some v:=by
 cases x with
 | tmp i=>exact h i v hx
 | const c=>exact hx
 | global g=>exact hx
 | func f=>exact hx
theorem CV(h:tV e e'){l:List Operand}{vs:List zA}(hx:kO l e=some vs):kO l e'=some vs:=Tg l (fun _ _ k=>xF h k) hx
theorem OD(h:tV e e'){x:Option Operand} (hx:evo x e=some r):evo x e'=some r:=by
 cases x with
 | none=>exact hx
 | some x=>
  have hx:ob (ev x e) (fun v=>some (some v))=some r:=hx
  show ob (ev x e') (fun v=>some (some v))=some r
  grind [sA,xF]
theorem CW(h:tV e e'){l:List (Nat × Operand)}{vs:List (Nat × zA)}(hx:evp l e=some vs):evp l e'=some vs:=
 Tg l (fun a b k=>by grind [sA,xF]) hx
theorem Wp(h:tV e e') {p:zA × zA}(hx:two c e=some p):two c e'=some p:=by
 grind [two,sA,xF]
theorem Ro(h:HLe H HA)  (hx:cA C ty H a=some v):cA C ty HA a=some v:=by
 grind [cA,sA,dZ]
theorem DL(h:HLe H HA){s d:lD} (hx:gT C s d a H=some v):gT C s d a HA=some v:=by
 unfold gT at hx ⊢
 split at hx
 ·omega
 ·rename_i hk
  rw[sB]at hx ⊢
  refine⟨hx.1,?_⟩
  have hx:=hx.2
  rw[rD]at hx ⊢
  split at hx
  all_goals grind [sA,sB,Ib,dZ]
theorem RY(h:HLe H HA)  (hx:eP C s d H a=some v):eP C s d HA a=some v:=by
 grind [eP,sA,DL]
theorem Yz(h:HLe H HA){ty:lD}  (hx:kN C H ty a l r=some v):kN C HA ty a l r=some v:=by
 have row:∀ {arr e b off len cap},zQ C H arr e b off len cap l r=some v->zQ C HA arr e b off len cap l r=some v:=by
  intro arr e b off len cap hx;unfold zQ at hx ⊢
  simp only[sA]at hx ⊢
  obtain⟨a1,h1,b1,h2,hx⟩:=hx
  refine⟨a1,h1,b1,h2,?_⟩
  cases hb:qD H b with
  | none=>
   have e1:lN H b a1.size cap b1.1 arr=false:=by unfold lN;rw[hb]
   have e2:rO H b a1.size cap b1.1 arr=false:=by unfold rO;rw[hb]
   rw[e1,e2,yay,yay]at hx
   cases hx
  | some c=>
   grind [lN,dZ,rO]
 grind [kN,sA]
theorem RU(h:HLe H HA)   (hx:vF C ty H a l r=some v):vF C ty HA a l r=some v:=by
 grind [vF,sA,Yz]
theorem AQ(h:HLe H HA) {l:List (zA × zA)}(hx:lX H m=some l):lX HA m=some l:=by
 grind [lX,Ii]
theorem RX(h:HLe H HA)   (hx:xZ C ty H m k ok=some v):xZ C ty HA m k ok=some v:=by
 unfold xZ at hx ⊢
 simp only[sA,sB]at hx ⊢
 grind [AQ]
theorem BA(h:HLe H HA){ty:lD}  (hx:yW H ty a=some n):yW HA ty a=some n:=by
 unfold yW at hx ⊢
 split at hx
 all_goals grind [sB,sA,Ii]
theorem zag(h:HLe H HA)  (hx:nV C ty H a=some v):nV C ty HA a=some v:=by
 grind [nV,sA,BA]
theorem zdg {a:Operand}:dX ty a C e H=ob (ev a e) fun v=>cA C ty H v:=rfl
theorem zdi   (hx:ev x e=some u):sQ s d x C e H=eP C s d H u:=by simp_all [sQ,eP]
def zig  {lo hi:Option Operand}  (h1:ev x e=some a)(h2:evo lo e=some l)(h3:evo hi e=some r):Bo ty x lo hi C e H=vF C ty H a l r:=by unfold Bo vF;rw[h1,pA,h2,pA,h3,pA]
theorem LI{f:Nat}  (hx:ev x e=some u):aX s x f C e H=tC C s f u:=by
 unfold aX tC Mv;rw[hx]
 cases C.tys.get s with
 | none=>rfl
 | some ty=>
  simp only[pA]
  cases ty.desc.asStruct with
  | none=>rfl
  | some fs=>
   simp only[pA]
   cases tD fs f with
   | none=>rfl
   | some fd=>simp only[pA];cases hb:(!Nat.beq fd.2.2 0)<;>rfl
theorem LC   (hx:ev x e=some u)(hi:ev i e=some w):cX ty x i C e H=uC C ty u w:=by unfold cX uC;rw[hx,hi];rfl
theorem zii   (hx:ev x e=some u)(hi:ev i e=some w):bX ty x i C e H=rI C ty u w:=by unfold bX rI;rw[hx,hi];rfl
theorem zlk  (hx:ev x e=some u):Bq x C e H=Dl u:=by simp_all [Bq,Dl]
theorem WI {i:Nat} (hx:ev x e=some u):zY x i C e H=aI i u:=by simp_all [zY,aI]
theorem lBin_v{op:BinOp} {y:Operand} (hx:ev x e=some u)(hy:ev y e=some w):yY op ty x y C e H=(Cu op).f C ty x y u w:=by simp_all [yY]
theorem zdk {a:Nat}  (hx:ev x e=some u):xY x a ok C e H=Rp C a ok u:=by
 unfold xY Rp;rw[hx];rfl
def zdf    (hx:ev x e=some m)(hi:ev i e=some k):eX ty x i ok C e H=xZ C ty H m k ok:=by unfold eX xZ;rw[hx,hi];rfl
theorem lLen_v    (h1:tD c.argTypes.toList 0=some ty)(h2:tD c.args.toList 0=some x)(hx:ev x e=some u):tR c C e H=nV C ty H u:=by grind [tR,nV,pA]
theorem zje(he:tV e e'){op:Op}(hp:fV op=true\/(∃s d x,op=.convert s d x/\(bH C d=1\/bH C s=2))\/(∃c,op=.call c/\(c.callee=.builtin .max\/c.callee=.builtin .min))){H':xA}(h:(jF op).f C e H=some v):(jF op).f C e' H'=some v:=by
 rcases hp with hp | hp | hp
 ·cases op<;>simp only[fV]at hp<;>try (cases hp;done)
  case move x=>exact xF he h
  case assign x=>exact xF he h
  case pick c a b=>
   have h:ob (ev c e) (fun c=>ob c.asBool fun c=>bif c then ev a e else ev b e)=some v:=h
   show ob (ev c e') (fun c=>ob c.asBool fun c=>bif c then ev a e' else ev b e')=some v
   grind [sA,xF]
  case nilCheck x=>
   have h:ob (ev x e) (fun u=>tB (Nat.beq u.tag 4||Nat.beq u.tag 9) (some u))=some v:=h
   show ob (ev x e') (fun u=>tB (Nat.beq u.tag 4||Nat.beq u.tag 9) (some u))=some v
   grind [sA,xF]
  case binOp op t x y u=>
   have h:yY op t x y C e H=some v:=h
   show yY op t x y C e' H'=some v
   grind [yY,sA,xF]
  case unOp op t x=>
   have h:lUn op x C e H=some v:=h
   show lUn op x C e' H'=some v
   grind [lUn,sA,xF]
  case makeInterface t x=>
   have h:En t x C e H=some v:=h
   show En t x C e' H'=some v
   grind [En,sA,sB,xF]
  case makeFunc fn a b=>
   have h:(Eo fn a b).f C e H=some v:=h
   show(Eo fn a b).f C e' H'=some v
   unfold Eo at h ⊢
   split at h
   ·grind [Kn,sA,CV]
   ·cases h
  case fieldAddr s x f=>
   have h:aX s x f C e H=some v:=h
   show aX s x f C e' H'=some v
   unfold aX at h ⊢
   simp only[sA,sB]at h ⊢
   obtain⟨a,h1,b,h2,c,h3,h4,u,h5,h6⟩:=h
   exact⟨a,h1,b,h2,c,h3,h4,u,xF he h5,h6⟩
  case field t x f=>
   have h:Ep t x f C e H=some v:=h
   show Ep t x f C e' H'=some v
   grind [Ep,sA,xF]
  case indexAddr t x i=>
   have h:cX t x i C e H=some v:=h
   show cX t x i C e' H'=some v
   unfold cX at h ⊢
   simp only[sA]at h ⊢
   grind [xF]
  case index t x i=>
   have h:bX t x i C e H=some v:=h
   show bX t x i C e' H'=some v
   unfold bX at h ⊢
   simp only[sA]at h ⊢
   grind [xF]
  case extract t i=>
   have h:zY t i C e H=some v:=h
   show zY t i C e' H'=some v
   grind [zY,sA,xF]
  case build t ps=>
   have h:lZ t ps C e H=some v:=h
   show lZ t ps C e' H'=some v
   grind [lZ,sA,CW]
  case typeAssert x t u ok=>
   have h:xY x u ok C e H=some v:=h
   show xY x u ok C e' H'=some v
   grind [xY,sA,sB,xF]
 ·obtain⟨s,d,x,rfl,hp⟩:=hp
  have h:sQ s d x C e H=some v:=h
  show sQ s d x C e' H'=some v
  unfold sQ at h ⊢
  simp only[sA]at h ⊢
  obtain⟨u,h1,sy,h2,dy,h3,h4⟩:=h
  refine⟨u,xF he h1,sy,h2,dy,h3,?_⟩
  unfold gT at h4 ⊢
  split at h4
  ·exact h4
  ·rename_i hd
   rw[sB]at h4 ⊢
   refine⟨h4.1,?_⟩
   have h4:=h4.2
   rw[rD]at h4 ⊢
   split at h4
   ·simp_all
   ·rename_i e
    exfalso
    rcases hp with hp | hp
    ·unfold bH at hp
     rw[h3]at hp;have hp:dy.desc.tag=1:=hp
     cases hx:dy.desc<;>rw[hx]at hp hd<;>first
      | (cases hp;done)
      | (cases hd;done)
    ·unfold bH at hp
     rw[h2]at hp;have hp:sy.desc.tag=2:=hp
     simp only[sA]at h4;obtain⟨el,h5,_⟩:=h4
     cases hx:sy.desc<;>rw[hx]at hp h5<;>first
      | (cases hp;done)
      | (cases h5;done)
 ·obtain⟨c,rfl,hc⟩:=hp
  rcases hc with hc | hc
  ·have h:(dU c c.callee).f C e H=some v:=h
   show(dU c c.callee).f C e' H'=some v
   rw[hc]at h ⊢
   have h:fX c C e H=some v:=h
   show fX c C e' H'=some v
   grind [fX,sA,Wp]
  ·have h:(dU c c.callee).f C e H=some v:=h
   show(dU c c.callee).f C e' H'=some v
   rw[hc]at h ⊢
   have h:iX c C e H=some v:=h
   show iX c C e' H'=some v
   grind [iX,sA,Wp]
end
end
section
variable {b d n off ty:Nat}{a u:zA}{l:List zA}{H':xA}{K:zA->T}{op:Op}
section
variable {base:Nat}{t:Tr tA}{X:Xt}{H HA:xA}{e e':vD}{C:iA}{v:zA}
theorem Ov.newBlk(h:Ov base t X HA)(y:tA):Ov base (t.set HA.next y) X (newBlk HA y):=by
 refine⟨Nat.le_succ_of_le h.base,fun b hb=>?_,fun b z hb=>?_,fun b z hb=>?_⟩
 ·show(HA.t.set HA.next y).get b=_
  rw[Tr.get_set,Tr.get_set];split
  ·rfl
  ·exact h.same b hb
 ·obtain⟨h1,h2,h3⟩:=h.ext b z hb
  have hne:b≠HA.next:=Nat.ne_of_lt h3
  refine⟨?_,?_,Nat.lt_succ_of_lt h3⟩
  ·show(HA.t.set HA.next y).get b=_
   grind [Tr.get_set]
  grind [Tr.get_set]
 ·rw[Tr.get_set]at hb
  show b<HA.next+1
  split at hb
  ·omega
  ·exact Nat.lt_succ_of_lt (h.lt _ _ hb)
theorem Ov.setBlk(h:Ov base t X HA){b:Nat}{y:tA}(hb:t.get b=some y)(z:tA):Ov base (t.set b z) X (setBlk HA b z):=by
 refine⟨h.base,fun c hc=>?_,fun c u hc=>?_,fun c u hc=>?_⟩
 ·show(HA.t.set b z).get c=_
  rw[Tr.get_set,Tr.get_set];split
  ·rfl
  ·exact h.same c hc
 ·obtain⟨h1,h2,h3⟩:=h.ext c u hc
  have hne:c≠b:=fun e=>by simp_all
  refine⟨?_,?_,h3⟩
  ·show(HA.t.set b z).get c=_
   grind [Tr.get_set]
  grind [Tr.get_set]
 ·rw[Tr.get_set]at hc
  show c<HA.next
  split at hc
  ·rename_i e;rw[e];exact h.lt _ _ hb
  ·exact h.lt _ _ hc
theorem Ov.delBlk(h:Ov base t X HA) {y:tA}(hb:t.get b=some y):Ov base (t.del b) X ⟨HA.next,HA.t.del b⟩:=by
 refine⟨h.base,fun c hc=>?_,fun c u hc=>?_,fun c u hc=>?_⟩
 ·show(HA.t.del b).get c=_
  rw[Tr.get_del,Tr.get_del];split
  ·rfl
  ·exact h.same c hc
 ·obtain⟨h1,h2,h3⟩:=h.ext c u hc
  grind [Tr.get_del]
 ·rw[Tr.get_del]at hc
  show c<HA.next
  split at hc
  ·cases hc
  ·exact h.lt _ _ hc
def vV (base:Nat)(x:xA->Option (zA × xA)):Prop:=∀t X HA v H',Ov base t X HA->x ⟨HA.next,t⟩=some (v,H')->∃HA',x HA=some (v,HA')/\Ov base H'.t X HA'
theorem Bh(l:List zA)(lo:Option Lo)(h:Ov base t X HA):Ov base (rF ⟨HA.next,t⟩ l lo).t X (rF HA l lo):=h.newBlk _
theorem zaj  : vV base (iL C ty):=by
 intro t X HA v H' ho h;unfold iL at h ⊢
 rw[sA]at h;obtain⟨y,h1,h2⟩:=h
 cases h2;simp_all [Bh]
def znj  : vV base (jL u):=by
 intro t X HA v H' ho h
 cases h;exact⟨_,rfl,Bh _ _ ho⟩
theorem SC  : vV base (Rq C ty):=by
 intro t X HA v H' ho h;unfold Rq at h ⊢
 rw[sA]at h;obtain⟨y,h1,h3⟩:=h
 grind [pA,Bh]
theorem zga   : vV base (Jg C ty u):=by
 intro t X HA v H' ho h;grind [Jg,Bh]
theorem RZ {ps:List (Nat × zA)}:vV base (tE C ty n ps):=by
 intro t X HA v H' ho h;unfold tE at h ⊢
 simp only[sA,sB]at h;obtain⟨a,h1,b,h2,c,h3,h4,l,h5,h6⟩:=h
 grind [Bh,sA,sB]
theorem Yq(ho:Ov base t X HA)   (h:sJ C ⟨HA.next,t⟩ b off l=some H'):∃HA',sJ C HA b off l=some HA'/\Ov base H'.t X HA':=by
 unfold sJ at h ⊢
 simp only[sA,sB]at h;obtain⟨h1,c,h2,h3,h4⟩:=h
 cases h4;have h2':=h2
 unfold qD at h2';rw[sA]at h2'
 obtain⟨y,h5,_⟩:=h2'
 refine⟨_,?_,ho.setBlk h5 _⟩
 simp only[sA,sB];exact⟨h1,c,dZ ho.le h2,h3,rfl⟩
theorem zaf   : vV base (mC C ty a u):=by
 intro t X HA v H' ho h;unfold mC at h ⊢
 simp only[sA,sB]at h;obtain⟨y,h1,p,h2,h3,H1,h4,h5⟩:=h
 grind [Yq,sA,sB]
def RW:vV base Rn:=by
 intro t X HA v H' ho h
 cases h;exact⟨_,rfl,ho.newBlk _⟩
def EU {m k:zA}:vV base (rU C ty m k u):=by
 intro t X HA v H' ho h;unfold rU at h ⊢
 simp only[sA,sB]at h;obtain⟨a,h1,b,h2,c,h3,h4,d,h5,h6,l,h7,h8,l',h9,h10⟩:=h
 cases h10;have h7':=h7
 unfold nL at h7';rw[sA]at h7'
 obtain⟨y,h11,_⟩:=h7'
 refine⟨_,?_,ho.setBlk h11 _⟩
 simp only[sA,sB];exact⟨a,h1,b,h2,c,h3,h4,d,h5,h6,l,Ii ho.le h7,h8,l',h9,rfl⟩
def zfp(ho:Ov base t X HA){e:RE} (h:Cx C ⟨HA.next,t⟩ e=some H'):∃HA',Cx C HA e=some HA'/\Ov base H'.t X HA'/\HA'.next=HA.next/\H'.next=HA.next:=by
 obtain⟨x,y,h1,h2,rfl⟩:=Qo.1 h
 exact⟨setBlk HA e.blk y,Qo.2 ⟨x,y,ho.up h1,h2,rfl⟩,ho.setBlk h1 _,rfl,rfl⟩
theorem QJ:∀ {l:List RE} {t:Tr tA} {HA:xA} {H':xA},Ov base t X HA->Im C l ⟨HA.next,t⟩=some H'->∃HA',Im C l HA=some HA'/\Ov base H'.t X HA'
 | [],t,HA,H',ho,h=>by cases h;exact⟨HA,rfl,ho⟩
 | e::l,t,HA,H',ho,h=>by
  unfold Im at h ⊢
  rw[sA]at h;obtain⟨H1,h1,h⟩:=h
  obtain⟨HA1,g1,g2,g3,g4⟩:=zfp ho h1
  rw[g1,pA];obtain⟨n1,t1⟩:=H1
  have g4:n1=HA.next:=g4
  subst g4;rw[<- g3]at h;exact QJ g2 h
theorem zby(ho:Ov base t X HA){e:RE}(h:Jw C ⟨HA.next,t⟩ e=true):Jw C HA e=true:=by
 cases e with
 | st b off l=>
  change (!rE (sJ C ⟨HA.next,t⟩ b off l))=true at h
  show(!rE (sJ C HA b off l))=true
  cases hs:sJ C ⟨HA.next,t⟩ b off l with
  | none=>rw[hs]at h;cases h
  | some H'=>obtain⟨HA',g,_⟩:=Yq ho hs;rw[g];rfl
 | up b k v=>
  unfold Jw at h ⊢
  rw[ybb]at h ⊢
  refine⟨h.1,?_⟩
  have h2:=h.2
  split at h2
  ·rename_i hm;rw[Ii ho.le hm]
  grind
theorem zai{es:List wO}:vV base (Jf C es):=by
 intro t X HA v H' ho h;grind [Jf,Cb,sA,sB,QJ,mI,zby]
theorem RV {l c:zA}:vV base (fP C ty l c):=by
 intro t X HA v H' ho h;unfold fP at h ⊢
 simp only[sA,sB]at h;obtain⟨a,h1,b,h2,d,h3,n,h4,m,h5,h6,h7⟩:=h
 grind [Bh,sA,sB]
theorem RS{s:Nat}  : vV base (Wk C s d u):=by
 intro t X HA v H' ho h;unfold Wk at h ⊢
 simp only[sA,sB]at h;obtain⟨a,h1,b,h2,c,h3,et,h4,k,h5,h6,l,h7,h8⟩:=h
 cases h8;refine⟨rF HA (eZ l) (some (.ty c)),?_,Bh _ _ ho⟩
 grind [sA,sB]
theorem WX(h:HLe H HA){sz:Nat}  (hx:oW H sz n u=some l):oW HA sz n u=some l:=by
 grind [oW,sA,dZ]
theorem ZR(ho:Ov base t X HA){ty:lD}{b:zA} (h:Aa C ⟨HA.next,t⟩ ty a b=some (v,H')):∃HA',Aa C HA ty a b=some (v,HA')/\Ov base H'.t X HA':=by
 unfold Aa at h;simp only[sA]at h;obtain⟨el,h1,et,h2,n,h3,new,h4,h5⟩:=h
 have h4':=WX ho.le h4
 suffices hs:∃HA',(match a.asSlice with
  | some s=>bif Nat.ble (s.2.2.1+n) s.2.2.2 then Bx C HA et n new s else Ca C HA el et n new s
  | none=>tB (Nat.beq a.tag 5) (jZ HA el et n new))=some (v,HA')/\Ov base H'.t X HA' by
  grind [Aa,sA]
 cases hs:a.asSlice with
 | some s=>
  rw[hs]at h5;simp only[]at h5 ⊢
  rw[rD]at h5;split at h5
  ·rename_i hr
   simp only[hr,cond_true];unfold Bx at h5 ⊢
   grind [sA,Yq]
  ·rename_i hr
   simp only[Bool.not_eq_true]at hr;simp only[hr,cond_false];unfold Ca at h5 ⊢
   rw[sB]at h5;obtain⟨gm,h5⟩:=h5
   rw[sB]at h5;obtain⟨g0,h5⟩:=h5
   rw[sA]at h5;obtain⟨c,g1,h5⟩:=h5
   have g1':=dZ ho.le g1
   unfold qD at g1;rw[sA]at g1;obtain⟨y,g2,_⟩:=g1
   split at h5
   ·rename_i hc
    unfold Kv at h5;rw[sA]at h5;obtain⟨old,g3,g4⟩:=h5
    grind [Bh,sB,sA,Kv]
   ·rename_i es hc
    unfold Kw at h5;rw[sB]at h5;obtain⟨g3,g4⟩:=h5
    cases g4
    refine⟨⟨HA.next+1,(HA.t.del s.1).set HA.next (.cells (c.1.setMany new (s.2.2.1*et.size)) ((s.2.2.1+n)*et.size) (some es))⟩,?_,(ho.delBlk g2).newBlk _⟩
    grind [sB,sA,Kw]
 | none=>
  grind [sB,jZ,Bh]
theorem SA{u:Nat}{b:zA}:vV base (sH C ty u a b):=by
 intro t X HA v H' ho h;grind [sH,sA,sB,ZR]
end
def Mf(ν:Nat->Nat)(ae:yP)(e:vD):Prop:=∀i p,tAd ae i=some p->aY i e=some (.ptr (ν p.1) p.2)
def Qz(base:Nat)(X0 X:Xt)(ν:Nat->Nat)(lo:Tr (List zA)):Prop:=∀d l,lo.get d=some l->X0 (ν d)=none/\base<=ν d/\∃c,X (ν d)=some (.cells c l.length none)/\∀j a,l[j]?=some a->c.get j=some a
theorem kE{base:Nat}{W J:eF}{α:Type}{x:Option α}{K:α->T}{t:Tr tA}{Q:mB}:oA base W J (vC x K) t Q ↔ ∃a,x=some a/\oA base W J (K a) t Q:=by
 cases x with
 | none=>exact⟨fun h=>(by cases h),fun⟨_,h,_⟩=>(by cases h)⟩
 | some a=>exact⟨fun h=>⟨a,rfl,h⟩,fun⟨_,h,k⟩=>(by cases h;exact k)⟩
def wP{base:Nat}{W J:eF}{b:Bool}{K:T}{t:Tr tA}{Q:mB}:oA base W J (fK b K) t Q ↔ b=true/\oA base W J K t Q:=by
 cases b with
 | false=>exact⟨fun h=>(by cases h),fun⟨h,_⟩=>(by cases h)⟩
 | true=>exact⟨fun h=>⟨rfl,h⟩,fun⟨_,h⟩=>h⟩
theorem zZ{base:Nat}{W J:eF}{x:Option zA} {t:Tr tA}{Q:mB}:oA base W J (.opt x K) t Q ↔ ∃a,x=some a/\oA base W J (K a) t Q:=Be
def Ix{base:Nat}{W J:eF}{x:Tr tA->Option zA} {t:Tr tA}{Q:mB}:oA base W J (.light x K) t Q ↔ ∃a,x t=some a/\oA base W J (K a) t Q:=Be
theorem Fz{ν:Nat->Nat}{ae:yP}{e:vD}(h:Mf ν ae e){x:Operand}{p:Nat × Nat}(hx:xAd ae x=some p):ev x e=some (.ptr (ν p.1) p.2):=by
 cases x with
 | tmp i=>exact h i p hx
 | const _=>cases hx
 | global _=>cases hx
 | func _=>cases hx
theorem zcr{c:Tr zA} (h:∀j a,l[j]?=some a->c.get j=some a):∀(n off:Nat),off+n<=l.length->c.many n off=some ((l.drop off).take n):=by
 intro n;induction n with
 | zero=>intro off _;simp;rfl
 | succ n ih=>
  intro off ho;have hlt:off<l.length:=by omega
  rw[Tr.many_succ,h off l[off] (ybd hlt),pA,ih (off+1) (by omega),pA]
  rw[ybl hlt,List.take_succ_cons]
section
variable {W J:eF}{t:Tr tA}{X X0:Xt}{HA:xA}{e eA:vD}{C:iA}{ν:Nat->Nat}{ae:yP}{lo:Tr (List zA)}{k:oN}{Q:mB}{R:zA->Prop}
theorem KI(ho:Ov C.base t X HA)(hl:Qz C.base X0 X ν lo)  {y:lD}{v:zA}(h1:lo.get d=some l)(h2:C.tys.get ty=some y)(h3:Nat.ble (off+y.size) (yB l)=true)(h4:eQ C ty l off=some v) :
  cA C ty HA (.ptr (ν d) off)=some v:=by
 obtain⟨_,_,c,hc,hg⟩:=hl d l h1
 have hb:=(ho.ext _ _ hc).1
 unfold cA;simp only[zA.asPtr,pA];rw[h2,pA];grind [qD,pA,tA.asCells,eQ,wT,aE,kD,zcr,xT,vR,bG]
theorem oU(he:tV e eA) (hp:fV op=true\/(∃s d x,op=.convert s d x/\(bH C d=1\/bH C s=2))\/(∃c,op=.call c/\(c.callee=.builtin .max\/c.callee=.builtin .min)))
  (h:oA C.base W J (iS C op e k) t Q) (hKd:∀v,oA C.base W J (k.Kd v) t Q->R v):∃v,(jF op).f C eA HA=some v/\R v:=by
 grind [iS,kE,zje]
theorem zah {v:zA}{H:xA}(ht:bH C ty=4)(h:pC u=some v):nV C ty H u=some v:=by
 unfold bH at ht
 cases hy:C.tys.get ty with
 | none=>simp_all
 | some y=>
  rw[hy]at ht;have ht:y.desc.tag=4:=ht
  unfold nV;rw[hy,pA];unfold pC at h;unfold yW
  cases u<;>simp only[zA.asSlice,zA.asStr,zA.asMap,zA.tag]at h ⊢ <;> (try (rw[sB]at h;exact absurd h.1 (by decide)))
  case nilslice=>
   rw[sB]at h;have hn:y.desc.asArr=none:=by cases hd:y.desc<;>rw[hd]at ht<;>first | rfl | (cases ht;done)
   simp_all [sA,sB]
  simp_all [sA,sB]
theorem zdw {v:zA}{H:xA}(ht:bH C ty≠6)(h:nV C ty H u=some v):nV C ty H' u=some v:=by
 unfold nV at h ⊢
 simp only[sA]at h ⊢
 obtain⟨y,h1,n,h2,h3⟩:=h
 refine⟨y,h1,n,?_,h3⟩
 have ht:¬ Nat.beq y.desc.tag 6=true:=by
  grind [bH,gC]
 unfold yW at h2 ⊢
 split at h2
 all_goals grind [sB]
theorem zbd {v:zA}{l h:Option zA}{H:xA}(ht:bH C ty=2)(hx:vF C ty H a l h=some v):vF C ty H' a l h=some v:=by
 unfold vF at hx ⊢
 rw[sA]at hx ⊢
 obtain⟨y,h1,h2⟩:=hx
 refine⟨y,h1,?_⟩
 unfold bH at ht;rw[h1]at ht;have ht:y.desc.tag=2:=ht
 unfold kN at h2 ⊢
 have n1:y.desc.asSlice=none:=by cases hd:y.desc<;>rw[hd]at ht<;>first | rfl | (cases ht;done)
 have n2:y.desc.asArr=none:=by cases hd:y.desc<;>rw[hd]at ht<;>first | rfl | (cases ht;done)
 simp_all
theorem AC (h:zA.one u=true):u.cells=[u]:=by
 cases u<;>first
  | rfl
  | (have:=qC.1 h;grind [zA.tag])
theorem XE{tyAt:Nat->Option Nat}(place:Nat->Option (Nat × Nat)):∀(vs:List (Nat × zA)) {q:List (Nat × zA × List zA) × List zA},Zv C tyAt vs=some q->sD zA.one q.2=true->∀cells l,zi6 place q.1 cells=some l->vM place vs cells=some l:=by
 intro vs;induction vs with
 | nil=>intro q h _ cells l hl;cases h;exact hl
 | cons p vs ih=>
  intro q h h1 cells l hl;have h:(ob (tyAt p.1) fun t=>ob (C.tys.get t) fun ty=>ob (Zv C tyAt vs) fun r=>some (bif ty.desc.isAgg then((p.1,p.2,p.2.cells)::r.1,r.2)else((p.1,p.2,[p.2])::r.1,p.2::r.2)))=some q:=h
  simp only[sA]at h;obtain⟨ty,_,y,_,r,h3,h4⟩:=h
  have jH:∀(rest:List zA),sD zA.one r.2=true->(ob (place p.1) fun q=>ob (zp1 cells q.1 q.2 p.2.cells) fun cells=>zi6 place r.1 cells)=some l->vM place (p::vs) cells=some l:=by
   intro _ hr hl;show(ob (place p.1) fun q=>ob (nW cells q.1 q.2 p.2) fun cells=>vM place vs cells)=some l
   simp only[sA]at hl ⊢
   obtain⟨a,g1,b,g2,g3⟩:=hl
   exact⟨a,g1,b,g2,ih h3 hr _ _ g3⟩
  cases hb:y.desc.isAgg with
  | true=>
   rw[hb]at h4
   cases h4;exact jH [] h1 hl
  | false=>
   rw[hb]at h4
   cases h4;simp_all [mI,zi6,AC]
theorem zny(he:tV e eA)(ha:Mf ν ae eA)(ho:Ov C.base t X HA)(hl:Qz C.base X0 X ν lo) (h:oA C.base W J (tL C op e ae lo k) t Q)
  (hK:∀v,oA C.base W J (k.K v) t Q->R v) (hKd:∀v,oA C.base W J (k.Kd v) t Q->R v) (hKA:∀d off,oA C.base W J (k.KA d off) t Q->R (.ptr (ν d) off)) :
  ∃v,(jF op).f C eA HA=some v/\R v:=by
 cases op<;>simp only[tL]at h<;>try (cases h;done)
 case move x=>
  unfold zgo at h;split at h
  ·rename_i p hp
   exact⟨_,Fz ha hp,hKA _ _ h⟩
  ·exact oU he (.inl rfl) h hKd
 case assign x=>
  unfold zgo at h;split at h
  ·rename_i p hp
   exact⟨_,Fz ha hp,hKA _ _ h⟩
  ·exact oU he (.inl rfl) h hKd
 case pick c a b=>exact oU he (.inl rfl) h hKd
 case load ty a=>
  unfold tLoad at h;split at h
  ·rename_i p hp
   simp only[kE,wP]at h;obtain⟨l,h1,y,h2,h3,v,h4,h5⟩:=h
   refine⟨v,?_,hKd v h5⟩
   show dX ty a C eA HA=some v
   grind [zdg,Fz,pA,KI]
  ·rw[kE]at h
   obtain⟨u,h1,h2⟩:=h
   rw[Ix]at h2;obtain⟨v,h3,h4⟩:=h2
   refine⟨v,?_,hK v h4⟩
   show dX ty a C eA HA=some v
   rw[zdg,xF he h1,pA];exact Ro ho.le h3
 case nilCheck x=>
  unfold tNil at h;split at h
  ·rename_i p hp
   refine⟨_,?_,hKA _ _ h⟩
   show Bq x C eA HA=_
   rw[zlk (Fz ha hp)];rfl
  ·rw[kE]at h
   obtain⟨u,h1,h2⟩:=h
   rw[zZ]at h2;obtain⟨v,h3,h4⟩:=h2
   refine⟨v,?_,hK v h4⟩
   show Bq x C eA HA=_
   grind [zlk,xF]
 case binOp op ty x y u=>
  unfold tBin at h;rw[rD]at h;split at h
  ·exact oU he (.inl rfl) h hKd
  ·simp only[kE,zZ]at h
   obtain⟨a,h1,b,h2,v,h3,h4⟩:=h
   refine⟨v,?_,hK v h4⟩
   show yY op ty x y C eA HA=_
   grind [lBin_v,xF]
 case unOp o ty x=>
  split at h
  ·simp only[kE,zZ]at h
   obtain⟨u,h1,v,h2,h3⟩:=h
   refine⟨v,?_,hK v h3⟩
   show lUn .xor x C eA HA=_
   unfold lUn;rw[xF he h1];exact h2
  ·exact oU he (.inl rfl) h hKd
 case convert s d x=>
  unfold zn0 at h;rw[rD]at h;split at h
  ·rename_i hd
   rw[rD]at h;split at h
   ·rename_i hs
    exact oU he (.inr (.inl ⟨s,d,x,rfl,.inr (gC.1 hs)⟩)) h hKd
   ·simp only[kE,Ix]at h
    obtain⟨u,h1,v,h2,h3⟩:=h
    refine⟨v,?_,hK v h3⟩
    show sQ s d x C eA HA=_
    rw[zdi (xF he h1)];exact RY ho.le h2
  ·rw[rD]at h
   split at h
   ·rename_i hd
    exact oU he (.inr (.inl ⟨s,d,x,rfl,.inl (gC.1 hd)⟩)) h hKd
   ·cases h
 case makeInterface ty x=>exact oU he (.inl rfl) h hKd
 case makeFunc fn a b=>exact oU he (.inl rfl) h hKd
 case slice ty x lo' hi mx=>
  cases mx with
  | some _=>cases h
  | none=>
   simp only[zkl,kE]at h;obtain⟨a,h1,l,h2,r,h3,h4⟩:=h
   rw[rD]at h4;show ∃v,Bo ty x lo' hi C eA HA=some v/\R v
   rw[zig (xF he h1) (OD he h2) (OD he h3)]
   split at h4
   ·grind [zZ,zbd,gC]
   ·rw[Ix]at h4
    obtain⟨v,h5,h6⟩:=h4
    exact⟨v,RU ho.le h5,hK v h6⟩
 case fieldAddr s x f=>
  unfold FU at h;show ∃v,aX s x f C eA HA=some v/\R v
  split at h
  ·rename_i p hp
   rw[kE]at h;obtain⟨o,h1,h2⟩:=h
   refine⟨_,?_,hKA _ _ h2⟩
   rw[LI (Fz ha hp)]
   unfold tC;rw[h1];rfl
  grind [kE,zZ,LI,xF]
 case field ty x f=>exact oU he (.inl rfl) h hKd
 case indexAddr ty x i=>
  unfold FS at h;show ∃v,cX ty x i C eA HA=some v/\R v
  split at h
  ·rename_i p hp
   simp only[kE]at h;obtain⟨iv,h1,n,h2,o,h3,h4⟩:=h
   refine⟨_,?_,hKA _ _ h4⟩
   rw[LC (Fz ha hp) (xF he h1)]
   unfold EV at h3;simp only[sA,sB]at h3;obtain⟨y,g1,a,g2,et,g3,g4,g5⟩:=h3
   cases g5
   unfold uC;rw[g1,pA,h2,pA];simp only[zA.asSlice,zA.asPtr,pA];rw[g2,pA,g3,pA,g4];rfl
  grind [kE,zZ,LC,xF]
 case index ty x i=>
  rw[rD]at h;split at h
  ·exact oU he (.inl rfl) h hKd
  ·simp only[kE,zZ]at h
   obtain⟨u,h1,w,h2,v,h3,h4⟩:=h
   refine⟨v,?_,hK v h4⟩
   show bX ty x i C eA HA=_
   grind [zii,xF]
 case lookup ty x i ok=>
  simp only[kE,Ix]at h;obtain⟨m,h1,key,h2,v,h3,h4⟩:=h
  refine⟨v,?_,hK v h4⟩
  show eX ty x i ok C eA HA=_
  rw[zdf (xF he h1) (xF he h2)];exact RX ho.le h3
 case extract x i=>
  simp only[kE,zZ]at h;obtain⟨u,h1,v,h2,h3⟩:=h
  refine⟨v,?_,hK v h3⟩
  show zY x i C eA HA=_
  grind [WI,xF]
 case typeAssert x a u ok=>
  simp only[kE,zZ]at h;obtain⟨w,h1,v,h2,h3⟩:=h
  refine⟨v,?_,hK v h3⟩
  show xY x u ok C eA HA=_
  grind [zdk,xF]
 case build ty ps=>
  unfold zkn at h;simp only[kE,wP]at h;obtain⟨y,h1,hbd,vs,h2,q,h3,l,h4,h5⟩:=h
  have h5:if sD zA.one q.2=true then oA C.base W J (k.Kd (.agg l)) t Q else False:=h5
  split at h5
  ·rename_i hone
   refine⟨_,?_,hKd _ h5⟩
   show lZ ty ps C eA HA=_
   have hf:=XE (Ka C y) vs h3 hone y.zero l h4
   unfold lZ;rw[h1,pA,CW he h2,pA]
   cases hs:y.desc.asStruct with
   | some fs=>
    simp only[];have:(fun i=>ob (tD fs i) fun x=>some (x.1,x.2.2))=Ka C y:=by funext i;unfold Ka;rw[hs]
    simp_all
   | none=>
    simp only[];unfold QB at hbd;rw[hs]at hbd;simp only[]at hbd
    cases ha:y.desc.asArr with
    | none=>simp_all
    | some a=>
     rw[ha]at hbd;simp only[]at hbd
     cases hy:C.tys.get a.2 with
     | none=>simp_all
     | some et=>
      simp only[pA];have:(fun i=>some (i*et.size,et.size))=Ka C y:=by funext i;unfold Ka;rw[hs];simp only[];rw[ha,pA,hy,pA]
      simp_all
  simp_all
 case call c=>
  split at h
  ·rename_i b hb
   cases b<;>simp only[Nf]at h<;>try (cases h;done)
   case len=>
    unfold tLen at h;simp only[kE]at h;obtain⟨ty,h1,x,h2,u,h3,h4⟩:=h
    show ∃v,(dU c c.callee).f C eA HA=some v/\R v
    rw[hb];show ∃v,tR c C eA HA=some v/\R v
    rw[lLen_v h1 h2 (xF he h3)]
    rw[rD]at h4;split at h4
    ·grind [zZ,zah,gC]
    ·rw[rD]at h4
     split at h4
     ·rw[Ix]at h4
      obtain⟨v,h5,h6⟩:=h4
      exact⟨v,zag ho.le h5,hK v h6⟩
     grind [kE,zdw,gC]
   case max=>exact oU he (.inr (.inr ⟨c,rfl,.inl hb⟩)) h hKd
   case min=>exact oU he (.inr (.inr ⟨c,rfl,.inr hb⟩)) h hKd
  ·cases h
end
end
section
variable {base f l:Nat}{args:List zA}{H:xA}{d:iB}{u v:zA}{op:Op}{kd:zA->xA->iB}{φ:dE}{K:zA->T}{la:List Nat}{dst:Option Nat}
def Co(C:iA)(A:Tr oC)(f:Nat)(args:List zA)(H:xA):iB:=
 bif Nat.blt f yo then
  match C.prims.get f with
  | some g=>ob (g args H) fun p=>some (⟨p.1,false⟩,p.2)
  | none=>zD C A (.func f) args H
 else zD C A (.yld (f-yo)) args H
theorem Ie{C:iA}{A:Tr oC}   (h:Nat.blt f yo=true):Co C A f args H=(match C.prims.get f with
  | some g=>ob (g args H) fun p=>some (⟨p.1,false⟩,p.2)
  | none=>zD C A (.func f) args H):=by grind [Co]
theorem PW{C:iA}{A:Tr oC}    : Co C A (yo+l) args H=zD C A (.yld l) args H:=by
 unfold Co;have:Nat.blt (yo+l) yo=false:=Bool.eq_false_iff.2 fun e=>by grind [qC]
 simp_all
def qJ:mB:=fun _ _=>False
def zC (base:Nat)(X0:Xt)(E Q:mB)(d:iB):Prop:=∃o t' HA' X',d=some (o,HA')/\Ov base t' X' HA'/\iI X0 X'/\if o.p=true then E o.v t' else Q o.v t'
theorem zC.mono {X0:Xt}{E Q E' Q':mB} (h:zC base X0 E Q d)(k:∀v t,Q v t->Q' v t)(k':∀v t,E v t->E' v t:=by exact fun _ _ h=>h):zC base X0 E' Q' d:=by
 obtain⟨o,t',HA',X',h1,h2,h3,h4⟩:=h
 refine⟨o,t',HA',X',h1,h2,h3,?_⟩
 grind
theorem pP {X0:Xt}{Q:mB}  : zC base X0 qJ Q d ↔ ∃v t' HA' X',d=some (⟨v,false⟩,HA')/\Ov base t' X' HA'/\iI X0 X'/\Q v t':=by
 constructor
 ·rintro⟨⟨v,p⟩,t',HA',X',h1,h2,h3,h4⟩
  cases p with
  | true=>exact h4.elim
  | false=>grind
 ·rintro⟨v,t',HA',X',h1,h2,h3,h4⟩
  exact⟨_,t',HA',X',h1,h2,h3,h4⟩
structure kQ (C:iA) (A:Tr oC) (E:mB) (W:eF):Prop where
 fn:∀f args t R,Nat.blt f pn=true->W f args t R->∀X HA,Ov C.base t X HA->zC C.base X E R (Co C A f args HA)
 rd:∀l args t R,W (yo+l) args t R->∀X HA,Ov C.base t X HA->zC C.base X qJ R (Co C A (yo+l) args HA)
 raise:∀args t R,W pn args t R->∃v,args=[v]/\E v t
section
variable {W J:eF}{t:Tr tA}{X X0:Xt}{HA:xA}{e eA:vD}{C:iA}{A:Tr oC}{ν:Nat->Nat}{ae:yP}{lo:Tr (List zA)}{k:oN}{kl:KLo}{Q E:mB}
def kM{f:eJ}  (h:f C e H=some v):lv f C e H=.val v H:=by unfold lv;rw[h]
def zfr   (h:(jF op).f C e H=some v):(eE op).f C e H=.val v H:=by
 cases op
 case move x=>exact kM h
 case assign x=>exact kM h
 case pick c a b=>exact kM h
 case load t a=>exact kM h
 case nilCheck x=>exact kM h
 case binOp op t x y u=>exact kM h
 case unOp op t x=>exact kM h
 case makeInterface t x=>exact kM h
 case makeFunc fn a b=>exact kM h
 case slice t x lo hi mx=>exact kM h
 case fieldAddr s x f=>exact kM h
 case field t x f=>exact kM h
 case indexAddr t x i=>exact kM h
 case index t x i=>exact kM h
 case extract t i=>exact kM h
 case build t ps=>exact kM h
 case typeAssert x t u ok=>exact kM h
 case lookup t x i ok=>exact kM h
 case convert s d x=>
  show kZ s d x C e H=_
  have h:sQ s d x C e H=some v:=h
  unfold kZ;rw[h]
 case call c=>
  have h:(dU c c.callee).f C e H=some v:=h
  show(Ks c c.callee).f C e H=_
  cases hc:c.callee with
  | value f=>rw[hc]at h;cases h
  | invoke a b=>rw[hc]at h;cases h
  | builtin b=>
   rw[hc]at h
   cases b
   case len=>exact kM (f:=tR c) h
   case max=>exact kM (f:=fX c) h
   case min=>exact kM (f:=iX c) h
   all_goals exact absurd (show(none:Option zA)=some v from h) (by simp)
 all_goals exact absurd (show(none:Option zA)=some v from h) (by simp)
def Ea{x:Option (zA × xA)} {H':xA}  (h:x=some (v,H')):nG φ (dL x) HA kd=kd v H':=by subst h;rfl
theorem qW(ho:Ov C.base t X HA){x:xA->Option (zA × xA)}(hx:vV C.base x) (h:oA C.base W J (.heavy x K) t Q)
  (hK:∀v t' HA' X',Ov C.base t' X' HA'->iI X X'->oA C.base W J (K v) t' Q->zC C.base X0 E Q (kd v HA')) {r:sK} (hr:∀p,x HA=some p->nG φ r HA kd=kd p.1 p.2):zC C.base X0 E Q (nG φ r HA kd):=by
 have h:=h HA.next ho.nextT ho.base
 rw[Be]at h;obtain⟨⟨v,H'⟩,h1,h2⟩:=h
 obtain⟨HA',h3,h4⟩:=hx _ _ _ _ _ ho h1
 grind [iI.refl]
theorem zmy (h:Nat.blt f pn=true):Nat.blt f yo=true/\f≠pn:=by
 grind [qC,pn,yo]
def DN(hW:kQ C A E W)(ho:Ov C.base t X HA)(hX:iI X0 X) (hf:Nat.blt f pn=true)  (h:W f args t fun v t'=>oA C.base W J (K v) t' Q)
  (hK:∀v t' HA' X',Ov C.base t' X' HA'->iI X X'->oA C.base W J (K v) t' Q->zC C.base X0 E Q (kd v HA')):zC C.base X0 E Q (nG (zD C A) (Li C HA args f (C.prims.get f)) HA kd):=by
 obtain⟨hf1,hf2⟩:=zmy hf
 obtain⟨⟨v,p⟩,t',HA',X',h1,h2,h3,h4⟩:=hW.fn _ _ _ _ hf h X HA ho
 rw[Ie hf1]at h1;unfold Li
 cases hp:C.prims.get f with
 | some g=>
  rw[hp]at h1;rw[sA]at h1;obtain⟨q,h1,h5⟩:=h1
  cases h5;simp only[h1];exact hK _ _ _ _ h2 h3 h4
 | none=>
  rw[hp]at h1;have h1:zD C A (.func f) args HA=some (⟨v,p⟩,HA'):=h1
  show zC C.base X0 E Q (ob (zD C A (.func f) args HA) fun p=>bif p.1.p then some p else kd p.1.v p.2)
  rw[h1]
  cases p with
  | true=>exact⟨_,t',HA',X',rfl,h2,fun b y hb=>h3 b y (hX b y hb),h4⟩
  | false=>exact hK _ _ _ _ h2 h3 h4
def zhb(hW:kQ C A E W)(ho:Ov C.base t X HA)   (h:W (yo+l) args t fun v t'=>oA C.base W J (K v) t' Q)
  (hK:∀v t' HA' X',Ov C.base t' X' HA'->iI X X'->oA C.base W J (K v) t' Q->zC C.base X0 E Q (kd v HA')):zC C.base X0 E Q (nG (zD C A) (.round l args) HA kd):=by
 have h0:=hW.rd _ _ _ _ h X HA ho
 rw[pP]at h0;obtain⟨v,t',HA',X',h1,h2,h3,h4⟩:=h0
 rw[PW]at h1;show zC C.base X0 E Q (ob (zD C A (.yld l) args HA) fun p=>tB (!p.1.p) (kd p.1.v p.2))
 rw[h1];exact hK _ _ _ _ h2 h3 h4
theorem Ov.setX (h:Ov base t X HA){b:Nat}{y:tA}(hb:X b=some y)(z:tA):Ov base t (fun c=>if c=b then some z else X c) (Am.setBlk HA b z):=by
 obtain⟨g1,g2,g3⟩:=h.ext b y hb
 refine⟨h.base,fun c hc=>?_,fun c u hc=>?_,h.lt⟩
 ·split at hc
  ·cases hc
  ·rename_i hne
   show(HA.t.set b z).get c=_
   rw[Tr.get_set,yaa hne];exact h.same c hc
 ·show(HA.t.set b z).get c=_/\_/\c<HA.next
  rw[Tr.get_set];split at hc
  ·simp_all
  ·rename_i hne;rw[yaa hne];exact h.ext c u hc
theorem Ov.newX (h:Ov base t X HA)(z:tA):Ov base t (fun c=>if c=HA.next then some z else X c) (Am.newBlk HA z):=by
 refine⟨Nat.le_succ_of_le h.base,fun c hc=>?_,fun c u hc=>?_,fun b y hb=>Nat.lt_succ_of_lt (h.lt b y hb)⟩
 ·split at hc
  ·cases hc
  ·rename_i hne
   show(HA.t.set HA.next z).get c=_
   rw[Tr.get_set,yaa hne];exact h.same c hc
 ·show(HA.t.set HA.next z).get c=_/\_/\c<HA.next+1
  rw[Tr.get_set];split at hc
  ·rename_i e;cases hc;subst e;rw[yab rfl];exact⟨rfl,h.nextT,Nat.lt_succ_self _⟩
  ·rename_i hne;rw[yaa hne];have:=h.ext c u hc;grind
theorem zcw(ho:Ov C.base t X HA)(hl:Qz C.base X0 X ν lo){d off:Nat}{l l':List zA} {sz:Nat}(h1:lo.get d=some l)(h2:nW l off sz u=some l')(h3:sD zA.one u.cells=true) :
  Nat.beq (yB u.cells) sz=true/\l'.length=l.length/\∃c',sJ C HA (ν d) off u.cells=some (setBlk HA (ν d) (.cells c' l.length none))/\∀j a,l'[j]?=some a->c'.get j=some a:=by
 obtain⟨_,hb,c,hc,hg⟩:=hl d l h1
 have hx:=(ho.ext _ _ hc).1
 unfold nW at h2;simp only[sB,ybb,aE,kD,aG,xT,vR,Option.some.injEq]at h2;obtain⟨⟨g1,g2⟩,g3⟩:=h2
 subst g3;refine⟨by grind [kD],?_,c.setMany u.cells off,?_,?_⟩
 ·grind
 ·grind [sJ,Nat.blt,qD,sB,pA,tA.asCells,aE,kD]
 ·intro j a hj
  rw[Tr.get_setMany];grind
theorem zfe{y:lD} (h:sD zA.one (Lh y u)=true):Lh y u=u.cells:=by
 grind [Lh,mI,AC]
theorem UK    (h:(jF op).f C eA HA=some v):nG φ ((eE op).f C eA HA) HA kd=kd v HA:=by rw[zfr h];rfl
theorem zdb  {d:Nat}(h:laOf la dst=some d):dst=some d:=by
 unfold laOf at h;grind
theorem tH_ok(hW:kQ C A E W)(hX:iI X0 X)(he:tV e eA)(ha:Mf ν ae eA)(ho:Ov C.base t X HA)(hl:Qz C.base X0 X ν lo)
  (h:oA C.base W J (tH C la dst op e ae lo k kl) t Q)
  (hK:∀v t' HA' X',Ov C.base t' X' HA'->iI X X'->oA C.base W J (k.K v) t' Q->zC C.base X0 E Q (kd v HA'))
  (hKd:∀v t' HA' X',Ov C.base t' X' HA'->iI X X'->oA C.base W J (k.Kd v) t' Q->zC C.base X0 E Q (kd v HA'))
  (hKA:∀d off,oA C.base W J (k.KA d off) t Q->zC C.base X0 E Q (kd (.ptr (ν d) off) HA))
  (hnew:∀d l,laOf la dst=some d->oA C.base W J (kl.new d l) t Q->zC C.base X0 E Q (kd (.ptr HA.next 0) (rF HA l none)))
  (hset:∀d l l' c',lo.get d=some l->l'.length=l.length->(∀j a,l'[j]?=some a->c'.get j=some a)->oA C.base W J (kl.set d l') t Q->zC C.base X0 E Q (kd pD (setBlk HA (ν d) (.cells c' l.length none)))) :
  zC C.base X0 E Q (nG (zD C A) ((eE op).f C eA HA) HA kd):=by
 have light:∀(op:Op),oA C.base W J (tL C op e ae lo k) t Q->zC C.base X0 E Q (nG (zD C A) ((eE op).f C eA HA) HA kd):=by
  intro op h;obtain⟨v,h1,h2⟩:=zny (R:=fun v=>zC C.base X0 E Q (kd v HA)) he ha ho hl h (fun v h=>hK v _ _ _ ho (iI.refl _) h) (fun v h=>hKd v _ _ _ ho (iI.refl _) h) hKA
  grind [UK]
 cases op<;>simp only[tH]at h<;>try (exact light _ h)
 case alloc ty=>
  show zC C.base X0 E Q (nG _ (Ey ty C eA HA) HA kd)
  rw[rD]at h;split at h
  ·rename_i ht
   have ht:pK C ty=none:=by
    cases hx:pK C ty with
    | none=>rfl
    | some _=>rw[hx]at ht;cases ht
   split at h
   ·rename_i d hd
    rw[kE]at h;obtain⟨y,h1,h2⟩:=h
    unfold Ey;rw[h1,ht];exact hnew d _ hd h2
   ·refine qW ho zaj h hK fun p hp=>?_
    unfold Ey;rw[ht];have hp:(ob (C.tys.get ty) fun ty=>some (.ptr HA.next 0,rF HA ty.zero none))=some p:=hp
    rw[hp];rfl
  ·refine qW ho SC h hK fun p hp=>?_
   unfold Ey;unfold Rq at hp;rw[hp];rfl
 case box ty x=>
  rw[rD]at h;show zC C.base X0 E Q (nG _ (Bw ty x C eA HA) HA kd)
  unfold Bw;split at h
  ·rename_i ht
   have ht:pK C ty=none:=by
    cases hx:pK C ty with
    | none=>rfl
    | some _=>rw[hx]at ht;cases ht
   rw[kE]at h;obtain⟨v,h1,h⟩:=h
   rw[xF he h1,ht];split at h
   ·rename_i d hd
    rw[kE]at h;obtain⟨y,_,h⟩:=h
    rw[rD]at h;split at h
    ·exact hnew d _ hd h
    ·have h:if zA.one v=true then oA C.base W J (kl.new d [v]) t Q else False:=h
     split at h
     ·rename_i h1
      have:=hnew d _ hd h
      rw[<- AC h1]at this;exact this
     simp_all
   ·refine qW ho znj h hK fun p hp=>?_
    cases hp;rfl
  ·rw[kE]at h
   obtain⟨v,h1,h⟩:=h
   rw[xF he h1];refine qW ho zga h hK fun p hp=>?_
   cases hp;rfl
 case buildSlice ty n ps=>
  rw[kE]at h;obtain⟨vs,h1,h⟩:=h
  show zC C.base X0 E Q (nG _ (Ew ty n ps C eA HA) HA kd)
  refine qW ho RZ h hK fun p hp=>?_
  refine Ea (v:=p.1) (H':=p.2) ?_
  rw[CW he h1];exact hp
 case makeMap ty r=>
  cases r with
  | some _=>simp_all
  | none=>
   simp only[]at h;show zC C.base X0 E Q (nG _ (Pm none C eA HA) HA kd)
   refine qW ho RW h hK fun p hp=>?_
   cases hp;rfl
 case makeSlice ty l c=>
  simp only[kE]at h;obtain⟨a,h1,b,h2,h⟩:=h
  show zC C.base X0 E Q (nG _ (CC ty l c C eA HA) HA kd)
  refine qW ho RV h hK fun p hp=>?_
  refine Ea (v:=p.1) (H':=p.2) ?_
  grind [xF,fP,pA]
 case store ty a x=>
  unfold zkk at h;show zC C.base X0 E Q (nG _ (Pk ty a x C eA HA) HA kd)
  split at h
  ·rename_i p hp
   simp only[kE]at h;obtain⟨u,h1,y,h2,l,h3,l',h4,h5⟩:=h
   have h5:if sD zA.one (Lh y u)=true then oA C.base W J (kl.set p.1 l') t Q else False:=h5
   split at h5
   ·rename_i hone
    have hcell:=zfe hone
    rw[hcell]at hone h4;have h4:nW l p.2 y.size u=some l':=h4
    obtain⟨g1,g2,c',g3,g4⟩:=zcw ho hl h3 h4 hone
    have:=hset p.1 l l' c' h3 g2 g4 h5
    have e1:nG (zD C A) (Pk ty a x C eA HA) HA kd=kd pD (setBlk HA (ν p.1) (.cells c' l.length none)):=by
     refine Ea ?_
     rw[h2,pA,Fz ha hp,pA];simp only[zA.asPtr,pA];rw[xF he h1,pA,g1,g3];rfl
    simp_all
   simp_all
  ·simp only[kE]at h
   obtain⟨av,h1,u,h2,h⟩:=h
   refine qW ho zaf h hKd fun p hp=>?_
   refine Ea (v:=p.1) (H':=p.2) ?_
   grind [xF,mC,pA]
 case convert s d x=>
  rw[rD]at h;split at h
  ·rename_i hd
   rw[kE]at h;obtain⟨u,h1,h⟩:=h
   show zC C.base X0 E Q (nG _ (kZ s d x C eA HA) HA kd)
   have hn:sQ s d x C eA HA=none:=by
    rw[zdi (xF he h1)]
    cases hq:eP C s d HA u with
    | none=>rfl
    | some q=>
     exfalso
     unfold eP at hq;simp only[sA]at hq;obtain⟨sy,g1,dy,g2,g3⟩:=hq
     have hd:=gC.1 hd
     unfold bH at hd;rw[g2]at hd;have hd:dy.desc.tag=4:=hd
     unfold gT at g3;have n1:dy.desc.asInt=none:=by cases hz:dy.desc<;>rw[hz]at hd<;>first | rfl | (cases hd;done)
     have n2:dy.desc.isString=false:=by unfold vE.isString;rw[hd];rfl
     rw[n1,n2]at g3
     cases g3
   unfold kZ;rw[hn];simp only[];refine qW ho RS h hK fun p hp=>?_
   refine Ea (v:=p.1) (H':=p.2) ?_
   rw[xF he h1];exact hp
  grind [tL]
 case insert ty m key x=>
  simp only[kE]at h;obtain⟨mv,h1,kv,h2,u,h3,h⟩:=h
  show zC C.base X0 E Q (nG _ (Ev ty m key x C eA HA) HA kd)
  refine qW ho EU h hKd fun p hp=>?_
  refine Ea (v:=p.1) (H':=p.2) ?_
  rw[xF he h1,xF he h2,xF he h3];exact hp
 case mapUpdate ty m key x=>
  simp only[kE]at h;obtain⟨mv,h1,kv,h2,u,h3,h⟩:=h
  show zC C.base X0 E Q (nG _ (Ev ty m key x C eA HA) HA kd)
  refine qW ho EU h hKd fun p hp=>?_
  refine Ea (v:=p.1) (H':=p.2) ?_
  rw[xF he h1,xF he h2,xF he h3];exact hp
 case panic x=>
  have h:oA C.base W J (vC (ev x e) fun v=>vC v.asIface fun p=>.call pn [.iface p.1 p.2] k.K) t Q:=h
  simp only[kE]at h;obtain⟨v,h1,p,h2,h3⟩:=h
  obtain⟨u,e1,e2⟩:=hW.raise _ _ _ h3
  cases e1
  show zC C.base X0 E Q (nG _ (Pl x C eA HA) HA kd)
  unfold Pl;rw[xF he h1,pA,h2,pA];exact⟨⟨_,true⟩,t,HA,X,rfl,ho,hX,e2⟩
 case call c=>
  show zC C.base X0 E Q (nG _ ((Ks c c.callee).f C eA HA) HA kd)
  split at h
  ·rename_i f hc
   rw[hc];show zC C.base X0 E Q (nG _ (Hq f c.args C eA HA) HA kd)
   have jH:∀ {fv:zA} {aq:List zA},ev f e=some fv->kO c.args.toList e=some aq->oA C.base W J (.callv fv aq k.K) t Q->zC C.base X0 E Q (nG (zD C A) (Hq f c.args C eA HA) HA kd):=by
    intro fv aq h1 h2 h;have h:oD (mL fv aq) fun p=>W p.1 p.2 t fun v t'=>oA C.base W J (k.K v) t' Q:=h
    rw[Be]at h;obtain⟨⟨g,aq'⟩,h3,h4⟩:=h
    unfold mL at h3;rw[sA]at h3;obtain⟨p,h5,h6⟩:=h3
    have e0:Hq f c.args C eA HA=zqr C HA (fD p.2.1 aq) p.2.2 p.1:=by
     unfold Hq eS;rw[xF he h1,pA,h5,pA,CV he h2,pA,pA];rfl
    rw[e0]
    cases hp:p.1 with
    | func g'=>
     rw[hp]at h6;simp only[sB]at h6;obtain⟨hg,h6⟩:=h6
     cases h6;exact DN hW ho hX hg h4 hK
    | yld l=>
     rw[hp]at h6;simp only[sB,ybb]at h6;obtain⟨⟨ha,hb⟩,h6⟩:=h6
     cases h6;have ea:p.2.1=[]:=by cases hx:p.2.1 with | nil=>rfl | cons _ _=>rw[hx]at ha;cases ha
     have eb:p.2.2=[]:=by cases hx:p.2.2 with | nil=>rfl | cons _ _=>rw[hx]at hb;cases hb
     rw[ea,eb];exact zhb hW ho h4 hK
   unfold zkm at h;split at h
   ·rename_i g
    rw[wP,kE]at h;obtain⟨hg,aq,h1,h⟩:=h
    refine jH (fv:=.func (.func g) [] []) rfl h1 ?_
    show oD (mL (.func (.func g) [] []) aq) _
    have e2:mL (.func (.func g) [] []) aq=some (g,aq):=by
     show tB (Nat.blt g pn) (some (g,fD (fD [] aq) []))=_
     rw[hg,aG,aG];simp[tB]
    rw[e2];exact h
   grind [kE]
  ·rename_i b hb
   rw[hb];have lt:oA C.base W J (Nf C c e k b) t Q->zC C.base X0 E Q (nG (zD C A) ((Ks c (.builtin b)).f C eA HA) HA kd):=by
    intro h;have:=light (.call c) (by show oA C.base W J (match c.callee with | .builtin b=>Nf C c e k b | _=>.fail) t Q;simp_all)
    have e1:(eE (.call c)).f C eA HA=(Ks c c.callee).f C eA HA:=rfl
    simp_all
   unfold FT at h;split at h
   ·simp only[kE,two']at h
    obtain⟨ty,h1,u,h2,p,h3,h⟩:=h
    show zC C.base X0 E Q (nG _ (Ku c C eA HA) HA kd)
    refine qW ho SA h hK fun q hq=>?_
    refine Ea (v:=q.1) (H':=q.2) ?_
    grind [sH,sA,sB,Wp]
   grind
  ·cases h
end
end
end Go.Am
