/- Code as a function: all functions of a program; what a value is worth. -/
import Derived.Test.YtfmlbimokklmgaaGreatDoorF04
set_option linter.all false
noncomputable section
namespace Go.Am
open Go Go.RowKit
section
def jU (C:oA)(fn:Func)(tm:Tm)(H:xA):oB:=ob (aT C H tm fn.results.toList) fun l=>some (⟨Dk l,false⟩,H)
def oO (C:oA)(fn:Func):Kt:=⟨jU C fn,fun _ _ _=>none,jU C fn⟩
def Bn(ops:List Oper):Bool:=fB (fun o=>match o.op with | .move _=>sE o.guard | .assign _=>sE o.guard | .alloc _=>sE o.guard | .store _ _ _=>sE o.guard | _=>false) ops
def Pt(l:List (Nat × Array Oper)):Bool:=match l with | []=>false | x::r=>fB (fun x=>Bn x.2.toList) (x::r)
def Lc(c:nC):Option Fz:=match mK c with | [q]=>some q | _=>none
def rdOk (r:xN)(q:Fz):Prop:=r.assign=asC q.as/\r.body=xE q.c/\r.params=q.ps.toList/\LoopState.tag r.state=0/\Pt q.as=true/\mK q.c=[]
def Fq(r:xN):xN:=⟨.busy,r.pending,r.fn,r.n,r.tm,r.params,r.assign,r.body,r.defers⟩
def eO(b:Bool)(r:xN):xN:=⟨if b then .ready else .done,if b then none else some .ret,r.fn,r.n,r.tm,r.params,r.assign,r.body,r.defers⟩
def rdK:Kt:=⟨fun _ H=>some (⟨.bool true,false⟩,H),fun _ _ _=>none,fun _ H=>some (⟨.bool false,false⟩,H)⟩
def Sw(C:oA)(φ:aE)(fn n:Nat)(q:Fz)(tm:Tm)(H:xA):oB:=mD C φ fn n (asA q.c q.as) rdK tm H
def Dx(C:oA)(A:Tr nC)(φ:aE)(l:Nat)(args:List zA)(H:xA):oB:=
 ob (wJ H l) fun r=>ob (fY r.n r.params args r.tm) fun tm=>ob (A.get r.fn) fun c=>ob (Lc c) fun q=>@ite _ (rdOk r q/\l<H.next) (Classical.propDecidable _)
  (ob (Sw C φ r.fn r.n q tm (setBlk H l (.loop (Fq r)))) fun x=>xB (!x.1.p) (ob (wJ x.2 l) fun r2=>ob x.1.v.asBool fun b=>some (⟨.bool b,false⟩,setBlk x.2 l (.loop (eO b r2))))) none
def regO (c:nC):Option (Nat × Array Oper):=match c with
 | .region id ops false=>some (id,ops)
 | .cut _ (.region id ops false)=>some (id,ops)
 | _=>none
structure bP where
 i5:Nat
 o5:Array Oper
 d:Nat
 cl:Nat
 bs:List Operand
 i6:Nat
 o6:Array Oper
def Fh (l:List Oper):Option (Nat × Nat × List Operand):=match l with
 | [⟨some d,.makeFunc (.func cl) as bs,_,_,_,none⟩,⟨none,.defer cc,_,_,_,none⟩]=>(match as.toList,cc.callee,cc.args.toList with
  | [],.value (.tmp e),[]=>bif Nat.beq d e then some (d,cl,bs.toList)else none
  | _,_,_=>none)
 | _=>none
def Oj(c:nC):Option bP:=match c with
 | .seq a (.seq b .ret)=>ob (regO a) fun u=>ob (regO b) fun v=>ob (Fh u.2.toList) fun q=>some ⟨u.1,u.2,q.1,q.2.1,q.2.2,v.1,v.2⟩
 | _=>none
def rV(c:nC):Option (List nC × bP):=
 nC.rec (motive:=fun _=>Option (List nC × bP)) none (fun _ _ _=>none)
  (fun a b _ g=>match Oj (.seq a b)with | some q=>some ([],q) | none=>ob g fun p=>some (a::p.1,p.2))
  (fun _ _ _ _ _=>none) (fun _ _ _=>none) (fun _ _ _=>none) (fun _=>none) none (fun _ _ _=>none) (fun _ _ _ _ _ _ _=>none) c
def jX (l:List nC):nC:=List.rec (motive:=fun _=>nC) .skip (fun a _ g=>.seq a g) l
def recO (l:List Oper):Option (Nat × Nat):=match l with
 | [⟨some d,.call cc,_,_,_,none⟩,⟨some e,.assign (.tmp f),_,_,_,none⟩]=>(match cc.callee with
  | .builtin .recover=>bif Nat.beq d f then some (d,e)else none
  | _=>none)
 | _=>none
structure ClQ where
 i:Nat
 o:Array Oper
 d:Nat
 e:Nat
 c:nC
def Fm (c:nC):Option ClQ:=match c with
 | .seq a b=>ob (regO a) fun u=>ob (recO u.2.toList) fun p=>some ⟨u.1,u.2,p.1,p.2,b⟩
 | _=>none
def clTm (n:Nat)(q:ClQ)(tm:Tm)(v:zA):Tm:=putA n (putA n tm.cut (some q.d) v) (some q.e) v
def vS(C:oA)(A:Tr nC)(φ:aE)(cl:Nat)(cells:List zA)(v:zA)(H:xA):oB:=
 ob (C.fns.get cl) fun fc=>ob (A.get cl) fun cc=>ob (Fm cc) fun q=>xB (sE (C.prims.get cl)&&Nat.blt q.d fc.ntmps) (ob (rK C cl cells true) fun g=>mD C φ cl fc.ntmps q.c (oO C fc) (clTm fc.ntmps q g.tm v) H)
def tM (C:oA)(A:Tr nC)(φ:aE)(fn:Func)(cl:Nat)(cells:List zA)(v:zA)(tm:Tm)(H:xA):oB:=
 ob (vS C A φ cl cells v H) fun y=>xB (!y.1.p) (jU C fn tm y.2)
def Mz(l:List ResultVar)(o6:List Oper):Bool:=fB (fun r=>match r with | .cell a _=>fB (fun o=>match o.dst with | some d => !Nat.beq d a | none=>true) o6 | .tmp _=>false) l
def wQ(C:oA)(A:Tr nC)(φ:aE)(fn:Func)(q:bP)(tm:Tm)(H:xA):oB:=
 xB (Mz fn.results.toList q.o6.toList&&(Nat.ble tm.k q.d&&Nat.blt q.d fn.ntmps)) (ob (aN q.bs (.now tm.cut)) fun cells=>
  ob (wM C φ q.o6 fn.ntmps (fun tm' H'=>tM C A φ fn q.cl cells .niliface tm' H') q.o6.toList tm.cut H) fun x=>
   Bool.rec (motive:=fun _=>oB) (some x) (tM C A φ fn q.cl cells x.1.v tm.cut x.2) x.1.p)
def Bh (C:oA)(A:Tr nC)(φ:aE)(fn:Func)(q:bP):Kt:=⟨wQ C A φ fn q,fun _ _ _=>none,jU C fn⟩
def iW(C:oA)(A:Tr nC)(φ:aE)(f:Nat)(fn:Func)(c:nC)(tm:Tm)(H:xA):oB:=
 match rV c with
 | none=>mD C φ f fn.ntmps c (oO C fn) tm H
 | some p=>mD C φ f fn.ntmps (jX p.1) (Bh C A φ fn p.2) tm H
def zS (C:oA)(A:Tr nC)(φ:aE)(f:Nat)(args:List zA)(H:xA):oB:=
 ob (A.get f) fun c=>ob (C.fns.get f) fun fn=>ob (rK C f args false) fun g=>iW C A φ f fn c g.tm H
def Dp(C:oA)(A:Tr nC)(φ:aE):aE
 | .func f=>zS C A φ f
 | .yld l=>Dx C A φ l
def Bq (C:oA)(A:Tr nC):Nat->aE
 | 0=>fun _ _ _=>none
 | n+1=>Dp C A (Bq C A n)
def bC (C:oA)(A:Tr nC):aE:=fun f args H=>lim fun n=>Bq C A n f args H
section
variable {C:oA}{A:Tr nC}
theorem Gu{φ:aE}{l:Nat}{args:List zA}{H:xA}{x:iH × xA}:Dx C A φ l args H=some x ↔ ∃r tm c q y r2 b,wJ H l=some r/\fY r.n r.params args r.tm=some tm/\A.get r.fn=some c/\Lc c=some q/\(rdOk r q/\l<H.next)/\Sw C φ r.fn r.n q tm (setBlk H l (.loop (Fq r)))=some y/\wJ y.2 l=some r2/\y.1=⟨.bool b,false⟩/\x=(⟨.bool b,false⟩,setBlk y.2 l (.loop (eO b r2))):=by
 have out:∀(o:iH) (b:Bool),o=⟨.bool b,false⟩ ↔ o.v=.bool b/\o.p=false:=fun o b=>by cases o;simp
 unfold Dx;simp only[out];grind [tA,Cm,wB]
def YL{φ φ':aE}(h:uO φ φ'){cl:Nat}{cells:List zA}{v:zA}{H:xA}{x:iH × xA}(hx:vS C A φ cl cells v H=some x):vS C A φ' cl cells v H=some x:=by
 unfold vS at hx ⊢
 simp only[tA,wB]at hx ⊢
 obtain⟨fc,h1,cc,h2,q,h3,h4,g,h5,h6⟩:=hx
 exact⟨fc,h1,cc,h2,q,h3,h4,g,h5,Ad h _ _ _ (xP.refl _) _ _ _ h6⟩
def Mp{φ φ':aE}(h:uO φ φ'){fn:Func}{cl:Nat}{cells:List zA}{v:zA}{tm:Tm}{H:xA}{x:iH × xA}(hx:tM C A φ fn cl cells v tm H=some x):tM C A φ' fn cl cells v tm H=some x:=by
 unfold tM at hx ⊢
 rw[tA]at hx ⊢
 obtain⟨y,h1,h2⟩:=hx
 exact⟨y,YL h h1,h2⟩
def CK{φ φ':aE}(h:uO φ φ'){fn:Func}{q:bP}:zK (wQ C A φ fn q) (wQ C A φ' fn q):=by
 intro tm H x hx;unfold wQ at hx ⊢
 simp only[wB,tA]at hx ⊢
 obtain⟨h1,cells,h2,y,h3,h4⟩:=hx
 refine⟨h1,cells,h2,y,Lb h (fun tm H x hx=>Mp h hx) _ _ _ _ h3,?_⟩
 cases hp:y.1.p with
 | false=>rw[hp]at h4;exact h4
 | true=>rw[hp]at h4;exact Mp h h4
def ZF{φ φ':aE}(h:uO φ φ'){f:Nat}{fn:Func}{c:nC}:zK (iW C A φ f fn c) (iW C A φ' f fn c):=by
 intro tm H x hx;unfold iW at hx ⊢
 split at hx
 ·exact Ad h c _ _ (xP.refl _) _ _ _ hx
 ·exact Ad h _ (Bh C A φ fn _) (Bh C A φ' fn _) ⟨CK h,fun _ _ _ _ h=>h,fun _ _ _ h=>h⟩ _ _ _ hx
def KX{φs:Nat->aE}{φ:aE}(h:eU φs φ){fn:Func}{cl:Nat}{cells:List zA}{v:zA}:xO (fun n=>tM C A (φs n) fn cl cells v) (tM C A φ fn cl cells v):=by
 refine⟨fun n tm H x hx=>Mp (h.up n) hx,fun tm H x hx=>?_⟩
 unfold tM at hx;rw[tA]at hx;obtain⟨y,h1,h2⟩:=hx
 unfold vS at h1;simp only[tA,wB]at h1;obtain⟨fc,g1,cc,g2,q,g3,g4,g,g5,g6⟩:=h1
 have sup:Cs (fun _=>oO C fc) (oO C fc):=⟨⟨fun _ _ _ _ h=>h,fun _ _ _ h=>⟨0,h⟩⟩,fun i=>⟨fun _ _ _ _ h=>h,fun _ _ _ h=>⟨0,h⟩⟩,⟨fun _ _ _ _ h=>h,fun _ _ _ h=>⟨0,h⟩⟩⟩
 obtain⟨n,hn⟩:=(Mr h q.c _ _ sup).ex _ _ _ g6
 refine⟨n,?_⟩
 show tM C A (φs n) fn cl cells v tm H=some x
 unfold tM vS;simp only[tA,wB];rw[wB]at h2;exact⟨y,⟨fc,g1,cc,g2,q,g3,g4,g,g5,hn⟩,h2⟩
def PC{φs:Nat->aE}{φ:aE}(h:eU φs φ){fn:Func}{q:bP}:xO (fun n=>wQ C A (φs n) fn q) (wQ C A φ fn q):=by
 refine⟨fun n=>CK (h.up n),fun tm H x hx=>?_⟩
 unfold wQ at hx;simp only[wB,tA]at hx;obtain⟨h1,cells,h2,y,h3,h4⟩:=hx
 obtain⟨n,hn⟩:=(FV h (KX h) _).ex _ _ _ h3
 have key:∀m,n<=m->wM C (φs m) q.o6 fn.ntmps (fun tm' H'=>tM C A (φs m) fn q.cl cells .niliface tm' H') q.o6.toList tm.cut H=some y:=
  fun m hm=>Lb (h.le hm) (fun tm H x hx=>Mp (h.le hm) hx) _ _ _ _ hn
 cases hp:y.1.p with
 | false=>
  rw[hp]at h4;refine⟨n,?_⟩
  show wQ C A (φs n) fn q tm H=some x
  unfold wQ;simp only[wB,tA];exact⟨h1,cells,h2,y,hn,by rw[hp];exact h4⟩
 | true=>
  rw[hp]at h4;obtain⟨m,hm⟩:=(KX h).ex _ _ _ h4
  refine⟨max n m,?_⟩
  show wQ C A (φs (max n m)) fn q tm H=some x
  unfold wQ;simp only[wB,tA];exact⟨h1,cells,h2,y,key _ (Nat.le_max_left _ _),by rw[hp];exact Mp (h.le (Nat.le_max_right _ _)) hm⟩
def zad{φs:Nat->aE}{φ:aE}(h:eU φs φ){f:Nat}{fn:Func}{c:nC}{tm:Tm}{H:xA}{x:iH × xA}(hx:iW C A φ f fn c tm H=some x):∃n,iW C A (φs n) f fn c tm H=some x:=by
 unfold iW at hx ⊢
 split at hx
 ·have sup:Cs (fun _=>oO C fn) (oO C fn):=⟨⟨fun _ _ _ _ h=>h,fun _ _ _ h=>⟨0,h⟩⟩,fun i=>⟨fun _ _ _ _ h=>h,fun _ _ _ h=>⟨0,h⟩⟩,⟨fun _ _ _ _ h=>h,fun _ _ _ h=>⟨0,h⟩⟩⟩
  exact(Mr h c _ _ sup).ex _ _ _ hx
 ·rename_i p _
  exact(Mr h (jX p.1) (fun n=>Bh C A (φs n) fn p.2) (Bh C A φ fn p.2) ⟨PC h,fun i=>⟨fun _ _ _ _ h=>h,fun _ _ _ h=>⟨0,h⟩⟩,⟨fun _ _ _ _ h=>h,fun _ _ _ h=>⟨0,h⟩⟩⟩).ex _ _ _ hx
def DQ{φ φ':aE}(h:uO φ φ'):uO (Dp C A φ) (Dp C A φ'):=by
 intro f args H x hx
 cases f with
 | yld l=>
  have hx:Dx C A φ l args H=some x:=hx
  obtain⟨r,tm,c,q,y,r2,b,h1,h2,h3,h4,hq,h5,h6,h7,h8⟩:=Gu.1 hx
  exact Gu.2 ⟨r,tm,c,q,y,r2,b,h1,h2,h3,h4,hq,Ad h _ _ _ (xP.refl _) _ _ _ h5,h6,h7,h8⟩
 | func f=>
 have hx:zS C A φ f args H=some x:=hx
 show zS C A φ' f args H=some x
 unfold zS at hx ⊢
 rw[tA]at hx ⊢
 obtain⟨c,h1,hx⟩:=hx
 refine⟨c,h1,?_⟩
 rw[tA]at hx ⊢
 obtain⟨fn,h2,hx⟩:=hx
 refine⟨fn,h2,?_⟩
 rw[tA]at hx ⊢
 obtain⟨g,h3,hx⟩:=hx
 exact⟨g,h3,ZF h _ _ _ hx⟩
def GF:∀n,uO (Bq C A n) (Bq C A (n+1)):=by
 intro n;induction n with
 | zero=>intro f args H x h;cases h
 | succ n ih=>exact DQ ih
def Fc{f:AFn}{args:List zA}{H:xA}{x:iH × xA}:bC C A f args H=some x ↔ ∃n,Bq C A n f args H=some x:=
 Qv fun n _ hy=>GF n _ _ _ _ hy
def JX:eU (Bq C A) (bC C A):=⟨GF,fun _ _ _ _ h=>Fc.1 h⟩
theorem Zl(f:AFn)(args:List zA)(H:xA):bC C A f args H=Dp C A (bC C A) f args H:=by
 have key:∀x,bC C A f args H=some x ↔ Dp C A (bC C A) f args H=some x:=by
  intro x;constructor
  ·intro h
   obtain⟨n,hn⟩:=Fc.1 h
   cases n with
   | zero=>cases hn
   | succ n=>exact DQ (fun f a H y hy=>Fc.2 ⟨n,hy⟩) _ _ _ _ hn
  ·intro h
   cases f with
   | yld l=>
    have h:Dx C A (bC C A) l args H=some x:=h
    obtain⟨r,tm,c,q,y,r2,b,h1,h2,h3,h4,hq,h5,h6,h7,h8⟩:=Gu.1 h
    have sup:Cs (fun _=>rdK) rdK:=⟨⟨fun _ _ _ _ h=>h,fun _ _ _ h=>⟨0,h⟩⟩,fun i=>⟨fun _ _ _ _ h=>h,fun _ _ _ h=>⟨0,h⟩⟩,⟨fun _ _ _ _ h=>h,fun _ _ _ h=>⟨0,h⟩⟩⟩
    obtain⟨n,hn⟩:=(Mr JX _ _ _ sup).ex _ _ _ h5
    exact Fc.2 ⟨n+1,Gu.2 ⟨r,tm,c,q,y,r2,b,h1,h2,h3,h4,hq,hn,h6,h7,h8⟩⟩
   | func f=>
   have h:zS C A (bC C A) f args H=some x:=h
   unfold zS at h;rw[tA]at h;obtain⟨c,h1,h⟩:=h
   rw[tA]at h;obtain⟨fn,h2,h⟩:=h
   rw[tA]at h;obtain⟨g,h3,h⟩:=h
   obtain⟨n,hn⟩:=zad JX h
   refine Fc.2 ⟨n+1,?_⟩
   show zS C A (Bq C A n) f args H=some x
   grind [zS,qA]
 cases h:bC C A f args H with
 | some x=>grind
 | none=>
  cases h2:Dp C A (bC C A) f args H with
  | none=>rfl
  | some x=>simp_all
def yX(C:oA)(A:Tr nC):Prop:=∀f c,A.get f=some c->∃fn,C.fns.get f=some fn/\fn.body=some (xE c)
theorem WY{f:Nat}{args:List zA}{g:lB}(h:rK C f args false=some g):∃fn c,C.fns.get f=some fn/\fn.body=some c/\g.todo=[.code c]/\g.R=⟨f,fn.ntmps,[],.run,false,none⟩:=by
 grind [rK,tA,wB]
theorem Qq{α β:Type}{f g:α->Option β}:∀(l:List α) {r:List β},(∀a b,f a=some b->g a=some b)->kH f l=some r->kH g l=some r:=by
 intro l;induction l with
 | nil=>intro r _ h;exact h
 | cons a l ih=>
  grind [nQ,tA]
def xR(C:oA)(f:Nat)(acs:List lB)(fl:Bool:=false):zX:=fun ds o x=>∃fr',o=.next ⟨fr',acs,x.2⟩/\dP C f ds fr' x.2 x.1 fl
def RC{H:xA}{tm:Tm}{r:Nat}{d e:Option (List gH)}(hr:H.t.get r=some (.deferred d)):∀(l:List ResultVar) vs,aT C H tm l=some vs->aT C (setBlk H r (.deferred e)) tm l=some vs:=by
 intro l vs h;refine Qq l (fun rv v h=>?_) h
 cases rv with
 | tmp t=>exact h
 | cell a t=>
  have h:(ob (ob (tm.get a) zA.asPtr) fun p=>ob (C.tys.get t) fun ty=>ob (qE H p.1) fun c=>fR ty c.1 p.2)=some v:=h
  show(ob (ob (tm.get a) zA.asPtr) fun p=>ob (C.tys.get t) fun ty=>ob (qE (setBlk H r (.deferred e)) p.1) fun c=>fR ty c.1 p.2)=some v
  simp only[tA]at h ⊢
  obtain⟨p,hp,ty,ht,c,hc,hv⟩:=h
  refine⟨p,hp,ty,ht,c,?_,hv⟩
  unfold qE at hc ⊢
  rw[tA]at hc ⊢
  obtain⟨y,h1,h2⟩:=hc
  refine⟨y,?_,h2⟩
  show(H.t.set r (.deferred e)).get p.1=some y
  rw[Tr.get_set,yaa fun e=>by rw[e,hr]at h1;cases h1;cases h2]
  exact h1
def dP.ret{f:Nat}{ds:List gH}{fr:lB}{H:xA}{o:iH}{fl:Bool}(h:dP C f ds fr H o fl)(hp:o.p=false):Fy C f ds fr H o.v fl:=by
 unfold dP at h;rwa [hp,yaa (by simp)]at h
def dP.of{f:Nat}{ds:List gH}{fr:lB}{H:xA}{o:iH}{fl:Bool}(h:Fy C f ds fr H o.v fl)(hp:o.p=false):dP C f ds fr H o fl:=by
 unfold dP;rwa [hp,yaa (by simp)]
def Ru{f N:Nat}{acs:List lB}{fl:Bool}(hfn:∃fn,C.fns.get f=some fn):Iy C (xR C f acs fl) (fun _=>True) f N none acs fl:=by
 refine⟨?_,fun _ _=>trivial,?_,fun ds todo tm x _ hp=>⟨_,rfl,by unfold dP;rw[yab hp];exact⟨⟨rfl,rfl,rfl,rfl⟩,hfn⟩⟩⟩
 ·rintro ds todo tm H x ⟨fr',h1,h2⟩
  cases h1;unfold dP at h2;split at h2
  ·have:=h2.1.1;cases this
  ·have:=h2.1;cases this
 ·rintro _ r ds o x hp ⟨fr',rfl,hE⟩ hd
  obtain⟨h1,h2,h3,h4,fn,l,h5,h6,h7⟩:=hE.ret hp
  obtain⟨todo,tm,ffn,n,defers,mode,deferred,round⟩:=fr'
  simp only at h1 h2 h3 h4 h6
  subst h1 h2 h3 h4
  have hr:x.2.t.get r=some (.deferred (some [])):=by
   unfold mW at hd;rw[wB,tA]at hd;obtain⟨_,y,e1,e2⟩:=hd
   cases y<;>cases e2
   exact e1
  refine⟨_,.step ?_,⟨⟨todo,tm,⟨ffn,n,ds,.returning,deferred,round⟩⟩,rfl,dP.of ⟨rfl,rfl,rfl,rfl,fn,l,h5,RC hr _ _ h6,h7⟩ hp⟩⟩
  show fK C (Dj C ⟨none,r,[]⟩ ds ⟨todo,tm,⟨ffn,n,⟨none,r,[]⟩::ds,.returning,deferred,round⟩⟩ acs x.2) _
  unfold Dj;simp only[hd,qA];exact .refl _
def Mo{f:Nat}{fn:Func}{acs:List lB}{x:iH × xA}{ds:List gH}{fl:Bool}(hf:C.fns.get f=some fn){tm:Tm}{H:xA}(h:jU C fn tm H=some x){todo:List mE}{N:Nat}
  (hs:wS C todo tm (RR f N none ds fl) acs H=.next ⟨eY ⟨todo,tm,RR f N none ds fl⟩ .returning,acs,H⟩):Fin C (xR C f acs fl) ds (.next ⟨⟨todo,tm,RR f N none ds fl⟩,acs,H⟩) x:=by
 unfold jU at h;rw[tA]at h;obtain⟨l,h1,h2⟩:=h
 cases h2;refine .step ?_
 rw[xJ rfl,hs];exact⟨_,.refl _,_,rfl,dP.of ⟨rfl,rfl,rfl,rfl,fn,l,hf,h1,rfl⟩ rfl⟩
def RdG (l:Nat)(c:lB):iH × xA->Prop:=fun x=>∃b r2 c',x.1=⟨.bool b,false⟩/\wJ x.2 l=some r2/\fH c (.bool b)=some c'
def RdEnd(l:Nat)(c:lB)(acs:List lB):zX:=fun _ o x=>∃b r2 c',x.1=⟨.bool b,false⟩/\wJ x.2 l=some r2/\fH c (.bool b)=some c'/\o=.next ⟨c',acs,setBlk x.2 l (.loop (eO b r2))⟩
def DX{l b:Nat}(h:b≠l)(t:Tr vA)(x y:vA):(t.set l x).set b y=(t.set b y).set l x:=Tr.set_comm t _ _ _ _ (fun e=>h e.symm)
theorem ZI{C:oA}{φ:aE}{all:Array Oper}{n:Nat}{κn:Tm->xA->oB}{l0:Nat}{r0 r1:xN}:∀(l:List Oper) (tm:Tm) (H:xA) (x:iH × xA),Bn l=true->l0<H.next->H.t.get l0=some (.loop r0)->wM C φ all n κn l tm (setBlk H l0 (.loop r1))=some x →
  ∃tm' H',κn tm' (setBlk H' l0 (.loop r1))=some x/\l0<H'.next/\H'.t.get l0=some (.loop r0)/\∀(k:List mE) (R:wK) (cs:List lB),R.n=n->yM C all k R cs l tm H=xGo k tm' R cs H':=by
 intro l;induction l with
 | nil=>intro tm H x _ h1 h2 h;exact⟨tm,H,h,h1,h2,fun _ _ _ _=>rfl⟩
 | cons o l ih=>
  intro tm H x hp hl hg h;have hp:(bif (match o.op with | .move _=>sE o.guard | .assign _=>sE o.guard | .alloc _=>sE o.guard | .store _ _ _=>sE o.guard | _=>false)then Bn l else false)=true:=hp
  have hp1:(match o.op with | .move _=>sE o.guard | .assign _=>sE o.guard | .alloc _=>sE o.guard | .store _ _ _=>sE o.guard | _=>false)=true:=by
   simp_all
  rw[hp1]at hp;have hp:Bn l=true:=hp
  have hw:wG o.guard all tm=some true:=by
   have:sE o.guard=true:=by cases ho:o.op<;>rw[ho]at hp1<;>first | exact hp1 | (cases hp1;done)
   cases hx:o.guard with
   | none=>rfl
   | some g=>rw[hx]at this;cases this
  rw[Bo,hw,qA,yab rfl]at h;have key:∃v H',(bE o.op).f C (.now tm) (setBlk H l0 (.loop r1))=.val v (setBlk H' l0 (.loop r1))/\(bE o.op).f C (.now tm) H=.val v H'/\l0<H'.next/\H'.t.get l0=some (.loop r0):=by
   cases ho:o.op<;>rw[ho]at hp1 h<;>try (cases hp1;done)
   case move u=>
    have e:∀H,(bE (.move u)).f C (.now tm) H=lv (cN u) C (.now tm) H:=fun _=>rfl
    rw[e]at h
    cases hv:ev u (.now tm)with
    | none=>
     have:lv (cN u) C (.now tm) (setBlk H l0 (.loop r1))=.fail:=by unfold lv cN;rw[hv]
     rw[this]at h;cases h
    | some v=>exact⟨v,H,by rw[e];unfold lv cN;rw[hv],by rw[e];unfold lv cN;rw[hv],hl,hg⟩
   case assign u=>
    have e:∀H,(bE (.assign u)).f C (.now tm) H=lv (cN u) C (.now tm) H:=fun _=>rfl
    rw[e]at h
    cases hv:ev u (.now tm)with
    | none=>
     have:lv (cN u) C (.now tm) (setBlk H l0 (.loop r1))=.fail:=by unfold lv cN;rw[hv]
     rw[this]at h;cases h
    | some v=>exact⟨v,H,by rw[e];unfold lv cN;rw[hv],by rw[e];unfold lv cN;rw[hv],hl,hg⟩
   case alloc t=>
    have e:∀H,(bE (.alloc t)).f C (.now tm) H=pL (ob (C.tys.get t) fun ty=>some (.ptr H.next 0,yG H ty.zero (dK C t))):=fun _=>rfl
    rw[e]at h
    cases ht:C.tys.get t with
    | none=>rw[ht]at h;cases h
    | some ty=>
     refine⟨.ptr H.next 0,yG H ty.zero (dK C t),?_,by rw[e,ht];rfl,Nat.lt_succ_of_lt hl,?_⟩
     ·rw[e,ht]
      show oK.val (.ptr H.next 0) (yG (setBlk H l0 (.loop r1)) ty.zero (dK C t))=_
      congr 1
      show(⟨H.next+1,(H.t.set l0 _).set H.next _⟩:xA)=⟨H.next+1,(H.t.set H.next _).set l0 _⟩
      rw[DX (by omega)]
     ·show(H.t.set H.next _).get l0=_
      rw[Tr.get_set,yaa (by omega),hg]
   case store t a u=>
    have e:∀H,(bE (.store t a u)).f C (.now tm) H=pL (ob (C.tys.get t) fun ty=>ob (ev a (.now tm)) fun a=>ob a.asPtr fun p=>ob (ev u (.now tm)) fun v=>xB (Nat.beq (zB v.cells) ty.size) (ob (yJ C H p.1 p.2 v.cells) fun H'=>some (dD,H'))):=fun _=>rfl
    rw[e]at h
    cases hs:(ob (C.tys.get t) fun ty=>ob (ev a (.now tm)) fun a=>ob a.asPtr fun p=>ob (ev u (.now tm)) fun v=>xB (Nat.beq (zB v.cells) ty.size) (ob (yJ C (setBlk H l0 (.loop r1)) p.1 p.2 v.cells) fun H'=>some (dD,H')))with
    | none=>rw[hs]at h;cases h
    | some q=>
     have hs0:=hs
     simp only[tA,wB]at hs;obtain⟨ty,h1,a',h2,p,h3,v,h4,h5,H1,h6,h7⟩:=hs
     unfold yJ at h6;simp only[tA,wB]at h6;obtain⟨g1,c,g2,g3,g4⟩:=h6
     have hne:p.1≠l0:=by
      intro e;unfold qE at g2;have:(setBlk H l0 (.loop r1)).t.get p.1=some (.loop r1):=by
       show(H.t.set l0 _).get p.1=_
       rw[Tr.get_set,yab e]
      rw[this,qA]at g2;cases g2
     have g2':qE H p.1=some c:=by
      unfold qE at g2 ⊢
      have:(setBlk H l0 (.loop r1)).t.get p.1=H.t.get p.1:=by
       show(H.t.set l0 _).get p.1=_
       rw[Tr.get_set,yaa hne]
      rw[this]at g2;exact g2
     refine⟨dD,setBlk H p.1 (.cells (c.1.setMany v.cells p.2) c.2.1 c.2.2),?_,?_,hl,?_⟩
     ·rw[e,hs0,<- h7,<- yci g4]
      show oK.val dD (setBlk (setBlk H l0 (.loop r1)) p.1 _)=_
      congr 1
      show(⟨H.next,(H.t.set l0 _).set p.1 _⟩:xA)=⟨H.next,(H.t.set p.1 _).set l0 _⟩
      rw[DX hne]
     ·rw[e,h1,qA,h2,qA,h3,qA,h4,qA,h5]
      unfold yJ;rw[g1,g2'];simp only[qA];rw[g3];rfl
     ·show(H.t.set p.1 _).get l0=_
      rw[Tr.get_set,yaa (fun e=>hne e.symm),hg]
  obtain⟨v,H',k1,k2,k3,k4⟩:=key
  rw[k1]at h;have h:mL C o.type v (fun v=>wM C φ all n κn l (putA n tm o.dst v) (setBlk H' l0 (.loop r1)))=some x:=h
  rw[oP]at h;obtain⟨tm',H2,m1,m2,m3,m4⟩:=ih _ H' x hp k3 k4 h.2
  refine⟨tm',H2,m1,m2,m3,fun k R cs hR=>?_⟩
  rw[Bg,hw];simp only[if_true];rw[k2];simp only[oK.asVal];rw[hR];exact m4 k R cs hR
theorem ZH{C:oA}{φ:aE}{fn n:Nat}{κ:Kt}{c:nC}{l0:Nat}{r0 r1:xN}:∀(as:List (Nat × Array Oper)) (tm:Tm) (H:xA) (x:iH × xA),Pt as=true->l0<H.next->H.t.get l0=some (.loop r0)->mD C φ fn n (asA c as) κ tm (setBlk H l0 (.loop r1))=some x →
  ∃tm' H',mD C φ fn n c κ tm' (setBlk H' l0 (.loop r1))=some x/\H'.t.get l0=some (.loop r0)/\∀(k:List mE) (R:wK) (cs:List lB),R.n=n->R.mode.running=true->fK C (.next ⟨⟨.code (asC as)::k,tm,R⟩,cs,H⟩) (.next ⟨⟨k,tm',R⟩,cs,H'⟩):=by
 intro as;induction as with
 | nil=>intro _ _ _ h;cases h
 | cons z as ih=>
  intro tm H x hp hl hg h;have hp:(bif Bn z.2.toList then fB (fun x=>Bn x.2.toList) as else false)=true:=hp
  have hp1:Bn z.2.toList=true:=by simp_all
  have h:wM C φ z.2 n (mD C φ fn n (asA c as) κ) z.2.toList tm.cut (setBlk H l0 (.loop r1))=some x:=h
  obtain⟨tm1,H1,h1,h2,h3,h4⟩:=ZI _ _ _ _ hp1 hl hg h
  cases as with
  | nil=>
   refine⟨tm1,H1,h1,h3,fun k R cs hR hm=>.step ?_⟩
   rw[xJ hm];show fK C (yM C z.2 k R cs z.2.toList tm.cut H) _
   rw[h4 _ _ _ hR];exact .refl _
  | cons w as=>
   have hp2:Pt (w::as)=true:=by
    show fB (fun x=>Bn x.2.toList) (w::as)=true
    simp_all
   obtain⟨tm2,H2,g1,g2,g3⟩:=ih tm1 H1 x hp2 h2 h3 h1
   refine⟨tm2,H2,g1,g2,fun k R cs hR hm=>.step ?_⟩
   rw[xJ hm];show fK C (yM C z.2 (.code (asC (w::as))::k) R cs z.2.toList tm.cut H) _
   rw[h4 _ _ _ hR];exact g3 _ _ _ hR hm
theorem QX{φ:aE}(hφ:bQ C φ){l:Nat}{args:List zA}{H:xA}{x:iH × xA}(h:Dx C A φ l args H=some x) :
  ∃r tm,wJ H l=some r/\fY r.n r.params args r.tm=some tm/\x.1.p=false/\∀c acs c',fH c x.1.v=some c'->fK C (.next ⟨Wn r l tm,c::acs,H⟩) (.next ⟨c',acs,x.2⟩):=by
 obtain⟨r,tm,cc,q,y,r2,b,h1,h2,h3,h4,⟨⟨q1,q2,q3,q4,q5,q6⟩,hlt⟩,h5,h6,h7,rfl⟩:=Gu.1 h
 refine⟨r,tm,h1,h2,rfl,fun c acs c' hc=>?_⟩
 have hg:H.t.get l=some (.loop r):=by
  unfold wJ at h1;rw[wB,tA]at h1;obtain⟨_,y,e1,e2⟩:=h1
  cases y<;>cases e2
  exact e1
 have h256:256<=l:=by
  unfold wJ at h1;rw[wB]at h1;exact oE.1 h1.1
 have h5:mD C φ r.fn r.n (asA q.c q.as) rdK tm (setBlk H l (.loop (Fq r)))=some y:=h5
 obtain⟨tm',H',h8,hg',h9⟩:=ZH _ _ _ _ q5 hlt hg h5
 have h1':wJ H' l=some r:=by
  unfold wJ;rw[hg',qA,oE.2 h256];rfl
 unfold Wn;rw[q1,q2];refine(h9 [.beginRound,.code (xE q.c)] _ _ rfl rfl).trans (.step ?_)
 show fK C (wS C (.beginRound::[.code (xE q.c)]) tm' ⟨r.fn,r.n,[],.run,false,some l⟩ (c::acs) H') _
 have hb:wS C (.beginRound::[.code (xE q.c)]) tm' ⟨r.fn,r.n,[],.run,false,some l⟩ (c::acs) H'=.next ⟨⟨[.code (xE q.c)],tm',RR r.fn r.n (some l) []⟩,c::acs,setBlk H' l (.loop (Fq r))⟩:=by
  show Jh C [.code (xE q.c)] tm' _ (c::acs) H'=_
  unfold Jh;simp only[qA];rw[h1',qA,q4];rfl
 rw[hb];have hc:fH c (.bool b)=some c':=hc
 have hE:Iy C (RdEnd l c acs) (RdG l c) r.fn r.n (some l) (c::acs):=by
  refine⟨?_,fun e=>(by cases e),fun e=>(by cases e),?_⟩
  ·rintro ds todo tm H x ⟨b,r2,c',_,_,_,e⟩
   simp_all
  ·rintro ds todo tm x ⟨b,r2,c',e,_,_⟩ hp
   rw[e]at hp;cases hp
 have hK:Iu C (RdEnd l c acs) (RdG l c) r.fn r.n (some l) (c::acs) rdK []:=by
  refine⟨?_,fun _ _ _ _ _ _ h=>(by cases h),?_⟩
  ·rintro ds x tm H ⟨b,r2,c',g1,g2,g3⟩ h
   cases h
   cases g1
   refine .step ?_
   rw[xJ rfl];have:wS C [] tm (RR r.fn r.n (some l) ds) (c::acs) H=.next ⟨c',acs,setBlk H l (.loop (eO true r2))⟩:=by
    have e0:wS C [] tm (RR r.fn r.n (some l) ds) (c::acs) H=bS none C ⟨[],tm,RR r.fn r.n (some l) ds⟩ (c::acs) H:=rfl
    rw[e0];unfold bS;simp only[g2,qA];show lL (ob (fH c (.bool true)) _) 7=_
    rw[g3];rfl
   rw[this];exact⟨_,.refl _,true,r2,c',rfl,g2,g3,rfl⟩
  ·rintro ds x tm H ⟨b,r2,c',g1,g2,g3⟩ h k'
   cases h
   cases g1
   refine .step ?_
   rw[xJ rfl];have:wS C (.code .ret::k') tm (RR r.fn r.n (some l) ds) (c::acs) H=.next ⟨c',acs,setBlk H l (.loop (eO false r2))⟩:=by
    have e0:wS C (.code .ret::k') tm (RR r.fn r.n (some l) ds) (c::acs) H=bS (some .ret) C ⟨.code .ret::k',tm,RR r.fn r.n (some l) ds⟩ (c::acs) H:=rfl
    rw[e0];unfold bS;simp only[g2,qA];show lL (ob (fH c (.bool false)) _) 7=_
    rw[g3];rfl
   rw[this];exact⟨_,.refl _,false,r2,c',rfl,g2,g3,rfl⟩
 obtain⟨o',k1,b',r2',c'',k2,k3,k4,rfl⟩:=Sj hφ hE q.c rdK [] (Or.inr q6) hK [] y tm' _ ⟨b,r2,c',h7,h6,hc⟩ h8
 simp_all
def Wu{c:nC}{i:Nat}{o:Array Oper}(h:regO c=some (i,o)):xE c=.region i o false:=by
 cases c with
 | region id ops d=>cases d<;>cases h;rfl
 | cut p c=>
  cases c with
  | region id ops d=>cases d<;>cases h;rfl
  | _=>cases h
 | _=>cases h
def PA{c:nC}{q:bP}(h:Oj c=some q):xE c=.seq (.region q.i5 q.o5 false) (.seq (.region q.i6 q.o6 false) .ret)/\Fh q.o5.toList=some (q.d,q.cl,q.bs):=by
 unfold Oj at h;split at h
 ·simp only[tA]at h
  obtain⟨u,h1,v,h2,r,h3,h4⟩:=h
  cases h4;refine⟨?_,h3⟩
  show Code.seq (xE _) (.seq (xE _) .ret)=_
  rw[Wu h1,Wu h2]
 ·cases h
def Mi(l:List nC)(e:Code):Code:=List.rec (motive:=fun _=>Code) e (fun a _ g=>.seq (xE a) g) l
def QD:∀(c:nC) {l:List nC} {q:bP},rV c=some (l,q)->xE c=Mi l (.seq (.region q.i5 q.o5 false) (.seq (.region q.i6 q.o6 false) .ret))/\Fh q.o5.toList=some (q.d,q.cl,q.bs):=by
 intro c;induction c with
 | seq a b _ ih=>
  intro l q h;have h:(match Oj (.seq a b)with | some q=>some ([],q) | none=>ob (rV b) fun p=>some (a::p.1,p.2))=some (l,q):=h
  split at h
  ·rename_i h1
   cases h;exact PA h1
  ·rw[tA]at h
   obtain⟨p,h1,h2⟩:=h
   cases h2;obtain⟨g1,g2⟩:=ih h1
   exact⟨by show Code.seq (xE a) (xE b)=_;rw[g1];rfl,g2⟩
 | _=>intro l q h;cases h
def YN{c:nC}{q:ClQ}(h:Fm c=some q):xE c=.seq (.region q.i q.o false) (xE q.c)/\recO q.o.toList=some (q.d,q.e):=by
 unfold Fm at h;split at h
 ·simp only[tA]at h
  obtain⟨u,h1,v,h2,h3⟩:=h
  cases h3;refine⟨?_,h2⟩
  show Code.seq (xE _) (xE _)=_
  rw[Wu h1]
 ·cases h
def XV{l:List Oper}{d cl:Nat}{bs:List Operand}(h:Fh l=some (d,cl,bs)):∃as' bs' t p a cc t' p' a',l=[⟨some d,.makeFunc (.func cl) as' bs',t,p,a,none⟩,⟨none,.defer cc,t',p',a',none⟩]/\as'.toList=[]/\bs'.toList=bs/\cc.callee=.value (.tmp d)/\cc.args.toList=[]:=by
 unfold Fh at h;split at h
 ·split at h
  ·rename_i e1 e2 e3
   simp only[qD]at h;split at h
   ·rename_i e
    cases h;exact⟨_,_,_,_,_,_,_,_,_,rfl,e1,rfl,by rw[e2,mC.1 e],e3⟩
   ·cases h
  ·cases h
 ·cases h
def RN{l:List Oper}{d e:Nat}(h:recO l=some (d,e)):∃cc t p a t' p' a',l=[⟨some d,.call cc,t,p,a,none⟩,⟨some e,.assign (.tmp d),t',p',a',none⟩]/\cc.callee=.builtin .recover:=by
 unfold recO at h;split at h
 ·split at h
  ·rename_i e1
   simp only[qD]at h;split at h
   ·rename_i e
    cases h;exact⟨_,_,_,_,_,_,_,by rw[mC.1 e],e1⟩
   ·cases h
  ·cases h
 ·cases h
def SU{φ:aE}(hφ:bQ C φ){E:zX}{ds:List gH}{x:iH × xA}{R:wK}{acs:List lB}{k:List mE}{all:Array Oper}{N:Nat}{I:Tm->Prop}(hR:R.mode.running=true)(hN:R.n=N)(hP:∀l tm,I tm->x.1.p=true->E ds (.next ⟨nV ⟨.ops all l::k,tm,R⟩ [⟨x.1.v,false⟩],acs,x.2⟩) x){κn:Tm->xA->oB}(hκ:∀tm H,I tm->κn tm H=some x->Fin C E ds (.next ⟨⟨k,tm,R⟩,acs,H⟩) x) :
  ∀(l:List Oper) (tm:Tm) (H:xA),(∀o∈l,∀tm v,I tm->I (putA N tm o.dst v))->I tm->wM C φ all N κn l tm H=some x->Fin C E ds (yM C all k R acs l tm H) x:=by
 intro l;induction l with
 | nil=>exact fun tm H _ hI h=>hκ tm H hI h
 | cons o l ih=>
  intro tm H hd hI h;have hd1:=fun tm v h=>hd o yby tm v h
  have ih:=fun tm H=>ih tm H fun o ho=>hd o (ybr _ ho)
  rw[Bo,tA]at h;obtain⟨w,h1,h⟩:=h
  rw[Bg,h1]
  cases w with
  | false=>
   simp only[ybq,if_false]at h ⊢
   rw[hN];exact ih _ _ (hd1 _ _ hI) h
  | true=>
   rw[yab rfl]at h;simp only[];generalize (bE o.op).f C (.now tm) H=r at h
   cases hv:r.asVal with
   | some p=>
    have e:r=.val p.1 p.2:=by cases r<;>simp[oK.asVal]at hv;rw[<- hv]
    rw[e]at h;simp only[jG]at h;rw[oP]at h;simp only[if_true];rw[hN];exact ih _ _ (hd1 _ _ hI) h.2
   | none=>
    simp only[if_true];refine Ws hφ h (fun v H' c' hc hK=>?_) (fun v=>⟨⟨.ops all l::k,putA R.n tm o.dst v,R⟩,by unfold fH;simp only[hR,cond_true];rfl⟩) (lX hR) (hP _ _ hI)
    unfold fH at hc;simp only[hR,cond_true]at hc;have hc:some (⟨.ops all l::k,putA R.n tm o.dst v,R⟩:lB)=some c':=hc
    cases hc;refine .step ?_
    rw[xJ hR,hN];rw[oP]at hK;exact ih _ _ (hd1 _ _ hI) hK.2
def cutK{n:Nat}{tm:Tm}{d:Nat}{v:zA}(h:tm.k<=d):(putA n tm (some d) v).cut=tm.cut:=by
 show(Ha d n tm v).cut=_
 unfold Ha;simp only[qD];split
 ·unfold Tm.set
  rw[qK,yaa (by rw[qC];omega)]
  rfl
 ·rfl
def XU{l:List Oper}{d cl:Nat}{bs:List Operand}{cells:List zA}(h:Fh l=some (d,cl,bs)){tm:Tm}{H:xA}(he:aN bs (.now tm)=some cells){f n:Nat}{ds:List gH}{acs:List lB}{k:List mE}{all:Array Oper}(hd:d<n) :
  yM C all k (RR f n none ds) acs l tm H=.next ⟨⟨.ops all []::k,putA n tm (some d) (.func (.func cl) [] cells),RR f n none (⟨some (.func cl),0,cells⟩::ds)⟩,acs,H⟩:=by
 obtain⟨as',bs',t,p,a,cc,t',p',a',rfl,e1,e2,e3,e4⟩:=XV h
 subst e2;obtain⟨ca,cargs,caty⟩:=cc
 simp only at e3 e4
 subst e3;have f1:(bE (.makeFunc (.func cl) as' bs')).f C (.now tm) H=.val (.func (.func cl) [] cells) H:=by
  show lv (Hk cl as' bs') C (.now tm) H=_
  unfold lv Hk;rw[e1];show(match ob (some []) _ with | some v=>oK.val v H | none=>.fail)=_
  rw[qA,he];rfl
 have f2:(bE (.defer ⟨.value (.tmp d),cargs,caty⟩)).f C (.now (putA n tm (some d) (.func (.func cl) [] cells))) H=.defer ⟨some (.func cl),0,cells⟩:=by
  show cY (ob (sR (.tmp d) cargs (.now (putA n tm (some d) (.func (.func cl) [] cells)))) fun p=>some (.defer ⟨some p.1,0,fD p.2.1 p.2.2⟩))=_
  have:sR (.tmp d) cargs (.now (putA n tm (some d) (.func (.func cl) [] cells)))=some (.func cl,[],cells):=by
   unfold sR;rw[e4,show ev (.tmp d) (.now (putA n tm (some d) (.func (.func cl) [] cells)))=(putA n tm (some d) (.func (.func cl) [] cells)).get d from rfl,vJ,yab ⟨rfl,hd⟩]
   rfl
  rw[this];rfl
 rw[Bg];show(match ((bE (.makeFunc (.func cl) as' bs')).f C (.now tm) H).asVal with | some p=>_ | none=>_)=_
 rw[f1];show yM C all k (RR f n none ds) acs _ (putA n tm (some d) (.func (.func cl) [] cells)) H=_
 rw[Bg];show(match ((bE (.defer ⟨.value (.tmp d),cargs,caty⟩)).f C (.now (putA n tm (some d) (.func (.func cl) [] cells))) H).asVal with | some p=>_ | none=>_)=_
 rw[f2];rfl
def RM{φ:aE}{E:zX}{l:List Oper}{d e:Nat}(h:recO l=some (d,e)){tm:Tm}{H:xA}{f n:Nat}{ds:List gH}{acs:List lB}{k:List mE}{all:Array Oper}{x:iH × xA}(hd:d<n){c c':lB}{v:zA}
  (hc:(c.R.mode=.returning/\v=.niliface/\c'=c)\/(c.R.mode=.panicking [⟨v,false⟩]/\c'=eY c (.panicking [⟨v,true⟩]))) (hf:Fin C E ds (.next ⟨⟨k,putA n (putA n tm (some d) v) (some e) v,RR f n none ds true⟩,c'::acs,H⟩) x) :
  Fin C E ds (yM C all k (RR f n none ds true) (c::acs) l tm H) x:=by
 obtain⟨cc,t,p,a,t',p',a',rfl,e1⟩:=RN h
 obtain⟨ca,cargs,caty⟩:=cc
 simp only at e1
 subst e1;have f1:(bE (.call ⟨.builtin .recover,cargs,caty⟩)).f C (.now tm) H=.recover:=rfl
 rw[Bg];have f3:yM C all k (RR f n none ds true) (c'::acs) [⟨some e,.assign (.tmp d),t',p',a',none⟩] (putA n tm (some d) v) H=.next ⟨⟨k,putA n (putA n tm (some d) v) (some e) v,RR f n none ds true⟩,c'::acs,H⟩:=by
  rw[Bg];show(match ((bE (.assign (.tmp d))).f C (.now (putA n tm (some d) v)) H).asVal with | some p=>_ | none=>_)=_
  have:(bE (.assign (.tmp d))).f C (.now (putA n tm (some d) v)) H=.val v H:=by
   show lv (cN (.tmp d)) C (.now (putA n tm (some d) v)) H=_
   unfold lv cN;rw[show ev (.tmp d) (.now (putA n tm (some d) v))=(putA n tm (some d) v).get d from rfl,vJ,yab ⟨rfl,hd⟩]
  rw[this];rfl
 have f4:Kv C ⟨.ops all (⟨some d,.call ⟨.builtin .recover,cargs,caty⟩,t,p,a,none⟩::[⟨some e,.assign (.tmp d),t',p',a',none⟩])::k,tm,RR f n none ds true⟩ (c::acs) H=.next ⟨⟨.ops all [⟨some e,.assign (.tmp d),t',p',a',none⟩]::k,putA n tm (some d) v,RR f n none ds true⟩,c'::acs,H⟩:=by
  obtain⟨ctodo,ctm,cfn,cn,cdefers,cmode,cdef,cround⟩:=c
  rcases hc with⟨h1,rfl,rfl⟩ | ⟨h1,rfl⟩
  ·simp only at h1
   subst h1;rfl
  ·simp only at h1
   subst h1;rfl
 show Fin C E ds (Kv C ⟨.ops all (⟨some d,.call ⟨.builtin .recover,cargs,caty⟩,t,p,a,none⟩::[⟨some e,.assign (.tmp d),t',p',a',none⟩])::k,tm,RR f n none ds true⟩ (c::acs) H) x
 rw[f4];refine .step ?_
 rw[xJ rfl];show Fin C E ds (yM C all k (RR f n none ds true) (c'::acs) [⟨some e,.assign (.tmp d),t',p',a',none⟩] (putA n tm (some d) v) H) x
 rw[f3];exact hf
theorem YK(hA:yX C A){φ:aE}(hφ:bQ C φ){cl:Nat}{cells:List zA}{v:zA}{H:xA}{y:iH × xA}{acs:List lB}{c c':lB}
  (hc:(c.R.mode=.returning/\v=.niliface/\c'=c)\/(c.R.mode=.panicking [⟨v,false⟩]/\c'=eY c (.panicking [⟨v,true⟩]))) (h:vS C A φ cl cells v H=some y) (hy:y.1.p=false) :
  C.prims.get cl=none/\∃g,rK C cl cells true=some g/\∃fr',fK C (.next ⟨g,c::acs,H⟩) (.next ⟨fr',c'::acs,y.2⟩)/\Fy C cl [] fr' y.2 y.1.v true:=by
 unfold vS at h;simp only[tA,wB,ybb]at h;obtain⟨fc,h1,cc,h2,q,h3,⟨h4,h5⟩,g,h6,h7⟩:=h
 have hpr:C.prims.get cl=none:=by
  cases hx:C.prims.get cl with
  | none=>rfl
  | some u=>rw[hx]at h4;cases h4
 refine⟨hpr,g,h6,?_⟩
 obtain⟨fc',g1,g2⟩:=hA _ _ h2
 rw[h1]at g1
 cases g1
 obtain⟨g3,g4⟩:=YN h3
 have g5:g.todo=[.code (xE cc)]/\g.R=⟨cl,fc.ntmps,[],.run,true,none⟩:=by
  grind [rK,tA,wB]
 obtain⟨gt,gtm,gR⟩:=g
 obtain⟨rfl,rfl⟩:=g5
 have hK:Iu C (xR C cl (c'::acs) true) (fun _=>True) cl fc.ntmps none (c'::acs) (oO C fc) [] true:=⟨fun ds x tm H _ h=>Mo h1 h rfl,fun ds x i tm H _ h=>(by cases h),fun ds x tm H _ h k'=>Mo h1 h rfl⟩
 have k1:=Sj hφ (Ru (fl:=true) ⟨fc,h1⟩) q.c (oO C fc) [] (Or.inl rfl) hK [] y _ H trivial h7
 have k2:Fin C (xR C cl (c'::acs) true) [] (.next ⟨⟨[.code (xE cc)],gtm,RR cl fc.ntmps none [] true⟩,c::acs,H⟩) y:=by
  refine .step ?_
  rw[xJ rfl,g3];exact RM (φ:=φ) g4 (qC.1 h5) hc k1
 obtain⟨o',k3,fr',rfl,k4⟩:=k2
 exact⟨fr',k3,k4.ret hy⟩
def zdc(hA:yX C A){φ:aE}(hφ:bQ C φ){cl:Nat}{cells:List zA}{v:zA}{H:xA}{y:iH × xA}{acs:List lB}{c:lB}{ds:List gH}(hd:c.R.defers=⟨some (.func cl),0,cells⟩::ds)
  (hm:(c.R.mode=.returning/\v=.niliface)\/c.R.mode=.panicking [⟨v,false⟩]) (h:vS C A φ cl cells v H=some y) (hy:y.1.p=false) :
  fK C (.next ⟨c,acs,H⟩) (.next ⟨⟨c.todo,c.tm,⟨c.R.fn,c.R.n,ds,.returning,c.R.deferred,c.R.roundOf⟩⟩,acs,y.2⟩):=by
 obtain⟨ctodo,ctm,cfn,cn,cdefers,cmode,cdef,cround⟩:=c
 simp only at hd hm
 subst hd;have hx:∀m:aU,((m=.returning/\v=.niliface)\/m=.panicking [⟨v,false⟩])->∀c':lB,c'=(⟨ctodo,ctm,⟨cfn,cn,ds,m,cdef,cround⟩⟩:lB)->∃c'':lB,((c'.R.mode=.returning/\v=.niliface/\c''=c')\/(c'.R.mode=.panicking [⟨v,false⟩]/\c''=eY c' (.panicking [⟨v,true⟩])))/\∀fr' H,Fy C cl [] fr' H y.1.v true->cT C (.next ⟨fr',c''::acs,H⟩)=.next ⟨⟨ctodo,ctm,⟨cfn,cn,ds,.returning,cdef,cround⟩⟩,acs,H⟩:=by
  intro m hm c' hc';subst hc'
  have ret:∀(c'':lB),c''.R.mode=.returning\/c''.R.mode=.panicking [⟨v,true⟩]->∀fr' H,Fy C cl [] fr' H y.1.v true->cT C (.next ⟨fr',c''::acs,H⟩)=.next ⟨eY c'' .returning,acs,H⟩:=by
   rintro c'' hcm fr' H ⟨h1,h2,h3,h4,fn,l,h5,h6,h7⟩
   obtain⟨todo,tm,ffn,n,defers,mode,deferred,round⟩:=fr'
   obtain⟨c2todo,c2tm,c2fn,c2n,c2defers,c2mode,c2def,c2round⟩:=c''
   simp only at h1 h2 h3 h4 h6 hcm
   subst h1 h2 h3 h4
   show Di C ⟨todo,tm,_⟩ (_::acs) H=_
   unfold Di;rw[h5,qA,h6];rcases hcm with rfl | rfl<;>rfl
  rcases hm with⟨rfl,rfl⟩ | rfl
  ·exact⟨_,.inl ⟨rfl,rfl,rfl⟩,fun fr' H hr=>ret _ (.inl rfl) fr' H hr⟩
  ·exact⟨_,.inr ⟨rfl,rfl⟩,fun fr' H hr=>ret _ (.inr rfl) fr' H hr⟩
 obtain⟨c'',h1,h2⟩:=hx cmode hm _ rfl
 obtain⟨hp,g,h3,fr',h4,h5⟩:=YK hA hφ (acs:=acs) h1 h hy
 refine .step ?_
 have e:cT C (.next ⟨⟨ctodo,ctm,⟨cfn,cn,⟨some (.func cl),0,cells⟩::ds,cmode,cdef,cround⟩⟩,acs,H⟩)=.next ⟨g,⟨ctodo,ctm,⟨cfn,cn,ds,cmode,cdef,cround⟩⟩::acs,H⟩:=by
  have e1:cT C (.next ⟨⟨ctodo,ctm,⟨cfn,cn,⟨some (.func cl),0,cells⟩::ds,cmode,cdef,cround⟩⟩,acs,H⟩)=Dj C ⟨some (.func cl),0,cells⟩ ds ⟨ctodo,ctm,⟨cfn,cn,⟨some (.func cl),0,cells⟩::ds,cmode,cdef,cround⟩⟩ acs H:=by
   rcases hm with⟨rfl,_⟩ | rfl<;>rfl
  rw[e1];unfold Dj;simp only[];rw[hp];simp only[];rw[h3];rfl
 rw[e];refine h4.trans (.step ?_)
 rw[h2 _ _ h5];exact .refl _
def QZ{H:xA}{tm tm':Tm}:∀ {l:List ResultVar},(∀r∈l,∃a t,r=.cell a t/\tm'.get a=tm.get a)->aT C H tm' l=aT C H tm l:=by
 intro l;induction l with
 | nil=>exact fun _=>rfl
 | cons r l ih=>
  intro h;obtain⟨a,t,rfl,h1⟩:=h _ yby
  have ih:=ih fun r hr=>h r (ybr _ hr)
  show kH (tR C H tm') _=kH (tR C H tm) _
  rw[nQ,nQ];have e:tR C H tm' (.cell a t)=tR C H tm (.cell a t):=by
   show(ob (ob (tm'.get a) zA.asPtr) fun p=>ob (C.tys.get t) fun ty=>ob (qE H p.1) fun c=>fR ty c.1 p.2)=_
   rw[h1];rfl
  rw[e];have ih:kH (tR C H tm') l=kH (tR C H tm) l:=ih
  rw[ih]
def YS{l:List ResultVar}{o6:List Oper}(h:Mz l o6=true):∀r∈l,∃a t,r=.cell a t/\∀o∈o6,o.dst≠some a:=by
 unfold Mz at h;rw[jH,ycb]at h;intro r hr;have:=h r hr
 cases r with
 | tmp t=>cases this
 | cell a t=>
  refine⟨a,t,rfl,fun o ho e=>?_⟩
  have this:fB (fun o=>match o.dst with | some d => !Nat.beq d a | none=>true) o6=true:=this
  rw[jH,ycb]at this;have:=this o ho
  rw[e]at this;simp at this
def PD(hA:yX C A){φ:aE}(hφ:bQ C φ){f:Nat}{fn:Func}{q:bP}(hf:C.fns.get f=some fn)(hq:Fh q.o5.toList=some (q.d,q.cl,q.bs)){acs:List lB}{ds:List gH}{tm:Tm}{H:xA}{x:iH × xA}(h:wQ C A φ fn q tm H=some x) :
  Fin C (xR C f acs) ds (.next ⟨⟨[.code (.seq (.region q.i5 q.o5 false) (.seq (.region q.i6 q.o6 false) .ret))],tm,RR f fn.ntmps none ds⟩,acs,H⟩) x:=by
 unfold wQ at h;simp only[wB,tA,ybb]at h;obtain⟨⟨h1,h2,h3⟩,cells,h4,y,h5,h6⟩:=h
 have hc:=YS h1
 let I:Tm->Prop:=fun tm'=>∀r∈fn.results.toList,∃a t,r=.cell a t/\tm'.get a=tm.cut.get a
 let D:gH:=⟨some (.func q.cl),0,cells⟩
 let E6:zX:=fun _ o y=>if y.1.p=true then ∃fr,o=.next ⟨fr,acs,y.2⟩/\fr.R=⟨f,fn.ntmps,D::ds,.panicking [⟨y.1.v,false⟩],false,none⟩/\I fr.tm else xR C f acs false ds o y
 have close:∀(c:lB) (H:xA) (v:zA) (tm0:Tm) (z:iH × xA),c.R=⟨f,fn.ntmps,D::ds,c.R.mode,false,none⟩->((c.R.mode=.returning/\v=.niliface)\/c.R.mode=.panicking [⟨v,false⟩])->(∀r∈fn.results.toList,∃a t,r=.cell a t/\c.tm.get a=tm0.get a)->tM C A φ fn q.cl cells v tm0 H=some z->z.1.p=false/\∃o',fK C (.next ⟨c,acs,H⟩) o'/\xR C f acs false ds o' z:=by
  intro c H v tm0 z e1 e2 e3 e4;unfold tM at e4;rw[tA]at e4;obtain⟨w,e5,e6⟩:=e4
  rw[wB]at e6;unfold jU at e6;rw[tA]at e6;obtain⟨e7,l,e8,e9⟩:=e6
  cases e9
  have hd:c.R.defers=D::ds:=by rw[e1]
  have r1:=zdc hA hφ (acs:=acs) hd e2 e5 (by simpa using e7)
  refine⟨rfl,_,r1,_,rfl,dP.of ⟨rfl,rfl,by rw[e1],by rw[e1],fn,l,hf,?_,rfl⟩ rfl⟩
  show aT C w.2 c.tm fn.results.toList=some l
  rw[QZ e3];exact e8
 refine .step ?_
 rw[xJ rfl];show Fin C (xR C f acs) ds (yM C q.o5 [.code (.seq (.region q.i6 q.o6 false) .ret)] (RR f fn.ntmps none ds) acs q.o5.toList tm.cut H) x
 rw[XU hq h4 (qC.1 h3)]
 refine .step ?_
 rw[xJ rfl];show Fin C (xR C f acs) ds (.next ⟨⟨[.code (.seq (.region q.i6 q.o6 false) .ret)],putA fn.ntmps tm.cut (some q.d) (.func (.func q.cl) [] cells),RR f fn.ntmps none (D::ds)⟩,acs,H⟩) x
 refine .step ?_
 rw[xJ rfl];show Fin C (xR C f acs) ds (yM C q.o6 [.code .ret] (RR f fn.ntmps none (D::ds)) acs q.o6.toList (putA fn.ntmps tm.cut (some q.d) (.func (.func q.cl) [] cells)).cut H) x
 rw[cutK (show tm.cut.k<=q.d from oE.1 h2)]
 have r6:Fin C E6 (D::ds) (yM C q.o6 [.code .ret] (RR f fn.ntmps none (D::ds)) acs q.o6.toList tm.cut.cut H) y:=by
  refine SU hφ (I:=I) (N:=fn.ntmps) rfl rfl (fun l tm' hI hp=>?_) (fun tm' H' hI hy=>?_) _ _ _ (fun o ho tm' v hI r hr=>?_) (fun r hr=>?_) h5
  ·show if y.1.p=true then _ else _
   rw[yab hp];exact⟨_,rfl,rfl,hI⟩
  ·have:cT C (.next ⟨⟨[.code .ret],tm',RR f fn.ntmps none (D::ds)⟩,acs,H'⟩)=.next ⟨⟨[.code .ret],tm',⟨f,fn.ntmps,D::ds,.returning,false,none⟩⟩,acs,H'⟩:=rfl
   refine .step ?_
   rw[this];obtain⟨z1,o',z2,z3⟩:=close ⟨[.code .ret],tm',⟨f,fn.ntmps,D::ds,.returning,false,none⟩⟩ H' .niliface tm' y rfl (.inl ⟨rfl,rfl⟩) (fun r hr=>by obtain⟨a,t,rfl,_⟩:=hc r hr;exact⟨a,t,rfl,rfl⟩) hy
   refine⟨o',z2,?_⟩
   show if y.1.p=true then _ else _
   rw[z1,yaa (by simp)]
   exact z3
  ·obtain⟨a,t,rfl,h7⟩:=hI r hr
   obtain⟨a',t',e,h8⟩:=hc _ hr
   cases e
   exact⟨a,t,rfl,by rw[vJ,yaa (fun e=>h8 o ho e.1)];exact h7⟩
  ·obtain⟨a,t,rfl,_⟩:=hc r hr
   exact⟨a,t,rfl,rfl⟩
 obtain⟨o',g1,g2⟩:=r6
 have g2:if y.1.p=true then ∃fr,o'=.next ⟨fr,acs,y.2⟩/\fr.R=⟨f,fn.ntmps,D::ds,.panicking [⟨y.1.v,false⟩],false,none⟩/\I fr.tm else xR C f acs false ds o' y:=g2
 cases hp:y.1.p with
 | false=>
  rw[hp]at h6 g2;rw[yaa (by simp)]at g2
  have h6:some y=some x:=h6
  cases h6;exact⟨o',g1,g2⟩
 | true=>
  rw[hp]at h6 g2;rw[yab rfl]at g2;have h6:tM C A φ fn q.cl cells y.1.v tm.cut y.2=some x:=h6
  obtain⟨fr,rfl,e1,e2⟩:=g2
  obtain⟨_,o'',z2,z3⟩:=close fr y.2 y.1.v tm.cut x (by rw[e1]) (.inr (by rw[e1])) e2 h6
  exact⟨o'',g1.trans z2,z3⟩
def ZE(hA:yX C A){φ:aE}(hφ:bQ C φ){f:Nat}{fn:Func}{c:nC}(hf:C.fns.get f=some fn){acs:List lB}{tm:Tm}{H:xA}{x:iH × xA}(h:iW C A φ f fn c tm H=some x) :
  Fin C (xR C f acs) [] (.next ⟨⟨[.code (xE c)],tm,RR f fn.ntmps none []⟩,acs,H⟩) x:=by
 unfold iW at h;split at h
 ·have hK:Iu C (xR C f acs) (fun _=>True) f fn.ntmps none acs (oO C fn) []:=⟨fun ds x tm H _ h=>Mo hf h rfl,fun ds x i tm H _ h=>(by cases h),fun ds x tm H _ h k'=>Mo hf h rfl⟩
  exact Sj hφ (Ru ⟨fn,hf⟩) c (oO C fn) [] (Or.inl rfl) hK [] x tm H trivial h
 ·rename_i p hp
  obtain⟨l,q⟩:=p
  obtain⟨h1,h2⟩:=QD c hp
  rw[h1];clear h1 hp
  have key:∀(l:List nC) ds x tm H,mD C φ f fn.ntmps (jX l) (Bh C A φ fn q) tm H=some x->Fin C (xR C f acs) ds (.next ⟨⟨[.code (Mi l (.seq (.region q.i5 q.o5 false) (.seq (.region q.i6 q.o6 false) .ret)))],tm,RR f fn.ntmps none ds⟩,acs,H⟩) x:=by
   intro l;induction l with
   | nil=>exact fun ds x tm H h=>PD hA hφ hf h2 h
   | cons a l ih=>
    intro ds x tm H h;refine Rx (Ru ⟨fn,hf⟩) (t1:=[.code (Mi (a::l) _)]) rfl (t2:=.code (xE a)::[.code (Mi l (.seq (.region q.i5 q.o5 false) (.seq (.region q.i6 q.o6 false) .ret)))]) (fun _ _=>rfl) ?_
    have hK:Iu C (xR C f acs) (fun _=>True) f fn.ntmps none acs ⟨mD C φ f fn.ntmps (jX l) (Bh C A φ fn q),fun _ _ _=>none,jU C fn⟩ [.code (Mi l (.seq (.region q.i5 q.o5 false) (.seq (.region q.i6 q.o6 false) .ret)))]:=
     ⟨fun ds x tm H _ h=>ih ds x tm H h,fun ds x i tm H _ h=>(by cases h),fun ds x tm H _ h k'=>Mo hf h rfl⟩
    exact Sj hφ (Ru ⟨fn,hf⟩) a _ _ (Or.inl rfl) hK ds x tm H trivial h
  exact key l [] x tm H h
theorem QA(hA:yX C A){φ:aE}(hφ:bQ C φ):bQ C (Dp C A φ):=by
 refine⟨fun f args H x h=>?_,fun l args H x h=>QX hφ h⟩
 have h:zS C A φ f args H=some x:=h
 unfold zS at h;rw[tA]at h;obtain⟨c,h1,h⟩:=h
 rw[tA]at h;obtain⟨fn,h2,h⟩:=h
 rw[tA]at h;obtain⟨g,h3,h⟩:=h
 refine⟨g,h3,fun acs=>?_⟩
 obtain⟨fn',c',e1,e2,e3,e4⟩:=WY h3
 rw[h2]at e1;cases e1
 obtain⟨fn',e5,e6⟩:=hA f c h1
 rw[h2]at e5;cases e5
 rw[e2]at e6;cases e6
 obtain⟨gt,gtm,gR⟩:=g
 simp only at e3 e4 h
 subst e3 e4
 obtain⟨o',k1,fr',rfl,k2⟩:=ZE hA hφ h2 (acs:=acs) h
 grind
def GG(hA:yX C A):∀n,bQ C (Bq C A n):=by
 intro n;induction n with
 | zero=>exact⟨fun f args H x h=>(by cases h),fun l args H x h=>(by cases h)⟩
 | succ n ih=>exact QA hA ih
def VX(hA:yX C A):bQ C (bC C A):=by
 refine⟨fun f args H x h=>?_,fun f args H x h=>?_⟩
 ·obtain⟨n,hn⟩:=Fc.1 h
  exact(GG hA n).fn _ _ _ _ hn
 ·obtain⟨n,hn⟩:=Fc.1 h
  exact(GG hA n).rd _ _ _ _ hn
theorem YT{P:Program}{B N:Nat}{I:World->Prop}{μ:Mu}{w:World}(hS:gK P C B N I)(hI:I w)(hA:yX C A){f:Nat}{args:List zA}{args':Array Value}{H H':xA}{v:zA}(hH:vB B N μ H w)(hl:tB μ args args'.toList)
  (h:bC C A (.func f) args H=some (⟨v,false⟩,H')):Calls P f args' w fun e w'=>∃v' μ',e=.returned v'/\μ.lw μ'/\uA μ' v v'/\vB B N μ' H' w'/\Below N w w':=by
 intro base;obtain⟨g,he,hr⟩:=(VX hA).fn _ _ _ _ h
 obtain⟨fr',r1,hE⟩:=hr []
 obtain⟨h1,h2,h3,h4,fn,l,h5,h6,rfl⟩:=hE.ret rfl
 have h0:aD P C B N μ base (lone (Frame.enter P f args' .normal) base w) w (.next ⟨g,[],H⟩):=Vx hS.fns hH hl he
 obtain⟨μ',b,cs,w',s1,s2,s3,s4,s5,s6⟩:=aD.reach hS hI r1 h0
 cases s6
 have hb:=s5.body
 rw[yaa (by grind [aU.running])]at hb
 obtain⟨v',q1,q2⟩:=EQ hS.tys s4 hb h6
 have hm:=s5.rest.mode
 rw[h1]at hm;have hbm:b.mode=.returning:=by
  cases hb:b.mode with
  | returning=>rfl
  | _=>rw[hb]at hm;exact hm.elim
 have hd:=s5.rest.defers
 rw[h2]at hd;have hbd:b.defers=[]:=by
  generalize hx:b.defers=bd at hd
  cases hd;rfl
 have hk:=s5.rest.kind
 rw[h3]at hk;have hfn:b.fn=f:=by rw[s5.rest.fn,h4]
 exact⟨.returned v',w',b,⟨v',μ',rfl,s2,q2,s4,s3⟩,s1,hfn,hbm,hbd,hk,fn,by rw[hfn];exact(hS.fns _ _ h5).1,q1⟩
end
end
section
def mA(C:oA)(t:Nat)(H:xA)(v:zA):Option zA:=ob v.asPtr fun p=>ob (C.tys.get t) fun ty=>ob (qE H p.1) fun c=>fR ty c.1 p.2
def Ax(C:oA)(s d:Nat)(H:xA)(a:zA):Option zA:=ob (C.tys.get s) fun s=>ob (C.tys.get d) fun d=>iU C s d a H
def vG(C:oA)(t:Nat)(H:xA)(a:zA)(l h:Option zA):Option zA:=ob (C.tys.get t) fun ty=>gN C H ty a l h
def Ub(C:oA)(s f:Nat):Option Nat:=ob (C.tys.get s) fun ty=>ob ty.desc.asStruct fun fs=>ob (sD fs f) fun fd=>xB (!Nat.beq fd.2.2 0) (some fd.1)
def kC(C:oA)(s f:Nat)(v:zA):Option zA:=ob (Ub C s f) fun k=>ob v.asPtr fun p=>some (.ptr p.1 (p.2+k))
def xC(C:oA)(t:Nat)(v i:zA):Option zA:=
 ob (C.tys.get t) fun ty=>ob i.asNat fun i=>
  match v.asSlice with
  | some s=>ob ty.desc.asSlice fun el=>ob (C.tys.get el) fun et=>xB (Nat.blt i s.2.2.1) (some (.ptr s.1 (s.2.1+i*et.size)))
  | none=>ob v.asPtr fun p=>ob ty.desc.asArr fun a=>ob (C.tys.get a.2) fun et=>xB (Nat.blt i a.1) (some (.ptr p.1 (p.2+i*et.size)))
def BT(C:oA)(t i:Nat):Option Nat:=ob (C.tys.get t) fun ty=>ob ty.desc.asArr fun a=>ob (C.tys.get a.2) fun et=>xB (Nat.blt i a.1) (some (i*et.size))
def nI(C:oA)(t:Nat)(v i:zA):Option zA:=
 ob (C.tys.get t) fun ty=>ob i.asNat fun i=>
  match v.asStr with
  | some s=>xB ty.desc.isString (ob (sD s i) fun b=>some (.int .u8 (.ofNat b)))
  | none=>ob v.asAgg fun l=>ob ty.desc.asArr fun a=>ob (C.tys.get a.2) fun et=>xB (Nat.blt i a.1) (sQ C a.2 l (i*et.size))
def yH(i:Nat)(v:zA):Option zA:=ob v.asTup fun l=>sD l i
def eT (C:oA)(t:Nat)(H:xA)(v:zA):Option zA:=ob (C.tys.get t) fun ty=>ob (vU H ty v) fun n=>some (.int .i64 (.ofNat n))
def pC(v:zA):Option zA:=
 match v.asSlice with
 | some s=>some (.int .i64 (.ofNat s.2.2.1))
 | none=>xB (Nat.beq v.tag 5) (some (.int .i64 (.ofNat 0)))
def zG (v:zA):Option zA:=xB (Nat.beq v.tag 4||Nat.beq v.tag 9) (some v)
def Dg(C:oA)(u:Nat)(ok:Bool)(v:zA):Option zA:=
 ob (C.tys.get u) fun ty=>xB (Nat.blt ty.desc.tag 9) (
  match v.asIface with
  | some p=>bif Nat.beq p.1 u then some (bif ok then .tup [p.2,.bool true]else p.2)else xB ok (some (.tup [vX ty,.bool false]))
  | none=>xB (Nat.beq v.tag 12&&ok) (some (.tup [vX ty,.bool false])))
def oX(C:oA)(t:Nat)(H:xA)(m k:zA)(ok:Bool):Option zA:=
 ob (C.tys.get t) fun ty=>ob ty.desc.asMap fun ke=>ob (C.tys.get ke.1) fun kty=>xB (qU C kty) (ob (C.tys.get ke.2) fun ety=>
  ob (kV H m) fun es=>xB (dR C kty k) (ob (zL k es) fun r=>
   match r with
   | some v=>some (bif ok then .tup [v,.bool true]else v)
   | none=>some (bif ok then .tup [vX ety,.bool false]else vX ety)))
def nK(C:oA)(t:Nat)(H:xA):Option (zA × xA):=ob (C.tys.get t) fun ty=>some (.ptr H.next 0,yG H ty.zero none)
def wN (v:zA)(H:xA):Option (zA × xA):=some (.ptr H.next 0,yG H v.cells none)
def Oa(C:oA)(t:Nat)(H:xA):Option (zA × xA):=ob (C.tys.get t) fun ty=>some (.ptr H.next 0,yG H ty.zero (dK C t))
def zgg(C:oA)(t:Nat)(v:zA)(H:xA):Option (zA × xA):=some (.ptr H.next 0,yG H v.cells (dK C t))
def cC(C:oA)(t len:Nat)(ps:List (Nat × zA))(H:xA):Option (zA × xA):=
 ob (C.tys.get t) fun ty=>ob ty.desc.asSlice fun el=>ob (C.tys.get el) fun et=>
  xB (Nat.blt (len*et.size) 1000000&&Nat.beq (zB et.zero) et.size) (ob (kK (fun i=>some (i*et.size,et.size)) ps (tI et.zero len)) fun l=>some (.slice H.next 0 len len,yG H l none))
def zC(C:oA)(t:Nat)(a v:zA)(H:xA):Option (zA × xA):=ob (C.tys.get t) fun ty=>ob a.asPtr fun p=>xB (Nat.beq (zB v.cells) ty.size) (ob (yJ C H p.1 p.2 v.cells) fun H'=>some (dD,H'))
def Nz(H:xA):Option (zA × xA):=some (.map H.next,newBlk H (.map []))
def kS(C:oA)(t:Nat)(m k v:zA)(H:xA):Option (zA × xA):=
 ob (C.tys.get t) fun ty=>ob ty.desc.asMap fun ke=>ob (C.tys.get ke.1) fun kty=>xB (qU C kty)
  (ob m.asMap fun b=>xB (!Nat.blt b C.base) (ob (yL H b) fun l=>xB (dR C kty k) (ob (fN k v l) fun l'=>some (dD,setBlk H b (.map l')))))
def uP(C:oA)(t:Nat)(l c:zA)(H:xA):Option (zA × xA):=
 ob (C.tys.get t) fun ty=>ob ty.desc.asSlice fun el=>ob (C.tys.get el) fun et=>ob l.asNat fun l=>ob c.asNat fun c=>
  xB (Nat.ble l c&&Nat.blt c 1000000&&Nat.blt (c*et.bytes) 1000000000&&Nat.beq (zB et.zero) et.size) (some (.slice H.next 0 l c,yG H (tI et.zero c) none))
def Ua(C:oA)(s d:Nat)(v:zA)(H:xA):Option (zA × xA):=
 ob (C.tys.get s) fun _=>ob (C.tys.get d) fun ty=>ob ty.desc.asSlice fun el=>ob (C.tys.get el) fun et=>ob et.desc.asInt fun k=>xB (uN k .u8) (ob v.asStr fun l=>
  some (.slice H.next 0 (zB l) (zB l),yG H (xY l) (some (.ty el))))
def gE(C:oA)(t u:Nat)(a b:zA)(H:xA):Option (zA × xA):=ob (C.tys.get t) fun ty=>ob (C.tys.get u) fun uty=>xB (!Nat.beq uty.desc.tag 1) (sS C H ty a b)
def vNext(v:zA)(H:xA):Option (zA × xA):=ob v.asPtr fun p=>xB (Nat.beq p.2 0) (ob (ob (H.t.get p.1) vA.asIter) fun x=>
 match sD x.1 x.2 with
 | some c=>xB (Nat.blt c 128) (some (.tup [.bool true,.int .i64 (.ofNat x.2),.int .i32 (.ofNat c)],setBlk H p.1 (.siter x.1 (x.2+1))))
 | none=>some (.tup [.bool false],H))
structure kG where
 b:Nat->Bool
 i:Nat->Int
 s:Nat->List Nat
 v:Nat->zA
inductive T where
 | ret (v:zA)
 | fail
 | ite (b:Bool) (x y:T)
 | opt (x:Option zA) (K:zA->T)
 | light (x:Tr vA->Option zA) (K:zA->T)
 | heavy (x:xA->Option (zA × xA)) (K:zA->T)
 | call (f:Nat) (args:List zA) (K:zA->T)
 | callv (f:zA) (args:List zA) (K:zA->T)
 | asI (k:IntKind) (v:zA) (K:Int->T)
 | asB (v:zA) (K:Bool->T)
 | asS (v:zA) (K:List Nat->T)
 | asG (zs:List zA) (v:zA) (K:kG->T)
 | jump (i:Nat) (vals:List zA)
 | range (np:Nat->Bool) (f:zA) (i m:Nat) (vals:List zA) (K R:T)
def yo:Nat:=1099511627776
def pn:Nat:=1099511627775
def El(z:zA)(X:kG)(j:Nat):zA:=
 match z with
 | .bool _=>.bool (X.b j)
 | .int k _=>.int k (X.i j)
 | .str _=>.str (X.s j)
 | _=>X.v j
def kM(zs:List zA)(X:kG):Nat->List zA:=
 List.rec (motive:=fun _=>Nat->List zA) (fun _=>[]) (fun z _ g j=>El z X j::g (j+1)) zs
def Im(l:List zA)(j:Nat):Bool:=match l[j]? with | some (.bool b)=>b | _=>false
def ziv(l:List zA)(j:Nat):Int:=match l[j]? with | some (.int _ n)=>n | _=>0
def strAt(l:List zA)(j:Nat):List Nat:=match l[j]? with | some (.str s)=>s | _=>[]
def Jt(l:List zA)(j:Nat):zA:=match l[j]? with | some v=>v | _=>.nilptr
def cellsOf(l:List zA):kG:=⟨Im l,ziv l,strAt l,Jt l⟩
def cZ (z a:zA):Bool:=
 match z with
 | .bool _=>Nat.beq a.tag 0
 | .int k _=>match a.asIntK with | some p=>uN p.1 k | none=>false
 | .str _=>Nat.beq a.tag 2
 | .nilptr=>Nat.beq a.tag 3||Nat.beq a.tag 4
 | .nilslice=>Nat.beq a.tag 5||Nat.beq a.tag 6
 | .nilmap=>Nat.beq a.tag 7||Nat.beq a.tag 8
 | .nilfunc=>Nat.beq a.tag 10||Nat.beq a.tag 9
 | .niliface=>Nat.beq a.tag 12||Nat.beq a.tag 11
 | _=>false
def yS:List zA->List zA->Bool
 | [],[]=>true
 | z::zs,a::l=>cZ z a&&yS zs l
 | _,_=>false
structure sH where
 tm:Tm
 ad:List (Nat × Nat × Nat)
 lo:Tr (List zA)
 lit:List Nat
abbrev KT:=sH->T
structure KtT where
 norm:KT
 exit:Nat->KT
 ret:KT
def cB {α:Type}(x:Option α)(K:α->T):T:=Option.rec (motive:=fun _=>T) .fail K x
def lK (b:Bool)(K:T):T:=Bool.rec (motive:=fun _=>T) .fail K b
def fL(i:Nat)(l:List (Nat × Nat × Nat)):Option (Nat × Nat):=
 List.rec (motive:=fun _=>Option (Nat × Nat)) none (fun a _ g=>Bool.rec (motive:=fun _=>Option (Nat × Nat)) g (some a.2) (Nat.beq i a.1)) l
inductive sO where
 | now (ad:List (Nat × Nat × Nat))
 | mixed (ad old:List (Nat × Nat × Nat)) (olds names:List Nat)
def tAd (e:sO)(t:Nat):Option (Nat × Nat):=
 match e with
 | .now ad=>fL t ad
 | .mixed ad old olds names=>bif aH t names then fL t (bif aH t olds then old else ad)else none
def xAd (e:sO)(x:Operand):Option (Nat × Nat):=
 match x with
 | .tmp t=>tAd e t
 | _=>none
def yN:xA:=⟨0,.leaf⟩
def yI (C:oA)(t:Nat):Nat:=
 match C.tys.get t with
 | some ty=>ty.desc.tag
 | none=>10
def Zc(x:Operand):Bool:=
 match x with
 | .const _=>true
 | _=>false
def LS(x:Operand):Bool:=
 match x with
 | .const (.int _ n) => !tC n 0
 | _=>false
def binDir(C:oA)(op:BinOp)(t:Nat)(y:Operand):Bool:=
 match op with
 | .add=>Nat.beq (yI C t) 1
 | .sub=>true
 | .mul=>true
 | .quo=>LS y
 | .rem=>LS y
 | .shl=>Zc y
 | .shr=>Zc y
 | .eql=>Nat.ble (yI C t) 2
 | .neq=>Nat.ble (yI C t) 2
 | .lss=>Nat.ble (yI C t) 2
 | .leq=>Nat.ble (yI C t) 2
 | .gtr=>Nat.ble (yI C t) 2
 | .geq=>Nat.ble (yI C t) 2
 | _=>false
structure zN where
 K:zA->T
 Kd:zA->T
 KA:Nat->Nat->T
def uR (C:oA)(op:Op)(e:vD)(k:zN):T:=cB ((cF op).f C e yN) k.Kd
def Oq(C:oA)(op:Op)(x:Operand)(e:vD)(ae:sO)(k:zN):T:=
 match xAd ae x with
 | some p=>k.KA p.1 p.2
 | none=>uR C op e k
def tLoad(C:oA)(t:Nat)(a:Operand)(e:vD)(ae:sO)(lo:Tr (List zA))(k:zN):T:=
 match xAd ae a with
 | some p=>cB (lo.get p.1) fun l=>cB (C.tys.get t) fun ty=>lK (Nat.ble (p.2+ty.size) (zB l)) (cB (sQ C t l p.2) k.Kd)
 | none=>cB (ev a e) fun v=>.light (fun m=>mA C t ⟨0,m⟩ v) k.K
def CR(C:oA)(s:Nat)(x:Operand)(f:Nat)(e:vD)(ae:sO)(k:zN):T:=
 match xAd ae x with
 | some p=>cB (Ub C s f) fun o=>k.KA p.1 (p.2+o)
 | none=>cB (ev x e) fun v=>.opt (kC C s f v) k.K
def CP(C:oA)(t:Nat)(x i:Operand)(e:vD)(ae:sO)(k:zN):T:=
 match xAd ae x with
 | some p=>cB (ev i e) fun i=>cB i.asNat fun i=>cB (BT C t i) fun o=>k.KA p.1 (p.2+o)
 | none=>cB (ev x e) fun v=>cB (ev i e) fun i=>.opt (xC C t v i) k.K
def tNil (x:Operand)(e:vD)(ae:sO)(k:zN):T:=
 match xAd ae x with
 | some p=>k.KA p.1 p.2
 | none=>cB (ev x e) fun v=>.opt (zG v) k.K
def tLen (C:oA)(c:Call)(e:vD)(k:zN):T:=
 cB (sD c.argTypes.toList 0) fun t=>cB (sD c.args.toList 0) fun x=>cB (ev x e) fun v=>
  bif Nat.beq (yI C t) 4 then .opt (pC v) k.K else bif Nat.beq (yI C t) 6 then .light (fun m=>eT C t ⟨0,m⟩ v) k.K else cB (eT C t yN v) k.Kd
def tBin (C:oA)(op:BinOp)(t:Nat)(x y:Operand)(u:Nat)(e:vD)(k:zN):T:=
 bif binDir C op t y then uR C (.binOp op t x y u) e k else cB (ev x e) fun a=>cB (ev y e) fun b=>.opt ((gP op).f C t x y a b) k.K
def zgy(C:oA)(s d:Nat)(x:Operand)(e:vD)(k:zN):T:=
 bif Nat.beq (yI C d) 2 then(bif Nat.beq (yI C s) 2 then uR C (.convert s d x) e k else cB (ev x e) fun v=>.light (fun m=>Ax C s d ⟨0,m⟩ v) k.K)else bif Nat.beq (yI C d) 1 then uR C (.convert s d x) e k else .fail
def zdx(C:oA)(t:Nat)(x:Operand)(lo hi:Option Operand)(e:vD)(k:zN):T:=
 cB (ev x e) fun a=>cB (vT lo e) fun l=>cB (vT hi e) fun h=>
  bif Nat.beq (yI C t) 2 then .opt (vG C t yN a l h) k.K else .light (fun m=>vG C t ⟨0,m⟩ a l h) k.K
def Kb(C:oA)(c:Call)(e:vD)(k:zN):Builtin->T
 | .len=>tLen C c e k
 | .max=>uR C (.call c) e k
 | .min=>uR C (.call c) e k
 | _=>.fail
def Ii(ty:lD)(v:zA):List zA:=bif ty.desc.isAgg then v.cells else [v]
def zi5(cells:List zA)(off size:Nat)(vc:List zA):Option (List zA):=
 xB (Nat.beq (zB vc) size&&Nat.ble (off+zB vc) (zB cells)) (some (fD (qZ cells off) (fD vc (lQ cells (off+zB vc)))))
def Xd(C:oA)(tyAt:Nat->Option Nat):List (Nat × zA)->Option (List (Nat × zA × List zA) × List zA):=
 List.rec (motive:=fun _=>Option (List (Nat × zA × List zA) × List zA)) (some ([],[]))
  (fun p _ g=>ob (tyAt p.1) fun t=>ob (C.tys.get t) fun ty=>ob g fun r=>some (bif ty.desc.isAgg then((p.1,p.2,p.2.cells)::r.1,r.2)else((p.1,p.2,[p.2])::r.1,p.2::r.2)))
def Rz(place:Nat->Option (Nat × Nat)):List (Nat × zA × List zA)->List zA->Option (List zA):=
 List.rec (motive:=fun _=>List zA->Option (List zA)) (fun cells=>some cells) (fun p _ g cells=>ob (place p.1) fun q=>ob (zi5 cells q.1 q.2 p.2.2) fun cells=>g cells)
def tyAtS(ty:lD)(i:Nat):Option Nat:=
 match ty.desc.asStruct with
 | some fs=>ob (sD fs i) fun x=>some x.2.1
 | none=>ob ty.desc.asArr fun a=>some a.2
def Hc(C:oA)(ty:lD)(i:Nat):Option (Nat × Nat):=
 match ty.desc.asStruct with
 | some fs=>ob (sD fs i) fun x=>some (x.1,x.2.2)
 | none=>ob ty.desc.asArr fun a=>ob (C.tys.get a.2) fun et=>some (i*et.size,et.size)
def MW(C:oA)(ty:lD):Bool:=
 match ty.desc.asStruct with
 | some _=>true
 | none=>match ty.desc.asArr with
  | some a=>(match C.tys.get a.2 with | some _=>true | none=>false)
  | none=>false
def zdz(C:oA)(t:Nat)(ps:Array (Nat × Operand))(e:vD)(k:zN):T:=
 cB (C.tys.get t) fun ty=>lK (MW C ty) <| cB (wT ps.toList e) fun vs=>cB (Xd C (tyAtS ty) vs) fun q=>cB (Rz (Hc C ty) q.1 ty.zero) fun l=>.ite (fB zA.one q.2) (k.Kd (.agg l)) .fail
def tL (C:oA)(op:Op)(e:vD)(ae:sO)(lo:Tr (List zA))(k:zN):T:=
 match op with
 | .move x=>Oq C (.move x) x e ae k
 | .assign x=>Oq C (.assign x) x e ae k
 | .load t a=>tLoad C t a e ae lo k
 | .fieldAddr s x f=>CR C s x f e ae k
 | .indexAddr t x i=>CP C t x i e ae k
 | .nilCheck x=>tNil x e ae k
 | .binOp op t x y u=>tBin C op t x y u e k
 | .convert s d x=>zgy C s d x e k
 | .slice t x lo hi none=>zdx C t x lo hi e k
 | .index t x i=>bif Zc i&&Nat.beq (yI C t) 5 then uR C (.index t x i) e k else cB (ev x e) fun v=>cB (ev i e) fun i=>.opt (nI C t v i) k.K
 | .extract t i=>cB (ev t e) fun v=>.opt (yH i v) k.K
 | .typeAssert x _ u ok=>cB (ev x e) fun v=>.opt (Dg C u ok v) k.K
 | .lookup t x i ok=>cB (ev x e) fun m=>cB (ev i e) fun key=>.light (fun h=>oX C t ⟨0,h⟩ m key ok) k.K
 | .call c=>match c.callee with
  | .builtin b=>Kb C c e k b
  | _=>.fail
 | .pick c a b=>uR C (.pick c a b) e k
 | .unOp o t x=>(match o with
  | .xor=>cB (ev x e) fun v=>.opt (Dh v) k.K
  | o=>uR C (.unOp o t x) e k)
 | .makeInterface t x=>uR C (.makeInterface t x) e k
 | .makeFunc fn a b=>uR C (.makeFunc fn a b) e k
 | .field t x f=>uR C (.field t x f) e k
 | .build t ps=>zdz C t ps e k
 | _=>.fail
def laOf (la:List Nat)(dst:Option Nat):Option Nat:=
 match dst with
 | some d=>bif aH d la then some d else none
 | none=>none
structure KLo where
 new:Nat->List zA->T
 set:Nat->List zA->T
def zdy(f:Operand)(args:Array Operand)(e:vD)(k:zN):T:=
 match f with
 | .func g=>lK (Nat.blt g pn) (cB (aN args.toList e) fun aq=>.call g aq k.K)
 | f=>cB (ev f e) fun fv=>cB (aN args.toList e) fun aq=>.callv fv aq k.K
def two' (c:Call)(e:vD)(K:zA->zA->T):T:=cB (two c e) fun p=>K p.1 p.2
def CQ(C:oA)(c:Call)(e:vD)(k:zN):Builtin->T
 | .append=>cB (sD c.argTypes.toList 0) fun t=>cB (sD c.argTypes.toList 1) fun u=>two' c e fun a b=>.heavy (gE C t u a b) k.K
 | b=>Kb C c e k b
def zdw(C:oA)(t:Nat)(a x:Operand)(e:vD)(ae:sO)(lo:Tr (List zA))(k:zN)(kl:KLo):T:=
 match xAd ae a with
 | some p=>cB (ev x e) fun v=>cB (C.tys.get t) fun ty=>cB (lo.get p.1) fun l=>cB (zi5 l p.2 ty.size (Ii ty v)) fun l'=>.ite (fB zA.one (Ii ty v)) (kl.set p.1 l') .fail
 | none=>cB (ev a e) fun a=>cB (ev x e) fun v=>.heavy (zC C t a v) k.Kd
def tH (C:oA)(la:List Nat)(dst:Option Nat)(op:Op)(e:vD)(ae:sO)(lo:Tr (List zA))(k:zN)(kl:KLo):T:=
 match op with
 | .box t x=>bif sE (dK C t)then cB (ev x e) fun v=>(match laOf la dst with
  | some d=>cB (C.tys.get t) fun ty=>bif ty.desc.isAgg then kl.new d v.cells else .ite (zA.one v) (kl.new d [v]) .fail
  | none=>.heavy (wN v) k.K)else cB (ev x e) fun v=>.heavy (zgg C t v) k.K
 | .alloc t=>bif sE (dK C t)then(match laOf la dst with
  | some d=>cB (C.tys.get t) fun ty=>kl.new d ty.zero
  | none=>.heavy (nK C t) k.K)else .heavy (Oa C t) k.K
 | .store t a x=>zdw C t a x e ae lo k kl
 | .buildSlice t len ps=>cB (wT ps.toList e) fun ps=>.heavy (cC C t len ps) k.K
 | .makeMap _ none=>.heavy Nz k.K
 | .insert t m key x=>cB (ev m e) fun m=>cB (ev key e) fun key=>cB (ev x e) fun v=>.heavy (kS C t m key v) k.Kd
 | .mapUpdate t m key x=>cB (ev m e) fun m=>cB (ev key e) fun key=>cB (ev x e) fun v=>.heavy (kS C t m key v) k.Kd
 | .makeSlice t l c=>cB (ev l e) fun l=>cB (ev c e) fun c=>.heavy (uP C t l c) k.K
 | .convert s d x=>bif Nat.beq (yI C d) 4 then cB (ev x e) fun v=>.heavy (Ua C s d v) k.K else zgy C s d x e k
 | .call c=>match c.callee with
  | .value f=>zdy f c.args e k
  | .builtin b=>CQ C c e k b
  | _=>.fail
 | .panic x=>cB (ev x e) fun v=>cB v.asIface fun p=>.call pn [.iface p.1 p.2] k.K
 | op=>tL C op e ae lo k
def rmNat(i:Nat)(l:List Nat):List Nat:=List.rec (motive:=fun _=>List Nat) [] (fun j _ g=>bif Nat.beq i j then g else j::g) l
def vR (n:Nat)(dst:Option Nat)(v:zA)(lt:Bool)(st:sH)(κ:KT):T:=
 match dst with
 | none=>κ st
 | some d=>bif Nat.blt d n then lK (sE (fL d st.ad)) (κ ⟨st.tm.set d v,st.ad,st.lo,bif lt then d::rmNat d st.lit else rmNat d st.lit⟩)else κ st
def zgv(n:Nat)(dst:Option Nat)(d off:Nat)(st:sH)(κ:KT):T:=
 cB dst fun i=>lK (Nat.blt i n) (lK (sE (st.tm.get i)) (κ ⟨st.tm,(i,d,off)::st.ad,st.lo,st.lit⟩))
def zer(d:Nat)(ad:List (Nat × Nat × Nat)):Bool:=fB (fun a=>bif Nat.beq a.2.1 d then Nat.beq a.1 d else true) ad
def tNew (n:Nat)(d:Nat)(l:List zA)(st:sH)(κ:KT):T:=
 lK (Nat.blt d n) (lK (sE (st.tm.get d)) (lK (zer d st.ad) (κ ⟨st.tm,(d,d,0)::st.ad,st.lo.set d l,st.lit⟩)))
def Hw (C:oA)(t:Nat)(v:zA):Bool:=
 match C.tys.get t with
 | some ty=>(match ty.desc with
  | .bool=>Nat.beq v.tag 0
  | .int k=>(match v.asIntK with | some p=>uN p.1 k | none=>false)
  | .string=>Nat.beq v.tag 2
  | _=>true)
 | none=>true
def Ka(C:oA)(t:Nat)(v:zA)(K:zA->T):T:=
 match C.tys.get t with
 | some ty=>(match ty.desc with
  | .bool=>.asB v fun b=>K (.bool b)
  | .int k=>.asI k v fun n=>K (.int k n)
  | .string=>.asS v fun s=>K (.str s)
  | .struct _=>bif Nat.ble (zB ty.zero) 40 then .asG ty.zero v fun X=>K (.agg (kM ty.zero X 0))else K v
  | .arr _ _=>bif Nat.ble (zB ty.zero) 40 then .asG ty.zero v fun X=>K (.agg (kM ty.zero X 0))else K v
  | _=>K v)
 | none=>K v
def Bt (x:Operand)(lit:List Nat):Bool:=
 match x with
 | .tmp t=>lit.contains t
 | .const _=>true
 | _=>false
def Qt(op:Op)(e:vD)(lit:List Nat):Bool:=
 match op with
 | .move x=>Bt x lit
 | .assign x=>Bt x lit
 | .unOp _ _ x=>Bt x lit
 | .pick c a b=>bif Bt c lit then(match ob (ev c e) zA.asBool with
  | some w=>bif w then Bt a lit else Bt b lit
  | none=>false)else false
 | _=>false
def Rj(all:List Oper)(dst:Option Nat)(l:List Oper):Bool:=
 match dst with
 | none=>false
 | some d => !fB (fun o=>match o.guard with
  | some g=>(match ob (sD all g.1) fun p=>p.dst with | some i => !Nat.beq i d | none=>true)
  | none=>true) l
def Gn(g lt:Bool)(v:zA)(K:zA->Bool->T):T:=
 bif g then(bif lt then K v true else cB v.asBool fun b=>.ite b (K (.bool true) true) (K (.bool false) true))else K v lt
def kop (C:oA)(all:Array Oper)(n:Nat)(o:Oper)(e:vD)(st:sH)(κ:KT):zN:=
 ⟨fun v=>Ka C o.type v fun v=>Gn (Rj all.toList o.dst all.toList) (Qt o.op e st.lit) v fun v lt=>vR n o.dst v lt st κ,
  fun v=>lK (Hw C o.type v) (Gn (Rj all.toList o.dst all.toList) (Qt o.op e st.lit) v fun v lt=>vR n o.dst v lt st κ),
  fun d off=>lK (!Nat.ble (yI C o.type) 2) (zgv n o.dst d off st κ)⟩
def klo (C:oA)(n:Nat)(o:Oper)(st:sH)(κ:KT):KLo:=
 ⟨fun d l=>lK (!Nat.ble (yI C o.type) 2) (tNew n d l st κ),
  fun d l=>lK (Hw C o.type dD) (vR n o.dst dD false ⟨st.tm,st.ad,st.lo.set d l,st.lit⟩ κ)⟩
def vD.adCut(k:Nat)(l:List (Nat × Nat × Nat)):List (Nat × Nat × Nat):=l.filter fun a=>Nat.blt a.1 k
def sH.cut(st:sH):sH:=⟨st.tm.cut,vD.adCut st.tm.k st.ad,st.lo,st.lit⟩
def tops (C:oA)(la:List Nat)(all:Array Oper)(n:Nat)(κ:KT)(l:List Oper):KT:=
 List.rec (motive:=fun _=>KT) κ
  (fun o _ g st=>cB (wG o.guard all st.tm) fun w=>Bool.rec (motive:=fun _=>T) (vR n o.dst dD false st g)
   (tH C la o.dst o.op (.now st.tm) (.now st.ad) st.lo (kop C all n o (.now st.tm) st g) (klo C n o st g)) w) l
def oQ (st old:sH)(olds:List Nat)(op:Op):vD:=.mixed st.tm old.tm olds (bH op)
def tZ (st old:sH)(olds:List Nat)(op:Op):sO:=.mixed st.ad old.ad olds (bH op)
def iS(C:oA)(all:Array Oper)(n:Nat)(old:sH)(olds:List (Nat × List Nat))(κ:KT)(l:List Nat):KT:=
 List.rec (motive:=fun _=>KT) κ
  (fun i _ g st=>cB (sD all.toList i) fun o=>cB (wG o.guard all st.tm) fun w=>Bool.rec (motive:=fun _=>T) (vR n o.dst dD false st g)
   (tL C o.op (oQ st old (nF i olds) o.op) (tZ st old (nF i olds) o.op) st.lo (kop C all n o (oQ st old (nF i olds) o.op) st g)) w) l
def nX(C:oA)(all:Array Oper)(old:sH)(olds:List (Nat × List Nat))(st:sH)(k:T)(l:List Nat):T:=
 List.rec (motive:=fun _=>T) k
  (fun i _ g=>cB (sD all.toList i) fun o=>cB o.dst fun d=>cB (wG o.guard all st.tm) fun w=>Bool.rec (motive:=fun _=>T) g
   (cB (st.tm.get d) fun u=>lK (Hw C o.type u) (tL C o.op (oQ st old (nF i olds) o.op) (tZ st old (nF i olds) o.op) st.lo ⟨fun v=>.ite (same 10 v u) g .fail,fun v=>.ite (same 10 v u) g .fail,fun _ _=>.fail⟩)) w) l
def Gj(C:oA)(es:List mN)(H:xA):Option (zA × xA):=ob (eZ C es H) fun H'=>some (dD,H')
def tEff (op:Op)(e:vD)(ae:sO):Option mN:=
 match op with
 | .store t a x=>(match xAd ae a with
  | some _=>none
  | none=>Ab (.store t a x) e)
 | op=>Ab op e
def Ot(all:Array Oper)(old:sH)(olds:List (Nat × List Nat))(st:sH)(l:List Nat):Option (List mN):=
 kH (fun i=>ob (sD all.toList i) fun o=>ob (wG o.guard all st.tm) fun w=>xB w (tEff o.op (oQ st old (nF i olds) o.op) (tZ st old (nF i olds) o.op))) l
def Ba(C:oA)(all:Array Oper)(n:Nat)(old:sH)(olds:List (Nat × List Nat))(κ:KT)(l:List gG):KT:=
 List.rec (motive:=fun _=>KT) κ
  (fun s _ g st=>Bool.rec (motive:=fun _=>T) (cB (sD all.toList (sN all s.heavy)) fun o=>cB (yV C all s.heavy o st.tm) fun w=>
   (fun cont:KT=>Bool.rec (motive:=fun _=>T) (vR n o.dst dD false st cont)
    (tH C [] o.dst o.op (oQ st old (nF (sN all s.heavy) olds) o.op) (tZ st old (nF (sN all s.heavy) olds) o.op) st.lo (kop C all n o (oQ st old (nF (sN all s.heavy) olds) o.op) st cont) (klo C n o st cont)) w)
   (fun st'=>nX C all old olds st' (iS C all n old olds g s.lights st') s.again))
   (lK (fX C all) (cB (Ot all old olds st s.again) fun es=>.heavy (Gj C es) fun _=>iS C all n old olds g s.lights st)) (oU all s)) l
def CB(C:oA)(la:List Nat)(fn n:Nat)(κ:KT)(id:Nat)(all:Array Oper)(draw:Bool):KT:=
 Bool.rec (motive:=fun _=>KT) (fun st=>tops C la all n κ all.toList st.cut)
  (fun st=>cB (ob (C.plans.get fn) fun t=>t.get id) fun p=>lK (xU all p) (iS C all n st.cut p.olds (Ba C all n st.cut p.olds κ p.stages) p.first st.cut)) draw
def Gh(st:sH)(ll:List (Nat × Nat)):Option (List zA):=
 List.rec (motive:=fun _=>Option (List zA)) (some []) (fun p _ g=>ob (fL p.1 st.ad) fun a=>xB (Nat.beq a.1 p.1&&Nat.beq a.2 0) (ob (st.lo.get p.1) fun l=>xB (Nat.beq (zB l) p.2) (ob g fun r=>some (fD l r)))) ll
def Dd(p:PI)(st:sH):Option (List zA):=ob (kH (fun i=>st.tm.get i) p.pl) fun a=>ob (Gh st p.ll) fun b=>some (fD a b)
def sV (ll:List (Nat × Nat)):List zA->Tr (List zA):=
 List.rec (motive:=fun _=>List zA->Tr (List zA)) (fun _=>.leaf) (fun p _ g vals=>(g (lQ vals p.2)).set p.1 (qZ vals p.2)) ll
def nO (pl:List Nat):List zA->Tr zA:=
 List.rec (motive:=fun _=>List zA->Tr zA) (fun _=>.leaf) (fun i _ g vals=>List.rec (motive:=fun _=>Tr zA) .leaf (fun v vals _=>(g vals).set i v) vals) pl
def stAd (ll:List (Nat × Nat)):List (Nat × Nat × Nat):=List.rec (motive:=fun _=>List (Nat × Nat × Nat)) [] (fun p _ g=>(p.1,p.1,0)::g) ll
def zM (k:Nat)(p:PI)(vals:List zA):sH:=⟨⟨k,nO p.pl vals,[]⟩,stAd p.ll,sV p.ll (lQ vals (zB p.pl)),[]⟩
def kR (C:oA)(g:Nat):Bool:=sE (C.prims.get g)
def zei(pl:List Nat)(st:sH):Option (List zA):=kH (fun i=>st.tm.get i) pl
def psOk:List Nat->Bool
 | []=>true
 | [_]=>true
 | [p,q] => !Nat.beq p q
 | _=>false
def EX(k n:Nat)(pl ps:List Nat)(ops:List (Nat × Array Oper))(c:nC):Bool:=
 fB (fun p=>Nat.blt p k&&Nat.blt p n && !aH p pl) ps&&psOk ps&&Pt ops&&(match mK c with | []=>true | _=>false)
def rdT:KtT:=⟨fun _=>.ret (.bool true),fun _ _=>.fail,fun _=>.ret (.bool false)⟩
def Wx(C:oA)(n:Nat)(κ:KtT)(i:Nat)(pl:List Nat)(f:Operand)(ps:List Nat)(ops:List (Nat × Array Oper))(c:nC)(st:sH):T:=
 lK (EX st.tm.k n pl ps ops c) (cB (zei pl st) fun vals=>cB (ev f (.now st.tm)) fun fv=>.range (kR C) fv i (zB ps) vals (κ.norm st) (κ.ret st))
def bL (C:oA)(la:List Nat)(fn n:Nat)(c:nC):KtT->KT:=
 nC.rec (motive:=fun _=>KtT->KT)
  (fun κ st=>κ.norm st)
  (fun id all draw κ=>CB C la fn n κ.norm id all draw)
  (fun _ _ ga gb κ=>ga ⟨gb κ,κ.exit,κ.ret⟩)
  (fun c _ _ gx gy κ st=>cB (ob (ev c (.now st.tm)) zA.asBool) fun b=>bif Bt c st.lit then Bool.rec (motive:=fun _=>T) (gy κ st) (gx κ st) b else .ite b (gx κ st) (gy κ st))
  (fun id _ g κ=>g ⟨κ.norm,fun i st=>Bool.rec (motive:=fun _=>T) (κ.exit i st) (κ.norm st) (Nat.beq id i),κ.ret⟩)
  (fun p _ _ _ st=>cB (Dd p st) fun vals=>.jump p.id vals)
  (fun id κ st=>κ.exit id st)
  (fun κ st=>κ.ret st)
  (fun p _ _ _ st=>cB (Dd p st) fun vals=>.jump p.id vals)
  (fun i pl f ps ops c _ κ st=>Wx C n κ i pl f ps.toList ops c st) c
structure PtT where
 p:PI
 tree:List zA->T
def dX(p:PI):KT:=fun st=>cB (Dd p st) fun vals=>.jump p.id vals
def Bm(C:oA)(la:List Nat)(fn n k:Nat)(c:nC):KtT->List PtT:=
 nC.rec (motive:=fun _=>KtT->List PtT)
  (fun _=>[])
  (fun _ _ _ _=>[])
  (fun _ b ga gb κ=>fD (ga ⟨bL C la fn n b κ,κ.exit,κ.ret⟩) (gb κ))
  (fun _ _ _ gx gy κ=>fD (gx κ) (gy κ))
  (fun id _ g κ=>g ⟨κ.norm,fun i st=>Bool.rec (motive:=fun _=>T) (κ.exit i st) (κ.norm st) (Nat.beq id i),κ.ret⟩)
  (fun p c g κ=>⟨p,fun vals=>bL C la fn n c ⟨dX p,κ.exit,κ.ret⟩ (zM k p vals)⟩::g ⟨dX p,κ.exit,κ.ret⟩)
  (fun _ _=>[])
  (fun _=>[])
  (fun p c g κ=>⟨p,fun vals=>bL C la fn n c κ (zM k p vals)⟩::g κ)
  (fun i pl _ ps ops c g _=>⟨⟨i,fD pl ps.toList,[]⟩,fun vals=>bL C la fn n (asA c ops) rdT (zM k ⟨i,fD pl ps.toList,[]⟩ vals)⟩::g rdT) c
def Gw (C:oA)(st:sH)(l:List ResultVar):(List zA->T)->T:=
 List.rec (motive:=fun _=>(List zA->T)->T) (fun K=>K [])
  (fun r _ g K=>match r with
   | .tmp t=>cB (st.tm.get t) fun v=>g fun l=>K (v::l)
   | .cell a t=>match fL a st.ad with
    | some p=>cB (st.lo.get p.1) fun l=>cB (C.tys.get t) fun ty=>lK (Nat.ble (p.2+ty.size) (zB l)) (cB (sQ C t l p.2) fun v=>g fun l=>K (v::l))
    | none=>cB (st.tm.get a) fun a=>.light (fun m=>mA C t ⟨0,m⟩ a) fun v=>g fun l=>K (v::l)) l
def endT (C:oA)(fn:Func):KT:=fun st=>Gw C st fn.results.toList fun l=>.ret (Dk l)
def Bc (C:oA)(fn:Func):KtT:=⟨endT C fn,fun _ _=>.fail,endT C fn⟩
structure wE where
 code:nC
 la:List Nat
def entT (C:oA)(fn:Func)(k:Nat)(f:Nat)(A:wE)(args:List zA):T:=bL C A.la f fn.ntmps A.code (Bc C fn) ⟨⟨k,Tr.ofList args,[]⟩,[],.leaf,[]⟩
def ptsT (C:oA)(fn:Func)(k:Nat)(f:Nat)(A:wE):List PtT:=Bm C A.la f fn.ntmps k A.code (Bc C fn)
def Ec(l:List PtT)(i:Nat)(vals:List zA):List T:=List.rec (motive:=fun _=>List T) [] (fun p _ g=>bif Nat.beq p.p.id i then p.tree vals::g else g) l
end
section
variable {b d n s ty:Nat}{y:vA}{i x:Operand}{l r:Option zA}{c:Call}{a k m u w:zA}{ok:Bool}
def vE {α:Type}(x:Option α)(P:α->Prop):Prop:=
 match x with
 | some a=>P a
 | none=>False
theorem xZ{α:Type}{x:Option α}{P:α->Prop}:vE x P ↔ ∃a,x=some a/\P a:=by
 cases x with
 | none=>simp[vE]
 | some a=>simp[vE]
@[simp] theorem sA {α:Type} {a:α} {P:α->Prop}:vE (some a) P=P a:=rfl
@[simp] theorem optP_none {α:Type} {P:α->Prop}:vE (none:Option α) P=False:=rfl
abbrev sB:=zA->Tr vA->Prop
abbrev kE:=Nat->List zA->Tr vA->sB->Prop
def zfl{α:Type}:List α->Bool | []=>true | _::_=>false
def gL(f:zA)(args:List zA):Option (Nat × List zA):=ob f.asFunc fun p=>match p.1 with
 | .func g=>xB (Nat.blt g pn) (some (g,fD (fD p.2.1 args) p.2.2))
 | .yld l=>xB (zfl p.2.1&&zfl p.2.2) (some (yo+l,args))
def Bj(np:Nat->Bool)(f:zA)(l:Nat):Option (Nat × List zA):=ob f.asFunc fun p=>match p.1 with
 | .func g=>xB (Nat.blt g pn&&np g) (some (g,fD p.2.1 (.func (.yld l) [] []::p.2.2)))
 | .yld _=>none
def Hp (k:IntKind)(v:zA):Option Int:=ob v.asIntK fun p=>xB (uN p.1 k) (some p.2)
def jJ (zs:List zA)(v:zA):Option kG:=ob v.asAgg fun l=>xB (yS zs l) (some (cellsOf l))
def pA (base:Nat)(W:kE)(J:kE):T->Tr vA->sB->Prop
 | .ret v,t,Q=>Q v t
 | .fail,_,_=>False
 | .ite b x y,t,Q=>if b=true then pA base W J x t Q else pA base W J y t Q
 | .opt x K,t,Q=>vE x fun v=>pA base W J (K v) t Q
 | .light x K,t,Q=>vE (x t) fun v=>pA base W J (K v) t Q
 | .heavy x K,t,Q=>∀b,t.get b=none->base<=b->vE (x ⟨b,t⟩) fun p=>pA base W J (K p.1) p.2.t Q
 | .call f args K,t,Q=>W f args t fun v t'=>pA base W J (K v) t' Q
 | .callv f args K,t,Q=>vE (gL f args) fun p=>W p.1 p.2 t fun v t'=>pA base W J (K v) t' Q
 | .asI k v K,t,Q=>vE (Hp k v) fun n=>pA base W J (K n) t Q
 | .asB v K,t,Q=>vE v.asBool fun n=>pA base W J (K n) t Q
 | .asS v K,t,Q=>vE v.asStr fun n=>pA base W J (K n) t Q
 | .asG zs v K,t,Q=>vE (jJ zs v) fun X=>pA base W J (K X) t Q
 | .jump i vals,t,Q=>J i vals t Q
 | .range np f i m vals K R,t,Q=>256<=base/\∀l r,t.get l=none->base<=l->r.state=.ready->r.pending=none →
   (∀args t1 Q1,args.length=m->t1.get l=some (.loop r)->J i (vals++args) (t1.del l) (fun v t2=>t2.get l=none->∃b,v=.bool b/\Q1 v (t2.set l (.loop (eO b r))))->W (yo+l) args t1 Q1) →
   vE (Bj np f l) fun p=>W p.1 p.2 (t.set l (.loop r)) fun _ t'=>(t'.get l=some (.loop r)/\pA base W J K (t'.del l) Q)\/(t'.get l=some (.loop (eO false r))/\pA base W J R (t'.del l) Q)
abbrev Xt:=Nat->Option vA
def dI (X Y:Xt):Prop:=∀b y,X b=some y->Y b=some y
theorem dI.refl(X:Xt):dI X X:=fun _ _ h=>h
def dI.trans{X Y Z:Xt}(h:dI X Y)(k:dI Y Z):dI X Z:=fun b y e=>k b y (h b y e)
structure Ov (base:Nat) (t:Tr vA) (X:Xt) (H:xA):Prop where
 base:base<=H.next
 same:∀b,X b=none->H.t.get b=t.get b
 ext:∀b y,X b=some y->H.t.get b=some y/\t.get b=none/\b<H.next
 lt:∀b y,t.get b=some y->b<H.next
def HLe (H H':xA):Prop:=∀b y,H.t.get b=some y->H'.t.get b=some y
def kT(e e':vD):Prop:=∀i v,sX i e=some v->sX i e'=some v
section
variable {base:Nat}{t:Tr vA}{X:Xt}{H HA:xA}{e e':vD}{C:oA}{v:zA}
theorem Ov.notX(h:Ov base t X HA)  (hb:t.get b=some y):X b=none:=by
 cases hx:X b with
 | none=>rfl
 | some z=>have:=(h.ext b z hx).2.1;simp_all
theorem Ov.up(h:Ov base t X HA)  (hb:t.get b=some y):HA.t.get b=some y:=by rw[h.same b (h.notX hb)];exact hb
def Ov.le(h:Ov base t X HA)  : HLe ⟨n,t⟩ HA:=fun _ _ hb=>h.up hb
def Ov.nextX(h:Ov base t X HA):X HA.next=none:=by
 cases hx:X HA.next with
 | none=>rfl
 | some z=>exact absurd (h.ext _ z hx).2.2 (Nat.lt_irrefl _)
def Ov.nextT(h:Ov base t X HA):t.get HA.next=none:=by
 cases hx:t.get HA.next with
 | none=>rfl
 | some z=>exact absurd (h.lt _ z hx) (Nat.lt_irrefl _)
theorem wY(h:HLe H HA) {p:Tr zA × Nat × Option Lo}(hb:qE H b=some p):qE HA b=some p:=by
 unfold qE at hb ⊢;rw[tA]at hb ⊢;obtain⟨y,h1,h2⟩:=hb;exact⟨y,h _ _ h1,h2⟩
theorem Fr(h:HLe H HA) {p:List (zA × zA)}(hb:yL H b=some p):yL HA b=some p:=by
 unfold yL at hb ⊢;rw[tA]at hb ⊢;obtain⟨y,h1,h2⟩:=hb;exact⟨y,h _ _ h1,h2⟩
theorem uF(h:kT e e') (hx:ev x e=some v):ev x e'=some v:=by
 cases x with
 | tmp i=>exact h i v hx
 | const c=>exact hx
 | global g=>exact hx
 | func f=>exact hx
theorem Zv(h:kT e e'){l:List Operand}{vs:List zA}(hx:aN l e=some vs):aN l e'=some vs:=Qq l (fun _ _ k=>uF h k) hx
theorem KR(h:kT e e'){x:Option Operand} (hx:vT x e=some r):vT x e'=some r:=by
 cases x with
 | none=>exact hx
 | some x=>
  have hx:ob (ev x e) (fun v=>some (some v))=some r:=hx
  show ob (ev x e') (fun v=>some (some v))=some r
  grind [tA,uF]
theorem Zw(h:kT e e'){l:List (Nat × Operand)}{vs:List (Nat × zA)}(hx:wT l e=some vs):wT l e'=some vs:=
 Qq l (fun a b k=>by grind [tA,uF]) hx
theorem Ue(h:kT e e') {p:zA × zA}(hx:two c e=some p):two c e'=some p:=by
 grind [two,tA,uF]
theorem BS(h:HLe H HA)  (hx:mA C ty H a=some v):mA C ty HA a=some v:=by
 grind [mA,tA,wY]
theorem AJ(h:HLe H HA){s d:lD} (hx:iU C s d a H=some v):iU C s d a HA=some v:=by
 unfold iU at hx ⊢
 split at hx
 ·omega
 ·rename_i hk
  rw[wB]at hx ⊢
  refine⟨hx.1,?_⟩
  have hx:=hx.2
  rw[qD]at hx ⊢
  split at hx
  all_goals grind [tA,wB,Mw,wY]
theorem OG(h:HLe H HA)  (hx:Ax C s d H a=some v):Ax C s d HA a=some v:=by
 grind [Ax,tA,AJ]
theorem Wb(h:HLe H HA){ty:lD}  (hx:gN C H ty a l r=some v):gN C HA ty a l r=some v:=by
 have row:∀ {arr e b off len cap},uQ C H arr e b off len cap l r=some v->uQ C HA arr e b off len cap l r=some v:=by
  intro arr e b off len cap hx;unfold uQ at hx ⊢
  simp only[tA]at hx ⊢
  obtain⟨a1,h1,b1,h2,hx⟩:=hx
  refine⟨a1,h1,b1,h2,?_⟩
  cases hb:qE H b with
  | none=>
   have e1:iN H b a1.size cap b1.1 arr=false:=by unfold iN;rw[hb]
   have e2:mO H b a1.size cap b1.1 arr=false:=by unfold mO;rw[hb]
   rw[e1,e2,yay,yay]at hx
   cases hx
  | some c=>
   grind [iN,wY,mO]
 grind [gN,tA]
theorem NZ(h:HLe H HA)   (hx:vG C ty H a l r=some v):vG C ty HA a l r=some v:=by
 grind [vG,tA,Wb]
theorem Ya(h:HLe H HA) {l:List (zA × zA)}(hx:kV H m=some l):kV HA m=some l:=by
 grind [kV,Fr]
theorem OC(h:HLe H HA)   (hx:oX C ty H m k ok=some v):oX C ty HA m k ok=some v:=by
 unfold oX at hx ⊢
 simp only[tA,wB]at hx ⊢
 grind [Ya]
theorem Yn(h:HLe H HA){ty:lD}  (hx:vU H ty a=some n):vU HA ty a=some n:=by
 unfold vU at hx ⊢
 split at hx
 all_goals grind [wB,tA,Fr]
theorem OD(h:HLe H HA)  (hx:eT C ty H a=some v):eT C ty HA a=some v:=by
 grind [eT,tA,Yn]
theorem HV {a:Operand}:dV ty a C e H=ob (ev a e) fun v=>mA C ty H v:=rfl
theorem II   (hx:ev x e=some u):lP s d x C e H=Ax C s d H u:=by simp_all [lP,Ax]
def zcg  {lo hi:Option Operand}  (h1:ev x e=some a)(h2:vT lo e=some l)(h3:vT hi e=some r):mZ ty x lo hi C e H=vG C ty H a l r:=by unfold mZ vG;rw[h1,qA,h2,qA,h3,qA]
theorem IF{f:Nat}  (hx:ev x e=some u):yW s x f C e H=kC C s f u:=by
 unfold yW kC Ub;rw[hx]
 cases C.tys.get s with
 | none=>rfl
 | some ty=>
  simp only[qA]
  cases ty.desc.asStruct with
  | none=>rfl
  | some fs=>
   simp only[qA]
   cases sD fs f with
   | none=>rfl
   | some fd=>simp only[qA];cases hb:(!Nat.beq fd.2.2 0)<;>rfl
theorem HZ   (hx:ev x e=some u)(hi:ev i e=some w):bV ty x i C e H=xC C ty u w:=by unfold bV xC;rw[hx,hi];rfl
theorem zci   (hx:ev x e=some u)(hi:ev i e=some w):aV ty x i C e H=nI C ty u w:=by unfold aV nI;rw[hx,hi];rfl
theorem zev  (hx:ev x e=some u):kZ x C e H=zG u:=by simp_all [kZ,zG]
theorem UX {i:Nat} (hx:ev x e=some u):xW x i C e H=yH i u:=by simp_all [xW,yH]
theorem lBin_v{op:BinOp} {y:Operand} (hx:ev x e=some u)(hy:ev y e=some w):wW op ty x y C e H=(gP op).f C ty x y u w:=by simp_all [wW]
theorem UY {a:Nat}  (hx:ev x e=some u):vW x a ok C e H=Dg C a ok u:=by
 unfold vW Dg;rw[hx];rfl
def UW    (hx:ev x e=some m)(hi:ev i e=some k):eV ty x i ok C e H=oX C ty H m k ok:=by unfold eV oX;rw[hx,hi];rfl
theorem lLen_v    (h1:sD c.argTypes.toList 0=some ty)(h2:sD c.args.toList 0=some x)(hx:ev x e=some u):kQ c C e H=eT C ty H u:=by grind [kQ,eT,qA]
theorem zc0(he:kT e e'){op:Op}(hp:zU op=true\/(∃s d x,op=.convert s d x/\(yI C d=1\/yI C s=2))\/(∃c,op=.call c/\(c.callee=.builtin .max\/c.callee=.builtin .min))){H':xA}(h:(cF op).f C e H=some v):(cF op).f C e' H'=some v:=by
 rcases hp with hp | hp | hp
 ·cases op<;>simp only[zU]at hp<;>try (cases hp;done)
  case move x=>exact uF he h
  case assign x=>exact uF he h
  case pick c a b=>
   have h:ob (ev c e) (fun c=>ob c.asBool fun c=>bif c then ev a e else ev b e)=some v:=h
   show ob (ev c e') (fun c=>ob c.asBool fun c=>bif c then ev a e' else ev b e')=some v
   grind [tA,uF]
  case nilCheck x=>
   have h:ob (ev x e) (fun u=>xB (Nat.beq u.tag 4||Nat.beq u.tag 9) (some u))=some v:=h
   show ob (ev x e') (fun u=>xB (Nat.beq u.tag 4||Nat.beq u.tag 9) (some u))=some v
   grind [tA,uF]
  case binOp op t x y u=>
   have h:wW op t x y C e H=some v:=h
   show wW op t x y C e' H'=some v
   grind [wW,tA,uF]
  case unOp op t x=>
   have h:lUn op x C e H=some v:=h
   show lUn op x C e' H'=some v
   grind [lUn,tA,uF]
  case makeInterface t x=>
   have h:Bw t x C e H=some v:=h
   show Bw t x C e' H'=some v
   grind [Bw,tA,wB,uF]
  case makeFunc fn a b=>
   have h:(Bx fn a b).f C e H=some v:=h
   show(Bx fn a b).f C e' H'=some v
   unfold Bx at h ⊢
   split at h
   ·grind [Hk,tA,Zv]
   ·cases h
  case fieldAddr s x f=>
   have h:yW s x f C e H=some v:=h
   show yW s x f C e' H'=some v
   unfold yW at h ⊢
   simp only[tA,wB]at h ⊢
   obtain⟨a,h1,b,h2,c,h3,h4,u,h5,h6⟩:=h
   exact⟨a,h1,b,h2,c,h3,h4,u,uF he h5,h6⟩
  case field t x f=>
   have h:Bz t x f C e H=some v:=h
   show Bz t x f C e' H'=some v
   grind [Bz,tA,uF]
  case indexAddr t x i=>
   have h:bV t x i C e H=some v:=h
   show bV t x i C e' H'=some v
   unfold bV at h ⊢
   simp only[tA]at h ⊢
   grind [uF]
  case index t x i=>
   have h:aV t x i C e H=some v:=h
   show aV t x i C e' H'=some v
   unfold aV at h ⊢
   simp only[tA]at h ⊢
   grind [uF]
  case extract t i=>
   have h:xW t i C e H=some v:=h
   show xW t i C e' H'=some v
   grind [xW,tA,uF]
  case build t ps=>
   have h:eX t ps C e H=some v:=h
   show eX t ps C e' H'=some v
   grind [eX,tA,Zw]
  case typeAssert x t u ok=>
   have h:vW x u ok C e H=some v:=h
   show vW x u ok C e' H'=some v
   grind [vW,tA,wB,uF]
 ·obtain⟨s,d,x,rfl,hp⟩:=hp
  have h:lP s d x C e H=some v:=h
  show lP s d x C e' H'=some v
  unfold lP at h ⊢
  simp only[tA]at h ⊢
  obtain⟨u,h1,sy,h2,dy,h3,h4⟩:=h
  refine⟨u,uF he h1,sy,h2,dy,h3,?_⟩
  unfold iU at h4 ⊢
  split at h4
  ·exact h4
  ·rename_i hd
   rw[wB]at h4 ⊢
   refine⟨h4.1,?_⟩
   have h4:=h4.2
   rw[qD]at h4 ⊢
   split at h4
   ·simp_all
   ·rename_i e
    exfalso
    rcases hp with hp | hp
    ·unfold yI at hp
     rw[h3]at hp;have hp:dy.desc.tag=1:=hp
     cases hx:dy.desc<;>rw[hx]at hp hd<;>first
      | (cases hp;done)
      | (cases hd;done)
    ·unfold yI at hp
     rw[h2]at hp;have hp:sy.desc.tag=2:=hp
     simp only[tA]at h4;obtain⟨el,h5,_⟩:=h4
     cases hx:sy.desc<;>rw[hx]at hp h5<;>first
      | (cases hp;done)
      | (cases h5;done)
 ·obtain⟨c,rfl,hc⟩:=hp
  rcases hc with hc | hc
  ·have h:(zT c c.callee).f C e H=some v:=h
   show(zT c c.callee).f C e' H'=some v
   rw[hc]at h ⊢
   have h:fV c C e H=some v:=h
   show fV c C e' H'=some v
   grind [fV,tA,Ue]
  ·have h:(zT c c.callee).f C e H=some v:=h
   show(zT c c.callee).f C e' H'=some v
   rw[hc]at h ⊢
   have h:gV c C e H=some v:=h
   show gV c C e' H'=some v
   grind [gV,tA,Ue]
end
end
section
variable {b d n off ty:Nat}{a u:zA}{l:List zA}{H':xA}{K:zA->T}{op:Op}
section
variable {base:Nat}{t:Tr vA}{X:Xt}{H HA:xA}{e e':vD}{C:oA}{v:zA}
theorem Ov.newBlk(h:Ov base t X HA)(y:vA):Ov base (t.set HA.next y) X (newBlk HA y):=by
 refine⟨Nat.le_succ_of_le h.base,fun b hb=>?_,fun b z hb=>?_,fun b z hb=>?_⟩
 ·show(HA.t.set HA.next y).get b=_
  rw[Tr.get_set,Tr.get_set];split
  ·rfl
  ·exact h.same b hb
 ·obtain⟨h1,h2,h3⟩:=h.ext b z hb
  have hne:b≠HA.next:=Nat.ne_of_lt h3
  refine⟨?_,?_,Nat.lt_succ_of_lt h3⟩
  ·show(HA.t.set HA.next y).get b=_
   grind [Tr.get_set]
  grind [Tr.get_set]
 ·rw[Tr.get_set]at hb
  show b<HA.next+1
  split at hb
  ·omega
  ·exact Nat.lt_succ_of_lt (h.lt _ _ hb)
theorem Ov.setBlk(h:Ov base t X HA){b:Nat}{y:vA}(hb:t.get b=some y)(z:vA):Ov base (t.set b z) X (setBlk HA b z):=by
 refine⟨h.base,fun c hc=>?_,fun c u hc=>?_,fun c u hc=>?_⟩
 ·show(HA.t.set b z).get c=_
  rw[Tr.get_set,Tr.get_set];split
  ·rfl
  ·exact h.same c hc
 ·obtain⟨h1,h2,h3⟩:=h.ext c u hc
  have hne:c≠b:=fun e=>by simp_all
  refine⟨?_,?_,h3⟩
  ·show(HA.t.set b z).get c=_
   grind [Tr.get_set]
  grind [Tr.get_set]
 ·rw[Tr.get_set]at hc
  show c<HA.next
  split at hc
  ·rename_i e;rw[e];exact h.lt _ _ hb
  ·exact h.lt _ _ hc
theorem Ov.delBlk(h:Ov base t X HA) {y:vA}(hb:t.get b=some y):Ov base (t.del b) X ⟨HA.next,HA.t.del b⟩:=by
 refine⟨h.base,fun c hc=>?_,fun c u hc=>?_,fun c u hc=>?_⟩
 ·show(HA.t.del b).get c=_
  rw[Tr.get_del,Tr.get_del];split
  ·rfl
  ·exact h.same c hc
 ·obtain⟨h1,h2,h3⟩:=h.ext c u hc
  grind [Tr.get_del]
 ·rw[Tr.get_del]at hc
  show c<HA.next
  split at hc
  ·cases hc
  ·exact h.lt _ _ hc
def lT (base:Nat)(x:xA->Option (zA × xA)):Prop:=∀t X HA v H',Ov base t X HA->x ⟨HA.next,t⟩=some (v,H')->∃HA',x HA=some (v,HA')/\Ov base H'.t X HA'
theorem wZ(l:List zA)(lo:Option Lo)(h:Ov base t X HA):Ov base (yG ⟨HA.next,t⟩ l lo).t X (yG HA l lo):=h.newBlk _
theorem OJ  : lT base (nK C ty):=by
 intro t X HA v H' ho h;unfold nK at h ⊢
 rw[tA]at h;obtain⟨y,h1,h2⟩:=h
 cases h2;simp_all [wZ]
def zgf  : lT base (wN u):=by
 intro t X HA v H' ho h
 cases h;exact⟨_,rfl,wZ _ _ ho⟩
theorem OL  : lT base (Oa C ty):=by
 intro t X HA v H' ho h;unfold Oa at h ⊢
 rw[tA]at h;obtain⟨y,h1,h3⟩:=h
 grind [qA,wZ]
theorem za0   : lT base (zgg C ty u):=by
 intro t X HA v H' ho h;grind [zgg,wZ]
theorem OH {ps:List (Nat × zA)}:lT base (cC C ty n ps):=by
 intro t X HA v H' ho h;unfold cC at h ⊢
 simp only[tA,wB]at h;obtain⟨a,h1,b,h2,c,h3,h4,l,h5,h6⟩:=h
 grind [wZ,tA,wB]
theorem Vt(ho:Ov base t X HA)   (h:yJ C ⟨HA.next,t⟩ b off l=some H'):∃HA',yJ C HA b off l=some HA'/\Ov base H'.t X HA':=by
 unfold yJ at h ⊢
 simp only[tA,wB]at h;obtain⟨h1,c,h2,h3,h4⟩:=h
 cases h4;have h2':=h2
 unfold qE at h2';rw[tA]at h2'
 obtain⟨y,h5,_⟩:=h2'
 refine⟨_,?_,ho.setBlk h5 _⟩
 simp only[tA,wB];exact⟨h1,c,wY ho.le h2,h3,rfl⟩
theorem NY   : lT base (zC C ty a u):=by
 intro t X HA v H' ho h;unfold zC at h ⊢
 simp only[tA,wB]at h;obtain⟨y,h1,p,h2,h3,H1,h4,h5⟩:=h
 grind [Vt,tA,wB]
def OB:lT base Nz:=by
 intro t X HA v H' ho h
 cases h;exact⟨_,rfl,ho.newBlk _⟩
def BR {m k:zA}:lT base (kS C ty m k u):=by
 intro t X HA v H' ho h;unfold kS at h ⊢
 simp only[tA,wB]at h;obtain⟨a,h1,b,h2,c,h3,h4,d,h5,h6,l,h7,h8,l',h9,h10⟩:=h
 cases h10;have h7':=h7
 unfold yL at h7';rw[tA]at h7'
 obtain⟨y,h11,_⟩:=h7'
 refine⟨_,?_,ho.setBlk h11 _⟩
 simp only[tA,wB];exact⟨a,h1,b,h2,c,h3,h4,d,h5,h6,l,Fr ho.le h7,h8,l',h9,rfl⟩
def zah(ho:Ov base t X HA){e:RE} (h:Ao C ⟨HA.next,t⟩ e=some H'):∃HA',Ao C HA e=some HA'/\Ov base H'.t X HA'/\HA'.next=HA.next/\H'.next=HA.next:=by
 obtain⟨x,y,h1,h2,rfl⟩:=Nb.1 h
 exact⟨setBlk HA e.blk y,Nb.2 ⟨x,y,ho.up h1,h2,rfl⟩,ho.setBlk h1 _,rfl,rfl⟩
theorem NG:∀ {l:List RE} {t:Tr vA} {HA:xA} {H':xA},Ov base t X HA->Fv C l ⟨HA.next,t⟩=some H'->∃HA',Fv C l HA=some HA'/\Ov base H'.t X HA'
 | [],t,HA,H',ho,h=>by cases h;exact⟨HA,rfl,ho⟩
 | e::l,t,HA,H',ho,h=>by
  unfold Fv at h ⊢
  rw[tA]at h;obtain⟨H1,h1,h⟩:=h
  obtain⟨HA1,g1,g2,g3,g4⟩:=zah ho h1
  rw[g1,qA];obtain⟨n1,t1⟩:=H1
  have g4:n1=HA.next:=g4
  subst g4;rw[<- g3]at h;exact NG g2 h
theorem RQ(ho:Ov base t X HA){e:RE}(h:Gy C ⟨HA.next,t⟩ e=true):Gy C HA e=true:=by
 cases e with
 | st b off l=>
  change (!sE (yJ C ⟨HA.next,t⟩ b off l))=true at h
  show(!sE (yJ C HA b off l))=true
  cases hs:yJ C ⟨HA.next,t⟩ b off l with
  | none=>rw[hs]at h;cases h
  | some H'=>obtain⟨HA',g,_⟩:=Vt ho hs;rw[g];rfl
 | up b k v=>
  unfold Gy at h ⊢
  rw[ybb]at h ⊢
  refine⟨h.1,?_⟩
  have h2:=h.2
  split at h2
  ·rename_i hm;rw[Fr ho.le hm]
  grind
theorem OF{es:List mN}:lT base (Gj C es):=by
 intro t X HA v H' ho h;grind [Gj,eZ,tA,wB,NG,jH,RQ]
theorem OA {l c:zA}:lT base (uP C ty l c):=by
 intro t X HA v H' ho h;unfold uP at h ⊢
 simp only[tA,wB]at h;obtain⟨a,h1,b,h2,d,h3,n,h4,m,h5,h6,h7⟩:=h
 grind [wZ,tA,wB]
theorem NX{s:Nat}  : lT base (Ua C s d u):=by
 intro t X HA v H' ho h;unfold Ua at h ⊢
 simp only[tA,wB]at h;obtain⟨a,h1,b,h2,c,h3,et,h4,k,h5,h6,l,h7,h8⟩:=h
 cases h8;refine⟨yG HA (xY l) (some (.ty c)),?_,wZ _ _ ho⟩
 grind [tA,wB]
theorem WB(h:HLe H HA){sz:Nat}  (hx:zY H sz n u=some l):zY HA sz n u=some l:=by
 grind [zY,tA,wY]
theorem ZS(ho:Ov base t X HA){ty:lD}{b:zA} (h:sS C ⟨HA.next,t⟩ ty a b=some (v,H')):∃HA',sS C HA ty a b=some (v,HA')/\Ov base H'.t X HA':=by
 unfold sS at h;simp only[tA]at h;obtain⟨el,h1,et,h2,n,h3,new,h4,h5⟩:=h
 have h4':=WB ho.le h4
 suffices hs:∃HA',(match a.asSlice with
  | some s=>bif Nat.ble (s.2.2.1+n) s.2.2.2 then rW C HA et n new s else qW C HA el et n new s
  | none=>xB (Nat.beq a.tag 5) (gQ HA el et n new))=some (v,HA')/\Ov base H'.t X HA' by
  grind [sS,tA]
 cases hs:a.asSlice with
 | some s=>
  rw[hs]at h5;simp only[]at h5 ⊢
  rw[qD]at h5;split at h5
  ·rename_i hr
   simp only[hr,cond_true];unfold rW at h5 ⊢
   grind [tA,Vt]
  ·rename_i hr
   simp only[Bool.not_eq_true]at hr;simp only[hr,cond_false];unfold qW at h5 ⊢
   rw[wB]at h5;obtain⟨gm,h5⟩:=h5
   rw[wB]at h5;obtain⟨g0,h5⟩:=h5
   rw[tA]at h5;obtain⟨c,g1,h5⟩:=h5
   have g1':=wY ho.le g1
   unfold qE at g1;rw[tA]at g1;obtain⟨y,g2,_⟩:=g1
   split at h5
   ·rename_i hc
    unfold Ht at h5;rw[tA]at h5;obtain⟨old,g3,g4⟩:=h5
    grind [wZ,wB,tA,Ht]
   ·rename_i es hc
    unfold Fa at h5;rw[wB]at h5;obtain⟨g3,g4⟩:=h5
    cases g4
    refine⟨⟨HA.next+1,(HA.t.del s.1).set HA.next (.cells (c.1.setMany new (s.2.2.1*et.size)) ((s.2.2.1+n)*et.size) (some es))⟩,?_,(ho.delBlk g2).newBlk _⟩
    grind [wB,tA,Fa]
 | none=>
  grind [wB,gQ,wZ]
theorem OI{u:Nat}{b:zA}:lT base (gE C ty u a b):=by
 intro t X HA v H' ho h;grind [gE,tA,wB,ZS]
end
def Jb(ν:Nat->Nat)(ae:sO)(e:vD):Prop:=∀i p,tAd ae i=some p->sX i e=some (.ptr (ν p.1) p.2)
def Nn(base:Nat)(X0 X:Xt)(ν:Nat->Nat)(lo:Tr (List zA)):Prop:=∀d l,lo.get d=some l->X0 (ν d)=none/\base<=ν d/\∃c,X (ν d)=some (.cells c l.length none)/\∀j a,l[j]?=some a->c.get j=some a
theorem iE{base:Nat}{W J:kE}{α:Type}{x:Option α}{K:α->T}{t:Tr vA}{Q:sB}:pA base W J (cB x K) t Q ↔ ∃a,x=some a/\pA base W J (K a) t Q:=by
 cases x with
 | none=>exact⟨fun h=>(by cases h),fun⟨_,h,_⟩=>(by cases h)⟩
 | some a=>exact⟨fun h=>⟨a,rfl,h⟩,fun⟨_,h,k⟩=>(by cases h;exact k)⟩
def rO{base:Nat}{W J:kE}{b:Bool}{K:T}{t:Tr vA}{Q:sB}:pA base W J (lK b K) t Q ↔ b=true/\pA base W J K t Q:=by
 cases b with
 | false=>exact⟨fun h=>(by cases h),fun⟨h,_⟩=>(by cases h)⟩
 | true=>exact⟨fun h=>⟨rfl,h⟩,fun⟨_,h⟩=>h⟩
theorem rX{base:Nat}{W J:kE}{x:Option zA} {t:Tr vA}{Q:sB}:pA base W J (.opt x K) t Q ↔ ∃a,x=some a/\pA base W J (K a) t Q:=xZ
def Ge{base:Nat}{W J:kE}{x:Tr vA->Option zA} {t:Tr vA}{Q:sB}:pA base W J (.light x K) t Q ↔ ∃a,x t=some a/\pA base W J (K a) t Q:=xZ
theorem Da{ν:Nat->Nat}{ae:sO}{e:vD}(h:Jb ν ae e){x:Operand}{p:Nat × Nat}(hx:xAd ae x=some p):ev x e=some (.ptr (ν p.1) p.2):=by
 cases x with
 | tmp i=>exact h i p hx
 | const _=>cases hx
 | global _=>cases hx
 | func _=>cases hx
theorem zhw{c:Tr zA} (h:∀j a,l[j]?=some a->c.get j=some a):∀(n off:Nat),off+n<=l.length->c.many n off=some ((l.drop off).take n):=by
 intro n;induction n with
 | zero=>intro off _;simp;rfl
 | succ n ih=>
  intro off ho;have hlt:off<l.length:=by omega
  rw[Tr.many_succ,h off l[off] (ybd hlt),qA,ih (off+1) (by omega),qA]
  rw[ybl hlt,List.take_succ_cons]
section
variable {W J:kE}{t:Tr vA}{X X0:Xt}{HA:xA}{e eA:vD}{C:oA}{ν:Nat->Nat}{ae:sO}{lo:Tr (List zA)}{k:zN}{Q:sB}{R:zA->Prop}
theorem GX(ho:Ov C.base t X HA)(hl:Nn C.base X0 X ν lo)  {y:lD}{v:zA}(h1:lo.get d=some l)(h2:C.tys.get ty=some y)(h3:Nat.ble (off+y.size) (zB l)=true)(h4:sQ C ty l off=some v) :
  mA C ty HA (.ptr (ν d) off)=some v:=by
 obtain⟨_,_,c,hc,hg⟩:=hl d l h1
 have hb:=(ho.ext _ _ hc).1
 unfold mA;simp only[zA.asPtr,qA];rw[h2,qA];grind [qE,qA,vA.asCells,sQ,fR,oE,oD,zhw,iR,mP,xH]
theorem gS(he:kT e eA) (hp:zU op=true\/(∃s d x,op=.convert s d x/\(yI C d=1\/yI C s=2))\/(∃c,op=.call c/\(c.callee=.builtin .max\/c.callee=.builtin .min)))
  (h:pA C.base W J (uR C op e k) t Q) (hKd:∀v,pA C.base W J (k.Kd v) t Q->R v):∃v,(cF op).f C eA HA=some v/\R v:=by
 grind [uR,iE,zc0]
theorem OE {v:zA}{H:xA}(ht:yI C ty=4)(h:pC u=some v):eT C ty H u=some v:=by
 unfold yI at ht
 cases hy:C.tys.get ty with
 | none=>simp_all
 | some y=>
  rw[hy]at ht;have ht:y.desc.tag=4:=ht
  unfold eT;rw[hy,qA];unfold pC at h;unfold vU
  cases u<;>simp only[zA.asSlice,zA.asStr,zA.asMap,zA.tag]at h ⊢ <;> (try (rw[wB]at h;exact absurd h.1 (by decide)))
  case nilslice=>
   rw[wB]at h;have hn:y.desc.asArr=none:=by cases hd:y.desc<;>rw[hd]at ht<;>first | rfl | (cases ht;done)
   simp_all [tA,wB]
  simp_all [tA,wB]
theorem VF {v:zA}{H:xA}(ht:yI C ty≠6)(h:eT C ty H u=some v):eT C ty H' u=some v:=by
 unfold eT at h ⊢
 simp only[tA]at h ⊢
 obtain⟨y,h1,n,h2,h3⟩:=h
 refine⟨y,h1,n,?_,h3⟩
 have ht:¬ Nat.beq y.desc.tag 6=true:=by
  grind [yI,mC]
 unfold vU at h2 ⊢
 split at h2
 all_goals grind [wB]
theorem PK {v:zA}{l h:Option zA}{H:xA}(ht:yI C ty=2)(hx:vG C ty H a l h=some v):vG C ty H' a l h=some v:=by
 unfold vG at hx ⊢
 rw[tA]at hx ⊢
 obtain⟨y,h1,h2⟩:=hx
 refine⟨y,h1,?_⟩
 unfold yI at ht;rw[h1]at ht;have ht:y.desc.tag=2:=ht
 unfold gN at h2 ⊢
 have n1:y.desc.asSlice=none:=by cases hd:y.desc<;>rw[hd]at ht<;>first | rfl | (cases ht;done)
 have n2:y.desc.asArr=none:=by cases hd:y.desc<;>rw[hd]at ht<;>first | rfl | (cases ht;done)
 simp_all
theorem Xl (h:zA.one u=true):u.cells=[u]:=by
 cases u<;>first
  | rfl
  | (have:=qC.1 h;grind [zA.tag])
theorem WH{tyAt:Nat->Option Nat}(place:Nat->Option (Nat × Nat)):∀(vs:List (Nat × zA)) {q:List (Nat × zA × List zA) × List zA},Xd C tyAt vs=some q->fB zA.one q.2=true->∀cells l,Rz place q.1 cells=some l->kK place vs cells=some l:=by
 intro vs;induction vs with
 | nil=>intro q h _ cells l hl;cases h;exact hl
 | cons p vs ih=>
  intro q h h1 cells l hl;have h:(ob (tyAt p.1) fun t=>ob (C.tys.get t) fun ty=>ob (Xd C tyAt vs) fun r=>some (bif ty.desc.isAgg then((p.1,p.2,p.2.cells)::r.1,r.2)else((p.1,p.2,[p.2])::r.1,p.2::r.2)))=some q:=h
  simp only[tA]at h;obtain⟨ty,_,y,_,r,h3,h4⟩:=h
  have fin:∀(rest:List zA),fB zA.one r.2=true->(ob (place p.1) fun q=>ob (zi5 cells q.1 q.2 p.2.cells) fun cells=>Rz place r.1 cells)=some l->kK place (p::vs) cells=some l:=by
   intro _ hr hl;show(ob (place p.1) fun q=>ob (yT cells q.1 q.2 p.2) fun cells=>kK place vs cells)=some l
   simp only[tA]at hl ⊢
   obtain⟨a,g1,b,g2,g3⟩:=hl
   exact⟨a,g1,b,g2,ih h3 hr _ _ g3⟩
  cases hb:y.desc.isAgg with
  | true=>
   rw[hb]at h4
   cases h4;exact fin [] h1 hl
  | false=>
   rw[hb]at h4
   cases h4;simp_all [jH,Rz,Xl]
theorem zgw(he:kT e eA)(ha:Jb ν ae eA)(ho:Ov C.base t X HA)(hl:Nn C.base X0 X ν lo) (h:pA C.base W J (tL C op e ae lo k) t Q)
  (hK:∀v,pA C.base W J (k.K v) t Q->R v) (hKd:∀v,pA C.base W J (k.Kd v) t Q->R v) (hKA:∀d off,pA C.base W J (k.KA d off) t Q->R (.ptr (ν d) off)) :
  ∃v,(cF op).f C eA HA=some v/\R v:=by
 cases op<;>simp only[tL]at h<;>try (cases h;done)
 case move x=>
  unfold Oq at h;split at h
  ·rename_i p hp
   exact⟨_,Da ha hp,hKA _ _ h⟩
  ·exact gS he (.inl rfl) h hKd
 case assign x=>
  unfold Oq at h;split at h
  ·rename_i p hp
   exact⟨_,Da ha hp,hKA _ _ h⟩
  ·exact gS he (.inl rfl) h hKd
 case pick c a b=>exact gS he (.inl rfl) h hKd
 case load ty a=>
  unfold tLoad at h;split at h
  ·rename_i p hp
   simp only[iE,rO]at h;obtain⟨l,h1,y,h2,h3,v,h4,h5⟩:=h
   refine⟨v,?_,hKd v h5⟩
   show dV ty a C eA HA=some v
   grind [HV,Da,qA,GX]
  ·rw[iE]at h
   obtain⟨u,h1,h2⟩:=h
   rw[Ge]at h2;obtain⟨v,h3,h4⟩:=h2
   refine⟨v,?_,hK v h4⟩
   show dV ty a C eA HA=some v
   rw[HV,uF he h1,qA];exact BS ho.le h3
 case nilCheck x=>
  unfold tNil at h;split at h
  ·rename_i p hp
   refine⟨_,?_,hKA _ _ h⟩
   show kZ x C eA HA=_
   rw[zev (Da ha hp)];rfl
  ·rw[iE]at h
   obtain⟨u,h1,h2⟩:=h
   rw[rX]at h2;obtain⟨v,h3,h4⟩:=h2
   refine⟨v,?_,hK v h4⟩
   show kZ x C eA HA=_
   grind [zev,uF]
 case binOp op ty x y u=>
  unfold tBin at h;rw[qD]at h;split at h
  ·exact gS he (.inl rfl) h hKd
  ·simp only[iE,rX]at h
   obtain⟨a,h1,b,h2,v,h3,h4⟩:=h
   refine⟨v,?_,hK v h4⟩
   show wW op ty x y C eA HA=_
   grind [lBin_v,uF]
 case unOp o ty x=>
  split at h
  ·simp only[iE,rX]at h
   obtain⟨u,h1,v,h2,h3⟩:=h
   refine⟨v,?_,hK v h3⟩
   show lUn .xor x C eA HA=_
   unfold lUn;rw[uF he h1];exact h2
  ·exact gS he (.inl rfl) h hKd
 case convert s d x=>
  unfold zgy at h;rw[qD]at h;split at h
  ·rename_i hd
   rw[qD]at h;split at h
   ·rename_i hs
    exact gS he (.inr (.inl ⟨s,d,x,rfl,.inr (mC.1 hs)⟩)) h hKd
   ·simp only[iE,Ge]at h
    obtain⟨u,h1,v,h2,h3⟩:=h
    refine⟨v,?_,hK v h3⟩
    show lP s d x C eA HA=_
    rw[II (uF he h1)];exact OG ho.le h2
  ·rw[qD]at h
   split at h
   ·rename_i hd
    exact gS he (.inr (.inl ⟨s,d,x,rfl,.inl (mC.1 hd)⟩)) h hKd
   ·cases h
 case makeInterface ty x=>exact gS he (.inl rfl) h hKd
 case makeFunc fn a b=>exact gS he (.inl rfl) h hKd
 case slice ty x lo' hi mx=>
  cases mx with
  | some _=>cases h
  | none=>
   simp only[zdx,iE]at h;obtain⟨a,h1,l,h2,r,h3,h4⟩:=h
   rw[qD]at h4;show ∃v,mZ ty x lo' hi C eA HA=some v/\R v
   rw[zcg (uF he h1) (KR he h2) (KR he h3)]
   split at h4
   ·grind [rX,PK,mC]
   ·rw[Ge]at h4
    obtain⟨v,h5,h6⟩:=h4
    exact⟨v,NZ ho.le h5,hK v h6⟩
 case fieldAddr s x f=>
  unfold CR at h;show ∃v,yW s x f C eA HA=some v/\R v
  split at h
  ·rename_i p hp
   rw[iE]at h;obtain⟨o,h1,h2⟩:=h
   refine⟨_,?_,hKA _ _ h2⟩
   rw[IF (Da ha hp)]
   unfold kC;rw[h1];rfl
  grind [iE,rX,IF,uF]
 case field ty x f=>exact gS he (.inl rfl) h hKd
 case indexAddr ty x i=>
  unfold CP at h;show ∃v,bV ty x i C eA HA=some v/\R v
  split at h
  ·rename_i p hp
   simp only[iE]at h;obtain⟨iv,h1,n,h2,o,h3,h4⟩:=h
   refine⟨_,?_,hKA _ _ h4⟩
   rw[HZ (Da ha hp) (uF he h1)]
   unfold BT at h3;simp only[tA,wB]at h3;obtain⟨y,g1,a,g2,et,g3,g4,g5⟩:=h3
   cases g5
   unfold xC;rw[g1,qA,h2,qA];simp only[zA.asSlice,zA.asPtr,qA];rw[g2,qA,g3,qA,g4];rfl
  grind [iE,rX,HZ,uF]
 case index ty x i=>
  rw[qD]at h;split at h
  ·exact gS he (.inl rfl) h hKd
  ·simp only[iE,rX]at h
   obtain⟨u,h1,w,h2,v,h3,h4⟩:=h
   refine⟨v,?_,hK v h4⟩
   show aV ty x i C eA HA=_
   grind [zci,uF]
 case lookup ty x i ok=>
  simp only[iE,Ge]at h;obtain⟨m,h1,key,h2,v,h3,h4⟩:=h
  refine⟨v,?_,hK v h4⟩
  show eV ty x i ok C eA HA=_
  rw[UW (uF he h1) (uF he h2)];exact OC ho.le h3
 case extract x i=>
  simp only[iE,rX]at h;obtain⟨u,h1,v,h2,h3⟩:=h
  refine⟨v,?_,hK v h3⟩
  show xW x i C eA HA=_
  grind [UX,uF]
 case typeAssert x a u ok=>
  simp only[iE,rX]at h;obtain⟨w,h1,v,h2,h3⟩:=h
  refine⟨v,?_,hK v h3⟩
  show vW x u ok C eA HA=_
  grind [UY,uF]
 case build ty ps=>
  unfold zdz at h;simp only[iE,rO]at h;obtain⟨y,h1,hbd,vs,h2,q,h3,l,h4,h5⟩:=h
  have h5:if fB zA.one q.2=true then pA C.base W J (k.Kd (.agg l)) t Q else False:=h5
  split at h5
  ·rename_i hone
   refine⟨_,?_,hKd _ h5⟩
   show eX ty ps C eA HA=_
   have hf:=WH (Hc C y) vs h3 hone y.zero l h4
   unfold eX;rw[h1,qA,Zw he h2,qA]
   cases hs:y.desc.asStruct with
   | some fs=>
    simp only[];have:(fun i=>ob (sD fs i) fun x=>some (x.1,x.2.2))=Hc C y:=by funext i;unfold Hc;rw[hs]
    simp_all
   | none=>
    simp only[];unfold MW at hbd;rw[hs]at hbd;simp only[]at hbd
    cases ha:y.desc.asArr with
    | none=>simp_all
    | some a=>
     rw[ha]at hbd;simp only[]at hbd
     cases hy:C.tys.get a.2 with
     | none=>simp_all
     | some et=>
      simp only[qA];have:(fun i=>some (i*et.size,et.size))=Hc C y:=by funext i;unfold Hc;rw[hs];simp only[];rw[ha,qA,hy,qA]
      simp_all
  simp_all
 case call c=>
  split at h
  ·rename_i b hb
   cases b<;>simp only[Kb]at h<;>try (cases h;done)
   case len=>
    unfold tLen at h;simp only[iE]at h;obtain⟨ty,h1,x,h2,u,h3,h4⟩:=h
    show ∃v,(zT c c.callee).f C eA HA=some v/\R v
    rw[hb];show ∃v,kQ c C eA HA=some v/\R v
    rw[lLen_v h1 h2 (uF he h3)]
    rw[qD]at h4;split at h4
    ·grind [rX,OE,mC]
    ·rw[qD]at h4
     split at h4
     ·rw[Ge]at h4
      obtain⟨v,h5,h6⟩:=h4
      exact⟨v,OD ho.le h5,hK v h6⟩
     grind [iE,VF,mC]
   case max=>exact gS he (.inr (.inr ⟨c,rfl,.inl hb⟩)) h hKd
   case min=>exact gS he (.inr (.inr ⟨c,rfl,.inr hb⟩)) h hKd
  ·cases h
end
end
end Go.Am
