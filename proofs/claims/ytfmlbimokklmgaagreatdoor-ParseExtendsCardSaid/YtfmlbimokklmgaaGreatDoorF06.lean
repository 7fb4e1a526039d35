/- Trees: operations, slots and local blocks are sound. -/
import Derived.Lib.Bytealg
import Derived.Lib.Index
import Derived.Lib.IndexMore
import Derived.Lib.ItoaNum
import Derived.Shelf.Strings.Builder1
import Derived.Test.YtfmlbimokklmgaaGreatDoorF05
set_option linter.all false
noncomputable section
namespace Go.Am
open Go Go.RowKit
section
variable {base f l:Nat}{args:List zA}{H:xA}{d:oB}{u v:zA}{op:Op}{kd:zA->xA->oB}{φ:aE}{K:zA->T}{la:List Nat}{dst:Option Nat}
def Ah(C:oA)(A:Tr nC)(f:Nat)(args:List zA)(H:xA):oB:=
 bif Nat.blt f yo then
  match C.prims.get f with
  | some g=>ob (g args H) fun p=>some (⟨p.1,false⟩,p.2)
  | none=>bC C A (.func f) args H
 else bC C A (.yld (f-yo)) args H
theorem Ij{C:oA}{A:Tr nC}   (h:Nat.blt f yo=true):Ah C A f args H=(match C.prims.get f with
  | some g=>ob (g args H) fun p=>some (⟨p.1,false⟩,p.2)
  | none=>bC C A (.func f) args H):=by grind [Ah]
theorem MR{C:oA}{A:Tr nC}    : Ah C A (yo+l) args H=bC C A (.yld l) args H:=by
 unfold Ah;have:Nat.blt (yo+l) yo=false:=Bool.eq_false_iff.2 fun e=>by grind [qC]
 simp_all
def bJ:sB:=fun _ _=>False
def kB (base:Nat)(X0:Xt)(E Q:sB)(d:oB):Prop:=∃o t' HA' X',d=some (o,HA')/\Ov base t' X' HA'/\dI X0 X'/\if o.p=true then E o.v t' else Q o.v t'
theorem kB.mono {X0:Xt}{E Q E' Q':sB} (h:kB base X0 E Q d)(k:∀v t,Q v t->Q' v t)(k':∀v t,E v t->E' v t:=by exact fun _ _ h=>h):kB base X0 E' Q' d:=by
 obtain⟨o,t',HA',X',h1,h2,h3,h4⟩:=h
 refine⟨o,t',HA',X',h1,h2,h3,?_⟩
 split at h4
 ·rename_i hp;rw[yab hp];exact k' _ _ h4
 ·rename_i hp;rw[yaa hp];exact k _ _ h4
def tQ {X0:Xt}{Q:sB}  : kB base X0 bJ Q d ↔ ∃v t' HA' X',d=some (⟨v,false⟩,HA')/\Ov base t' X' HA'/\dI X0 X'/\Q v t':=by
 constructor
 ·rintro⟨⟨v,p⟩,t',HA',X',h1,h2,h3,h4⟩
  cases p with
  | true=>exact h4.elim
  | false=>exact⟨v,t',HA',X',h1,h2,h3,h4⟩
 ·rintro⟨v,t',HA',X',h1,h2,h3,h4⟩
  exact⟨_,t',HA',X',h1,h2,h3,h4⟩
structure aP (C:oA) (A:Tr nC) (E:sB) (W:kE):Prop where
 fn:∀f args t R,Nat.blt f pn=true->W f args t R->∀X HA,Ov C.base t X HA->kB C.base X E R (Ah C A f args HA)
 rd:∀l args t R,W (yo+l) args t R->∀X HA,Ov C.base t X HA->kB C.base X bJ R (Ah C A (yo+l) args HA)
 raise:∀args t R,W pn args t R->∃v,args=[v]/\E v t
section
variable {W J:kE}{t:Tr vA}{X X0:Xt}{HA:xA}{e eA:vD}{C:oA}{A:Tr nC}{ν:Nat->Nat}{ae:sO}{lo:Tr (List zA)}{k:zN}{kl:KLo}{Q E:sB}
def vM{f:yK}  (h:f C e H=some v):lv f C e H=.val v H:=by unfold lv;rw[h]
def zak   (h:(cF op).f C e H=some v):(bE op).f C e H=.val v H:=by
 cases op
 case move x=>exact vM h
 case assign x=>exact vM h
 case pick c a b=>exact vM h
 case load t a=>exact vM h
 case nilCheck x=>exact vM h
 case binOp op t x y u=>exact vM h
 case unOp op t x=>exact vM h
 case makeInterface t x=>exact vM h
 case makeFunc fn a b=>exact vM h
 case slice t x lo hi mx=>exact vM h
 case fieldAddr s x f=>exact vM h
 case field t x f=>exact vM h
 case indexAddr t x i=>exact vM h
 case index t x i=>exact vM h
 case extract t i=>exact vM h
 case build t ps=>exact vM h
 case typeAssert x t u ok=>exact vM h
 case lookup t x i ok=>exact vM h
 case convert s d x=>
  show bX s d x C e H=_
  have h:lP s d x C e H=some v:=h
  unfold bX;rw[h]
 case call c=>
  have h:(zT c c.callee).f C e H=some v:=h
  show(Hq c c.callee).f C e H=_
  cases hc:c.callee with
  | value f=>rw[hc]at h;cases h
  | invoke a b=>rw[hc]at h;cases h
  | builtin b=>
   rw[hc]at h
   cases b
   case len=>exact vM (f:=kQ c) h
   case max=>exact vM (f:=fV c) h
   case min=>exact vM (f:=gV c) h
   all_goals exact absurd (show(none:Option zA)=some v from h) (by simp)
 all_goals exact absurd (show(none:Option zA)=some v from h) (by simp)
def Bi{x:Option (zA × xA)} {H':xA}  (h:x=some (v,H')):jG φ (pL x) HA kd=kd v H':=by subst h;rfl
theorem lU(ho:Ov C.base t X HA){x:xA->Option (zA × xA)}(hx:lT C.base x) (h:pA C.base W J (.heavy x K) t Q)
  (hK:∀v t' HA' X',Ov C.base t' X' HA'->dI X X'->pA C.base W J (K v) t' Q->kB C.base X0 E Q (kd v HA')) {r:oK} (hr:∀p,x HA=some p->jG φ r HA kd=kd p.1 p.2):kB C.base X0 E Q (jG φ r HA kd):=by
 have h:=h HA.next ho.nextT ho.base
 rw[xZ]at h;obtain⟨⟨v,H'⟩,h1,h2⟩:=h
 obtain⟨HA',h3,h4⟩:=hx _ _ _ _ _ ho h1
 grind [dI.refl]
def zfx (h:Nat.blt f pn=true):Nat.blt f yo=true/\f≠pn:=by
 have h:=qC.1 h
 unfold pn at h;exact⟨qC.2 (by unfold yo;omega),by unfold pn;omega⟩
def AN(hW:aP C A E W)(ho:Ov C.base t X HA)(hX:dI X0 X) (hf:Nat.blt f pn=true)  (h:W f args t fun v t'=>pA C.base W J (K v) t' Q)
  (hK:∀v t' HA' X',Ov C.base t' X' HA'->dI X X'->pA C.base W J (K v) t' Q->kB C.base X0 E Q (kd v HA')):kB C.base X0 E Q (jG (bC C A) (Ik C HA args f (C.prims.get f)) HA kd):=by
 obtain⟨hf1,hf2⟩:=zfx hf
 obtain⟨⟨v,p⟩,t',HA',X',h1,h2,h3,h4⟩:=hW.fn _ _ _ _ hf h X HA ho
 rw[Ij hf1]at h1;unfold Ik
 cases hp:C.prims.get f with
 | some g=>
  rw[hp]at h1;rw[tA]at h1;obtain⟨q,h1,h5⟩:=h1
  cases h5;simp only[h1];exact hK _ _ _ _ h2 h3 h4
 | none=>
  rw[hp]at h1;have h1:bC C A (.func f) args HA=some (⟨v,p⟩,HA'):=h1
  show kB C.base X0 E Q (ob (bC C A (.func f) args HA) fun p=>bif p.1.p then some p else kd p.1.v p.2)
  rw[h1]
  cases p with
  | true=>exact⟨_,t',HA',X',rfl,h2,fun b y hb=>h3 b y (hX b y hb),h4⟩
  | false=>exact hK _ _ _ _ h2 h3 h4
def zbs(hW:aP C A E W)(ho:Ov C.base t X HA)   (h:W (yo+l) args t fun v t'=>pA C.base W J (K v) t' Q)
  (hK:∀v t' HA' X',Ov C.base t' X' HA'->dI X X'->pA C.base W J (K v) t' Q->kB C.base X0 E Q (kd v HA')):kB C.base X0 E Q (jG (bC C A) (.round l args) HA kd):=by
 have h0:=hW.rd _ _ _ _ h X HA ho
 rw[tQ]at h0;obtain⟨v,t',HA',X',h1,h2,h3,h4⟩:=h0
 rw[MR]at h1;show kB C.base X0 E Q (ob (bC C A (.yld l) args HA) fun p=>xB (!p.1.p) (kd p.1.v p.2))
 rw[h1];exact hK _ _ _ _ h2 h3 h4
theorem Ov.setX (h:Ov base t X HA){b:Nat}{y:vA}(hb:X b=some y)(z:vA):Ov base t (fun c=>if c=b then some z else X c) (Am.setBlk HA b z):=by
 obtain⟨g1,g2,g3⟩:=h.ext b y hb
 refine⟨h.base,fun c hc=>?_,fun c u hc=>?_,h.lt⟩
 ·split at hc
  ·cases hc
  ·rename_i hne
   show(HA.t.set b z).get c=_
   rw[Tr.get_set,yaa hne];exact h.same c hc
 ·show(HA.t.set b z).get c=_/\_/\c<HA.next
  rw[Tr.get_set];split at hc
  ·simp_all
  ·rename_i hne;rw[yaa hne];exact h.ext c u hc
theorem Ov.newX (h:Ov base t X HA)(z:vA):Ov base t (fun c=>if c=HA.next then some z else X c) (Am.newBlk HA z):=by
 refine⟨Nat.le_succ_of_le h.base,fun c hc=>?_,fun c u hc=>?_,fun b y hb=>Nat.lt_succ_of_lt (h.lt b y hb)⟩
 ·split at hc
  ·cases hc
  ·rename_i hne
   show(HA.t.set HA.next z).get c=_
   rw[Tr.get_set,yaa hne];exact h.same c hc
 ·show(HA.t.set HA.next z).get c=_/\_/\c<HA.next+1
  rw[Tr.get_set];split at hc
  ·rename_i e;cases hc;subst e;rw[yab rfl];exact⟨rfl,h.nextT,Nat.lt_succ_self _⟩
  ·rename_i hne;rw[yaa hne];have:=h.ext c u hc;grind
theorem UF(ho:Ov C.base t X HA)(hl:Nn C.base X0 X ν lo){d off:Nat}{l l':List zA} {sz:Nat}(h1:lo.get d=some l)(h2:yT l off sz u=some l')(h3:fB zA.one u.cells=true) :
  Nat.beq (zB u.cells) sz=true/\l'.length=l.length/\∃c',yJ C HA (ν d) off u.cells=some (setBlk HA (ν d) (.cells c' l.length none))/\∀j a,l'[j]?=some a->c'.get j=some a:=by
 obtain⟨_,hb,c,hc,hg⟩:=hl d l h1
 have hx:=(ho.ext _ _ hc).1
 unfold yT at h2;simp only[wB,ybb,oE,oD,iG,iR,mP,Option.some.injEq]at h2;obtain⟨⟨g1,g2⟩,g3⟩:=h2
 subst g3;refine⟨by grind [oD],?_,c.setMany u.cells off,?_,?_⟩
 ·grind
 ·grind [yJ,Nat.blt,qE,wB,qA,vA.asCells,oE,oD]
 ·intro j a hj
  rw[Tr.get_setMany];grind
theorem zab{y:lD} (h:fB zA.one (Ii y u)=true):Ii y u=u.cells:=by
 grind [Ii,jH,Xl]
theorem RI    (h:(cF op).f C eA HA=some v):jG φ ((bE op).f C eA HA) HA kd=kd v HA:=by rw[zak h];rfl
theorem UV  {d:Nat}(h:laOf la dst=some d):dst=some d:=by
 unfold laOf at h;grind
theorem tH_ok(hW:aP C A E W)(hX:dI X0 X)(he:kT e eA)(ha:Jb ν ae eA)(ho:Ov C.base t X HA)(hl:Nn C.base X0 X ν lo)
  (h:pA C.base W J (tH C la dst op e ae lo k kl) t Q)
  (hK:∀v t' HA' X',Ov C.base t' X' HA'->dI X X'->pA C.base W J (k.K v) t' Q->kB C.base X0 E Q (kd v HA'))
  (hKd:∀v t' HA' X',Ov C.base t' X' HA'->dI X X'->pA C.base W J (k.Kd v) t' Q->kB C.base X0 E Q (kd v HA'))
  (hKA:∀d off,pA C.base W J (k.KA d off) t Q->kB C.base X0 E Q (kd (.ptr (ν d) off) HA))
  (hnew:∀d l,laOf la dst=some d->pA C.base W J (kl.new d l) t Q->kB C.base X0 E Q (kd (.ptr HA.next 0) (yG HA l none)))
  (hset:∀d l l' c',lo.get d=some l->l'.length=l.length->(∀j a,l'[j]?=some a->c'.get j=some a)->pA C.base W J (kl.set d l') t Q->kB C.base X0 E Q (kd dD (setBlk HA (ν d) (.cells c' l.length none)))) :
  kB C.base X0 E Q (jG (bC C A) ((bE op).f C eA HA) HA kd):=by
 have light:∀(op:Op),pA C.base W J (tL C op e ae lo k) t Q->kB C.base X0 E Q (jG (bC C A) ((bE op).f C eA HA) HA kd):=by
  intro op h;obtain⟨v,h1,h2⟩:=zgw (R:=fun v=>kB C.base X0 E Q (kd v HA)) he ha ho hl h (fun v h=>hK v _ _ _ ho (dI.refl _) h) (fun v h=>hKd v _ _ _ ho (dI.refl _) h) hKA
  grind [RI]
 cases op<;>simp only[tH]at h<;>try (exact light _ h)
 case alloc ty=>
  show kB C.base X0 E Q (jG _ (Cd ty C eA HA) HA kd)
  rw[qD]at h;split at h
  ·rename_i ht
   have ht:dK C ty=none:=by
    cases hx:dK C ty with
    | none=>rfl
    | some _=>rw[hx]at ht;cases ht
   split at h
   ·rename_i d hd
    rw[iE]at h;obtain⟨y,h1,h2⟩:=h
    unfold Cd;rw[h1,ht];exact hnew d _ hd h2
   ·refine lU ho OJ h hK fun p hp=>?_
    unfold Cd;rw[ht];have hp:(ob (C.tys.get ty) fun ty=>some (.ptr HA.next 0,yG HA ty.zero none))=some p:=hp
    rw[hp];rfl
  ·refine lU ho OL h hK fun p hp=>?_
   unfold Cd;unfold Oa at hp;rw[hp];rfl
 case box ty x=>
  rw[qD]at h;show kB C.base X0 E Q (jG _ (fZ ty x C eA HA) HA kd)
  unfold fZ;split at h
  ·rename_i ht
   have ht:dK C ty=none:=by
    cases hx:dK C ty with
    | none=>rfl
    | some _=>rw[hx]at ht;cases ht
   rw[iE]at h;obtain⟨v,h1,h⟩:=h
   rw[uF he h1,ht];split at h
   ·rename_i d hd
    rw[iE]at h;obtain⟨y,_,h⟩:=h
    rw[qD]at h;split at h
    ·exact hnew d _ hd h
    ·have h:if zA.one v=true then pA C.base W J (kl.new d [v]) t Q else False:=h
     split at h
     ·rename_i h1
      have:=hnew d _ hd h
      rw[<- Xl h1]at this;exact this
     simp_all
   ·refine lU ho zgf h hK fun p hp=>?_
    cases hp;rfl
  ·rw[iE]at h
   obtain⟨v,h1,h⟩:=h
   rw[uF he h1];refine lU ho za0 h hK fun p hp=>?_
   cases hp;rfl
 case buildSlice ty n ps=>
  rw[iE]at h;obtain⟨vs,h1,h⟩:=h
  show kB C.base X0 E Q (jG _ (Cc ty n ps C eA HA) HA kd)
  refine lU ho OH h hK fun p hp=>?_
  refine Bi (v:=p.1) (H':=p.2) ?_
  rw[Zw he h1];exact hp
 case makeMap ty r=>
  cases r with
  | some _=>simp_all
  | none=>
   simp only[]at h;show kB C.base X0 E Q (jG _ (Mf none C eA HA) HA kd)
   refine lU ho OB h hK fun p hp=>?_
   cases hp;rfl
 case makeSlice ty l c=>
  simp only[iE]at h;obtain⟨a,h1,b,h2,h⟩:=h
  show kB C.base X0 E Q (jG _ (Zf ty l c C eA HA) HA kd)
  refine lU ho OA h hK fun p hp=>?_
  refine Bi (v:=p.1) (H':=p.2) ?_
  grind [uF,uP,qA]
 case store ty a x=>
  unfold zdw at h;show kB C.base X0 E Q (jG _ (Md ty a x C eA HA) HA kd)
  split at h
  ·rename_i p hp
   simp only[iE]at h;obtain⟨u,h1,y,h2,l,h3,l',h4,h5⟩:=h
   have h5:if fB zA.one (Ii y u)=true then pA C.base W J (kl.set p.1 l') t Q else False:=h5
   split at h5
   ·rename_i hone
    have hcell:=zab hone
    rw[hcell]at hone h4;have h4:yT l p.2 y.size u=some l':=h4
    obtain⟨g1,g2,c',g3,g4⟩:=UF ho hl h3 h4 hone
    have:=hset p.1 l l' c' h3 g2 g4 h5
    have e1:jG (bC C A) (Md ty a x C eA HA) HA kd=kd dD (setBlk HA (ν p.1) (.cells c' l.length none)):=by
     refine Bi ?_
     rw[h2,qA,Da ha hp,qA];simp only[zA.asPtr,qA];rw[uF he h1,qA,g1,g3];rfl
    simp_all
   simp_all
  ·simp only[iE]at h
   obtain⟨av,h1,u,h2,h⟩:=h
   refine lU ho NY h hKd fun p hp=>?_
   refine Bi (v:=p.1) (H':=p.2) ?_
   grind [uF,zC,qA]
 case convert s d x=>
  rw[qD]at h;split at h
  ·rename_i hd
   rw[iE]at h;obtain⟨u,h1,h⟩:=h
   show kB C.base X0 E Q (jG _ (bX s d x C eA HA) HA kd)
   have hn:lP s d x C eA HA=none:=by
    rw[II (uF he h1)]
    cases hq:Ax C s d HA u with
    | none=>rfl
    | some q=>
     exfalso
     unfold Ax at hq;simp only[tA]at hq;obtain⟨sy,g1,dy,g2,g3⟩:=hq
     have hd:=mC.1 hd
     unfold yI at hd;rw[g2]at hd;have hd:dy.desc.tag=4:=hd
     unfold iU at g3;have n1:dy.desc.asInt=none:=by cases hz:dy.desc<;>rw[hz]at hd<;>first | rfl | (cases hd;done)
     have n2:dy.desc.isString=false:=by unfold jE.isString;rw[hd];rfl
     rw[n1,n2]at g3
     cases g3
   unfold bX;rw[hn];simp only[];refine lU ho NX h hK fun p hp=>?_
   refine Bi (v:=p.1) (H':=p.2) ?_
   rw[uF he h1];exact hp
  grind [tL]
 case insert ty m key x=>
  simp only[iE]at h;obtain⟨mv,h1,kv,h2,u,h3,h⟩:=h
  show kB C.base X0 E Q (jG _ (Cb ty m key x C eA HA) HA kd)
  refine lU ho BR h hKd fun p hp=>?_
  refine Bi (v:=p.1) (H':=p.2) ?_
  rw[uF he h1,uF he h2,uF he h3];exact hp
 case mapUpdate ty m key x=>
  simp only[iE]at h;obtain⟨mv,h1,kv,h2,u,h3,h⟩:=h
  show kB C.base X0 E Q (jG _ (Cb ty m key x C eA HA) HA kd)
  refine lU ho BR h hKd fun p hp=>?_
  refine Bi (v:=p.1) (H':=p.2) ?_
  rw[uF he h1,uF he h2,uF he h3];exact hp
 case panic x=>
  have h:pA C.base W J (cB (ev x e) fun v=>cB v.asIface fun p=>.call pn [.iface p.1 p.2] k.K) t Q:=h
  simp only[iE]at h;obtain⟨v,h1,p,h2,h3⟩:=h
  obtain⟨u,e1,e2⟩:=hW.raise _ _ _ h3
  cases e1
  show kB C.base X0 E Q (jG _ (Me x C eA HA) HA kd)
  unfold Me;rw[uF he h1,qA,h2,qA];exact⟨⟨_,true⟩,t,HA,X,rfl,ho,hX,e2⟩
 case call c=>
  show kB C.base X0 E Q (jG _ ((Hq c c.callee).f C eA HA) HA kd)
  split at h
  ·rename_i f hc
   rw[hc];show kB C.base X0 E Q (jG _ (Ez f c.args C eA HA) HA kd)
   have fin:∀ {fv:zA} {aq:List zA},ev f e=some fv->aN c.args.toList e=some aq->pA C.base W J (.callv fv aq k.K) t Q->kB C.base X0 E Q (jG (bC C A) (Ez f c.args C eA HA) HA kd):=by
    intro fv aq h1 h2 h;have h:vE (gL fv aq) fun p=>W p.1 p.2 t fun v t'=>pA C.base W J (k.K v) t' Q:=h
    rw[xZ]at h;obtain⟨⟨g,aq'⟩,h3,h4⟩:=h
    unfold gL at h3;rw[tA]at h3;obtain⟨p,h5,h6⟩:=h3
    have e0:Ez f c.args C eA HA=zju C HA (fD p.2.1 aq) p.2.2 p.1:=by
     unfold Ez sR;rw[uF he h1,qA,h5,qA,Zv he h2,qA,qA];rfl
    rw[e0]
    cases hp:p.1 with
    | func g'=>
     rw[hp]at h6;simp only[wB]at h6;obtain⟨hg,h6⟩:=h6
     cases h6;exact AN hW ho hX hg h4 hK
    | yld l=>
     rw[hp]at h6;simp only[wB,ybb]at h6;obtain⟨⟨ha,hb⟩,h6⟩:=h6
     cases h6;have ea:p.2.1=[]:=by cases hx:p.2.1 with | nil=>rfl | cons _ _=>rw[hx]at ha;cases ha
     have eb:p.2.2=[]:=by cases hx:p.2.2 with | nil=>rfl | cons _ _=>rw[hx]at hb;cases hb
     rw[ea,eb];exact zbs hW ho h4 hK
   unfold zdy at h;split at h
   ·rename_i g
    rw[rO,iE]at h;obtain⟨hg,aq,h1,h⟩:=h
    refine fin (fv:=.func (.func g) [] []) rfl h1 ?_
    show vE (gL (.func (.func g) [] []) aq) _
    have e2:gL (.func (.func g) [] []) aq=some (g,aq):=by
     show xB (Nat.blt g pn) (some (g,fD (fD [] aq) []))=_
     rw[hg,iG,iG];simp[xB]
    rw[e2];exact h
   grind [iE]
  ·rename_i b hb
   rw[hb];have lt:pA C.base W J (Kb C c e k b) t Q->kB C.base X0 E Q (jG (bC C A) ((Hq c (.builtin b)).f C eA HA) HA kd):=by
    intro h;have:=light (.call c) (by show pA C.base W J (match c.callee with | .builtin b=>Kb C c e k b | _=>.fail) t Q;simp_all)
    have e1:(bE (.call c)).f C eA HA=(Hq c c.callee).f C eA HA:=rfl
    simp_all
   unfold CQ at h;split at h
   ·simp only[iE,two']at h
    obtain⟨ty,h1,u,h2,p,h3,h⟩:=h
    show kB C.base X0 E Q (jG _ (Hr c C eA HA) HA kd)
    refine lU ho OI h hK fun q hq=>?_
    refine Bi (v:=q.1) (H':=q.2) ?_
    grind [gE,tA,wB,Ue]
   grind
  ·cases h
end
end
section
variable {d i ty:Nat}{l:List zA}{dst:Option Nat}{v:zA}{lt:Bool}{κ:KT}{all:Array Oper}{la:List Nat}{m:Tm->xA->oB}
structure lF (base:Nat) (X0:Xt) (kf:Nat) (ν:Nat->Nat) (X:Xt) (st:sH) (tm:Tm) (HA:xA) (t:Tr vA):Prop where
 ov:Ov base t X HA
 le:dI X0 X
 k:st.tm.k=kf
 kA:tm.k=kf
 tms:∀i v,st.tm.get i=some v->tm.get i=some v
 ads:∀i p,fL i st.ad=some p->tm.get i=some (.ptr (ν p.1) p.2)
 lo:Nn base X0 X ν st.lo
 inj:∀d d' l l',st.lo.get d=some l->st.lo.get d'=some l'->ν d=ν d'->d=d'
theorem It {a:Nat × Nat × Nat}{l:List (Nat × Nat × Nat)}:fL i (a::l)=if i=a.1 then some a.2 else fL i l:=by
 grind [fL,qK,mC]
theorem zao {p:Nat × Nat}:∀ {l:List (Nat × Nat × Nat)},fL i l=some p->(i,p.1,p.2)∈l:=by
 intro l;induction l with
 | nil=>intro h;cases h
 | cons a l ih=>
  grind [It]
theorem Bl{n:Nat}{tm:Tm}   : (putA n tm dst v).k=tm.k:=by
 unfold putA putB
 cases dst with
 | none=>rfl
 | some d=>
  grind [Ha,Tm.set,qK]
theorem Tm.set_k{tm:Tm}   : (tm.set i v).k=tm.k:=by unfold Tm.set;rw[qK];split<;>rfl
section
variable {W J:kE}{t:Tr vA}{X X0:Xt}{HA:xA}{C:oA}{A:Tr nC}{ν:Nat->Nat}{Q E:sB}{kf n:Nat}{st:sH}{tm:Tm}
theorem lF.put(h:lF C.base X0 kf ν X st tm HA t)    (hw:pA C.base W J (vR n dst v lt st κ) t Q) :
  ∃st',lF C.base X0 kf ν X st' (putA n tm dst v) HA t/\pA C.base W J (κ st') t Q:=by
 unfold vR at hw
 cases dst with
 | none=>exact⟨st,h,hw⟩
 | some d=>
  simp only[qD]at hw;split at hw
  ·rename_i hd
   rw[rO]at hw;obtain⟨h1,h2⟩:=hw
   refine⟨_,?_,h2⟩
   refine⟨h.ov,h.le,(by grind [k,Tm.set_k]),by rw[Bl];exact h.kA,?_,?_,h.lo,h.inj⟩
   ·intro i u hi
    have hi2:(st.tm.set d v).get i=some u:=hi
    rw[Tm.get_set]at hi2;rw[vJ];split at hi2
    ·simp_all
    ·rename_i e
     rw[yaa (fun hh=>e (by simp_all))]
     exact h.tms i u hi2
   ·intro i p hi
    rw[vJ,yaa]
    ·exact h.ads i p hi
    ·rintro⟨e,_⟩
     injection e with e
     subst e;rw[hi]at h1
     cases h1
  ·rename_i hd
   refine⟨st,?_,hw⟩
   simp_all [putA,putB,Ha,qD,yaa]
theorem lF.putA(h:lF C.base X0 kf ν X st tm HA t) {off:Nat} (hw:pA C.base W J (zgv n dst d off st κ) t Q) :
  ∃st',lF C.base X0 kf ν X st' (Am.putA n tm dst (.ptr (ν d) off)) HA t/\pA C.base W J (κ st') t Q:=by
 unfold zgv at hw;rw[iE]at hw;obtain⟨i,h1,hw⟩:=hw
 subst h1;simp only[rO]at hw;obtain⟨h2,h3,h4⟩:=hw
 refine⟨_,?_,h4⟩
 refine⟨h.ov,h.le,h.k,by rw[Bl];exact h.kA,?_,?_,h.lo,h.inj⟩
 ·intro j u hj
  rw[vJ,yaa]
  ·exact h.tms j u hj
  ·rintro⟨e,_⟩
   injection e with e
   subst e;have hj:st.tm.get i=some u:=hj
   rw[hj]at h3
   cases h3
 ·intro j p hj
  have hj:fL j ((i,d,off)::st.ad)=some p:=hj
  rw[It]at hj;rw[vJ];split at hj
  ·rename_i e;cases hj;rw[yab ⟨by rw[e],by simp_all⟩]
  ·rename_i e
   rw[yaa (fun hh=>e (by simp_all))]
   exact h.ads j p hj
theorem lF.new(h:lF C.base X0 kf ν X st tm HA t)   (hw:pA C.base W J (tNew n d l st κ) t Q) :
  ∃st' ν' X',lF C.base X0 kf ν' X' st' (Am.putA n tm (some d) (.ptr HA.next 0)) (yG HA l none) t/\pA C.base W J (κ st') t Q:=by
 unfold tNew at hw;simp only[rO]at hw;obtain⟨h1,h2,h3,h4⟩:=hw
 have hx:=h.ov.nextX
 refine⟨_,fun c=>if c=d then HA.next else ν c,fun c=>if c=HA.next then some (.cells (Tr.ofList l) (zB l) none)else X c,?_,h4⟩
 refine⟨h.ov.newX _,?_,h.k,by rw[Bl];exact h.kA,?_,?_,?_,?_⟩
 ·intro b y hb
  have:X b=some y:=h.le b y hb
  grind
 ·intro j u hj
  rw[vJ,yaa]
  ·exact h.tms j u hj
  ·rintro⟨e,_⟩
   injection e with e
   subst e;have hj:st.tm.get d=some u:=hj
   rw[hj]at h2
   cases h2
 ·intro j p hj
  have hj:fL j ((d,d,0)::st.ad)=some p:=hj
  rw[It]at hj;rw[vJ];split at hj
  ·rename_i e
   cases hj;rw[yab ⟨by rw[e],by simp_all⟩];show some (zA.ptr HA.next 0)=some (zA.ptr (if d=d then HA.next else ν d) 0)
   rw[yab rfl]
  ·rename_i e
   rw[yaa (fun hh=>e (by simp_all))]
   have hm:=zao hj
   unfold zer at h3;rw[jH,ycb]at h3;have:=h3 _ hm
   simp only[qD]at this;have hne:p.1≠d:=by
    simp_all
   show Tm.get tm j=some (zA.ptr (if p.1=d then HA.next else ν p.1) p.2)
   rw[yaa hne];exact h.ads j p hj
 ·intro c m hc
  have hc:(st.lo.set d l).get c=some m:=hc
  rw[Tr.get_set]at hc;show X0 (if c=d then HA.next else ν c)=none/\C.base<=(if c=d then HA.next else ν c)/\∃c',(if (if c=d then HA.next else ν c)=HA.next then some (vA.cells (Tr.ofList l) (zB l) none)else X (if c=d then HA.next else ν c))=some (.cells c' m.length none)/\∀j a,m[j]?=some a->c'.get j=some a
  split at hc
  ·rename_i e
   cases hc;simp only[e,if_true];refine⟨?_,h.ov.base,Tr.ofList l,by rw[oD],fun j a hj=>by grind [Tr.get_ofList]⟩
   cases hq:X0 HA.next with
   | none=>rfl
   | some z=>have:=h.le _ _ hq;simp_all
  ·rename_i e
   simp only[yaa e];obtain⟨g1,g2,c',g3,g4⟩:=h.lo c m hc
   grind
 ·intro c c' m m' hc hc' he
  have hc:(st.lo.set d l).get c=some m:=hc
  have hc':(st.lo.set d l).get c'=some m':=hc'
  have he:(if c=d then HA.next else ν c)=(if c'=d then HA.next else ν c'):=he
  rw[Tr.get_set]at hc hc'
  split at hc<;>split at hc'
  ·rename_i e1 e2;rw[e1,e2]
  ·rename_i e1 e2
   rw[yab e1,yaa e2]at he;obtain⟨_,_,_,g3,_⟩:=h.lo c' m' hc'
   simp_all
  ·rename_i e1 e2
   rw[yaa e1,yab e2]at he;obtain⟨_,_,_,g3,_⟩:=h.lo c m hc
   simp_all
  ·rename_i e1 e2
   rw[yaa e1,yaa e2]at he;exact h.inj c c' m m' hc hc' he
theorem lF.setLo(h:lF C.base X0 kf ν X st tm HA t) {l':List zA}{c':Tr zA}(h1:st.lo.get d=some l)(h2:l'.length=l.length)(h3:∀j a,l'[j]?=some a->c'.get j=some a) :
  ∃X',lF C.base X0 kf ν X' ⟨st.tm,st.ad,st.lo.set d l',st.lit⟩ tm (setBlk HA (ν d) (.cells c' l.length none)) t:=by
 obtain⟨g1,g2,c,g3,g4⟩:=h.lo d l h1
 refine⟨_,h.ov.setX g3 _,?_,h.k,h.kA,h.tms,h.ads,?_,?_⟩
 ·intro b y hb
  show(if b=ν d then _ else X b)=some y
  rw[yaa]
  ·exact h.le b y hb
  grind
 ·intro e m he
  have he:(st.lo.set d l').get e=some m:=he
  rw[Tr.get_set]at he;split at he
  ·simp_all
  ·rename_i e1
   obtain⟨k1,k2,k3,k4,k5⟩:=h.lo e m he
   refine⟨k1,k2,k3,?_,k5⟩
   show(if ν e=ν d then _ else X (ν e))=_
   rw[yaa,k4];intro e2;exact e1 (h.inj e d m l he h1 e2)
 ·intro e e' m m' he he' hv
  have he:(st.lo.set d l').get e=some m:=he
  have he':(st.lo.set d l').get e'=some m':=he'
  rw[Tr.get_set]at he he'
  have x1:∃q,st.lo.get e=some q:=by
   grind
  have x2:∃q,st.lo.get e'=some q:=by
   grind
  exact h.inj e e' _ _ x1.choose_spec x2.choose_spec hv
def lF.later(h:lF C.base X0 kf ν X st tm HA t){X':Xt}{HA':xA}{t':Tr vA}(ho:Ov C.base t' X' HA')(hx:dI X X'):lF C.base X0 kf ν X' st tm HA' t':=
 ⟨ho,h.le.trans hx,h.k,h.kA,h.tms,h.ads,fun d l hd=>by
  obtain⟨g1,g2,c,g3,g4⟩:=h.lo d l hd
  exact⟨g1,g2,c,hx _ _ g3,g4⟩,h.inj⟩
theorem Rw  (h:Hw C ty v=true):bZ C ty v:=by
 unfold Hw at h;unfold bZ
 cases hy:C.tys.get ty with
 | none=>trivial
 | some y=>
  rw[hy]at h;simp only at h ⊢
  unfold Hv
  cases hd:y.desc<;>rw[hd]at h<;>simp only at h ⊢
  case bool=>
   have:=mC.1 h
   cases v<;>simp only[zA.tag]at this<;>first
    | exact⟨_,rfl⟩
    | (cases this;done)
  case int k=>
   cases v<;>simp only[zA.asIntK]at h<;>first
    | exact⟨_,by rw[dO.1 h]⟩
    | (cases h;done)
  case string=>
   have:=mC.1 h
   cases v<;>simp only[zA.tag]at this<;>first
    | exact⟨_,rfl⟩
    | (cases this;done)
theorem Zp  (h:(!Nat.ble (yI C ty) 2)=true):bZ C ty v:=by
 unfold bZ;unfold yI at h
 cases hy:C.tys.get ty with
 | none=>trivial
 | some y=>
  rw[hy]at h;simp only at h ⊢
  unfold Hv
  cases hd:y.desc<;>rw[hd]at h<;>first
   | trivial
   | (simp only[jE.tag]at h;exact absurd h (by decide))
def KC:∀(zs l:List zA) (pre:List zA),yS zs l=true->kM zs (cellsOf (pre++l)) pre.length=l:=by
 intro zs;induction zs with
 | nil=>intro l pre h;cases l with
  | nil=>rfl
  | cons a l=>cases h
 | cons z zs ih=>
  intro l pre h
  cases l with
  | nil=>cases h
  | cons a l=>
   unfold yS at h;rw[ybb]at h;show El z (cellsOf (pre++a::l)) pre.length::kM zs (cellsOf (pre++a::l)) (pre.length+1)=a::l
   have e2:=ih l (pre++[a]) h.2
   rw[ybz]at e2;simp only[List.cons_append,yah,ybg,ybn,ybx]at e2;rw[e2];congr 1
   have hg:(pre++a::l)[pre.length]?=some a:=by simp
   have h1:=h.1
   cases z<;>simp only[cZ]at h1<;>simp only[El,cellsOf,Im,ziv,strAt,Jt,hg]<;>try (cases h1;done)
   case bool=>
    have:=mC.1 h1
    cases a<;>simp only[zA.tag]at this<;>first
     | rfl
     | (cases this;done)
   case int k _=>
    cases a<;>simp only[zA.asIntK]at h1<;>first
     | (rw[dO.1 h1];done)
     | (cases h1;done)
   case str=>
    have:=mC.1 h1
    cases a<;>simp only[zA.tag]at this<;>first
     | rfl
     | (cases this;done)
theorem CO  {K:zA->T}(h:pA C.base W J (Ka C ty v K) t Q):bZ C ty v/\pA C.base W J (K v) t Q:=by
 unfold Ka at h;unfold bZ;have agg:∀zs,pA C.base W J (bif Nat.ble (zB zs) 40 then .asG zs v fun X=>K (.agg (kM zs X 0))else K v) t Q->pA C.base W J (K v) t Q:=by
  intro zs h;rw[qD]at h;split at h
  ·have h:vE (jJ zs v) fun X=>pA C.base W J (K (.agg (kM zs X 0))) t Q:=h
   rw[xZ]at h;obtain⟨X,h1,h2⟩:=h
   unfold jJ at h1;simp only[tA,wB]at h1;obtain⟨l,h3,h4,h5⟩:=h1
   cases h5;have:=KC zs l [] h4
   grind [Ip]
  ·exact h
 grind [Hv,pA,xZ,Cm,Hp,tA,wB,eW,dO,fW]
theorem Oo{g:Bool} {K:zA->Bool->T}(h:pA C.base W J (Gn g lt v K) t Q):∃lt',pA C.base W J (K v lt') t Q:=by
 grind [Gn,iE,Cm,pA]
theorem Jj(h:lF C.base X0 kf ν X st tm HA t){g:Option (Nat × Bool)} {w:Bool}(hw:wG g all st.tm=some w):wG g all tm=some w:=by
 unfold wG Jl at hw ⊢
 cases g with
 | none=>exact hw
 | some jw=>
  simp only[Jk]at hw ⊢
  rw[tA]at hw ⊢
  obtain⟨d,h1,hw⟩:=hw
  refine⟨d,h1,?_⟩
  rw[tA]at hw ⊢
  obtain⟨v,h2,hw⟩:=hw
  exact⟨v,h.tms _ _ h2,hw⟩
def SK (C:oA)(W J:kE)(X0:Xt)(kf:Nat)(E Q:sB)(κ:KT)(m:Tm->xA->oB):Prop:=∀st tm HA t X ν,lF C.base X0 kf ν X st tm HA t->pA C.base W J (κ st) t Q->kB C.base X0 E Q (m tm HA)
theorem kB.norm  {K:zA->oB}(hf:bZ C ty v)(h:kB C.base X0 E Q (K v)):kB C.base X0 E Q (mL C ty v K):=by
 obtain⟨u,t',HA',X',h1,h2⟩:=h
 exact⟨u,t',HA',X',oP.2 ⟨hf,h1⟩,h2⟩
theorem kB.ob{α:Type}{x:Option α}{a:α}{K:α->oB}(hx:x=some a)(h:kB C.base X0 E Q (K a)):kB C.base X0 E Q (Am.ob x K):=by simp_all
theorem DM(hW:aP C A E W){e eA:vD}{ae:sO}(he:kT e eA)(ha:Jb ν ae eA)(hst:lF C.base X0 kf ν X st tm HA t)  {o:Oper}
  (hκ:∀st' tm' HA' t' X' ν',(la=[]->ν'=ν)->lF C.base X0 kf ν' X' st' tm' HA' t'->(∃v,tm'=putA n tm o.dst v)->pA C.base W J (κ st') t' Q->kB C.base X0 E Q (m tm' HA'))
  (h:pA C.base W J (tH C la o.dst o.op e ae st.lo (kop C all n o e st κ) (klo C n o st κ)) t Q) :
  kB C.base X0 E Q (jG (bC C A) ((bE o.op).f C eA HA) HA fun v H'=>mL C o.type v fun v=>m (putA n tm o.dst v) H'):=by
 refine tH_ok hW hst.le he ha hst.ov hst.lo h ?_ ?_ ?_ ?_ ?_
 ·intro v t' HA' X' ho hx hk
  have hk:pA C.base W J (Ka C o.type v fun v=>Gn (Rj all.toList o.dst all.toList) (Qt o.op e st.lit) v fun v lt=>vR n o.dst v lt st κ) t' Q:=hk
  obtain⟨h1,h2⟩:=CO hk
  obtain⟨lt',h3⟩:=Oo h2
  obtain⟨st',h4,h5⟩:=(hst.later ho hx).put h3
  grind [kB.norm]
 ·intro v t' HA' X' ho hx hk
  obtain⟨h1,h2⟩:=rO.1 hk
  obtain⟨lt',h3⟩:=Oo h2
  obtain⟨st',h4,h5⟩:=(hst.later ho hx).put h3
  grind [kB.norm,Rw]
 ·intro d off hk
  obtain⟨h1,h2⟩:=rO.1 hk
  obtain⟨st',h4,h5⟩:=hst.putA h2
  grind [kB.norm,Zp]
 ·intro d l hd hk
  obtain⟨h1,h2⟩:=rO.1 hk
  obtain⟨st',ν',X',h4,h5⟩:=hst.new h2
  have e:=UV hd
  rw[e];refine kB.norm (Zp h1) (hκ _ _ _ _ _ _ (fun hl=>?_) h4 ⟨_,by rw[e]⟩ h5)
  rw[hl,e]at hd
  cases hd
 ·intro d l l' c' h1 h2 h3 hk
  obtain⟨h4,h5⟩:=rO.1 hk
  obtain⟨X',h6⟩:=hst.setLo h1 h2 h3
  obtain⟨st',h7,h8⟩:=h6.put h5
  grind [kB.norm,Rw]
def Lf(h:lF C.base X0 kf ν X st tm HA t):kT (.now st.tm) (.now tm)/\Jb ν (.now st.ad) (.now tm):=⟨h.tms,h.ads⟩
def zgn(hW:aP C A E W)    (hκ:SK C W J X0 kf E Q κ m):∀(l:List Oper),SK C W J X0 kf E Q (tops C la all n κ l) (wM C (bC C A) all n m l):=by
 intro l;induction l with
 | nil=>exact hκ
 | cons o l ih=>
  intro st tm HA t X ν hst h;have h:pA C.base W J (cB (wG o.guard all st.tm) fun w=>Bool.rec (motive:=fun _=>T) (vR n o.dst dD false st (tops C la all n κ l))
   (tH C la o.dst o.op (.now st.tm) (.now st.ad) st.lo (kop C all n o (.now st.tm) st (tops C la all n κ l)) (klo C n o st (tops C la all n κ l))) w) t Q:=h
  rw[iE]at h;obtain⟨w,h1,h2⟩:=h
  rw[Bo];refine kB.ob (Jj hst h1) ?_
  cases w with
  | false=>
   rw[yaa (by simp)]
   obtain⟨st',h3,h4⟩:=hst.put h2
   exact ih _ _ _ _ _ _ h3 h4
  | true=>
   rw[yab rfl];exact DM hW (Lf hst).1 (Lf hst).2 hst (fun st' tm' HA' t' X' ν' _ hs _ hw=>ih _ _ _ _ _ _ hs hw) h2
end
end
section
variable {b base f fn i k:Nat}{op:Op}{κ:KT}{e:vD}{ef:mN}{m:Tm->xA->oB}{la pl:List Nat}{q:Nat × Nat}{v:zA}{p:PI}{vals:List zA}{y:vA}{c:nC}
structure Iv (ν:Nat->Nat) (old:sH) (oldA:Tm):Prop where
 tms:∀i v,old.tm.get i=some v->oldA.get i=some v
 ads:∀i p,fL i old.ad=some p->oldA.get i=some (.ptr (ν p.1) p.2)
def lF.old {X0 X:Xt}{kf:Nat}{ν:Nat->Nat}{st:sH}{tm:Tm}{HA:xA}{t:Tr vA}(h:lF base X0 kf ν X st tm HA t):Iv ν st tm:=⟨h.tms,h.ads⟩
def Tm.get_cut{tm:Tm}  : tm.cut.get i=if i<tm.k then tm.get i else none:=by
 unfold Tm.cut Tm.get;simp only[qK];by_cases h:Nat.blt i tm.k=true
 ·rw[yab h,yab h,yab (qC.1 h)]
 ·rw[yaa h,yaa (fun e=>h (qC.2 e))];rfl
theorem zap  : ∀ {l:List (Nat × Nat × Nat)},fL i (vD.adCut k l)=if i<k then fL i l else none:=by
 intro l;induction l with
 | nil=>show none=_;split<;>rfl
 | cons a l ih=>
  grind [vD.adCut,qC,It]
section
variable {W J:kE}{t:Tr vA}{X X0:Xt}{HA:xA}{C:oA}{A:Tr nC}{ν:Nat->Nat}{Q E:sB}{kf n:Nat}{st old:sH}{tm oldA:Tm}{all:Array Oper}{olds:List (Nat × List Nat)}
theorem lF.cut(h:lF C.base X0 kf ν X st tm HA t):lF C.base X0 kf ν X st.cut tm.cut HA t:=by
 refine⟨h.ov,h.le,h.k,h.kA,?_,?_,h.lo,h.inj⟩
 ·intro i v hi
  have hi:st.tm.cut.get i=some v:=hi
  rw[Tm.get_cut]at hi ⊢
  split at hi
  ·rename_i e;rw[yab (by rw[h.kA,<- h.k];exact e)];exact h.tms i v hi
  grind
 ·intro i p hi
  have hi:fL i (vD.adCut st.tm.k st.ad)=some p:=hi
  rw[zap]at hi;rw[Tm.get_cut];split at hi
  ·rename_i e;rw[yab (by rw[h.kA,<- h.k];exact e)];exact h.ads i p hi
  grind
theorem Em(h:lF C.base X0 kf ν X st tm HA t)(ho:Iv ν old oldA){os:List Nat}  : kT (oQ st old os op) (.mixed tm oldA os (bH op))/\Jb ν (tZ st old os op) (.mixed tm oldA os (bH op)):=by
 constructor
 ·intro i v hi
  have hi:(bif aH i (bH op)then Tm.get (bif aH i os then old.tm else st.tm) i else none)=some v:=hi
  show(bif aH i (bH op)then Tm.get (bif aH i os then oldA else tm) i else none)=some v
  cases hm:aH i (bH op)with
  | false=>simp_all
  | true=>
   rw[hm]at hi;simp only[cond_true]at hi ⊢
   cases hq:aH i os with
   | true=>rw[hq]at hi;exact ho.tms i v hi
   | false=>rw[hq]at hi;exact h.tms i v hi
 ·intro i p hi
  have hi:(bif aH i (bH op)then fL i (bif aH i os then old.ad else st.ad)else none)=some p:=hi
  show(bif aH i (bH op)then Tm.get (bif aH i os then oldA else tm) i else none)=_
  cases hm:aH i (bH op)with
  | false=>simp_all
  | true=>
   rw[hm]at hi;simp only[cond_true]at hi ⊢
   cases hq:aH i os with
   | true=>rw[hq]at hi;exact ho.ads i p hi
   | false=>rw[hq]at hi;exact h.ads i p hi
theorem Ui(ho:Iv ν old oldA) {kd:Tm->oB}(hκ:∀st' tm',lF C.base X0 kf ν X st' tm' HA t->pA C.base W J (κ st') t Q->kB C.base X0 E Q (kd tm')) :
  ∀(l:List Nat) (st:sH) (tm:Tm),lF C.base X0 kf ν X st tm HA t->pA C.base W J (iS C all n old olds κ l st) t Q->kB C.base X0 E Q (pI C HA all n oldA olds kd l tm):=by
 intro l;induction l with
 | nil=>exact hκ
 | cons i l ih=>
  intro st tm hst h;have h:pA C.base W J (cB (sD all.toList i) fun o=>cB (wG o.guard all st.tm) fun w=>Bool.rec (motive:=fun _=>T) (vR n o.dst dD false st (iS C all n old olds κ l))
   (tL C o.op (oQ st old (nF i olds) o.op) (tZ st old (nF i olds) o.op) st.lo (kop C all n o (oQ st old (nF i olds) o.op) st (iS C all n old olds κ l))) w) t Q:=h
  rw[iE]at h;obtain⟨o,h0,h⟩:=h
  rw[iE]at h;obtain⟨w,h1,h2⟩:=h
  rw[Qy];refine kB.ob h0 (kB.ob (Jj hst h1) ?_)
  cases w with
  | false=>
   rw[yaa (by simp)]
   obtain⟨st',h3,h4⟩:=hst.put h2
   grind
  | true=>
   rw[yab rfl];refine Exists.elim (zgw (R:=fun v=>kB C.base X0 E Q (mL C o.type v fun v=>pI C HA all n oldA olds kd l (putA n tm o.dst v))) (Em hst ho).1 (Em hst ho).2 hst.ov hst.lo h2 ?_ ?_ ?_) (fun v h=>kB.ob h.1 h.2)
   ·intro v hk
    have hk:pA C.base W J (Ka C o.type v fun v=>Gn (Rj all.toList o.dst all.toList) (Qt o.op (oQ st old (nF i olds) o.op) st.lit) v fun v lt=>vR n o.dst v lt st (iS C all n old olds κ l)) t Q:=hk
    obtain⟨g1,g2⟩:=CO hk
    obtain⟨lt',g3⟩:=Oo g2
    obtain⟨st',g4,g5⟩:=hst.put g3
    grind [kB.norm]
   ·intro v hk
    obtain⟨g1,g2⟩:=rO.1 hk
    obtain⟨lt',g3⟩:=Oo g2
    obtain⟨st',g4,g5⟩:=hst.put g3
    grind [kB.norm,Rw]
   ·intro d off hk
    obtain⟨g1,g2⟩:=rO.1 hk
    obtain⟨st',g4,g5⟩:=hst.putA g2
    grind [kB.norm,Zp]
theorem PE(ho:Iv ν old oldA)(hst:lF C.base X0 kf ν X st tm HA t){k:T}{kd:oB}(hk:pA C.base W J k t Q->kB C.base X0 E Q kd) :
  ∀(l:List Nat),pA C.base W J (nX C all old olds st k l) t Q->kB C.base X0 E Q (cM C HA all oldA olds tm kd l):=by
 intro l;induction l with
 | nil=>exact hk
 | cons i l ih=>
  intro h;have h:pA C.base W J (cB (sD all.toList i) fun o=>cB o.dst fun d=>cB (wG o.guard all st.tm) fun w=>Bool.rec (motive:=fun _=>T) (nX C all old olds st k l)
   (cB (st.tm.get d) fun u=>lK (Hw C o.type u) (tL C o.op (oQ st old (nF i olds) o.op) (tZ st old (nF i olds) o.op) st.lo ⟨fun v=>.ite (same 10 v u) (nX C all old olds st k l) .fail,fun v=>.ite (same 10 v u) (nX C all old olds st k l) .fail,fun _ _=>.fail⟩)) w) t Q:=h
  rw[iE]at h;obtain⟨o,h0,h⟩:=h
  rw[iE]at h;obtain⟨d,h1,h⟩:=h
  rw[iE]at h;obtain⟨w,h2,h⟩:=h
  rw[AZ];refine kB.ob h0 (kB.ob h1 (kB.ob (Jj hst h2) ?_))
  cases w with
  | false=>simp_all
  | true=>
   rw[yab rfl];simp only[iE,rO]at h;obtain⟨u,h3,h4,h5⟩:=h
   have fin:∀v,pA C.base W J (.ite (same 10 v u) (nX C all old olds st k l) .fail) t Q->kB C.base X0 E Q (mL C o.type v fun v=>ob (tm.get d) fun u=>xB (same 10 v u) (cM C HA all oldA olds tm kd l)):=by
    intro v hv;have hv:if same 10 v u=true then pA C.base W J (nX C all old olds st k l) t Q else False:=hv
    split at hv
    ·rename_i hs
     refine kB.norm ?_ (kB.ob (hst.tms _ _ h3) ?_)
     ·grind [Wg,Rw]
     ·rw[hs];exact ih hv
    simp_all
   obtain⟨v,h6,h7⟩:=zgw (R:=fun v=>kB C.base X0 E Q (mL C o.type v fun v=>ob (tm.get d) fun u=>xB (same 10 v u) (cM C HA all oldA olds tm kd l))) (Em hst ho).1 (Em hst ho).2 hst.ov hst.lo h5 fin fin (fun _ _ h=>h.elim)
   simp_all
theorem zav(hst:lF C.base X0 kf ν X st tm HA t){h:Nat}{o:Oper}{w:Bool}(hw:yV C all h o st.tm=some w):yV C all h o tm=some w:=by
 grind [yV,tA,Jj]
theorem XF{e':vD}(he:kT e e')  (h:Ab op e=some ef):Ab op e'=some ef:=by
 cases op<;>first | (cases h;done) | skip
 all_goals grind [Ab,tA,uF]
theorem zgx  {ae:sO} (h:tEff op e ae=some ef):Ab op e=some ef:=by
 cases op<;>first | exact h | skip
 grind [tEff]
def za9(hst:lF C.base X0 kf ν X st tm HA t)(ho:Iv ν old oldA){l:List Nat}{es:List mN}(h:Ot all old olds st l=some es):Ic all oldA olds tm l=some es:=by
 refine Qq l (fun i ef h=>?_) h
 unfold yY;simp only[tA,wB]at h ⊢
 obtain⟨o,h1,w,h2,h3,h4⟩:=h
 exact⟨o,h1,w,Jj hst h2,h3,XF (Em hst ho).1 (zgx h4)⟩
theorem OU(hW:aP C A E W)(ho:Iv ν old oldA)  (hκ:SK C W J X0 kf E Q κ m) :
  ∀(l:List gG) (st:sH) (tm:Tm) (HA:xA) (t:Tr vA) (X:Xt),lF C.base X0 kf ν X st tm HA t->pA C.base W J (Ba C all n old olds κ l st) t Q->kB C.base X0 E Q (qJ C (bC C A) all n oldA olds m l tm HA):=by
 intro l;induction l with
 | nil=>intro st tm HA t X hst h;exact hκ _ _ _ _ _ _ hst h
 | cons s l ih=>
  intro st tm HA t X hst h
  cases hg:oU all s with
  | true=>
   have h:pA C.base W J (Bool.rec (motive:=fun _=>T) _ (lK (fX C all) (cB (Ot all old olds st s.again) fun es=>.heavy (Gj C es) fun _=>iS C all n old olds (Ba C all n old olds κ l) s.lights st)) (oU all s)) t Q:=h
   rw[hg]at h;have h:pA C.base W J (lK (fX C all) (cB (Ot all old olds st s.again) fun es=>.heavy (Gj C es) fun _=>iS C all n old olds (Ba C all n old olds κ l) s.lights st)) t Q:=h
   rw[rO]at h;obtain⟨h0,h⟩:=h
   rw[iE]at h;obtain⟨es,h1,h⟩:=h
   have h:=h HA.next hst.ov.nextT hst.ov.base
   rw[xZ]at h;obtain⟨⟨v,H'⟩,h2,h3⟩:=h
   obtain⟨HA',h4,h5⟩:=OF _ _ _ _ _ hst.ov h2
   have h6:eZ C es HA=some HA':=by
    grind [Gj,tA]
   rw[Kf hg];unfold Mg;rw[h0];show kB C.base X0 E Q (ob (Ic all oldA olds tm s.again) fun es=>ob (eZ C es HA) fun H'=>pI C H' all n oldA olds (fun tm=>qJ C (bC C A) all n oldA olds m l tm H') s.lights tm)
   refine kB.ob (za9 hst ho h1) (kB.ob h6 ?_)
   exact Ui ho (fun st' tm' hs hw=>ih _ _ _ _ _ hs hw) _ _ _ (hst.later h5 (dI.refl _)) h3
  | false=>
  have h:pA C.base W J (Bool.rec (motive:=fun _=>T) (cB (sD all.toList (sN all s.heavy)) fun o=>cB (yV C all s.heavy o st.tm) fun w=>
   (fun cont:KT=>Bool.rec (motive:=fun _=>T) (vR n o.dst dD false st cont)
    (tH C [] o.dst o.op (oQ st old (nF (sN all s.heavy) olds) o.op) (tZ st old (nF (sN all s.heavy) olds) o.op) st.lo (kop C all n o (oQ st old (nF (sN all s.heavy) olds) o.op) st cont) (klo C n o st cont)) w)
   (fun st'=>nX C all old olds st' (iS C all n old olds (Ba C all n old olds κ l) s.lights st') s.again)) _ (oU all s)) t Q:=h
  rw[hg]at h;have h:pA C.base W J (cB (sD all.toList (sN all s.heavy)) fun o=>cB (yV C all s.heavy o st.tm) fun w=>
   (fun cont:KT=>Bool.rec (motive:=fun _=>T) (vR n o.dst dD false st cont)
    (tH C [] o.dst o.op (oQ st old (nF (sN all s.heavy) olds) o.op) (tZ st old (nF (sN all s.heavy) olds) o.op) st.lo (kop C all n o (oQ st old (nF (sN all s.heavy) olds) o.op) st cont) (klo C n o st cont)) w)
   (fun st'=>nX C all old olds st' (iS C all n old olds (Ba C all n old olds κ l) s.lights st') s.again)) t Q:=h
  rw[iE]at h;obtain⟨o,h0,h⟩:=h
  rw[iE]at h;obtain⟨w,h1,h2⟩:=h
  rw[Gq hg];refine kB.ob h0 (kB.ob (zav hst h1) ?_)
  have fin:∀st' tm' HA' t' X' ν',ν'=ν->lF C.base X0 kf ν' X' st' tm' HA' t'->pA C.base W J (nX C all old olds st' (iS C all n old olds (Ba C all n old olds κ l) s.lights st') s.again) t' Q →
    kB C.base X0 E Q (cM C HA' all oldA olds tm' (pI C HA' all n oldA olds (fun tm=>qJ C (bC C A) all n oldA olds m l tm HA') s.lights tm') s.again):=by
   intro st' tm' HA' t' X' ν' e hs hw;subst e;exact PE ho hs (fun hl=>Ui ho (fun st2 tm2 hs2 hw2=>ih _ _ _ _ _ hs2 hw2) _ _ _ hs hl) _ hw
  cases w with
  | false=>
   simp only[ybq,if_false];obtain⟨st',h3,h4⟩:=hst.put h2
   grind
  | true=>
   simp only[if_true];exact DM (m:=fun tm' HA'=>cM C HA' all oldA olds tm' (pI C HA' all n oldA olds (fun tm=>qJ C (bC C A) all n oldA olds m l tm HA') s.lights tm') s.again)
    hW (Em hst ho).1 (Em hst ho).2 hst (fun st' tm' HA' t' X' ν' hn hs _ hw=>fin _ _ _ _ _ _ (hn rfl) hs hw) h2
def OY(hW:aP C A E W) {id:Nat}{d:Bool}  (hκ:SK C W J X0 kf E Q κ m):SK C W J X0 kf E Q (CB C la fn n κ id all d) (Gx C (bC C A) fn n m id all d):=by
 intro st tm HA t X ν hst h
 cases d with
 | false=>exact zgn hW hκ _ _ _ _ _ _ _ hst.cut h
 | true=>
  have h:pA C.base W J (cB (ob (C.plans.get fn) fun t=>t.get id) fun p=>lK (xU all p) (iS C all n st.cut p.olds (Ba C all n st.cut p.olds κ p.stages) p.first st.cut)) t Q:=h
  simp only[iE,rO]at h;obtain⟨p,h1,h2,h3⟩:=h
  show kB C.base X0 E Q (ob (ob (C.plans.get fn) fun t=>t.get id) fun p=>xB (xU all p) (pI C HA all n tm.cut p.olds (fun tm'=>qJ C (bC C A) all n tm.cut p.olds m p.stages tm' HA) p.first tm.cut))
  refine kB.ob h1 ?_
  rw[h2];exact Ui hst.cut.old (fun st' tm' hs hw=>OU hW hst.cut.old hκ _ _ _ _ _ _ hs hw) _ _ _ hst.cut h3
end
structure PtD where
 p:PI
 m:Tm->xA->oB
def bK(C:oA)(φ:aE)(fn n:Nat):nC->Kt->List PtD
 | .skip,_=>[]
 | .region _ _ _,_=>[]
 | .seq a b,κ=>bK C φ fn n a ⟨mD C φ fn n b κ,κ.exit,κ.ret⟩++bK C φ fn n b κ
 | .cond _ x y,κ=>bK C φ fn n x κ++bK C φ fn n y κ
 | .block id c,κ=>bK C φ fn n c ⟨κ.norm,fun i tm H=>Bool.rec (motive:=fun _=>oB) (κ.exit i tm H) (κ.norm tm H) (Nat.beq id i),κ.ret⟩
 | .loop p c,κ=>⟨p,mD C φ fn n (.loop p c) κ⟩::bK C φ fn n c ⟨mD C φ fn n (.loop p c) κ,κ.exit,κ.ret⟩
 | .exit _,_=>[]
 | .ret,_=>[]
 | .cut p c,κ=>⟨p,mD C φ fn n (.cut p c) κ⟩::bK C φ fn n c κ
 | .range i pl fo ps aq c,_=>⟨⟨i,fD pl ps.toList,[]⟩,Sw C φ fn n ⟨i,pl,fo,ps,aq,c⟩⟩::bK C φ fn n c rdK
def Nj(base kf:Nat)(E:sB)(d:PtD)(vals:List zA)(t:Tr vA)(Q:sB):Prop:=∀X0 X HA tm ν,lF base X0 kf ν X (zM kf d.p vals) tm HA t->kB base X0 E Q (d.m tm HA)
def nS (base kf:Nat)(E:sB)(J:kE)(l:List PtD):Prop:=∀d∈l,∀vals t Q,J d.p.id vals t Q->Nj base kf E d vals t Q
structure SKt (C:oA) (W J:kE) (X0:Xt) (kf:Nat) (E Q:sB) (κ:KtT) (m:Kt):Prop where
 norm:SK C W J X0 kf E Q κ.norm m.norm
 exit:∀i,SK C W J X0 kf E Q (κ.exit i) (m.exit i)
 ret:SK C W J X0 kf E Q κ.ret m.ret
theorem Wa{d:Nat}{l:List zA}{st:sH}:∀ {ll:List (Nat × Nat)} {b rest:List zA},Gh st ll=some b->(sV ll (b++rest)).get d=some l->st.lo.get d=some l:=by
 intro ll;induction ll with
 | nil=>grind [sV,Tr.get_leaf]
 | cons p ll ih=>
  intro b rest hb h;have hb:(ob (fL p.1 st.ad) fun a=>xB (Nat.beq a.1 p.1&&Nat.beq a.2 0) (ob (st.lo.get p.1) fun l=>xB (Nat.beq (zB l) p.2) (ob (Gh st ll) fun r=>some (fD l r))))=some b:=hb
  simp only[tA,wB]at hb;obtain⟨a,_,_,l0,h2,h3,r,h4,h5⟩:=hb
  cases h5;have h:((sV ll (lQ (fD l0 r++rest) p.2)).set p.1 (qZ (fD l0 r++rest) p.2)).get d=some l:=h
  grind [mC,oD,iG,mP,iR,List.drop_left,Tr.get_set]
theorem zbj  {st:sH}:∀ {ll:List (Nat × Nat)} {b:List zA},Gh st ll=some b->fL i (stAd ll)=some q->fL i st.ad=some q:=by
 intro ll;induction ll with
 | nil=>intro b _ h;cases h
 | cons p ll ih=>
  grind [Gh,tA,wB,mC,stAd,It]
theorem zbh  {st:sH}:∀ {pl:List Nat} {a rest:List zA},kH (fun i=>st.tm.get i) pl=some a->(nO pl (a++rest)).get i=some v->st.tm.get i=some v:=by
 intro pl;induction pl with
 | nil=>grind [nO,Tr.get_leaf]
 | cons j pl ih=>
  intro a rest ha h;rw[nQ,tA]at ha;obtain⟨u,h1,ha⟩:=ha
  rw[tA]at ha;obtain⟨r,h2,ha⟩:=ha
  cases ha;have h:((nO pl (r++rest)).set j u).get i=some v:=h
  grind [Tr.get_set]
theorem Tm.get_kv {v:Tr zA}{u:zA}(h:Tm.get ⟨k,v,[]⟩ i=some u):i<k/\v.get i=some u:=by
 unfold Tm.get at h;rw[qK]at h;split at h
 ·simp_all
 ·cases h
theorem NU {st:sH} (h:Dd p st=some vals):∃a b,vals=a++b/\kH (fun i=>st.tm.get i) p.pl=some a/\Gh st p.ll=some b/\a.length=p.pl.length:=by
 unfold Dd at h;simp only[tA]at h;obtain⟨a,h1,b,h2,h3⟩:=h
 cases h3;refine⟨a,b,iG _ _,h1,h2,?_⟩
 have:∀(l:List Nat) (r:List zA),kH (fun i=>st.tm.get i) l=some r->r.length=l.length:=by
  intro l;induction l with
  | nil=>intro r h;cases h;rfl
  | cons x l ih=>
   grind [nQ,tA]
 grind
section
variable {W J:kE}{t:Tr vA}{X X0:Xt}{HA:xA}{C:oA}{A:Tr nC}{ν:Nat->Nat}{Q E:sB}{kf n:Nat}{st:sH}{tm:Tm}
theorem lF.at(h:lF C.base X0 kf ν X st tm HA t){p:PI}{vals:List zA}(hv:Dd p st=some vals):lF C.base X0 kf ν X (zM kf p vals) tm HA t:=by
 obtain⟨a,b,rfl,h1,h2,h3⟩:=NU hv
 have hd:lQ (a++b) (zB p.pl)=b:=by rw[mP,oD,<- h3,List.drop_left]
 refine⟨h.ov,h.le,rfl,h.kA,?_,?_,?_,?_⟩
 ·intro i v hi
  exact h.tms i v (zbh h1 (Tm.get_kv hi).2)
 ·intro i q hi
  exact h.ads i q (zbj h2 hi)
 ·intro d l hl
  have hl:(sV p.ll (lQ (a++b) (zB p.pl))).get d=some l:=hl
  rw[hd]at hl;have hb:(sV p.ll (b++[])).get d=some l:=by simp_all
  exact h.lo d l (Wa h2 hb)
 ·intro d d' l l' hl hl' he
  have hl:(sV p.ll (lQ (a++b) (zB p.pl))).get d=some l:=hl
  have hl':(sV p.ll (lQ (a++b) (zB p.pl))).get d'=some l':=hl'
  rw[hd]at hl hl'
  have hb:(sV p.ll (b++[])).get d=some l:=by simp_all
  have hb':(sV p.ll (b++[])).get d'=some l':=by simp_all
  exact h.inj d d' l l' (Wa h2 hb) (Wa h2 hb') he
theorem VC{tm:Tm}  (hv:tm.get i=some v):∀ {live:List Nat},i∈live->(Ho tm live).get i=some v:=by
 intro live;induction live with
 | nil=>simp_all
 | cons j live ih=>
  grind [Ho,Tr.get_set]
theorem zbg   : ∀ {pl:List Nat} {vals:List zA},(nO pl vals).get i=some v->i∈pl:=by
 intro pl;induction pl with
 | nil=>grind [nO,Tr.get_leaf]
 | cons j pl ih=>
  intro vals h
  cases vals with
  | nil=>grind [nO,Tr.get_leaf]
  | cons u vals=>
   have h:((nO pl vals).set j u).get i=some v:=h
   grind [Tr.get_set]
theorem zbi   : ∀ {ll:List (Nat × Nat)},fL i (stAd ll)=some q->i∈(List.rec (motive:=fun _=>List Nat) [] (fun a _ r=>a.1::r) ll:List Nat):=by
 intro ll;induction ll with
 | nil=>intro h;cases h
 | cons p ll ih=>
  grind [stAd,It]
theorem lF.keep  (hb:∀i,i∈p.kept->i<kf)(h:lF C.base X0 kf ν X (zM kf p vals) tm HA t):lF C.base X0 kf ν X (zM kf p vals) (Am.keep p.kept tm) HA t:=by
 have key:∀i v,i∈p.kept->tm.get i=some v->(Am.keep p.kept tm).get i=some v:=by
  intro i v hi hv;unfold Am.keep Tm.get;rw[qK,yab (qC.2 (by rw[h.kA];grind))]
  exact VC hv hi
 refine⟨h.ov,h.le,rfl,h.kA,?_,?_,h.lo,h.inj⟩
 ·intro i v hi
  refine key i v ?_ (h.tms i v hi)
  unfold PI.kept;rw[iG];exact ydc _ (zbg (Tm.get_kv hi).2)
 ·intro i q hi
  refine key i _ ?_ (h.ads i q hi)
  unfold PI.kept;rw[iG];exact ycf _ (zbi hi)
def Yw{l:List PtD}(hJ:nS C.base kf E J l)  (hm:(⟨p,m⟩:PtD)∈l):SK C W J X0 kf E Q (dX p) m:=by
 intro st tm HA t X ν hst h;unfold dX at h;rw[iE]at h;obtain⟨vals,h1,h2⟩:=h
 exact hJ _ hm vals t Q h2 _ _ _ _ _ (hst.at h1)
def zeo:SKt C W J X0 kf E Q rdT rdK:=⟨fun _ tm HA t X _ hst h=>⟨_,t,HA,X,rfl,hst.ov,hst.le,h⟩,fun _ _ _ _ _ _ _ _ h=>h.elim,fun _ tm HA t X _ hst h=>⟨_,t,HA,X,rfl,hst.ov,hst.le,h⟩⟩
def Aq(C:oA)(A:Tr nC)(W:kE):Prop:=∀l args t Q,(∀X HA,Ov C.base t X HA->kB C.base X bJ Q (Ah C A (yo+l) args HA))->W (yo+l) args t Q
def kO (X:Xt)(b:Nat)(y:vA):Xt:=fun c=>if c=b then some y else X c
theorem Le{X:Xt}  (h:X b=none):dI X (kO X b y):=by
 intro c z hc;grind [kO]
theorem Ov.under (h:Ov base t X HA)  (hb:t.get b=some y)(z:vA):Ov base (t.del b) (kO X b z) (Am.setBlk HA b z):=by
 refine⟨h.base,fun c hc=>?_,fun c u hc=>?_,fun c u hc=>?_⟩
 ·show(HA.t.set b z).get c=_
  unfold kO at hc;split at hc
  ·cases hc
  ·rename_i e;rw[Tr.get_set,yaa e,Tr.get_del,yaa e];exact h.same c hc
 ·show(HA.t.set b z).get c=_/\_
  unfold kO at hc;split at hc
  ·rename_i e;cases hc;subst e;exact⟨by rw[Tr.get_set,yab rfl],by rw[Tr.get_del,yab rfl],h.lt _ _ hb⟩
  ·rename_i e
   obtain⟨g1,g2,g3⟩:=h.ext c u hc
   exact⟨by grind [Tr.get_set],by grind [Tr.get_del],g3⟩
 ·rw[Tr.get_del]at hc
  split at hc
  ·cases hc
  ·exact h.lt _ _ hc
theorem Ov.back (h:Ov base t X HA)  (hb:X b=some y)(z:vA):Ov base (t.set b z) (fun c=>if c=b then none else X c) (Am.setBlk HA b z):=by
 obtain⟨g1,g2,g3⟩:=h.ext b y hb
 refine⟨h.base,fun c hc=>?_,fun c u hc=>?_,fun c u hc=>?_⟩
 ·show(HA.t.set b z).get c=_
  rw[Tr.get_set,Tr.get_set];split
  ·rfl
  ·rename_i e;rw[yaa e]at hc;exact h.same c hc
 ·show(HA.t.set b z).get c=_/\_
  split at hc
  ·cases hc
  ·rename_i e
   obtain⟨g1,g2,g3⟩:=h.ext c u hc
   exact⟨by grind [Tr.get_set],by grind [Tr.get_set],g3⟩
 ·rw[Tr.get_set]at hc
  split at hc
  ·rename_i e;rw[e];exact g3
  ·exact h.lt _ _ hc
def Yb{H:xA}{l:Nat}{r:xN}(hl:256<=l)(h:H.t.get l=some (.loop r)):wJ H l=some r:=by
 unfold wJ;rw[h,qA,Nat.ble_eq_true_of_le hl];rfl
theorem zbr{kf n:Nat}{st:sH}{tm:Tm} {ps:List Nat}{args:List zA}{X:Xt}{HA:xA}{t:Tr vA}(ho:Ov base t X HA)(hk:st.tm.k=kf)(hkA:tm.k=kf)
  (ht:∀i v,st.tm.get i=some v->tm.get i=some v) (hv:zei pl st=some vals) (hok:fB (fun p=>Nat.blt p st.tm.k&&Nat.blt p n && !aH p pl) ps=true) (h1:psOk ps=true) (hl:args.length=ps.length) :
  ∃tm',fY n ps args tm=some tm'/\lF base X kf (fun i=>i) X (zM kf ⟨i,fD pl ps,[]⟩ (vals++args)) tm' HA t:=by
 have old:∀(pl:List Nat) (vals rest:List zA) j v,kH (fun i=>st.tm.get i) pl=some vals->(nO (pl++ps) (vals++rest)).get j=some v->(j∈pl/\tm.get j=some v)\/(nO ps rest).get j=some v:=by
  intro pl;induction pl with
  | nil=>intro vals rest j v h hj;cases h;simp_all
  | cons a pl ih=>
   intro vals rest j v h hj;rw[nQ,tA]at h;obtain⟨u,g1,h⟩:=h
   rw[tA]at h;obtain⟨us,g2,h⟩:=h
   cases h;have hj:((nO (pl++ps) (us++rest)).set a u).get j=some v:=hj
   grind [Tr.get_set]
 cases ps with
 | nil=>
  cases args with
  | cons _ _=>cases hl
  | nil=>
   refine⟨tm,rfl,ho,dI.refl _,rfl,hkA,fun j v hj=>?_,fun j p h=>(by cases h),fun d l h=>?_,fun d _ l _ h=>?_⟩
   ·have hj:=(Tm.get_kv hj).2
    have hj:(nO (fD pl []) (vals++[])).get j=some v:=hj
    rw[iG]at hj;rcases old pl vals [] j v hv hj with⟨_,h⟩ | h
    all_goals grind [nO,Tr.get_leaf]
   ·rw[show(zM kf ⟨i,fD pl [],[]⟩ (vals++[])).lo=.leaf from rfl,Tr.get_leaf]at h;cases h
   omega
 | cons p ps=>
  cases ps with
  | cons q ps=>
   cases ps with
   | cons _ _=>cases h1
   | nil=>
   match args,hl with
   | [a,b],_=>
    have hpq:p≠q:=fun e=>by subst e;simp[psOk]at h1
    have hp:(bif (Nat.blt p st.tm.k&&Nat.blt p n && !aH p pl)then(bif (Nat.blt q st.tm.k&&Nat.blt q n && !aH q pl)then true else false)else false)=true:=hok
    cases hx:(Nat.blt p st.tm.k&&Nat.blt p n && !aH p pl)with
    | false=>grind
    | true=>
    cases hy:(Nat.blt q st.tm.k&&Nat.blt q n && !aH q pl)with
    | false=>grind
    | true=>
     simp only[ybb,ycp]at hx hy;obtain⟨⟨x1,x2⟩,x3⟩:=hx
     obtain⟨⟨y1,y2⟩,y3⟩:=hy
     have x1:=qC.1 x1
     have x2:=qC.1 x2
     have y1:=qC.1 y1
     have y2:=qC.1 y2
     refine⟨putA n (putA n tm (some p) a) (some q) b,rfl,ho,dI.refl _,rfl,by grind [Bl],fun j v hj=>?_,fun j p h=>(by cases h),fun d l h=>?_,fun d _ l _ h=>?_⟩
     ·have hj:=(Tm.get_kv hj).2
      have hj:(nO (fD pl [p,q]) (vals++[a,b])).get j=some v:=hj
      rw[iG]at hj;rw[vJ,vJ];rcases old pl vals [a,b] j v hv hj with⟨hm,h⟩ | h
      all_goals grind [rZ,nO,Tr.get_set,Tr.get_leaf,Bl]
     ·rw[show(zM kf ⟨i,fD pl [p,q],[]⟩ (vals++[a,b])).lo=.leaf from rfl,Tr.get_leaf]at h;cases h
     omega
  | nil=>
   cases args with
   | nil=>cases hl
   | cons a args=>
    cases args with
    | cons _ _=>simp at hl
    | nil=>
     have hp:(bif (Nat.blt p st.tm.k&&Nat.blt p n && !aH p pl)then fB (fun p=>Nat.blt p st.tm.k&&Nat.blt p n && !aH p pl) []else false)=true:=hok
     cases hx:(Nat.blt p st.tm.k&&Nat.blt p n && !aH p pl)with
     | false=>grind
     | true=>
      simp only[ybb,ycp]at hx;obtain⟨⟨x1,x2⟩,x3⟩:=hx
      have x1:=qC.1 x1
      have x2:=qC.1 x2
      refine⟨putA n tm (some p) a,rfl,ho,dI.refl _,rfl,by grind [Bl],fun j v hj=>?_,fun j p h=>(by cases h),fun d l h=>?_,fun d _ l _ h=>?_⟩
      ·have hj:=(Tm.get_kv hj).2
       have hj:(nO (fD pl [p]) (vals++[a])).get j=some v:=hj
       rw[iG]at hj;rw[vJ];rcases old pl vals [a] j v hv hj with⟨hm,h⟩ | h
       all_goals grind [rZ,nO,Tr.get_set,Tr.get_leaf]
      ·rw[show(zM kf ⟨i,fD pl [p],[]⟩ (vals++[a])).lo=.leaf from rfl,Tr.get_leaf]at h;cases h
      omega
def RU (l:List (Nat × Array Oper)):mK (asA c l)=mK c:=by
 induction l with
 | nil=>rfl
 | cons x l ih=>exact ih
def SP{C:oA}{φ:aE}{n:Nat} {κ:Kt}(l:List (Nat × Array Oper)):bK C φ fn n (asA c l) κ=bK C φ fn n c κ:=by
 induction l with
 | nil=>rfl
 | cons x l ih=>exact ih
theorem RX(hW:aP C A E W)(hE:E=bJ)(hY:Aq C A W) {κ:KtT}{m:Kt}(hκ:∀X0,SKt C W J X0 kf E Q κ m)  {fo:Operand}{ps:Array Nat}{aq:List (Nat × Array Oper)}
  (hone:∃c0,A.get f=some c0/\Lc c0=some ⟨i,pl,fo,ps,aq,c⟩) (hJ:∀vals t Q,J i vals t Q->Nj C.base kf E ⟨⟨i,fD pl ps.toList,[]⟩,Sw C (bC C A) f n ⟨i,pl,fo,ps,aq,c⟩⟩ vals t Q) :
  SK C W J X0 kf E Q (Wx C n κ i pl fo ps.toList aq c) (qR C (bC C A) f n m fo ps.toList (asC aq) (xE c)):=by
 subst hE;intro st tm HA t X ν hst h;unfold Wx at h;rw[rO,iE]at h;obtain⟨hok,vals,hv,h⟩:=h
 rw[iE]at h;obtain⟨fv,hf,h256,h⟩:=h
 unfold EX at hok;simp only[ybb]at hok;obtain⟨⟨⟨hok1,hok2⟩,hok3⟩,hok4⟩:=hok
 have hok4:mK c=[]:=by
  grind
 have ho:=hst.ov
 have hbase:=ho.base
 generalize hr:(⟨.ready,none,f,n,tm,ps.toList,asC aq,xE c,HA.next⟩:xN)=r at *
 have htn:t.get (HA.next+1)=none:=by
  cases hx:t.get (HA.next+1)with
  | none=>rfl
  | some y=>exact absurd (ho.lt _ _ hx) (by omega)
 have hyield:∀args t1 Q1,args.length=zB ps.toList->t1.get (HA.next+1)=some (.loop r)->J i (vals++args) (t1.del (HA.next+1)) (fun v t2=>t2.get (HA.next+1)=none->∃b,v=.bool b/\Q1 v (t2.set (HA.next+1) (.loop (eO b r))))->W (yo+(HA.next+1)) args t1 Q1:=by
  intro args t1 Q1 hla ht1 hj;refine hY _ _ _ _ fun X1 HA1 ho1=>?_
  rw[MR,Zl];show kB C.base X1 bJ Q1 (Dx C A (bC C A) (HA.next+1) args HA1)
  have hx1:=ho1.notX ht1
  have hov:=ho1.under ht1 (.loop (Fq r))
  obtain⟨tm',hs1,hs2⟩:=zbr (n:=n) (i:=i) hov hst.k hst.kA hst.tms hv hok1 hok2 (by rw[hla,oD])
  obtain⟨v,t2,HA2,X2,e1,e2,e3,e4⟩:=tQ.1 (hJ _ _ _ hj _ _ _ _ _ hs2)
  have hb2:X2 (HA.next+1)=some (.loop (Fq r)):=e3 _ _ (by unfold kO;rw[yab rfl])
  obtain⟨b,e4,e5⟩:=e4 (e2.ext _ _ hb2).2.1
  subst e4;obtain⟨c0,hc0,hc1⟩:=hone
  refine tQ.2 ⟨.bool b,_,_,_,Gu.2 ⟨r,tm',c0,⟨i,pl,fo,ps,aq,c⟩,(⟨.bool b,false⟩,HA2),Fq r,b,Yb (by omega) (by rw[ho1.up ht1]),?_,?_,hc1,?_,?_,Yb (by omega) (e2.ext _ _ hb2).1,rfl,rfl⟩,e2.back hb2 _,?_,e5⟩
  ·grind
  ·grind
  ·rw[<- hr];exact⟨⟨rfl,rfl,rfl,rfl,hok3,hok4⟩,ho1.lt _ _ ht1⟩
  ·grind
  ·intro c y hc
   have hne:c≠HA.next+1:=fun e=>by simp_all
   show(if c=HA.next+1 then none else X2 c)=some y
   rw[yaa hne];exact e3 _ _ (Le hx1 _ _ hc)
 have h:=h (HA.next+1) r htn (by omega) (by rw[<- hr]) (by rw[<- hr]) hyield
 rw[xZ]at h;obtain⟨⟨g,aq⟩,hra,hw⟩:=h
 unfold Bj at hra;rw[tA]at hra;obtain⟨⟨qf,q1,q2⟩,hq,hra⟩:=hra
 cases qf with
 | yld l=>cases hra
 | func g'=>
  simp only[wB,ybb]at hra;obtain⟨⟨hg,hnp⟩,hra⟩:=hra
  cases hra;have hp:C.prims.get g=none:=by
   unfold kR at hnp
   cases hx:C.prims.get g with
   | none=>rfl
   | some u=>rw[hx]at hnp;cases hnp
  have hXd:X HA.next=none:=ho.nextX
  have ho1:Ov C.base t (kO X HA.next (.deferred (some []))) (newBlk HA (.deferred (some []))):=by
   refine⟨Nat.le_succ_of_le ho.base,fun b hb=>?_,fun b y hb=>?_,fun b y hb=>Nat.lt_succ_of_lt (ho.lt _ _ hb)⟩
   ·unfold kO at hb
    split at hb
    ·cases hb
    ·rename_i e
     show(HA.t.set HA.next _).get b=_
     rw[Tr.get_set,yaa e];exact ho.same b hb
   ·unfold kO at hb
    show(HA.t.set HA.next _).get b=_/\_/\b<HA.next+1
    split at hb
    ·rename_i e;cases hb;subst e;exact⟨by rw[Tr.get_set,yab rfl],ho.nextT,Nat.lt_succ_self _⟩
    ·rename_i e
     obtain⟨g1,g2,g3⟩:=ho.ext b y hb
     grind [Tr.get_set]
  have ho2:=ho1.newBlk (.loop r)
  obtain⟨v,t',HA2,X2,e1,e2,e3,e4⟩:=tQ.1 (hW.fn _ _ _ _ hg hw _ _ ho2)
  rw[Ij (zfx hg).1,hp]at e1
  have e1:bC C A (.func g) (fD q1 (.func (.yld (HA.next+1)) [] []::q2)) (newBlk (newBlk HA (.deferred (some []))) (.loop r))=some (⟨v,false⟩,HA2):=e1
  have goal:∀r' (κ':KT) (m':Tm->xA->oB),t'.get (HA.next+1)=some (.loop r')->(!Nat.beq (LoopState.tag r'.state) 1)=true->(∀tm H,Ap m r'.pending tm H=m' tm H)->(∀X0,SK C W J X0 kf bJ Q κ' m')->pA C.base W J (κ' st) (t'.del (HA.next+1)) Q →
    kB C.base X0 bJ Q (qR C (bC C A) f n m fo ps.toList (asC aq) (xE c) tm HA):=by
   intro r' κ' m' k1 k2 k3 k4 k5;have ho3:=e2.under k1 (.loop ⟨.exhausted,r'.pending,r'.fn,r'.n,r'.tm,r'.params,r'.assign,r'.body,r'.defers⟩)
   have hx2:=e2.notX k1
   have hXX:dI X (kO X2 (HA.next+1) (.loop ⟨.exhausted,r'.pending,r'.fn,r'.n,r'.tm,r'.params,r'.assign,r'.body,r'.defers⟩)):=((Le hXd).trans e3).trans (Le hx2)
   have hd3:(kO X2 (HA.next+1) (.loop ⟨.exhausted,r'.pending,r'.fn,r'.n,r'.tm,r'.params,r'.assign,r'.body,r'.defers⟩)) HA.next=some (.deferred (some [])):=by
    refine(Le hx2) _ _ (e3 _ _ ?_)
    unfold kO;rw[yab rfl]
   have hX0d:X0 HA.next=none:=by
    cases hx:X0 HA.next with
    | none=>rfl
    | some y=>have:=hst.le _ _ hx;simp_all
   have hl:=hst.later ho3 hXX
   have hl':lF C.base (kO X0 HA.next (.deferred (some []))) kf ν (kO X2 (HA.next+1) (.loop ⟨.exhausted,r'.pending,r'.fn,r'.n,r'.tm,r'.params,r'.assign,r'.body,r'.defers⟩)) st tm (endLoop HA2 (HA.next+1) r') (t'.del (HA.next+1)):=by
    refine⟨hl.ov,?_,hl.k,hl.kA,hl.tms,hl.ads,fun d l hd=>?_,hl.inj⟩
    ·intro b y hb
     unfold kO at hb;split at hb
     ·simp_all
     ·exact hl.le _ _ hb
    ·obtain⟨g1,g2,g3⟩:=hl.lo d l hd
     grind [kO]
   obtain⟨w,t4,HA4,X4,f1,f2,f3,f4⟩:=tQ.1 (k4 _ _ _ _ _ _ _ hl' k5)
   have hd4:X4 HA.next=some (.deferred (some [])):=f3 _ _ (by unfold kO;rw[yab rfl])
   refine tQ.2 ⟨w,t4,_,_,?_,f2.setX hd4 (.deferred none),?_,f4⟩
   ·unfold qR
    rw[uF (Lf hst).1 hf,qA,hq,qA]
    show(xB (sE (C.prims.get g)) _)=_
    rw[hp];show(ob (bC C A (.func g) _ (newBlk (newBlk HA (.deferred (some []))) (.loop ⟨.ready,none,f,n,tm,ps.toList,asC aq,xE c,HA.next⟩))) _)=_
    rw[hr,e1,qA];show(ob (wJ HA2 (HA.next+1)) _)=_
    rw[Yb (by omega) (e2.up k1),qA,k2]
    show(ob (Ap m r'.pending tm _) _)=_
    rw[k3];show(ob (m' tm (endLoop HA2 (HA.next+1) r')) _)=_
    rw[f1,qA];show(ob (mW HA4 HA.next) _)=_
    have:mW HA4 HA.next=some (some []):=by
     unfold mW;rw[(f2.ext _ _ hd4).1,qA,Nat.ble_eq_true_of_le (by omega:256<=HA.next)]
     rfl
    simp only[this,qA];rfl
   ·intro b y hb
    have hne:b≠HA.next:=fun e=>by simp_all
    show(if b=HA.next then _ else X4 b)=some y
    rw[yaa hne];exact f3 _ _ (Le hX0d _ _ hb)
  rcases e4 with⟨k1,k2⟩ | ⟨k1,k2⟩
  ·exact goal r κ.norm m.norm k1 (by rw[<- hr];rfl) (fun _ _=>by rw[<- hr];rfl) (fun X0=>(hκ X0).norm) k2
  ·exact goal _ κ.ret m.ret k1 (by rw[<- hr];rfl) (fun _ _=>by rw[<- hr];rfl) (fun X0=>(hκ X0).ret) k2
def nN (A:Tr nC)(E:sB)(f:Nat)(c:nC):Prop:=∀q∈mK c,E=bJ/\∃c0,A.get f=some c0/\Lc c0=some q
theorem nN.l{a b:List Fz}{P:Fz->Prop}(h:∀q∈fD a b,P q):(∀q∈a,P q)/\∀q∈b,P q:=by
 grind [iG]
def Bd(hW:aP C A E W)(hY:Aq C A W)   : ∀(c:nC) (κ:KtT) (m:Kt),nN A E f c->(∀X0,SKt C W J X0 kf E Q κ m)->nS C.base kf E J (bK C (bC C A) f n c m)->∀X0,SK C W J X0 kf E Q (bL C la f n c κ) (mD C (bC C A) f n c m):=by
 intro c;induction c with
 | skip=>intro κ m _ hκ _ X0;exact(hκ X0).norm
 | region id ops d=>intro κ m _ hκ _ X0;exact OY hW (hκ X0).norm
 | seq a b iha ihb=>
  intro κ m hR hκ hJ;exact iha ⟨bL C la f n b κ,κ.exit,κ.ret⟩ ⟨mD C (bC C A) f n b m,m.exit,m.ret⟩ (nN.l hR).1 (fun X0=>⟨ihb κ m (nN.l hR).2 hκ (fun d hd=>hJ d (ycf _ hd)) X0,(hκ X0).exit,(hκ X0).ret⟩) fun d hd=>hJ d (ydc _ hd)
 | cond x a b iha ihb=>
  intro κ m hR hκ hJ X0 st tm HA t X ν hst h;have ha:=iha κ m (nN.l hR).1 hκ (fun d hd=>hJ d (ydc _ hd)) X0
  have hb:=ihb κ m (nN.l hR).2 hκ (fun d hd=>hJ d (ycf _ hd)) X0
  have h:pA C.base W J (cB (ob (ev x (.now st.tm)) zA.asBool) fun b'=>bif Bt x st.lit then Bool.rec (motive:=fun _=>T) (bL C la f n b κ st) (bL C la f n a κ st) b' else .ite b' (bL C la f n a κ st) (bL C la f n b κ st)) t Q:=h
  rw[iE]at h;obtain⟨w,h1,h2⟩:=h
  rw[tA]at h1;obtain⟨v,h3,h4⟩:=h1
  show kB C.base X0 E Q (ob (ob (ev x (.now tm)) zA.asBool) fun t=>Bool.rec (motive:=fun _=>oB) (mD C (bC C A) f n b m tm HA) (mD C (bC C A) f n a m tm HA) t)
  refine kB.ob (a:=w) (by rw[uF (Lf hst).1 h3];exact h4) ?_
  have h2:if w=true then pA C.base W J (bL C la f n a κ st) t Q else pA C.base W J (bL C la f n b κ st) t Q:=by
   rw[qD]at h2;split at h2
   ·cases w<;>exact h2
   ·exact h2
  cases w with
  | true=>exact ha _ _ _ _ _ _ hst h2
  | false=>exact hb _ _ _ _ _ _ hst h2
 | block id c ih=>
  intro κ m hR hκ hJ;refine ih ⟨κ.norm,fun i st=>Bool.rec (motive:=fun _=>T) (κ.exit i st) (κ.norm st) (Nat.beq id i),κ.ret⟩ ⟨m.norm,fun i tm H=>Bool.rec (motive:=fun _=>oB) (m.exit i tm H) (m.norm tm H) (Nat.beq id i),m.ret⟩ hR (fun X0=>⟨(hκ X0).norm,fun i=>?_,(hκ X0).ret⟩) hJ
  intro st tm HA t X ν hst h;have h:pA C.base W J (Bool.rec (motive:=fun _=>T) (κ.exit i st) (κ.norm st) (Nat.beq id i)) t Q:=h
  show kB C.base X0 E Q (Bool.rec (motive:=fun _=>oB) (m.exit i tm HA) (m.norm tm HA) (Nat.beq id i))
  cases hb:Nat.beq id i with
  | true=>rw[hb]at h;exact(hκ X0).norm _ _ _ _ _ _ hst h
  | false=>rw[hb]at h;exact(hκ X0).exit i _ _ _ _ _ _ hst h
 | loop p c ih=>intro κ m _ hκ hJ X0;exact Yw hJ yby
 | exit id=>intro κ m _ hκ _ X0;exact(hκ X0).exit id
 | ret=>intro κ m _ hκ _ X0;exact(hκ X0).ret
 | cut p c ih=>intro κ m _ hκ hJ X0;exact Yw hJ yby
 | range i pl fo ps aq c ih=>intro κ m hR hκ hJ X0;exact RX hW (hR _ yby).1 hY hκ (hR _ yby).2 fun vals t Q h=>hJ _ yby vals t Q h
def PtOk (C:oA)(E:sB)(W J:kE)(kf:Nat)(l:List PtT)(d:PtD):Prop:=∃q∈l,q.p=d.p/\∀vals t Q,pA C.base W J (q.tree vals) t Q->Nj C.base kf E d vals t Q
def keptOk(kf:Nat):nC->Bool
 | .seq a b=>keptOk kf a&&keptOk kf b
 | .cond _ a b=>keptOk kf a&&keptOk kf b
 | .block _ c=>keptOk kf c
 | .loop p c=>p.kept.all (fun i=>Nat.blt i kf)&&keptOk kf c
 | .cut p c=>p.kept.all (fun i=>Nat.blt i kf)&&keptOk kf c
 | .range _ _ _ _ _ c=>keptOk kf c
 | _=>true
def SO(hW:aP C A E W)(hY:Aq C A W)   : ∀(c:nC) (κ:KtT) (m:Kt),nN A E f c->keptOk kf c=true->(∀X0 Q,SKt C W J X0 kf E Q κ m)->nS C.base kf E J (bK C (bC C A) f n c m)->∀d∈bK C (bC C A) f n c m,PtOk C E W J kf (Bm C la f n kf c κ) d:=by
 have up:∀ {l l':List PtT} {d:PtD},PtOk C E W J kf l d->(∀q∈l,q∈l')->PtOk C E W J kf l' d:=fun⟨q,h1,h2⟩ hl=>⟨q,hl q h1,h2⟩
 intro c;induction c with
 | skip=>intro κ m _ _ _ _ d hd;cases hd
 | region id ops dr=>intro κ m _ _ _ _ d hd;cases hd
 | seq a b iha ihb=>
  intro κ m hR hk hκ hJ d hd;unfold keptOk at hk;rw[ybb]at hk;have e:Bm C la f n kf (.seq a b) κ=Bm C la f n kf a ⟨bL C la f n b κ,κ.exit,κ.ret⟩++Bm C la f n kf b κ:=iG _ _
  rw[e];have hJa:nS C.base kf E J (bK C (bC C A) f n a ⟨mD C (bC C A) f n b m,m.exit,m.ret⟩):=fun d hd=>hJ d (ydc _ hd)
  have hJb:nS C.base kf E J (bK C (bC C A) f n b m):=fun d hd=>hJ d (ycf _ hd)
  rcases yaf.1 hd with hd | hd
  ·exact up (iha ⟨bL C la f n b κ,κ.exit,κ.ret⟩ ⟨mD C (bC C A) f n b m,m.exit,m.ret⟩ (nN.l hR).1 hk.1 (fun X0 Q=>⟨Bd hW hY b κ m (nN.l hR).2 (fun X0=>hκ X0 Q) hJb X0,(hκ X0 Q).exit,(hκ X0 Q).ret⟩) hJa d hd) fun q hq=>ydc _ hq
  ·exact up (ihb _ _ (nN.l hR).2 hk.2 hκ hJb d hd) fun q hq=>ycf _ hq
 | cond x a b iha ihb=>
  intro κ m hR hk hκ hJ d hd;unfold keptOk at hk;rw[ybb]at hk;have e:Bm C la f n kf (.cond x a b) κ=Bm C la f n kf a κ++Bm C la f n kf b κ:=iG _ _
  rw[e];rcases yaf.1 hd with hd | hd
  ·exact up (iha _ _ (nN.l hR).1 hk.1 hκ (fun d hd=>hJ d (ydc _ hd)) d hd) fun q hq=>ydc _ hq
  ·exact up (ihb _ _ (nN.l hR).2 hk.2 hκ (fun d hd=>hJ d (ycf _ hd)) d hd) fun q hq=>ycf _ hq
 | block id c ih=>
  intro κ m hR hk hκ hJ d hd;refine ih ⟨κ.norm,fun i st=>Bool.rec (motive:=fun _=>T) (κ.exit i st) (κ.norm st) (Nat.beq id i),κ.ret⟩ ⟨m.norm,fun i tm H=>Bool.rec (motive:=fun _=>oB) (m.exit i tm H) (m.norm tm H) (Nat.beq id i),m.ret⟩ hR hk (fun X0 Q=>⟨(hκ X0 Q).norm,fun i=>?_,(hκ X0 Q).ret⟩) hJ d hd
  intro st tm HA t X ν hst h;have h:pA C.base W J (Bool.rec (motive:=fun _=>T) (κ.exit i st) (κ.norm st) (Nat.beq id i)) t Q:=h
  show kB C.base X0 E Q (Bool.rec (motive:=fun _=>oB) (m.exit i tm HA) (m.norm tm HA) (Nat.beq id i))
  cases hb:Nat.beq id i with
  | true=>rw[hb]at h;exact(hκ X0 Q).norm _ _ _ _ _ _ hst h
  | false=>rw[hb]at h;exact(hκ X0 Q).exit i _ _ _ _ _ _ hst h
 | loop p c ih=>
  intro κ m hR hk hκ hJ d hd;unfold keptOk at hk;rw[ybb,ycb]at hk;have hJc:nS C.base kf E J (bK C (bC C A) f n c ⟨mD C (bC C A) f n (.loop p c) m,m.exit,m.ret⟩):=fun d hd=>hJ d (ybr _ hd)
  have hκ':∀X0 Q,SKt C W J X0 kf E Q ⟨dX p,κ.exit,κ.ret⟩ ⟨mD C (bC C A) f n (.loop p c) m,m.exit,m.ret⟩:=fun X0 Q=>⟨Yw hJ yby,(hκ X0 Q).exit,(hκ X0 Q).ret⟩
  rcases ybs.1 hd with rfl | hd
  ·refine⟨_,yby,rfl,fun vals t Q hw X0 X HA tm ν hst=>?_⟩
   show kB C.base X0 E Q (mD C (bC C A) f n (.loop p c) m tm HA)
   rw[zc2];exact Bd hW hY c _ _ hR (fun X0=>hκ' X0 Q) hJc X0 _ _ _ _ _ _ (hst.keep fun i hi=>qC.1 (hk.1 i hi)) hw
  ·exact up (ih ⟨dX p,κ.exit,κ.ret⟩ ⟨mD C (bC C A) f n (.loop p c) m,m.exit,m.ret⟩ hR hk.2 hκ' hJc d hd) fun q hq=>ybr _ hq
 | exit id=>intro κ m _ _ _ _ d hd;cases hd
 | ret=>intro κ m _ _ _ _ d hd;cases hd
 | cut p c ih=>
  intro κ m hR hk hκ hJ d hd;unfold keptOk at hk;rw[ybb,ycb]at hk;have hJc:nS C.base kf E J (bK C (bC C A) f n c m):=fun d hd=>hJ d (ybr _ hd)
  rcases ybs.1 hd with rfl | hd
  ·refine⟨_,yby,rfl,fun vals t Q hw X0 X HA tm ν hst=>?_⟩
   exact Bd hW hY c _ _ hR (fun X0=>hκ X0 Q) hJc X0 _ _ _ _ _ _ (hst.keep fun i hi=>qC.1 (hk.1 i hi)) hw
  ·exact up (ih _ _ hR hk.2 hκ hJc d hd) fun q hq=>ybr _ hq
 | range i pl fo ps aq c ih=>
  intro κ m hR hk hκ hJ d hd;have hR':nN A E f c:=fun q hq=>hR q (ybr _ hq)
  have hJc:nS C.base kf E J (bK C (bC C A) f n c rdK):=fun d hd=>hJ d (ybr _ hd)
  rcases ybs.1 hd with rfl | hd
  ·refine⟨_,yby,rfl,fun vals t Q hw X0 X HA tm ν hst=>?_⟩
   exact Bd hW hY (asA c aq) rdT rdK (fun q hq=>hR' q (by rwa [RU]at hq)) (fun _=>zeo) (fun d hd=>hJc d (by rwa [SP]at hd)) X0 _ _ _ _ _ _ hst hw
  ·exact up (ih rdT rdK hR' hk (fun _ _=>zeo) hJc d hd) fun q hq=>ybr _ hq
end
end
section
variable {α:Type}{args vals:List zA}{v:zA}{pan:Nat->Bool}{i:Nat}
def Tr.mapT{α β:Type}(f:α->β)(t:Tr α):Tr β:=Tr.rec (motive:=fun _=>Tr β) .leaf (fun _ v _ l r=>.node l (match v with | some a=>some (f a) | none=>none) r) t
theorem Tr.get_mapT{β:Type}(f:α->β):∀(t:Tr α) (n:Nat),(t.mapT f).get n=(t.get n).map f:=by
 intro t;induction t with
 | leaf=>intro n;rfl
 | node l v r ihl ihr=>
  intro n;show(Tr.node (l.mapT f) (match v with | some a=>some (f a) | none=>none) (r.mapT f)).get n=_
  grind [Tr.get_node]
def nE(F:Tr wE):Tr nC:=F.mapT wE.code
def fnB (f kf:Nat)(c:nC):Bool:=Nat.blt f yo&&(keptOk kf c&&(sE (rV c)&&(match mK c with | []=>true | [_]=>true | _=>false)))
structure oM (C:oA) (F:Tr wE) (f:Nat) (fn:Func) (kf:Nat) (A:wE):Prop where
 isF:F.get f=some A
 isFn:C.fns.get f=some fn
 isK:C.ks.get f=some kf
 prim:sE (C.prims.get f)=true
 kept:fnB f kf A.code=true
 body:sE fn.body=false
theorem oM.lt{C:oA}{F:Tr wE}{f:Nat}{fn:Func}{kf:Nat}{A:wE}(h:oM C F f fn kf A):Nat.blt f yo=true:=by
 have:=h.kept;grind [fnB]
theorem oM.keptOk{C:oA}{F:Tr wE}{f:Nat}{fn:Func}{kf:Nat}{A:wE}(h:oM C F f fn kf A):keptOk kf A.code=true:=by
 have:=h.kept;grind [fnB]
def oM.code{C:oA}{F:Tr wE}{f:Nat}{fn:Func}{kf:Nat}{A:wE}(h:oM C F f fn kf A):(nE F).get f=some A.code:=by unfold nE;rw[Tr.get_mapT,h.isF];rfl
theorem oM.one{C:oA}{F:Tr wE}{f:Nat}{fn:Func}{kf:Nat}{A:wE}{E:sB}(h:oM C F f fn kf A)(hr:E=bJ\/mK A.code=[]):nN (nE F) E f A.code:=by
 have:=h.kept
 unfold fnB at this;simp only[ybb]at this;intro q hq;refine⟨hr.resolve_right (fun e=>by rw[e]at hq;cases hq),_,h.code,?_⟩
 grind [Lc]
def oM.plain{C:oA}{F:Tr wE}{f:Nat}{fn:Func}{kf:Nat}{A:wE}(h:oM C F f fn kf A):rV A.code=none:=by
 have:=h.kept
 unfold fnB at this;simp only[ybb]at this
 cases hx:rV A.code with
 | none=>rfl
 | some u=>rw[hx]at this;cases this.2.2.1
def fJ (C:oA)(F:Tr wE)(E:sB):kE:=fun f args t Q=>∀X HA,Ov C.base t X HA->kB C.base X E Q (Ah C (nE F) f args HA)
def Wc (C:oA)(F:Tr wE):kE:=fun f args t Q=>∀X HA,Ov C.base t X HA->kB C.base X bJ Q (Ah C (nE F) f args HA)
theorem Wc.mono{C:oA}{F:Tr wE}{f:Nat} {t:Tr vA}{Q Q':sB}(h:Wc C F f args t Q)(k:∀v t',Q v t'->Q' v t'):Wc C F f args t Q':=fun X HA ho=>(h X HA ho).mono k
theorem Tr.bound (t:Tr α):∃n,∀b y,t.get b=some y->b<n:=by
 induction t with
 | leaf=>simp_all [Tr.get_leaf]
 | node l v r ihl ihr=>
  obtain⟨n,hn⟩:=ihl
  obtain⟨m,hm⟩:=ihr
  refine⟨2*n+2*m+3,fun b y h=>?_⟩
  grind [Tr.get_node]
def PV (C:oA)(F:Tr wE)(f:Nat)(args:List zA)(t:Tr vA)(v:zA):Prop:=Wc C F f args t fun v' t'=>v'=v/\t'=t
def PV.unique{C:oA}{F:Tr wE}{f:Nat} {t:Tr vA}{v':zA}(h:PV C F f args t v)(h':PV C F f args t v'):v=v':=by
 obtain⟨n,hn⟩:=Tr.bound t
 have ho:Ov C.base t (fun _=>none) ⟨C.base+n,t⟩:=⟨Nat.le_add_right _ _,fun _ _=>rfl,fun _ _ h=>(by cases h),fun b y hb=>Nat.lt_of_lt_of_le (hn b y hb) (Nat.le_add_left _ _)⟩
 obtain⟨u,t',HA',X',h1,_,_,h2,_⟩:=tQ.1 (h _ _ ho)
 obtain⟨u',t'',HA'',X'',h3,_,_,h4,_⟩:=tQ.1 (h' _ _ ho)
 rw[h1]at h3
 cases h3;rw[<- h2,<- h4]
def wC (C:oA)(F:Tr wE)(f:Nat)(args:List zA)(t:Tr vA):Option zA:=@dite _ (∃v,PV C F f args t v) (Classical.propDecidable _) (fun h=>some h.choose) (fun _=>none)
theorem bD{C:oA}{F:Tr wE}{f:Nat} {t:Tr vA}  : wC C F f args t=some v ↔ PV C F f args t v:=by
 unfold wC;constructor
 ·intro h
  by_cases hx:∃v,PV C F f args t v
  all_goals grind
 ·intro h
  have hx:∃v,PV C F f args t v:=⟨v,h⟩
  rw[dif_pos hx,PV.unique hx.choose_spec h]
def Wq (C:oA)(F:Tr wE)(pure:Nat->Bool):kE:=fun f args t R=>if (pure f&&Nat.blt f yo)=true then vE (wC C F f args t) fun v=>R v t else if Nat.beq f pn=true then False else Wc C F f args t R
def dE (C:oA)(F:Tr wE)(pure pan:Nat->Bool)(E:sB):kE:=fun f args t R=>if (pure f&&Nat.blt f yo)=true then vE (wC C F f args t) fun v=>R v t else if Nat.beq f pn=true then ∃v,args=[v]/\E v t else
 if (pan f&&Nat.blt f pn)=true then fJ C F E f args t R else Wc C F f args t R
def Wc.toE{C:oA}{F:Tr wE}{E:sB}{f:Nat} {t:Tr vA}{Q:sB}(h:Wc C F f args t Q):fJ C F E f args t Q:=fun X HA ho=>(h X HA ho).mono (fun _ _ h=>h) fun _ _ h=>h.elim
theorem pv_wc{C:oA}{F:Tr wE}{f:Nat} {t:Tr vA}{R:sB}(h:vE (wC C F f args t) fun v=>R v t):Wc C F f args t R:=by
 rw[xZ]at h;obtain⟨v,h1,h2⟩:=h
 exact(bD.1 h1).mono fun v' t' hh=>by simp_all
theorem zeq{f:Nat}(h:Nat.blt f pn=true):Nat.beq f pn=false:=Bool.eq_false_iff.2 fun e=>by grind [qC,mC]
def tX{l:Nat}:Nat.blt (yo+l) yo=false/\Nat.blt (yo+l) pn=false/\Nat.beq (yo+l) pn=false:=by
 refine⟨Bool.eq_false_iff.2 fun e=>?_,Bool.eq_false_iff.2 fun e=>?_,Bool.eq_false_iff.2 fun e=>?_⟩
 ·have:=qC.1 e;omega
 ·have:=qC.1 e;unfold yo pn at this;omega
 ·have:=mC.1 e;unfold yo pn at this;omega
def Ti{C:oA}{F:Tr wE}{pure:Nat->Bool}(hpn:pure pn=false):aP C (nE F) bJ (Wq C F pure):=by
 refine⟨fun f args t R hf h X HA ho=>?_,fun l args t R h X HA ho=>?_,fun args t R h=>?_⟩
 ·unfold Wq at h
  split at h
  ·exact pv_wc h X HA ho
  ·rw[zeq hf,yaa (by simp)]at h
   exact h X HA ho
 ·unfold Wq at h
  rw[tX.1,yay,yaa (by simp),tX.2.2,yaa (by simp)]at h
  exact h X HA ho
 ·unfold Wq at h
  rw[hpn,Bool.false_and,yaa (by simp),yab (mC.2 rfl)]at h
  exact h.elim
def BD{C:oA}{F:Tr wE}{pure:Nat->Bool}{E:sB}(hpn:pure pn=false):aP C (nE F) E (dE C F pure pan E):=by
 refine⟨fun f args t R hf h X HA ho=>?_,fun l args t R h X HA ho=>?_,fun args t R h=>?_⟩
 ·unfold dE at h
  split at h
  ·exact(pv_wc h).toE X HA ho
  ·rw[zeq hf,yaa (by simp)]at h
   split at h
   ·exact h X HA ho
   ·exact h.toE X HA ho
 ·unfold dE at h
  rw[tX.1,yay,yaa (by simp),tX.2.2,yaa (by simp),tX.2.1,yay,yaa (by simp)]at h
  exact h X HA ho
 ·unfold dE at h
  rw[hpn,Bool.false_and,yaa (by simp),yab (mC.2 rfl)]at h
  exact h
def Th{C:oA}{F:Tr wE}{pure:Nat->Bool}:Aq C (nE F) (Wq C F pure):=by
 intro l args t Q h;unfold Wq;rw[tX.1,yay,yaa (by simp),tX.2.2,yaa (by simp)]
 exact h
def BC{C:oA}{F:Tr wE}{pure:Nat->Bool}{E:sB}:Aq C (nE F) (dE C F pure pan E):=by
 intro l args t Q h;unfold dE;rw[tX.1,yay,yaa (by simp),tX.2.2,yaa (by simp),tX.2.1,yay,yaa (by simp)]
 exact h
def JqE (C:oA)(F:Tr wE)(E:sB)(f:Nat):kE:=fun i vals t Q=>∀fn kf A,oM C F f fn kf A->∀d∈bK C (bC C (nE F)) f fn.ntmps A.code (oO C fn),d.p.id=i->Nj C.base kf E d vals t Q
def Jq (C:oA)(F:Tr wE)(f:Nat):kE:=fun i vals t Q=>∀fn kf A,oM C F f fn kf A->∀d∈bK C (bC C (nE F)) f fn.ntmps A.code (oO C fn),d.p.id=i->Nj C.base kf bJ d vals t Q
def zf3{C:oA}{F:Tr wE}{E:sB}{f:Nat}{fn:Func}{kf:Nat}{A:wE}(h:oM C F f fn kf A):nS C.base kf E (JqE C F E f) (bK C (bC C (nE F)) f fn.ntmps A.code (oO C fn)):=
 fun d hd _ _ _ hJ=>hJ fn kf A h d hd rfl
section
variable {W J:kE}{t:Tr vA}{X X0:Xt}{HA:xA}{C:oA}{A:Tr nC}{ν:Nat->Nat}{Q E:sB}{kf n:Nat}{st:sH}{tm:Tm}
theorem zhh(hst:lF C.base X0 kf ν X st tm HA t):∀(l:List ResultVar) (K:List zA->T),pA C.base W J (Gw C st l K) t Q->∃vs,aT C HA tm l=some vs/\pA C.base W J (K vs) t Q:=by
 intro l;induction l with
 | nil=>intro K h;exact⟨[],rfl,h⟩
 | cons r l ih=>
  intro K h
  cases r with
  | tmp i=>
   have h:pA C.base W J (cB (st.tm.get i) fun v=>Gw C st l fun l=>K (v::l)) t Q:=h
   rw[iE]at h;obtain⟨v,h1,h2⟩:=h
   obtain⟨vs,h3,h4⟩:=ih _ h2
   refine⟨v::vs,?_,h4⟩
   show kH (tR C HA tm) _=_
   rw[nQ];show ob (tm.get i) _=_
   rw[hst.tms _ _ h1,qA];have h3:kH (tR C HA tm) l=some vs:=h3
   rw[h3];rfl
  | cell a ty=>
   have h:pA C.base W J (match fL a st.ad with
    | some p=>cB (st.lo.get p.1) fun m=>cB (C.tys.get ty) fun y=>lK (Nat.ble (p.2+y.size) (zB m)) (cB (sQ C ty m p.2) fun v=>Gw C st l fun l=>K (v::l))
    | none=>cB (st.tm.get a) fun a=>.light (fun m=>mA C ty ⟨0,m⟩ a) fun v=>Gw C st l fun l=>K (v::l)) t Q:=h
   have fin:∀ {u v:zA},tm.get a=some u->mA C ty HA u=some v->pA C.base W J (Gw C st l fun l=>K (v::l)) t Q->∃vs,aT C HA tm (.cell a ty::l)=some vs/\pA C.base W J (K vs) t Q:=by
    intro u v h1 h2 h3;obtain⟨vs,h4,h5⟩:=ih _ h3
    refine⟨v::vs,?_,h5⟩
    show kH (tR C HA tm) _=_
    rw[nQ];have e:tR C HA tm (.cell a ty)=some v:=by
     show(ob (ob (tm.get a) zA.asPtr) fun p=>ob (C.tys.get ty) fun ty=>ob (qE HA p.1) fun c=>fR ty c.1 p.2)=some v
     grind [mA,qA]
    have h4:kH (tR C HA tm) l=some vs:=h4
    simp_all
   split at h
   ·rename_i p hp
    simp only[iE,rO]at h;obtain⟨m,h1,y,h2,h3,v,h4,h5⟩:=h
    exact fin (hst.ads _ _ hp) (GX hst.ov hst.lo h1 h2 h3 h4) h5
   ·simp only[iE,Ge]at h
    obtain⟨u,h1,v,h2,h3⟩:=h
    exact fin (hst.tms _ _ h1) (BS hst.ov.le h2) h3
def Mn{fn:Func}:SK C W J X0 kf E Q (endT C fn) (jU C fn):=by
 intro st tm HA t X ν hst h;obtain⟨vs,h1,h2⟩:=zhh hst _ _ h
 unfold jU;exact kB.ob h1 ⟨_,t,HA,X,rfl,hst.ov,hst.le,h2⟩
def Ug{fn:Func}:SKt C W J X0 kf E Q (Bc C fn) (oO C fn):=⟨Mn,fun _ _ _ _ _ _ _ _ h=>h.elim,Mn⟩
end
section
variable {C:oA}{F:Tr wE}{f:Nat}{fn:Func}{kf:Nat}{A:wE}{pure:Nat->Bool}{t:Tr vA}{Q:sB}
theorem zf1{E:sB}{W:kE}(hW:aP C (nE F) E W)(hY:Aq C (nE F) W)(h:oM C F f fn kf A)(hr:E=bJ\/mK A.code=[]) (hl:(Nat.ble (zB args) kf&&Nat.ble (zB args) fn.ntmps)=true)(hw:pA C.base W (JqE C F E f) (entT C fn kf f A args) t Q):fJ C F E f args t Q:=by
 intro X HA ho;have hA:=h.code
 obtain⟨body,hb⟩:∃b,fn.body=some b:=by
  cases hx:fn.body with
  | none=>have:=h.body;rw[hx]at this;cases this
  | some b=>simp_all
 have he:rK C f args false=some ⟨[.code body],⟨kf,Tr.ofList args,[]⟩,⟨f,fn.ntmps,[],.run,false,none⟩⟩:=by
  unfold rK;rw[h.isFn,qA,hb,qA,h.isK,qA,hl];rfl
 have hp:C.prims.get f=none:=by
  cases hx:C.prims.get f with
  | none=>rfl
  | some g=>have:=h.prim;rw[hx]at this;cases this
 rw[Ij h.lt,hp];show kB C.base X E Q (bC C (nE F) (.func f) args HA)
 rw[Zl];show kB C.base X E Q (zS C (nE F) (bC C (nE F)) f args HA)
 unfold zS;refine kB.ob hA (kB.ob h.isFn (kB.ob he ?_))
 unfold iW;rw[h.plain];have hst:lF C.base X kf (fun i=>i) X ⟨⟨kf,Tr.ofList args,[]⟩,[],.leaf,[]⟩ ⟨kf,Tr.ofList args,[]⟩ HA t:=
  ⟨ho,dI.refl _,rfl,rfl,fun _ _ h=>h,fun _ _ h=>(by cases h),fun d l h=>(by grind [Tr.get_leaf]),fun d _ l _ h=>(by omega)⟩
 exact Bd hW hY A.code (Bc C fn) (oO C fn) (h.one hr) (fun _=>Ug) (zf3 h) _ _ _ _ _ _ _ hst hw
def Wc_of(h:oM C F f fn kf A) (hl:(Nat.ble (zB args) kf&&Nat.ble (zB args) fn.ntmps)=true)(hw:pA C.base (Wq C F pure) (Jq C F f) (entT C fn kf f A args) t Q)(hpn:pure pn=false:=by rfl):Wc C F f args t Q:=
 zf1 (E:=bJ) (Ti hpn) Th h (.inl rfl) hl hw
theorem JqE_of{E:sB}{W:kE}(hW:aP C (nE F) E W)(hY:Aq C (nE F) W)(h:oM C F f fn kf A)(hr:E=bJ\/mK A.code=[])  {l:List T}(hp:Ec (ptsT C fn kf f A) i vals=l)(hw:∀T∈l,pA C.base W (JqE C F E f) T t Q):JqE C F E f i vals t Q:=by
 intro fn' kf' A' h' d hd hi;have e1:=h.isFn;rw[h'.isFn]at e1;cases e1
 have e2:=h.isK;rw[h'.isK]at e2;cases e2
 have e3:=h.isF;rw[h'.isF]at e3;cases e3
 obtain⟨q,h1,h2,h3⟩:=SO hW hY A.code (Bc C fn) (oO C fn) (h.one hr) h.keptOk (fun _ _=>Ug) (zf3 h) d hd
 refine h3 vals t Q (hw _ ?_)
 subst hp;have key:∀(l:List PtT),q∈l->q.tree vals∈Ec l i vals:=by
  intro l;induction l with
  | nil=>simp_all
  | cons p l ih=>
   grind [Ec,mC]
 exact key _ h1
def NO{E:sB}{W:kE}(hW:aP C (nE F) E W)(hY:Aq C (nE F) W)(h:oM C F f fn kf A)(hr:E=bJ\/mK A.code=[])  {T:T}(hp:Ec (ptsT C fn kf f A) i vals=[T])(hw:pA C.base W (JqE C F E f) T t Q):JqE C F E f i vals t Q:=
 JqE_of hW hY h hr hp fun T' hT=>by rw[ydd.1 hT];exact hw
def Jq_of1(h:oM C F f fn kf A)  {T:T}(hp:Ec (ptsT C fn kf f A) i vals=[T])(hw:pA C.base (Wq C F pure) (Jq C F f) T t Q)(hpn:pure pn=false:=by rfl):Jq C F f i vals t Q:=
 NO (E:=bJ) (Ti hpn) Th h (.inl rfl) hp hw
theorem Kx{g:List zA->xA->Option zA}(hg:C.prims.get f=some (lO g))  (h:∀H,g args H=some v)(hf:Nat.blt f yo=true:=by rfl):wC C F f args t=some v:=by
 refine bD.2 fun X HA ho=>?_
 rw[Ij hf,hg];exact tQ.2 ⟨v,t,HA,X,by grind [lO,qA],ho,dI.refl _,rfl,rfl⟩
theorem Bk  (h:Wc C F f args t fun v' t'=>v'=v/\∀b y,t.get b=some y->t'.get b=some y):wC C F f args t=some v:=by
 refine bD.2 fun X HA ho=>?_
 obtain⟨u,t',HA',X',h1,h2,h3,h4,h5⟩:=tQ.1 (h X HA ho)
 refine tQ.2 ⟨u,t,HA',fun b=>match t.get b with | some _=>none | none=>HA'.t.get b,h1,⟨h2.base,?_,?_,?_⟩,?_,h4,rfl⟩
 ·intro b hb
  cases hg:t.get b with
  | some y=>rw[h2.up (h5 b y hg)]
  | none=>simp_all
 ·intro b y hb
  cases hg:t.get b with
  | some y=>simp_all
  | none=>
   simp only[hg]at hb;refine⟨hb,rfl,?_⟩
   cases hx:X' b with
   | some z=>exact(h2.ext b z hx).2.2
   | none=>rw[h2.same b hx]at hb;exact h2.lt b y hb
 ·intro b y hb;exact h2.lt b y (h5 b y hb)
 ·intro b y hb
  have hn:=(ho.ext b y hb).2.1
  simp only[hn];exact(h2.ext b y (h3 b y hb)).1
end
theorem YV{P:Program}{C:oA}{F:Tr wE}{B N:Nat}{I:World->Prop}{μ:Mu}{w:World}(hS:gK P C B N I)(hI:I w)(hA:yX C (nE F)){f:Nat}(hp:C.prims.get f=none) {args':Array Value}{H:xA}{Q:sB}(hbase:C.base<=H.next)(hlt:∀b y,H.t.get b=some y->b<H.next)(hH:vB B N μ H w)(hl:tB μ args args'.toList)
  (h:Wc C F f args H.t Q) (hf:Nat.blt f yo=true:=by rfl):Calls P f args' w fun e w'=>∃v v' t' μ',e=.returned v'/\μ.lw μ'/\uA μ' v v'/\Q v t'/\Below N w w':=by
 obtain⟨v,t',HA',X',h1,h2,h3,h4⟩:=tQ.1 (h (fun _=>none) H ⟨hbase,fun _ _=>rfl,fun _ _ h=>(by cases h),hlt⟩)
 rw[Ij hf,hp]at h1;intro base;obtain⟨e,w',b,⟨v',μ',g1,g2,g3,g4,g5⟩,g6⟩:=YT hS hI hA hH hl h1 base
 grind
end
section
variable {lt rt:List (Nat × PI)}{l:List (Nat × wE)}{f:Nat}{C:oA}
def piOf (i:Nat)(l:List (Nat × PI)):Option PI:=List.rec (motive:=fun _=>Option PI) none (fun a _ g=>bif Nat.beq i a.1 then some a.2 else g) l
def cutP (p:Option PI)(c:nC):nC:=
 match p with
 | some p=>.cut p c
 | none=>c
def zh1(p:Option PI)(c:nC):nC:=
 match p with
 | some p=>.loop p c
 | none=>.loop ⟨0,[],[]⟩ c
def rangeP(p:Option PI)(f:Operand)(ps:Array Nat)(a:Code)(c:nC):nC:=
 match a with
 | .region id ops _=>.range (match p with | some p=>p.id | none=>0) (match p with | some p=>p.pl | none=>[]) f ps [(id,ops)] c
 | .seq (.region i o _) (.region id ops _)=>.range (match p with | some p=>p.id | none=>0) (match p with | some p=>p.pl | none=>[]) f ps [(i,o),(id,ops)] c
 | _=>.skip
def JI:Code->Bool
 | .region _ _ d => !d
 | .seq (.region _ _ d) (.region _ _ e) => !d && !e
 | _=>false
def tY(rt lt:List (Nat × PI))(c:Code):Nat->nC:=
 Code.rec (motive:=fun _=>Nat->nC)
  (fun _=>.skip)
  (fun id ops d _=>cutP (piOf id rt) (.region id ops d))
  (fun _ _ ga gb k=>.seq (ga k) (gb k))
  (fun c _ _ gx gy k=>.cond c (gx k) (gy k))
  (fun id _ g _=>.block id (g id))
  (fun _ g k=>zh1 (piOf k lt) (g k))
  (fun f ps a _ _ gb k=>rangeP (piOf k lt) f ps a (gb k))
  (fun id _=>.exit id)
  (fun _ _ _=>.skip)
  (fun _ _=>.skip)
  (fun _ _=>.skip)
  (fun _=>.ret)
  (fun _ _=>.skip) c
def annot(rt lt:List (Nat × PI))(k:Nat)(c:Code):nC:=tY rt lt c k
def yU(c:Code):Bool:=
 Code.rec (motive:=fun _=>Bool) true (fun _ _ _=>true) (fun _ _ a b=>bif a then b else false) (fun _ _ _ a b=>bif a then b else false) (fun _ _ a=>a) (fun _ a=>a)
  (fun _ _ a _ _ b=>bif JI a then b else false) (fun _=>true) (fun _ _=>false) (fun _=>false) (fun _=>false) true (fun _=>false) c
def WQ(p:Option PI)(c:nC):xE (cutP p c)=xE c:=by cases p<;>rfl
def WP(p:Option PI)(c:nC):xE (zh1 p c)=.loop (xE c):=by cases p<;>rfl
def WR  : ∀(c:Code) (k:Nat),yU c=true->xE (tY rt lt c k)=c:=by
 intro c;induction c with
 | skip=>intro k _;rfl
 | region id ops d=>intro k _;show xE (cutP _ _)=_;rw[WQ];rfl
 | seq a b iha ihb=>
  intro k h;have h:(bif yU a then yU b else false)=true:=h
  have ha:yU a=true:=by simp_all
  have hb:yU b=true:=by simp_all
  show Code.seq (xE (tY rt lt a k)) (xE (tY rt lt b k))=_
  rw[iha k ha,ihb k hb]
 | cond c x y ihx ihy=>
  intro k h;have h:(bif yU x then yU y else false)=true:=h
  have ha:yU x=true:=by simp_all
  have hb:yU y=true:=by simp_all
  show Code.cond c (xE (tY rt lt x k)) (xE (tY rt lt y k))=_
  rw[ihx k ha,ihy k hb]
 | block id c ih=>intro k h;show Code.block id (xE (tY rt lt c id))=_;rw[ih id h]
 | loop c ih=>intro k h;show xE (zh1 _ (tY rt lt c k))=_;rw[WP,ih k h]
 | exit id=>intro k _;rfl
 | ret=>intro k _;rfl
 | rangeFunc f ps a b _ ihb=>
  intro k h;have h:(bif JI a then yU b else false)=true:=h
  cases a with
  | region id ops d=>
   cases d with
   | true=>cases h
   | false=>show Code.rangeFunc f ps (.region id ops false) (xE (tY rt lt b k))=_;rw[ihb k h]
  | seq x y=>
   cases x with
   | region i o d=>
    cases y with
    | region i' o' d'=>
     cases d with
     | true=>cases h
     | false=>
      cases d' with
      | true=>cases h
      | false=>
       show Code.rangeFunc f ps (.seq (.region i o false) (.region i' o' false)) (xE (tY rt lt b k))=_
       rw[ihb k h]
    | _=>cases h
   | _=>cases h
  | _=>cases h
 | scope c _=>intro k h;cases h
 | label l=>intro k h;cases h
 | goto l=>intro k h;cases h
 | refuse s=>intro k h;cases h
def Gm (l:List (Nat × wE)):Tr wE:=List.rec (motive:=fun _=>Tr wE) .leaf (fun p _ g=>g.set p.1 p.2) l
def za8  {A:wE}(h:(Gm l).get f=some A):(f,A)∈l:=by
 induction l with
 | nil=>grind [Gm,Tr.get_leaf]
 | cons p l ih=>
  grind [Gm,Tr.get_set]
def zf4(C:oA)(p:Nat × wE):Prop:=∃fn c,C.fns.get p.1=some fn/\fn.body=some c/\xE p.2.code=c
def bodyOk  {fn:Func}{c:Code} {la:List Nat}(h1:C.fns.get f=some fn)(h2:fn.body=some c)(h3:yU c=true):zf4 C (f,⟨annot rt lt 0 c,la⟩):=⟨fn,c,h1,h2,WR c 0 h3⟩
def YJ  (h:∀p∈l,zf4 C p):yX C (nE (Gm l)):=by
 intro f c hc;unfold nE at hc;rw[Tr.get_mapT]at hc
 cases hq:(Gm l).get f with
 | none=>simp_all
 | some A=>
  rw[hq]at hc
  cases hc;obtain⟨fn,b,h1,h2,h3⟩:=h _ (za8 hq)
  simp_all
end
end Go.Am
namespace Go.Am
class eC where
 n:Nat
def Pw(a:List zA)(_:xA):Option zA:=match a with | []=>some (.bool true) | _=>none
def rU:List Nat->List Nat->Bool
 | [],_=>true
 | _::_,[]=>false
 | a::x,b::y=>bif Nat.beq a b then rU x y else false
def Af (sub:List Nat):List Nat->Option (List Nat × List Nat)
 | []=>bif sub.isEmpty then some ([],[])else none
 | b::l=>bif rU sub (b::l)then some ([],lQ (b::l) (zB sub))else ob (Af sub l) fun p=>some (b::p.1,p.2)
def pCut (a:List zA)(_:xA):Option zA:=match a with
 | [.str s,.str c]=>xB (Nat.blt (zB s) 4294967281) (match Af c s with
  | some p=>some (.tup [.str p.1,.str p.2,.bool true])
  | none=>some (.tup [.str s,.str [],.bool false]))
 | _=>none
end Go.Am
namespace Go.Am
open Go Go.Shelf Go.RowKit Go.Proofs
variable {P:Program}{ρ:Ren}
set_option maxHeartbeats 2000000 in
set_option maxRecDepth 100000 in
theorem XD(L:Lays.n169 P ρ)(X:Builder.Extra P ρ)(b g cap cells:Nat)(l:List UInt8)(w:World)(c1:w.cell? ⟨b,1,none⟩=some (.slice (some ⟨g,0,none⟩) l.length cap))(h0:l≠[])(hcap:l.length<=cap)
  (hsh:w.shape? g=some (ρ.t 5,cells)) (hc:l.length<=cells) (h63:l.length<=9223372036854775807) (hcell:∀j x,l[j]?=some x->w.cell? ((⟨g,0,none⟩:Addr).add j)=some (.int .u8 x.toNat)) :
  Calls P (ρ.f 169) #[.pointer (some ⟨b,0,none⟩)] w fun e w'=>e=.returned (.string ⟨l.toArray⟩)/\w'=w.drew.freeze ⟨g,0,none⟩ l.length:=by
 have hl0:l.length≠0:=by simp_all
 have c1:w.drew.cell? ⟨b,1,none⟩=some (.slice (some ⟨g,0,none⟩) l.length cap):=c1
 have hSD:(Builtin.unsafeSliceData_ #[(ρ.t 37)] (ρ.t 127) #[.slice (some ⟨g,0,none⟩) l.length cap]).run P w.drew=.ok (.pointer (some ⟨g,0,none⟩)) w.drew:=
  Lib.run_unsafeSliceData_row _ _ _ _ _ _ (by omega)
 have hUS:(Builtin.unsafeString_ #[(ρ.t 127),(ρ.t 3)] (ρ.t 9) #[.pointer (some ⟨g,0,none⟩),.int .i64 l.length]).run P w.drew=.ok (.string ⟨l.toArray⟩) (w.drew.freeze ⟨g,0,none⟩ l.length):=
  Lib.run_unsafeString_row w.drew (ρ.t 127) (ρ.t 3) (ρ.t 9) (ρ.t 5) L.t127 X.cellsByte g cells hsh l h0 hc h63 hcell
 have mixed:=L.mixed
 have t72:=L.t72;have a72:=L.a72;have z72:=L.z72;have v72:=L.v72;have u72:=run_underlying L.t72
 have t70:=L.t70;have a70:=L.a70;have z70:=L.z70;have v70:=L.v70;have u70:=run_underlying L.t70
 have t37:=L.t37;have a37:=L.a37;have z37:=L.z37;have v37:=L.v37;have u37:=run_underlying L.t37
 have t127:=L.t127;have a127:=L.a127;have z127:=L.z127;have v127:=L.v127;have u127:=run_underlying L.t127
 have t3:=L.t3;have a3:=L.a3;have z3:=L.z3;have v3:=L.v3;have u3:=run_underlying L.t3
 have t9:=L.t9;have a9:=L.a9;have z9:=L.z9;have v9:=L.v9;have u9:=run_underlying L.t9
 have t5:=X.t5;have a5:=X.a5;have z5:=X.z5;have v5:=X.v5;have u5:=run_underlying X.t5
 go_enter L.f169,Body.n169_ntmps ρ
 go_wp2
 go_region_o
 all_goals (go_wp2;go_ret;simp_all)
end Go.Am
namespace Go.Am
open Go Go.Shelf Go.RowKit Go.Proofs
variable {base f k:Nat}{args:List zA}{args':Array Value}{v:zA}{H':xA}
section
variable {P:Program}{ρ:Ren}{B N:Nat}{μ:Mu}{H:xA}{w:World}
theorem vB.scratch(hH:vB B N μ H w){g:Nat}(hg:N<=g)(hfree:∀a x j,H.t.get a=some x->μ a=some j->j.b≠g)(o':Obj):vB B N μ H (World.setBlk w g o'):=by
 have hsz:(World.setBlk w g o').heap.size=w.heap.size:=by simp[World.setBlk]
 refine⟨hH.base,hH.glob,hH.low,hH.next,by rw[hsz];exact hH.size,hH.fresh,fun a x i hx hi=>?_,fun a i ha hi=>by rw[hsz];exact hH.own a i ha hi,hH.inj,hH.pnd⟩
 obtain⟨o,h1,h2⟩:=hH.blk a x i hx hi
 grind [Du]
def Lk:List (Nat × Nat)->Nat->Nat->Bool
 | [],_,_=>false
 | p::r,t,n=>bif Nat.beq p.1 t&&Nat.ble p.2 n then true else Lk r t n
theorem GR:∀ {Ts:List (Nat × Nat)} {t n:Nat},Lk Ts t n=true->∃p∈Ts,p.1=t/\p.2<=n
 | [],_,_,h=>by cases h
 | p::r,t,n,h=>by
  unfold Lk at h;rw[qD]at h;split at h
  ·simp_all
  ·obtain⟨q,h1,h2⟩:=GR h
   grind
def Py(base:Nat)(Ts:List (Nat × Nat))(args:List zA)(H:xA):Option (zA × xA):=
 match args with
 | [.ptr b 0]=>ob (qE H b) fun c=>ob (c.1.get 0) fun v=>match v with
  | .nilptr=>xB (!Nat.blt b base&&(match c.2.2 with | some (.ty t)=>Lk Ts t c.2.1 | _=>false)) (some (.tup [],setBlk H b (.cells (c.1.set 0 (.ptr b 0)) c.2.1 c.2.2)))
  | .ptr d o=>xB (Nat.beq d b&&Nat.beq o 0) (some (.tup [],H))
  | _=>none
 | _=>none
theorem STzx {Ts:List (Nat × Nat)} (hbase:B<=base)
  (hfresh:∀p∈Ts,∀(b n:Nat) (w:World),w.cell? ⟨b,0,none⟩=some (.pointer none)->w.shape? b=some (p.1,n)->p.2<=n->w.frozen? ⟨b,0,none⟩=false->Calls P f #[.pointer (some ⟨b,0,none⟩)] w fun e w'=>e=.returned (.tuple #[])/\w'=w.setCell ⟨b,0,none⟩ (.pointer (some ⟨b,0,none⟩)))
  (hused:∀(b:Nat) (w:World),w.cell? ⟨b,0,none⟩=some (.pointer (some ⟨b,0,none⟩))->Calls P f #[.pointer (some ⟨b,0,none⟩)] w fun e w'=>e=.returned (.tuple #[])/\w'=w)
  (henter:∀(w:World) (a:Array Value),(callFunc f a).run P w=.ok (.enter f a) w)     (hH:vB B N μ H w) (hv:Py base Ts args H=some (v,H')) (hl:tB μ args args'.toList) :
  (callFunc f args').run P w=.ok (.enter f args') w/\Calls P f args' w fun e w'=>∃v' μ',e=.returned v'/\μ.le μ'/\vB B N μ' H' w'/\Below N w w'/\uA μ' v v':=by
 refine⟨henter w args',?_⟩
 unfold Py at hv;split at hv
 case h_2=>cases hv
 rename_i b;rw[tB]at hl;obtain⟨u,r,h1,h2,h3⟩:=hl
 rw[tB]at h3;subst h3;rw[uA]at h2;obtain⟨i,hi,rfl⟩:=h2
 have ha:args' = #[.pointer (some ⟨i.b,0,none⟩)]:=by apply yax.1;rw[h1]
 subst ha;rw[tA]at hv;obtain⟨⟨c,n,lo⟩,hc,hv⟩:=hv
 rw[tA]at hv;obtain⟨v0,h0,hv⟩:=hv
 have hx:=Ak hc
 obtain⟨o,g1,g2⟩:=hH.blk _ _ _ hx hi
 have g2':=g2
 obtain⟨cs,E,fr,rfl,g3,g4,g5,g6⟩:=g2
 obtain⟨hn,u,hu,hr⟩:=g5 0 v0 h0
 have g3:n<=cs.size:=g3
 have hn:0<n:=hn
 have hcell0:w.cell? ⟨i.b,0,none⟩=some u:=by grind [World.cell?]
 have hundef:uA μ (.tup []) (.tuple #[]):=by rw[uA];exact⟨#[],rfl,.nil⟩
 split at hv
 ·rw[uA]at hr
  subst hr;simp only[wB,ybb,ycp]at hv;obtain⟨⟨hb,ht⟩,hv⟩:=hv
  cases hv;have hown:B<=b:=by
   grind [qC]
  have hNb:=hH.own b i hown hi
  have hfr:=g4.resolve_left (by simp_all)
  have hE:∃p∈Ts,p.1=E/\p.2<=n:=by
   grind [GR]
  obtain⟨p,hpT,hpE,hpn⟩:=hE
  subst hpE;refine(hfresh p hpT i.b cs.size w hcell0 (by unfold World.shape?;rw[g1]) (Nat.le_trans hpn g3) ?_).mono ?_
  ·grind [World.frozen?]
  ·rintro e w' ⟨rfl,rfl⟩
   rw[EF g1];refine⟨_,μ,rfl,μ.le_refl,hH.upd hx hi hown ?_,vY hNb.1,hundef⟩
   refine⟨_,_,fr,rfl,by simp_all,by simp_all,fun j x hj=>?_,by simp_all⟩
   grind [Tr.get_set,uA]
 ·rename_i d o
  simp only[wB,ybb,mC]at hv;obtain⟨⟨rfl,rfl⟩,hv⟩:=hv
  cases hv;rw[uA]at hr;obtain⟨i',hi',rfl⟩:=hr
  rw[hi]at hi'
  cases hi'
  refine(hused i.b w hcell0).mono ?_
  rintro e w' ⟨rfl,rfl⟩
  exact⟨_,μ,rfl,μ.le_refl,hH,Below.refl _ _,hundef⟩
 grind
theorem zb8{α β:Type}{f:α->Option β}:∀ {l:List α} {r:List β},kH f l=some r->r.length=l.length/\∀(t:Nat) k,r[t]?=some k->∃y,l[t]?=some y/\f y=some k:=by
 intro l;induction l with
 | nil=>grind [Eo]
 | cons a l ih=>
  grind [nQ,tA]
theorem zdt (h:k<256):(UInt8.ofNat k).toNat=k:=by
 simp_all
def AO:zA->Option Nat
 | .int .u8 (.ofNat k)=>xB (Nat.blt k 256) (some k)
 | _=>none
theorem ZB  (h:AO v=some k):v=.int .u8 (k:Int)/\k<256:=by
 unfold AO at h;split at h
 all_goals grind [wB,qC]
def Xg(base U:Nat)(args:List zA)(H:xA):Option (zA × xA):=
 match args with
 | [.ptr b 0]=>ob (qE H b) fun c=>ob (c.1.get 1) fun v=>ob v.asSlice fun s=>ob (qE H s.1) fun d=>ob (d.1.many s.2.2.1 0) fun m=>ob (kH AO m) fun l=>
  xB (!Nat.blt s.1 base&&Nat.beq s.2.1 0&&Nat.blt 0 s.2.2.1&&Nat.ble s.2.2.1 s.2.2.2&&Nat.ble s.2.2.1 d.2.1&&Nat.blt s.2.2.1 1000000000&&(match d.2.2 with | some (.ty t)=>Nat.beq t U | _=>false)) (some (.str l,⟨H.next,H.t.del s.1⟩))
 | _=>none
theorem SR (L:Lays.n169 P ρ)(X:Builder.Extra P ρ)(hf:ρ.f 169=f) (hbase:B<=base)
  (henter:∀(w:World) (a:Array Value),(callFunc f a).run P w=.ok (.enter f a) w)     (hH:vB B N μ H w) (hv:Xg base (ρ.t 5) args H=some (v,H')) (hl:tB μ args args'.toList) :
  (callFunc f args').run P w=.ok (.enter f args') w/\Calls P f args' w fun e w'=>∃v' μ',e=.returned v'/\μ.le μ'/\vB B N μ' H' w'/\Below N w w'/\uA μ' v v':=by
 refine⟨henter w args',?_⟩
 subst hf;unfold Xg at hv;split at hv
 case h_2=>cases hv
 rename_i b;rw[tB]at hl;obtain⟨u,r,h1,h2,h3⟩:=hl
 rw[tB]at h3;subst h3;rw[uA]at h2;obtain⟨i,hi,rfl⟩:=h2
 have ha:args' = #[.pointer (some ⟨i.b,0,none⟩)]:=by apply yax.1;rw[h1]
 subst ha;simp only[tA,wB,ybb,ycp,Cl]at hv;obtain⟨⟨c,n,lo⟩,hc,v0,h0,⟨g,off,len,cap⟩,rfl,⟨d,m,lo2⟩,hd,ml,hm,l,hlm,⟨⟨⟨⟨⟨⟨q1,q2⟩,q3⟩,q4⟩,q5⟩,q6⟩,q7⟩,hv⟩:=hv
 cases hv;have q2:off=0:=mC.1 q2
 have q3:0<len:=qC.1 q3
 have q4:len<=cap:=oE.1 q4
 have q5:len<=m:=oE.1 q5
 have q6:len<1000000000:=qC.1 q6
 subst q2;have hx:=Ak hc
 obtain⟨o,g1,cs,E,fr,rfl,g3,g4,g5,g6⟩:=hH.blk _ _ _ hx hi
 obtain⟨hn,u,hu,hr⟩:=g5 1 _ h0
 rw[uA]at hr;rcases hr with⟨j,cap',hj,rfl,hcap,_,_⟩ | ⟨_,hz,_⟩
 case inr=>simp_all
 have hcap:cap<=cap':=hcap
 have hx2:=Ak hd
 obtain⟨o2,k1,cs2,E2,fr2,rfl,k3,k4,k5,k6⟩:=hH.blk _ _ _ hx2 hj
 have k3:m<=cs2.size:=k3
 have hE:E2=ρ.t 5:=by
  grind [mC]
 subst hE;have hown:B<=g:=by
  grind [qC]
 have hNb:=hH.own g j hown hj
 obtain⟨m1,m2⟩:=Tr.many_some _ _ _ _ hm
 obtain⟨hll,hla⟩:=zb8 hlm
 let bs:List UInt8:=l.map UInt8.ofNat
 have hbl:bs.length=len:=by grind
 have hby:∀(t:Nat) k,l[t]?=some k->ml[t]?=some (.int .u8 (k:Int))/\k<256:=by
  grind [ZB]
 have hcell:∀t x,bs[t]?=some x->w.cell? ((⟨j.b,0,none⟩:Addr).add t)=some (.int .u8 x.toNat):=by
  intro t x ht;simp only[bs,ybu,yar]at ht;obtain⟨k,e1,rfl⟩:=ht
  obtain⟨e2,e3⟩:=hby t k e1
  have hg:=m2 t (by grind)
  rw[ybw,e2]at hg;obtain⟨_,y,e4,e5⟩:=k5 t _ hg
  rw[uA]at e5;subst e5;rw[rY];unfold World.cell?
  simp only[k1];simp only[ybw];show cs2[t]?=_
  rw[e4,zdt e3]
 have c1:w.cell? ⟨i.b,1,none⟩=some (.slice (some ⟨j.b,0,none⟩) bs.length cap'):=by
  grind [World.cell?]
 have hne:bs≠[]:=by grind
 refine(XD L X i.b j.b cap' cs2.size bs w c1 hne (by omega) (by unfold World.shape?;rw[k1]) (by omega) (by omega) hcell).mono ?_
 rintro e w' ⟨rfl,rfl⟩
 have hfz:∃o',w.drew.freeze ⟨j.b,0,none⟩ bs.length=World.setBlk w.drew j.b o':=by
  unfold World.freeze;rw[yaa (by omega)]
  refine⟨.cells cs2 (ρ.t 5) (if fr2.1 == fr2.2 then(0,0+bs.length)else(min fr2.1 0,max fr2.2 (0+bs.length))),?_⟩
  unfold World.setBlk;congr 1
  apply Array.ext_getElem?
  intro k;rw[Array.getElem?_modify,ycs];have hk1:w.drew.heap[j.b]?=some (.cells cs2 (ρ.t 5) fr2):=k1
  grind
 obtain⟨o',ho'⟩:=hfz
 rw[ho'];have hdrop:=hH.drew.drop g (fun x t e=>by have:=(hH.pnd _ _ _ e).1;simp_all)
 refine⟨_,μ,rfl,μ.le_refl,hdrop.scratch hNb.1 (fun a x k hax hak e=>?_) o',(Ft).trans (vY hNb.1),?_⟩
 ·have hax':(if a=g then none else H.t.get a)=some x:=by grind [Tr.get_del]
  split at hax'
  ·cases hax'
  ·rename_i hne
   by_cases hab:B<=a
   ·exact hne (hH.inj a g x _ k j hax' hx2 hak hj hab hown e)
   ·have:=(hH.low a x k (by omega) hax' hak).1
    omega
 ·rw[uA]
  refine⟨_,rfl,?_⟩
  unfold rF;show bs.map UInt8.toNat=l
  simp only[bs,List.map_map];have:∀k∈l,(UInt8.toNat ∘ UInt8.ofNat) k=k:=by
   grind [List.mem_iff_getElem?,zdt]
  rw[List.map_congr_left this,List.map_id']
end
end Go.Am
namespace Go.Am
open Go Go.Shelf Go.RowKit Go.Proofs
section
variable {P:Program}{ρ:Ren}
set_option maxHeartbeats 2000000 in
set_option maxRecDepth 100000 in
theorem XC(L:Lays.n169 P ρ)(X:Builder.Extra P ρ)(b:Nat)(w:World)(c1:w.cell? ⟨b,1,none⟩=some (.slice none 0 0)) :
  Calls P (ρ.f 169) #[.pointer (some ⟨b,0,none⟩)] w fun e w'=>e=.returned (.string .empty)/\w'=w.drew:=by
 have c1:w.drew.cell? ⟨b,1,none⟩=some (.slice none 0 0):=c1
 have hSD:(Builtin.unsafeSliceData_ #[(ρ.t 37)] (ρ.t 127) #[.slice none 0 0]).run P w.drew=.ok (.pointer none) w.drew:=Lib.run_unsafeSliceData_nil ..
 have hUS:(Builtin.unsafeString_ #[(ρ.t 127),(ρ.t 3)] (ρ.t 9) #[.pointer none,.int .i64 0]).run P w.drew=.ok (.string .empty) w.drew:=Lib.run_unsafeString_none ..
 have mixed:=L.mixed
 have t72:=L.t72;have a72:=L.a72;have z72:=L.z72;have v72:=L.v72;have u72:=run_underlying L.t72
 have t70:=L.t70;have a70:=L.a70;have z70:=L.z70;have v70:=L.v70;have u70:=run_underlying L.t70
 have t37:=L.t37;have a37:=L.a37;have z37:=L.z37;have v37:=L.v37;have u37:=run_underlying L.t37
 have t127:=L.t127;have a127:=L.a127;have z127:=L.z127;have v127:=L.v127;have u127:=run_underlying L.t127
 have t3:=L.t3;have a3:=L.a3;have z3:=L.z3;have v3:=L.v3;have u3:=run_underlying L.t3
 have t9:=L.t9;have a9:=L.a9;have z9:=L.z9;have v9:=L.v9;have u9:=run_underlying L.t9
 have t5:=X.t5;have a5:=X.a5;have z5:=X.z5;have v5:=X.v5;have u5:=run_underlying X.t5
 go_enter L.f169,Body.n169_ntmps ρ
 go_wp2
 go_region_o
 all_goals (go_wp2;go_ret;simp_all)
end
section
variable {P:Program}{ρ:Ren}{B:Nat}{N:Nat}{μ:Mu}{H:xA}{w:World}
def Px(base U:Nat)(args:List zA)(H:xA):Option (zA × xA):=
 match args with
 | [.ptr b 0]=>ob (qE H b) fun c=>ob (c.1.get 1) fun v=>match v with
  | .nilslice=>some (.str [],H)
  | _=>Xg base U args H
 | _=>none
theorem SS{f:Nat}(L:Lays.n169 P ρ)(X:Builder.Extra P ρ)(hf:ρ.f 169=f){base:Nat}(hbase:B<=base)
  (henter:∀(w:World) (a:Array Value),(callFunc f a).run P w=.ok (.enter f a) w) {args:List zA} {args':Array Value} {v:zA} {H':xA} (hH:vB B N μ H w) (hv:Px base (ρ.t 5) args H=some (v,H')) (hl:tB μ args args'.toList) :
  (callFunc f args').run P w=.ok (.enter f args') w/\Calls P f args' w fun e w'=>∃v' μ',e=.returned v'/\μ.le μ'/\vB B N μ' H' w'/\Below N w w'/\uA μ' v v':=by
 unfold Px at hv;split at hv
 case h_2=>cases hv
 rename_i b;simp only[tA]at hv;obtain⟨⟨c,n,lo⟩,hc,v0,h0,hv⟩:=hv
 split at hv
 case h_2=>exact SR L X hf hbase henter hH hv hl
 cases hv;refine⟨henter w args',?_⟩
 subst hf;rw[tB]at hl;obtain⟨u,r,h1,h2,h3⟩:=hl
 rw[tB]at h3;subst h3;rw[uA]at h2;obtain⟨i,hi,rfl⟩:=h2
 have ha:args' = #[.pointer (some ⟨i.b,0,none⟩)]:=by apply yax.1;rw[h1]
 subst ha;have hx:=Ak hc
 obtain⟨o,g1,cs,E,fr,rfl,g3,g4,g5,g6⟩:=hH.blk _ _ _ hx hi
 obtain⟨hn,u,hu,hr⟩:=g5 1 _ h0
 rw[uA]at hr;have c1:w.cell? ⟨i.b,1,none⟩=some (.slice none 0 0):=by
  grind [World.cell?]
 refine(XC L X i.b w c1).mono ?_
 rintro e w' ⟨rfl,rfl⟩
 exact⟨_,μ,rfl,μ.le_refl,hH.drew,Ft,by rw[uA];exact⟨_,rfl,rfl⟩⟩
end
end Go.Am
set_option maxRecDepth 100000
namespace Go.Am
open Go Go.RowKit
def nU(c:Nat):List Nat->Option Nat
 | []=>none
 | x::r=>bif Nat.beq x c then some 0 else ob (nU c r) fun n=>some (n+1)
def Ag(sub:List Nat):List Nat->Bool
 | []=>sub.isEmpty
 | b::l=>bif rU sub (b::l)then true else Ag sub l
def Kz(a:List zA)(_:xA):Option zA:=match a with | [.str s,.int .u8 (.ofNat c)]=>xB (Nat.blt c 256) (some (.int .i64 (match nU c s with | some n=>.ofNat n | none=>.negSucc 0))) | _=>none
def He(a:List zA)(_:xA):Option zA:=match a with | [.str s,.str c]=>xB (Nat.blt (zB s) 4294967281) (some (.bool (Ag c s))) | _=>none
def glob (g:Nat)(l:List zA)(t:Tr vA):Tr vA:=t.set g (.cells (Tr.ofList l) (zB l) none)
def fin:xG->Nat
 | .next _=>0
 | .done v _=>match v.asBool with
  | some true=>1
  | _=>2
 | .fail n=>100+n
def Vy(C:oA)(f:Nat)(args:List zA)(H:xA):xG:=match rK C f args false with
 | some fr=>.next ⟨fr,[],H⟩
 | none=>.fail 0
theorem Yz:∀(c s:List UInt8),rU (c.map UInt8.toNat) (s.map UInt8.toNat)=c.isPrefixOf s
 | [],_=>by simp[rU]
 | _::_,[]=>rfl
 | a::x,b::y=>by
  simp only[ycm,rU,qD,Yz x y,List.isPrefixOf];grind [UInt8.toNat_inj,mC]
def LQ(c:List UInt8):∀s:List UInt8,Ag (c.map UInt8.toNat) (s.map UInt8.toNat)=Lib.contains s c
 | []=>by cases c<;>simp[Ag,Lib.contains,Lib.index]
 | b::l=>by
  have ih:=LQ c l
  grind [Yz,Ag,Lib.contains,Lib.index]
def JM(c:UInt8):∀s:List UInt8,(match nU c.toNat (s.map UInt8.toNat)with | some n=>Int.ofNat n | none=>.negSucc 0)=Lib.indexByte s c
 | []=>rfl
 | b::l=>by
  have ih:=JM c l
  simp only[ycm,nU,qD];rw[Lib.indexByte];by_cases h:b=c
  ·subst h;simp
  ·have:¬ Nat.beq b.toNat c.toNat=true:=fun e=>h (UInt8.toNat_inj.1 (mC.1 e))
   rw[yaa this];simp only[beq_iff_eq,h,if_false]
   cases hx:nU c.toNat (l.map UInt8.toNat)with
   | none=>simp_all
   | some n=>
    grind [qA]
def zfs(c:List UInt8):∀s:List UInt8,match Af (c.map UInt8.toNat) (s.map UInt8.toNat)with
  | some p=>∃x y,p=(x.map UInt8.toNat,y.map UInt8.toNat)/\0<=Lib.index s c/\x=s.take (Lib.index s c).toNat/\y=s.drop ((Lib.index s c).toNat+c.length)
  | none=>Lib.index s c = -1
 | []=>by
  cases c with
  | nil=>exact⟨[],[],by simp,by simp[Lib.index],by simp,by simp⟩
  | cons a c=>simp[Af,Lib.index]
 | b::l=>by
  have ih:=zfs c l
  have hp:=Yz c (b::l)
  have ge:=Lib.index_ge l c
  simp only[ycm]at hp ⊢
  simp only[Af,qD,hp];rw[Lib.index];by_cases h:c.isPrefixOf (b::l)=true
  ·rw[yab h,yab h]
   grind [mP,oD,List.map_drop]
  ·rw[yaa h,yaa h]
   cases hx:Af (c.map UInt8.toNat) (l.map UInt8.toNat)with
   | none=>simp_all
   | some p=>
    rw[hx]at ih;obtain⟨x,y,rfl,h1,h2,h3⟩:=ih
    have e:¬ ((Lib.index l c == -1)=true):=by grind
    rw[yaa e];obtain⟨n,hn⟩:∃n:Nat,Lib.index l c=n:=⟨_,(Int.toNat_of_nonneg h1).symm⟩
    rw[hn]at h2 h3 ⊢
    have e2:((n:Int)+1).toNat=n+1:=by omega
    have e3:((n:Int)).toNat=n:=by omega
    rw[e2];rw[e3]at h2 h3;refine⟨b::x,y,by simp,by omega,by simp[h2],?_⟩
    grind
def Zy:jE->jE->Bool
 | .bool,.bool=>true
 | .int k,.int j=>uN k j
 | .string,.string=>true
 | .ptr a,.ptr b=>Nat.beq a b
 | .slice a,.slice b=>Nat.beq a b
 | .arr a c,.arr b d=>Nat.beq a b&&Nat.beq c d
 | .map a c,.map b d=>Nat.beq a b&&Nat.beq c d
 | .struct f,.struct g=>decide (f=g)
 | .func,.func=>true
 | .iface,.iface=>true
 | .other,.other=>true
 | _,_=>false
def WT{a b:jE}(h:Zy a b=true):a=b:=by
 cases a<;>cases b<;>simp[Zy,dO]at h ⊢<;>first | exact h | exact⟨h.1,h.2⟩
def eqTy (a b:lD):Bool:=Zy a.desc b.desc&&Nat.beq a.size b.size&&Nat.beq a.bytes b.bytes&&same.sames 10 a.zero b.zero&&bEq a.eqOk b.eqOk
def zi9{a b:lD}(h:eqTy a b=true):a=b:=by
 obtain⟨d,s,y,z,e⟩:=a
 obtain⟨d',s',y',z',e'⟩:=b
 simp only[eqTy,ybb,mC,fU,beq_iff_eq]at h;obtain⟨⟨⟨⟨h1,h2⟩,h3⟩,h4⟩,h5⟩:=h
 rw[WT h1,h2,h3,We _ _ _ h4,h5]
def allT {α:Type}(p:Nat->α->Bool):Tr α->(Nat->Nat)->Bool
 | .leaf,_=>true
 | .node l v r,f=>(match v with | some v=>p (f 0) v | none=>true)&&allT p l (fun m=>f (2*m+1))&&allT p r (fun m=>f (2*m+2))
def zjz{α:Type}{p:Nat->α->Bool}:∀(t:Tr α) (f:Nat->Nat),allT p t f=true->∀(n:Nat) v,t.get n=some v->p (f n) v=true:=by
 intro t;induction t with
 | leaf=>grind [Tr.get_leaf]
 | node l x r ihl ihr=>
  intro f h n v hv;simp only[allT,ybb]at h;grind [Tr.get_node]
def fS (l:List (List UInt8)):List Value:=l.map fun b=>.string ⟨b.toArray⟩
def cX (l:List Int):List Value:=l.map fun n=>.int .i64 n
def mu0:Mu:=⟨fun g=>if g<256 then some ⟨g,true,0,0,true⟩else none,fun _=>none⟩
def Vr{μ:Mu}:∀l:List (List UInt8),tB μ (l.map fun b=>zA.str (b.map UInt8.toNat)) (fS l)
 | []=>.nil
 | b::l=>.cons (by grind [uA,rF]) (Vr l)
def JJ{μ:Mu}:∀l:List Int,tB μ (l.map fun n=>zA.int .i64 n) (cX l)
 | []=>.nil
 | b::l=>.cons (by rw[uA]) (JJ l)
def AM{μ:Mu}{g:Nat}{l:List zA}{vs:List Value}(h:tB μ l vs)(t:TypeId):sJ μ ⟨g,true,0,0,true⟩ (.cells (Tr.ofList l) (zB l) none) (.cells vs.toArray t (0,0)):=h.rel_one rfl
def zi3{o:xG}(h:fin o=1):∃H,o=.done (.bool true) H:=by
 cases o with
 | next s=>cases h
 | fail n=>grind [fin]
 | done v H=>
  grind [fin,Cm]
end Go.Am
namespace Go.Am
open Go Go.RowKit
def oT(c:Nat):List Nat->Nat
 | []=>0
 | x::r=>bif Nat.beq x c then oT c r+1 else oT c r
def La(a:List zA)(_:xA):Option zA:=match a with | [.str s,.str [c]]=>some (.int .i64 (.ofNat (oT c s))) | _=>none
end Go.Am
