/- Trees: operations, slots and local blocks are sound. -/
import Derived.Lib.Bytealg
import Derived.Lib.Index
import Derived.Lib.IndexMore
import Derived.Lib.ItoaNum
import Derived.Shelf.Strings.Builder1
import Derived.Test.YtfmlbimokklmgaaGreatDoorB05
set_option linter.all false
noncomputable section
namespace Go.Am
open Go Go.RowKit
def fY(C:rA)(A:Tr zC)(f:Nat)(args:List zA)(H:xA):sB:=
 bif Nat.blt f yo then
  match C.prims.get f with
  | some g=>ob (g args H) fun p=>some (⟨p.1,false⟩,p.2)
  | none=>nC C A (.func f) args H
 else nC C A (.yld (f-yo)) args H
theorem Fr{C:rA}{A:Tr zC}{f:Nat}{args:List zA}{H:xA}(h:Nat.blt f yo=true):fY C A f args H=(match C.prims.get f with
  | some g=>ob (g args H) fun p=>some (⟨p.1,false⟩,p.2)
  | none=>nC C A (.func f) args H):=by grind [fY]
theorem LC{C:rA}{A:Tr zC}{l:Nat}{args:List zA}{H:xA}:fY C A (yo+l) args H=nC C A (.yld l) args H:=by
 unfold fY;have:Nat.blt (yo+l) yo=false:=Bool.eq_false_iff.2 fun e=>by grind [vC]
 simp_all
def oI:fA:=fun _ _=>False
def lB (base:Nat)(X0:Xt)(E Q:fA)(d:sB):Prop:=∃o t' HA' X',d=some (o,HA')/\Ov base t' X' HA'/\gH X0 X'/\if o.p=true then E o.v t' else Q o.v t'
theorem lB.mono{base:Nat}{X0:Xt}{E Q E' Q':fA}{d:sB}(h:lB base X0 E Q d)(k:∀v t,Q v t->Q' v t)(k':∀v t,E v t->E' v t:=by exact fun _ _ h=>h):lB base X0 E' Q' d:=by
 obtain⟨o,t',HA',X',h1,h2,h3,h4⟩:=h
 refine⟨o,t',HA',X',h1,h2,h3,?_⟩
 split at h4
 ·rename_i hp;rw[yab hp];exact k' _ _ h4
 ·rename_i hp;rw[yaa hp];exact k _ _ h4
theorem hO{base:Nat}{X0:Xt}{Q:fA}{d:sB}:lB base X0 oI Q d ↔ ∃v t' HA' X',d=some (⟨v,false⟩,HA')/\Ov base t' X' HA'/\gH X0 X'/\Q v t':=by
 constructor
 ·rintro⟨⟨v,p⟩,t',HA',X',h1,h2,h3,h4⟩
  cases p with
  | true=>exact h4.elim
  | false=>exact⟨v,t',HA',X',h1,h2,h3,h4⟩
 ·rintro⟨v,t',HA',X',h1,h2,h3,h4⟩
  exact⟨_,t',HA',X',h1,h2,h3,h4⟩
structure rO (C:rA) (A:Tr zC) (E:fA) (W:pF):Prop where
 fn:∀f args t R,Nat.blt f pn=true->W f args t R->∀X HA,Ov C.base t X HA->lB C.base X E R (fY C A f args HA)
 rd:∀l args t R,W (yo+l) args t R->∀X HA,Ov C.base t X HA->lB C.base X oI R (fY C A (yo+l) args HA)
 raise:∀args t R,W pn args t R->∃v,args=[v]/\E v t
section
variable {W J:pF}{t:Tr vA}{X X0:Xt}{HA:xA}{e eA:kC}{C:rA}{A:Tr zC}{ν:Nat->Nat}{ae:bM}{lo:Tr (List zA)}{k:pL}{kl:KLo}{Q E:fA}
theorem jK{f:mI}{H:xA}{v:zA}(h:f C e H=some v):lv f C e H=.val v H:=by unfold lv;rw[h]
theorem ZL{op:Op}{H:xA}{v:zA}(h:(vF op).f C e H=some v):(rE op).f C e H=.val v H:=by
 cases op
 case move x=>exact jK h
 case assign x=>exact jK h
 case pick c a b=>exact jK h
 case load t a=>exact jK h
 case nilCheck x=>exact jK h
 case binOp op t x y u=>exact jK h
 case unOp op t x=>exact jK h
 case makeInterface t x=>exact jK h
 case makeFunc fn a b=>exact jK h
 case slice t x lo hi mx=>exact jK h
 case fieldAddr s x f=>exact jK h
 case field t x f=>exact jK h
 case indexAddr t x i=>exact jK h
 case index t x i=>exact jK h
 case extract t i=>exact jK h
 case build t ps=>exact jK h
 case typeAssert x t u ok=>exact jK h
 case lookup t x i ok=>exact jK h
 case convert s d x=>
  show bV s d x C e H=_
  have h:cN s d x C e H=some v:=h
  unfold bV;rw[h]
 case call c=>
  have h:(mR c c.callee).f C e H=some v:=h
  show(Fb c c.callee).f C e H=_
  cases hc:c.callee with
  | value f=>rw[hc]at h;cases h
  | invoke a b=>rw[hc]at h;cases h
  | builtin b=>
   rw[hc]at h
   cases b
   case len=>exact jK (f:=vP c) h
   case max=>exact jK (f:=vU c) h
   case min=>exact jK (f:=wU c) h
   all_goals exact absurd (show(none:Option zA)=some v from h) (by simp)
 all_goals exact absurd (show(none:Option zA)=some v from h) (by simp)
theorem iZ{x:Option (zA × xA)}{v:zA}{H':xA}{kd:zA->xA->sB}{φ:aD}(h:x=some (v,H')):jF φ (fJ x) HA kd=kd v H':=by subst h;rfl
theorem cS(ho:Ov C.base t X HA){x:xA->Option (zA × xA)}(hx:zS C.base x){K:zA->T}(h:oA C.base W J (.heavy x K) t Q){kd:zA->xA->sB}{φ:aD}
  (hK:∀v t' HA' X',Ov C.base t' X' HA'->gH X X'->oA C.base W J (K v) t' Q->lB C.base X0 E Q (kd v HA')) {r:iI} (hr:∀p,x HA=some p->jF φ r HA kd=kd p.1 p.2):lB C.base X0 E Q (jF φ r HA kd):=by
 have h:=h HA.next ho.nextT ho.base
 rw[rX]at h;obtain⟨⟨v,H'⟩,h1,h2⟩:=h
 obtain⟨HA',h3,h4⟩:=hx _ _ _ _ _ ho h1
 grind [gH.refl]
theorem zbj{f:Nat}(h:Nat.blt f pn=true):Nat.blt f yo=true/\f≠pn:=by
 have h:=vC.1 h
 unfold pn at h;exact⟨vC.2 (by unfold yo;omega),by unfold pn;omega⟩
theorem Yn(hW:rO C A E W)(ho:Ov C.base t X HA)(hX:gH X0 X){f:Nat}(hf:Nat.blt f pn=true){args:List zA}{K:zA->T}(h:W f args t fun v t'=>oA C.base W J (K v) t' Q){kd:zA->xA->sB}
  (hK:∀v t' HA' X',Ov C.base t' X' HA'->gH X X'->oA C.base W J (K v) t' Q->lB C.base X0 E Q (kd v HA')):lB C.base X0 E Q (jF (nC C A) (Fs C HA args f (C.prims.get f)) HA kd):=by
 obtain⟨hf1,hf2⟩:=zbj hf
 obtain⟨⟨v,p⟩,t',HA',X',h1,h2,h3,h4⟩:=hW.fn _ _ _ _ hf h X HA ho
 rw[Fr hf1]at h1;unfold Fs
 cases hp:C.prims.get f with
 | some g=>
  rw[hp]at h1;rw[tA]at h1;obtain⟨q,h1,h5⟩:=h1
  cases h5;simp only[h1];exact hK _ _ _ _ h2 h3 h4
 | none=>
  rw[hp]at h1;have h1:nC C A (.func f) args HA=some (⟨v,p⟩,HA'):=h1
  show lB C.base X0 E Q (ob (nC C A (.func f) args HA) fun p=>bif p.1.p then some p else kd p.1.v p.2)
  rw[h1]
  cases p with
  | true=>exact⟨_,t',HA',X',rfl,h2,fun b y hb=>h3 b y (hX b y hb),h4⟩
  | false=>exact hK _ _ _ _ h2 h3 h4
theorem QK(hW:rO C A E W)(ho:Ov C.base t X HA){l:Nat}{args:List zA}{K:zA->T}(h:W (yo+l) args t fun v t'=>oA C.base W J (K v) t' Q){kd:zA->xA->sB}
  (hK:∀v t' HA' X',Ov C.base t' X' HA'->gH X X'->oA C.base W J (K v) t' Q->lB C.base X0 E Q (kd v HA')):lB C.base X0 E Q (jF (nC C A) (.round l args) HA kd):=by
 have h0:=hW.rd _ _ _ _ h X HA ho
 rw[hO]at h0;obtain⟨v,t',HA',X',h1,h2,h3,h4⟩:=h0
 rw[LC]at h1;show lB C.base X0 E Q (ob (nC C A (.yld l) args HA) fun p=>yB (!p.1.p) (kd p.1.v p.2))
 rw[h1];exact hK _ _ _ _ h2 h3 h4
theorem Ov.setX{base:Nat}(h:Ov base t X HA){b:Nat}{y:vA}(hb:X b=some y)(z:vA):Ov base t (fun c=>if c=b then some z else X c) (Am.setBlk HA b z):=by
 obtain⟨g1,g2,g3⟩:=h.ext b y hb
 refine⟨h.base,fun c hc=>?_,fun c u hc=>?_,h.lt⟩
 ·split at hc
  ·cases hc
  ·rename_i hne
   show(HA.t.set b z).get c=_
   rw[Tr.get_set,yaa hne];exact h.same c hc
 ·show(HA.t.set b z).get c=_/\_/\c<HA.next
  rw[Tr.get_set];split at hc
  ·simp_all
  ·rename_i hne;rw[yaa hne];exact h.ext c u hc
theorem Ov.newX{base:Nat}(h:Ov base t X HA)(z:vA):Ov base t (fun c=>if c=HA.next then some z else X c) (Am.newBlk HA z):=by
 refine⟨Nat.le_succ_of_le h.base,fun c hc=>?_,fun c u hc=>?_,fun b y hb=>Nat.lt_succ_of_lt (h.lt b y hb)⟩
 ·split at hc
  ·cases hc
  ·rename_i hne
   show(HA.t.set HA.next z).get c=_
   rw[Tr.get_set,yaa hne];exact h.same c hc
 ·show(HA.t.set HA.next z).get c=_/\_/\c<HA.next+1
  rw[Tr.get_set];split at hc
  ·rename_i e;cases hc;subst e;rw[yab rfl];exact⟨rfl,h.nextT,Nat.lt_succ_self _⟩
  ·rename_i hne;rw[yaa hne];have:=h.ext c u hc;grind
theorem TO(ho:Ov C.base t X HA)(hl:Li C.base X0 X ν lo){d off:Nat}{l l':List zA}{u:zA}{sz:Nat}(h1:lo.get d=some l)(h2:aS l off sz u=some l')(h3:cB zA.one u.cells=true) :
  Nat.beq (bA u.cells) sz=true/\l'.length=l.length/\∃c',wI C HA (ν d) off u.cells=some (setBlk HA (ν d) (.cells c' l.length none))/\∀j a,l'[j]?=some a->c'.get j=some a:=by
 obtain⟨_,hb,c,hc,hg⟩:=hl d l h1
 have hx:=(ho.ext _ _ hc).1
 unfold aS at h2;simp only[xB,ybb,qE,sD,xG,rR,xP,Option.some.injEq]at h2;obtain⟨⟨g1,g2⟩,g3⟩:=h2
 subst g3;refine⟨by grind [sD],?_,c.setMany u.cells off,?_,?_⟩
 ·grind
 ·grind [wI,Nat.blt,bD,xB,qA,vA.asCells,qE,sD]
 ·intro j a hj
  rw[Tr.get_setMany];grind
theorem YD{y:rC}{u:zA}(h:cB zA.one (Fq y u)=true):Fq y u=u.cells:=by
 grind [Fq,dH,Vp]
theorem QS{op:Op}{v:zA}{kd:zA->xA->sB}{φ:aD}(h:(vF op).f C eA HA=some v):jF φ ((rE op).f C eA HA) HA kd=kd v HA:=by rw[ZL h];rfl
theorem UJ{la:List Nat}{dst:Option Nat}{d:Nat}(h:Jp la dst=some d):dst=some d:=by
 unfold Jp at h;grind
theorem tH_ok(hW:rO C A E W)(hX:gH X0 X)(he:yS e eA)(ha:Gq ν ae eA)(ho:Ov C.base t X HA)(hl:Li C.base X0 X ν lo){la:List Nat}{dst:Option Nat}{op:Op}
  (h:oA C.base W J (tH C la dst op e ae lo k kl) t Q) {kd:zA->xA->sB}
  (hK:∀v t' HA' X',Ov C.base t' X' HA'->gH X X'->oA C.base W J (k.K v) t' Q->lB C.base X0 E Q (kd v HA'))
  (hKd:∀v t' HA' X',Ov C.base t' X' HA'->gH X X'->oA C.base W J (k.Kd v) t' Q->lB C.base X0 E Q (kd v HA'))
  (hKA:∀d off,oA C.base W J (k.KA d off) t Q->lB C.base X0 E Q (kd (.ptr (ν d) off) HA))
  (hnew:∀d l,Jp la dst=some d->oA C.base W J (kl.new d l) t Q->lB C.base X0 E Q (kd (.ptr HA.next 0) (dE HA l none)))
  (hset:∀d l l' c',lo.get d=some l->l'.length=l.length->(∀j a,l'[j]?=some a->c'.get j=some a)->oA C.base W J (kl.set d l') t Q->lB C.base X0 E Q (kd rD (setBlk HA (ν d) (.cells c' l.length none)))) :
  lB C.base X0 E Q (jF (nC C A) ((rE op).f C eA HA) HA kd):=by
 have light:∀(op:Op),oA C.base W J (tL C op e ae lo k) t Q->lB C.base X0 E Q (jF (nC C A) ((rE op).f C eA HA) HA kd):=by
  intro op h;obtain⟨v,h1,h2⟩:=Sl (R:=fun v=>lB C.base X0 E Q (kd v HA)) he ha ho hl h (fun v h=>hK v _ _ _ ho (gH.refl _) h) (fun v h=>hKd v _ _ _ ho (gH.refl _) h) hKA
  grind [QS]
 cases op<;>simp only[tH]at h<;>try (exact light _ h)
 case alloc ty=>
  show lB C.base X0 E Q (jF _ (Aj ty C eA HA) HA kd)
  rw[dC]at h;split at h
  ·rename_i ht
   have ht:qJ C ty=none:=by
    cases hx:qJ C ty with
    | none=>rfl
    | some _=>rw[hx]at ht;cases ht
   split at h
   ·rename_i d hd
    rw[xE]at h;obtain⟨y,h1,h2⟩:=h
    unfold Aj;rw[h1,ht];exact hnew d _ hd h2
   ·refine cS ho MZ h hK fun p hp=>?_
    unfold Aj;rw[ht];have hp:(ob (C.tys.get ty) fun ty=>some (.ptr HA.next 0,dE HA ty.zero none))=some p:=hp
    rw[hp];rfl
  ·refine cS ho NA h hK fun p hp=>?_
   unfold Aj;unfold Mc at hp;rw[hp];rfl
 case box ty x=>
  rw[dC]at h;show lB C.base X0 E Q (jF _ (yY ty x C eA HA) HA kd)
  unfold yY;split at h
  ·rename_i ht
   have ht:qJ C ty=none:=by
    cases hx:qJ C ty with
    | none=>rfl
    | some _=>rw[hx]at ht;cases ht
   rw[xE]at h;obtain⟨v,h1,h⟩:=h
   rw[kE he h1,ht];split at h
   ·rename_i d hd
    rw[xE]at h;obtain⟨y,_,h⟩:=h
    rw[dC]at h;split at h
    ·exact hnew d _ hd h
    ·have h:if zA.one v=true then oA C.base W J (kl.new d [v]) t Q else False:=h
     split at h
     ·rename_i h1
      have:=hnew d _ hd h
      rw[<- Vp h1]at this;exact this
     simp_all
   ·refine cS ho zbx h hK fun p hp=>?_
    cases hp;rfl
  ·rw[xE]at h
   obtain⟨v,h1,h⟩:=h
   rw[kE he h1];refine cS ho MX h hK fun p hp=>?_
   cases hp;rfl
 case buildSlice ty n ps=>
  rw[xE]at h;obtain⟨vs,h1,h⟩:=h
  show lB C.base X0 E Q (jF _ (Ai ty n ps C eA HA) HA kd)
  refine cS ho MW h hK fun p hp=>?_
  refine iZ (v:=p.1) (H':=p.2) ?_
  rw[Xy he h1];exact hp
 case makeMap ty r=>
  cases r with
  | some _=>simp_all
  | none=>
   simp only[]at h;show lB C.base X0 E Q (jF _ (Ke none C eA HA) HA kd)
   refine cS ho MQ h hK fun p hp=>?_
   cases hp;rfl
 case makeSlice ty l c=>
  simp only[xE]at h;obtain⟨a,h1,b,h2,h⟩:=h
  show lB C.base X0 E Q (jF _ (Xh ty l c C eA HA) HA kd)
  refine cS ho MP h hK fun p hp=>?_
  refine iZ (v:=p.1) (H':=p.2) ?_
  grind [kE,iN,qA]
 case store ty a x=>
  unfold Zz at h;show lB C.base X0 E Q (jF _ (Kb ty a x C eA HA) HA kd)
  split at h
  ·rename_i p hp
   simp only[xE]at h;obtain⟨u,h1,y,h2,l,h3,l',h4,h5⟩:=h
   have h5:if cB zA.one (Fq y u)=true then oA C.base W J (kl.set p.1 l') t Q else False:=h5
   split at h5
   ·rename_i hone
    have hcell:=YD hone
    rw[hcell]at hone h4;have h4:aS l p.2 y.size u=some l':=h4
    obtain⟨g1,g2,c',g3,g4⟩:=TO ho hl h3 h4 hone
    have:=hset p.1 l l' c' h3 g2 g4 h5
    have e1:jF (nC C A) (Kb ty a x C eA HA) HA kd=kd rD (setBlk HA (ν p.1) (.cells c' l.length none)):=by
     refine iZ ?_
     rw[h2,qA,Bi ha hp,qA];simp only[zA.asPtr,qA];rw[kE he h1,qA,g1,g3];rfl
    simp_all
   simp_all
  ·simp only[xE]at h
   obtain⟨av,h1,u,h2,h⟩:=h
   refine cS ho MN h hKd fun p hp=>?_
   refine iZ (v:=p.1) (H':=p.2) ?_
   grind [kE,uC,qA]
 case convert s d x=>
  rw[dC]at h;split at h
  ·rename_i hd
   rw[xE]at h;obtain⟨u,h1,h⟩:=h
   show lB C.base X0 E Q (jF _ (bV s d x C eA HA) HA kd)
   have hn:cN s d x C eA HA=none:=by
    rw[GJ (kE he h1)]
    cases hq:sZ C s d HA u with
    | none=>rfl
    | some q=>
     exfalso
     unfold sZ at hq;simp only[tA]at hq;obtain⟨sy,g1,dy,g2,g3⟩:=hq
     have hd:=sC.1 hd
     unfold yH at hd;rw[g2]at hd;have hd:dy.desc.tag=4:=hd
     unfold yT at g3;have n1:dy.desc.asInt=none:=by cases hz:dy.desc<;>rw[hz]at hd<;>first | rfl | (cases hd;done)
     have n2:dy.desc.isString=false:=by unfold yE.isString;rw[hd];rfl
     rw[n1,n2]at g3
     cases g3
   unfold bV;rw[hn];simp only[];refine cS ho MM h hK fun p hp=>?_
   refine iZ (v:=p.1) (H':=p.2) ?_
   rw[kE he h1];exact hp
  grind [tL]
 case insert ty m key x=>
  simp only[xE]at h;obtain⟨mv,h1,kv,h2,u,h3,h⟩:=h
  show lB C.base X0 E Q (jF _ (Ah ty m key x C eA HA) HA kd)
  refine cS ho Zh h hKd fun p hp=>?_
  refine iZ (v:=p.1) (H':=p.2) ?_
  rw[kE he h1,kE he h2,kE he h3];exact hp
 case mapUpdate ty m key x=>
  simp only[xE]at h;obtain⟨mv,h1,kv,h2,u,h3,h⟩:=h
  show lB C.base X0 E Q (jF _ (Ah ty m key x C eA HA) HA kd)
  refine cS ho Zh h hKd fun p hp=>?_
  refine iZ (v:=p.1) (H':=p.2) ?_
  rw[kE he h1,kE he h2,kE he h3];exact hp
 case panic x=>
  have h:oA C.base W J (kB (ev x e) fun v=>kB v.asIface fun p=>.call pn [.iface p.1 p.2] k.K) t Q:=h
  simp only[xE]at h;obtain⟨v,h1,p,h2,h3⟩:=h
  obtain⟨u,e1,e2⟩:=hW.raise _ _ _ h3
  cases e1
  show lB C.base X0 E Q (jF _ (Kc x C eA HA) HA kd)
  unfold Kc;rw[kE he h1,qA,h2,qA];exact⟨⟨_,true⟩,t,HA,X,rfl,ho,hX,e2⟩
 case call c=>
  show lB C.base X0 E Q (jF _ ((Fb c c.callee).f C eA HA) HA kd)
  split at h
  ·rename_i f hc
   rw[hc];show lB C.base X0 E Q (jF _ (Cp f c.args C eA HA) HA kd)
   have bH:∀ {fv:zA} {aq:List zA},ev f e=some fv->lM c.args.toList e=some aq->oA C.base W J (.callv fv aq k.K) t Q->lB C.base X0 E Q (jF (nC C A) (Cp f c.args C eA HA) HA kd):=by
    intro fv aq h1 h2 h;have h:xD (wK fv aq) fun p=>W p.1 p.2 t fun v t'=>oA C.base W J (k.K v) t' Q:=h
    rw[rX]at h;obtain⟨⟨g,aq'⟩,h3,h4⟩:=h
    unfold wK at h3;rw[tA]at h3;obtain⟨p,h5,h6⟩:=h3
    have e0:Cp f c.args C eA HA=zd5 C HA (qD p.2.1 aq) p.2.2 p.1:=by
     unfold Cp yQ;rw[kE he h1,qA,h5,qA,Xx he h2,qA,qA];rfl
    rw[e0]
    cases hp:p.1 with
    | func g'=>
     rw[hp]at h6;simp only[xB]at h6;obtain⟨hg,h6⟩:=h6
     cases h6;exact Yn hW ho hX hg h4 hK
    | yld l=>
     rw[hp]at h6;simp only[xB,ybb]at h6;obtain⟨⟨ha,hb⟩,h6⟩:=h6
     cases h6;have ea:p.2.1=[]:=by cases hx:p.2.1 with | nil=>rfl | cons _ _=>rw[hx]at ha;cases ha
     have eb:p.2.2=[]:=by cases hx:p.2.2 with | nil=>rfl | cons _ _=>rw[hx]at hb;cases hb
     rw[ea,eb];exact QK hW ho h4 hK
   unfold AF at h;split at h
   ·rename_i g
    rw[aM,xE]at h;obtain⟨hg,aq,h1,h⟩:=h
    refine bH (fv:=.func (.func g) [] []) rfl h1 ?_
    show xD (wK (.func (.func g) [] []) aq) _
    have e2:wK (.func (.func g) [] []) aq=some (g,aq):=by
     show yB (Nat.blt g pn) (some (g,qD (qD [] aq) []))=_
     rw[hg,xG,xG];simp[yB]
    rw[e2];exact h
   grind [xE]
  ·rename_i b hb
   rw[hb];have lt:oA C.base W J (Hr C c e k b) t Q->lB C.base X0 E Q (jF (nC C A) ((Fb c (.builtin b)).f C eA HA) HA kd):=by
    intro h;have:=light (.call c) (by show oA C.base W J (match c.callee with | .builtin b=>Hr C c e k b | _=>.fail) t Q;simp_all)
    have e1:(rE (.call c)).f C eA HA=(Fb c c.callee).f C eA HA:=rfl
    simp_all
   unfold AD at h;split at h
   ·simp only[xE,two']at h
    obtain⟨ty,h1,u,h2,p,h3,h⟩:=h
    show lB C.base X0 E Q (jF _ (Fc c C eA HA) HA kd)
    refine cS ho MY h hK fun q hq=>?_
    refine iZ (v:=q.1) (H':=q.2) ?_
    grind [yJ,tA,xB,Ry]
   grind
  ·cases h
end
end Go.Am
namespace Go.Am
open Go Go.RowKit
structure bE (base:Nat) (X0:Xt) (kf:Nat) (ν:Nat->Nat) (X:Xt) (st:tG) (tm:Tm) (HA:xA) (t:Tr vA):Prop where
 ov:Ov base t X HA
 le:gH X0 X
 k:st.tm.k=kf
 kA:tm.k=kf
 tms:∀i v,st.tm.get i=some v->tm.get i=some v
 ads:∀i p,uK i st.ad=some p->tm.get i=some (.ptr (ν p.1) p.2)
 lo:Li base X0 X ν st.lo
 inj:∀d d' l l',st.lo.get d=some l->st.lo.get d'=some l'->ν d=ν d'->d=d'
theorem Gd{i:Nat}{a:Nat × Nat × Nat}{l:List (Nat × Nat × Nat)}:uK i (a::l)=if i=a.1 then some a.2 else uK i l:=by
 grind [uK,bI,sC]
theorem ZU{i:Nat}{p:Nat × Nat}:∀ {l:List (Nat × Nat × Nat)},uK i l=some p->(i,p.1,p.2)∈l:=by
 intro l;induction l with
 | nil=>intro h;cases h
 | cons a l ih=>
  grind [Gd]
theorem fZ{n:Nat}{tm:Tm}{dst:Option Nat}{v:zA}:(putA n tm dst v).k=tm.k:=by
 unfold putA putB
 cases dst with
 | none=>rfl
 | some d=>
  grind [Ej,Tm.set,bI]
theorem Tm.set_k{tm:Tm}{i:Nat}{v:zA}:(tm.set i v).k=tm.k:=by unfold Tm.set;rw[bI];split<;>rfl
section
variable {W J:pF}{t:Tr vA}{X X0:Xt}{HA:xA}{C:rA}{A:Tr zC}{ν:Nat->Nat}{Q E:fA}{kf n:Nat}{st:tG}{tm:Tm}
theorem bE.put(h:bE C.base X0 kf ν X st tm HA t){dst:Option Nat}{v:zA}{lt:Bool}{κ:KT}(hw:oA C.base W J (cP n dst v lt st κ) t Q) :
  ∃st',bE C.base X0 kf ν X st' (putA n tm dst v) HA t/\oA C.base W J (κ st') t Q:=by
 unfold cP at hw
 cases dst with
 | none=>exact⟨st,h,hw⟩
 | some d=>
  simp only[dC]at hw;split at hw
  ·rename_i hd
   rw[aM]at hw;obtain⟨h1,h2⟩:=hw
   refine⟨_,?_,h2⟩
   refine⟨h.ov,h.le,(by grind [k,Tm.set_k]),by rw[fZ];exact h.kA,?_,?_,h.lo,h.inj⟩
   ·intro i u hi
    have hi2:(st.tm.set d v).get i=some u:=hi
    rw[Tm.get_set]at hi2;rw[cH];split at hi2
    ·simp_all
    ·rename_i e
     rw[yaa (fun hh=>e (by simp_all))]
     exact h.tms i u hi2
   ·intro i p hi
    rw[cH,yaa]
    ·exact h.ads i p hi
    ·rintro⟨e,_⟩
     injection e with e
     subst e;rw[hi]at h1
     cases h1
  ·rename_i hd
   refine⟨st,?_,hw⟩
   simp_all [putA,putB,Ej,dC,yaa]
theorem bE.putA(h:bE C.base X0 kf ν X st tm HA t){dst:Option Nat}{d off:Nat}{κ:KT}(hw:oA C.base W J (Sk n dst d off st κ) t Q) :
  ∃st',bE C.base X0 kf ν X st' (Am.putA n tm dst (.ptr (ν d) off)) HA t/\oA C.base W J (κ st') t Q:=by
 unfold Sk at hw;rw[xE]at hw;obtain⟨i,h1,hw⟩:=hw
 subst h1;simp only[aM]at hw;obtain⟨h2,h3,h4⟩:=hw
 refine⟨_,?_,h4⟩
 refine⟨h.ov,h.le,h.k,by rw[fZ];exact h.kA,?_,?_,h.lo,h.inj⟩
 ·intro j u hj
  rw[cH,yaa]
  ·exact h.tms j u hj
  ·rintro⟨e,_⟩
   injection e with e
   subst e;have hj:st.tm.get i=some u:=hj
   rw[hj]at h3
   cases h3
 ·intro j p hj
  have hj:uK j ((i,d,off)::st.ad)=some p:=hj
  rw[Gd]at hj;rw[cH];split at hj
  ·rename_i e;cases hj;rw[yab ⟨by rw[e],by simp_all⟩]
  ·rename_i e
   rw[yaa (fun hh=>e (by simp_all))]
   exact h.ads j p hj
theorem bE.new(h:bE C.base X0 kf ν X st tm HA t){d:Nat}{l:List zA}{κ:KT}(hw:oA C.base W J (tNew n d l st κ) t Q) :
  ∃st' ν' X',bE C.base X0 kf ν' X' st' (Am.putA n tm (some d) (.ptr HA.next 0)) (dE HA l none) t/\oA C.base W J (κ st') t Q:=by
 unfold tNew at hw;simp only[aM]at hw;obtain⟨h1,h2,h3,h4⟩:=hw
 have hx:=h.ov.nextX
 refine⟨_,fun c=>if c=d then HA.next else ν c,fun c=>if c=HA.next then some (.cells (Tr.ofList l) (bA l) none)else X c,?_,h4⟩
 refine⟨h.ov.newX _,?_,h.k,by rw[fZ];exact h.kA,?_,?_,?_,?_⟩
 ·intro b y hb
  have:X b=some y:=h.le b y hb
  grind
 ·intro j u hj
  rw[cH,yaa]
  ·exact h.tms j u hj
  ·rintro⟨e,_⟩
   injection e with e
   subst e;have hj:st.tm.get d=some u:=hj
   rw[hj]at h2
   cases h2
 ·intro j p hj
  have hj:uK j ((d,d,0)::st.ad)=some p:=hj
  rw[Gd]at hj;rw[cH];split at hj
  ·rename_i e
   cases hj;rw[yab ⟨by rw[e],by simp_all⟩];show some (zA.ptr HA.next 0)=some (zA.ptr (if d=d then HA.next else ν d) 0)
   rw[yab rfl]
  ·rename_i e
   rw[yaa (fun hh=>e (by simp_all))]
   have hm:=ZU hj
   unfold EQ at h3;rw[dH,ycb]at h3;have:=h3 _ hm
   simp only[dC]at this;have hne:p.1≠d:=by
    simp_all
   show Tm.get tm j=some (zA.ptr (if p.1=d then HA.next else ν p.1) p.2)
   rw[yaa hne];exact h.ads j p hj
 ·intro c m hc
  have hc:(st.lo.set d l).get c=some m:=hc
  rw[Tr.get_set]at hc;show X0 (if c=d then HA.next else ν c)=none/\C.base<=(if c=d then HA.next else ν c)/\∃c',(if (if c=d then HA.next else ν c)=HA.next then some (vA.cells (Tr.ofList l) (bA l) none)else X (if c=d then HA.next else ν c))=some (.cells c' m.length none)/\∀j a,m[j]?=some a->c'.get j=some a
  split at hc
  ·rename_i e
   cases hc;simp only[e,if_true];refine⟨?_,h.ov.base,Tr.ofList l,by rw[sD],fun j a hj=>by grind [Tr.get_ofList]⟩
   cases hq:X0 HA.next with
   | none=>rfl
   | some z=>have:=h.le _ _ hq;simp_all
  ·rename_i e
   simp only[yaa e];obtain⟨g1,g2,c',g3,g4⟩:=h.lo c m hc
   grind
 ·intro c c' m m' hc hc' he
  have hc:(st.lo.set d l).get c=some m:=hc
  have hc':(st.lo.set d l).get c'=some m':=hc'
  have he:(if c=d then HA.next else ν c)=(if c'=d then HA.next else ν c'):=he
  rw[Tr.get_set]at hc hc'
  split at hc<;>split at hc'
  ·rename_i e1 e2;rw[e1,e2]
  ·rename_i e1 e2
   rw[yab e1,yaa e2]at he;obtain⟨_,_,_,g3,_⟩:=h.lo c' m' hc'
   simp_all
  ·rename_i e1 e2
   rw[yaa e1,yab e2]at he;obtain⟨_,_,_,g3,_⟩:=h.lo c m hc
   simp_all
  ·rename_i e1 e2
   rw[yaa e1,yaa e2]at he;exact h.inj c c' m m' hc hc' he
theorem bE.setLo(h:bE C.base X0 kf ν X st tm HA t){d:Nat}{l l':List zA}{c':Tr zA}(h1:st.lo.get d=some l)(h2:l'.length=l.length)(h3:∀j a,l'[j]?=some a->c'.get j=some a) :
  ∃X',bE C.base X0 kf ν X' ⟨st.tm,st.ad,st.lo.set d l',st.lit⟩ tm (setBlk HA (ν d) (.cells c' l.length none)) t:=by
 obtain⟨g1,g2,c,g3,g4⟩:=h.lo d l h1
 refine⟨_,h.ov.setX g3 _,?_,h.k,h.kA,h.tms,h.ads,?_,?_⟩
 ·intro b y hb
  show(if b=ν d then _ else X b)=some y
  rw[yaa]
  ·exact h.le b y hb
  grind
 ·intro e m he
  have he:(st.lo.set d l').get e=some m:=he
  rw[Tr.get_set]at he;split at he
  ·simp_all
  ·rename_i e1
   obtain⟨k1,k2,k3,k4,k5⟩:=h.lo e m he
   refine⟨k1,k2,k3,?_,k5⟩
   show(if ν e=ν d then _ else X (ν e))=_
   rw[yaa,k4];intro e2;exact e1 (h.inj e d m l he h1 e2)
 ·intro e e' m m' he he' hv
  have he:(st.lo.set d l').get e=some m:=he
  have he':(st.lo.set d l').get e'=some m':=he'
  rw[Tr.get_set]at he he'
  have x1:∃q,st.lo.get e=some q:=by
   grind
  have x2:∃q,st.lo.get e'=some q:=by
   grind
  exact h.inj e e' _ _ x1.choose_spec x2.choose_spec hv
theorem bE.later(h:bE C.base X0 kf ν X st tm HA t){X':Xt}{HA':xA}{t':Tr vA}(ho:Ov C.base t' X' HA')(hx:gH X X'):bE C.base X0 kf ν X' st tm HA' t':=
 ⟨ho,h.le.trans hx,h.k,h.kA,h.tms,h.ads,fun d l hd=>by
  obtain⟨g1,g2,c,g3,g4⟩:=h.lo d l hd
  exact⟨g1,g2,c,hx _ _ g3,g4⟩,h.inj⟩
theorem Pt{ty:Nat}{v:zA}(h:Fi C ty v=true):qY C ty v:=by
 unfold Fi at h;unfold qY
 cases hy:C.tys.get ty with
 | none=>trivial
 | some y=>
  rw[hy]at h;simp only at h ⊢
  unfold Fh
  cases hd:y.desc<;>rw[hd]at h<;>simp only at h ⊢
  case bool=>
   have:=sC.1 h
   cases v<;>simp only[zA.tag]at this<;>first
    | exact⟨_,rfl⟩
    | (cases this;done)
  case int k=>
   cases v<;>simp only[zA.asIntK]at h<;>first
    | exact⟨_,by rw[qN.1 h]⟩
    | (cases h;done)
  case string=>
   have:=sC.1 h
   cases v<;>simp only[zA.tag]at this<;>first
    | exact⟨_,rfl⟩
    | (cases this;done)
theorem Xr{ty:Nat}{v:zA}(h:(!Nat.ble (yH C ty) 2)=true):qY C ty v:=by
 unfold qY;unfold yH at h
 cases hy:C.tys.get ty with
 | none=>trivial
 | some y=>
  rw[hy]at h;simp only at h ⊢
  unfold Fh
  cases hd:y.desc<;>rw[hd]at h<;>first
   | trivial
   | (simp only[yE.tag]at h;exact absurd h (by decide))
theorem VV:∀(zs l:List zA) (pre:List zA),mQ zs l=true->Es zs (cellsOf (pre++l)) pre.length=l:=by
 intro zs;induction zs with
 | nil=>intro l pre h;cases l with
  | nil=>rfl
  | cons a l=>cases h
 | cons z zs ih=>
  intro l pre h
  cases l with
  | nil=>cases h
  | cons a l=>
   unfold mQ at h;rw[ybb]at h;show Wb z (cellsOf (pre++a::l)) pre.length::Es zs (cellsOf (pre++a::l)) (pre.length+1)=a::l
   have e2:=ih l (pre++[a]) h.2
   rw[ybz]at e2;simp only[List.cons_append,yah,ybg,ybn,ybx]at e2;rw[e2];congr 1
   have hg:(pre++a::l)[pre.length]?=some a:=by simp
   have h1:=h.1
   cases z<;>simp only[rY]at h1<;>simp only[Wb,cellsOf,Fv,Xe,strAt,Hf,hg]<;>try (cases h1;done)
   case bool=>
    have:=sC.1 h1
    cases a<;>simp only[zA.tag]at this<;>first
     | rfl
     | (cases this;done)
   case int k _=>
    cases a<;>simp only[zA.asIntK]at h1<;>first
     | (rw[qN.1 h1];done)
     | (cases h1;done)
   case str=>
    have:=sC.1 h1
    cases a<;>simp only[zA.tag]at this<;>first
     | rfl
     | (cases this;done)
theorem AB{ty:Nat}{v:zA}{K:zA->T}(h:oA C.base W J (Hq C ty v K) t Q):qY C ty v/\oA C.base W J (K v) t Q:=by
 unfold Hq at h;unfold qY;have agg:∀zs,oA C.base W J (bif Nat.ble (bA zs) 40 then .asG zs v fun X=>K (.agg (Es zs X 0))else K v) t Q->oA C.base W J (K v) t Q:=by
  intro zs h;rw[dC]at h;split at h
  ·have h:xD (vK zs v) fun X=>oA C.base W J (K (.agg (Es zs X 0))) t Q:=h
   rw[rX]at h;obtain⟨X,h1,h2⟩:=h
   unfold vK at h1;simp only[tA,xB]at h1;obtain⟨l,h3,h4,h5⟩:=h1
   cases h5;have:=VV zs l [] h4
   grind [Fy]
  ·exact h
 grind [Fh,oA,rX,Au,Fa,tA,xB,bU,qN,cU]
theorem Ml{g lt:Bool}{v:zA}{K:zA->Bool->T}(h:oA C.base W J (Dw g lt v K) t Q):∃lt',oA C.base W J (K v lt') t Q:=by
 grind [Dw,xE,Au,oA]
theorem Gy(h:bE C.base X0 kf ν X st tm HA t){g:Option (Nat × Bool)}{all:Array Oper}{w:Bool}(hw:tF g all st.tm=some w):tF g all tm=some w:=by
 unfold tF Ha at hw ⊢
 cases g with
 | none=>exact hw
 | some jw=>
  simp only[Gz]at hw ⊢
  rw[tA]at hw ⊢
  obtain⟨d,h1,hw⟩:=hw
  refine⟨d,h1,?_⟩
  rw[tA]at hw ⊢
  obtain⟨v,h2,hw⟩:=hw
  exact⟨v,h.tms _ _ h2,hw⟩
def SK (C:rA)(W J:pF)(X0:Xt)(kf:Nat)(E Q:fA)(κ:KT)(m:Tm->xA->sB):Prop:=∀st tm HA t X ν,bE C.base X0 kf ν X st tm HA t->oA C.base W J (κ st) t Q->lB C.base X0 E Q (m tm HA)
theorem lB.norm{ty:Nat}{v:zA}{K:zA->sB}(hf:qY C ty v)(h:lB C.base X0 E Q (K v)):lB C.base X0 E Q (cJ C ty v K):=by
 obtain⟨u,t',HA',X',h1,h2⟩:=h
 exact⟨u,t',HA',X',fN.2 ⟨hf,h1⟩,h2⟩
theorem lB.ob{α:Type}{x:Option α}{a:α}{K:α->sB}(hx:x=some a)(h:lB C.base X0 E Q (K a)):lB C.base X0 E Q (Am.ob x K):=by simp_all
theorem BK(hW:rO C A E W){e eA:kC}{ae:bM}(he:yS e eA)(ha:Gq ν ae eA)(hst:bE C.base X0 kf ν X st tm HA t){la:List Nat}{all:Array Oper}{o:Oper}{κ:KT}{m:Tm->xA->sB}
  (hκ:∀st' tm' HA' t' X' ν',(la=[]->ν'=ν)->bE C.base X0 kf ν' X' st' tm' HA' t'->(∃v,tm'=putA n tm o.dst v)->oA C.base W J (κ st') t' Q->lB C.base X0 E Q (m tm' HA'))
  (h:oA C.base W J (tH C la o.dst o.op e ae st.lo (kop C all n o e st κ) (klo C n o st κ)) t Q) :
  lB C.base X0 E Q (jF (nC C A) ((rE o.op).f C eA HA) HA fun v H'=>cJ C o.type v fun v=>m (putA n tm o.dst v) H'):=by
 refine tH_ok hW hst.le he ha hst.ov hst.lo h ?_ ?_ ?_ ?_ ?_
 ·intro v t' HA' X' ho hx hk
  have hk:oA C.base W J (Hq C o.type v fun v=>Dw (Ph all.toList o.dst all.toList) (Ou o.op e st.lit) v fun v lt=>cP n o.dst v lt st κ) t' Q:=hk
  obtain⟨h1,h2⟩:=AB hk
  obtain⟨lt',h3⟩:=Ml h2
  obtain⟨st',h4,h5⟩:=(hst.later ho hx).put h3
  grind [lB.norm]
 ·intro v t' HA' X' ho hx hk
  obtain⟨h1,h2⟩:=aM.1 hk
  obtain⟨lt',h3⟩:=Ml h2
  obtain⟨st',h4,h5⟩:=(hst.later ho hx).put h3
  grind [lB.norm,Pt]
 ·intro d off hk
  obtain⟨h1,h2⟩:=aM.1 hk
  obtain⟨st',h4,h5⟩:=hst.putA h2
  grind [lB.norm,Xr]
 ·intro d l hd hk
  obtain⟨h1,h2⟩:=aM.1 hk
  obtain⟨st',ν',X',h4,h5⟩:=hst.new h2
  have e:=UJ hd
  rw[e];refine lB.norm (Xr h1) (hκ _ _ _ _ _ _ (fun hl=>?_) h4 ⟨_,by rw[e]⟩ h5)
  rw[hl,e]at hd
  cases hd
 ·intro d l l' c' h1 h2 h3 hk
  obtain⟨h4,h5⟩:=aM.1 hk
  obtain⟨X',h6⟩:=hst.setLo h1 h2 h3
  obtain⟨st',h7,h8⟩:=h6.put h5
  grind [lB.norm,Pt]
theorem Jd(h:bE C.base X0 kf ν X st tm HA t):yS (.now st.tm) (.now tm)/\Gq ν (.now st.ad) (.now tm):=⟨h.tms,h.ads⟩
theorem zbz(hW:rO C A E W){la:List Nat}{all:Array Oper}{κ:KT}{m:Tm->xA->sB}(hκ:SK C W J X0 kf E Q κ m):∀(l:List Oper),SK C W J X0 kf E Q (Ho C la all n κ l) (kK C (nC C A) all n m l):=by
 intro l;induction l with
 | nil=>exact hκ
 | cons o l ih=>
  intro st tm HA t X ν hst h;have h:oA C.base W J (kB (tF o.guard all st.tm) fun w=>Bool.rec (motive:=fun _=>T) (cP n o.dst rD false st (Ho C la all n κ l))
   (tH C la o.dst o.op (.now st.tm) (.now st.ad) st.lo (kop C all n o (.now st.tm) st (Ho C la all n κ l)) (klo C n o st (Ho C la all n κ l))) w) t Q:=h
  rw[xE]at h;obtain⟨w,h1,h2⟩:=h
  rw[cZ];refine lB.ob (Gy hst h1) ?_
  cases w with
  | false=>
   rw[yaa (by simp)]
   obtain⟨st',h3,h4⟩:=hst.put h2
   exact ih _ _ _ _ _ _ h3 h4
  | true=>
   rw[yab rfl];exact BK hW (Jd hst).1 (Jd hst).2 hst (fun st' tm' HA' t' X' ν' _ hs _ hw=>ih _ _ _ _ _ _ hs hw) h2
end
end Go.Am
namespace Go.Am
open Go Go.RowKit
structure Gj (ν:Nat->Nat) (old:tG) (oldA:Tm):Prop where
 tms:∀i v,old.tm.get i=some v->oldA.get i=some v
 ads:∀i p,uK i old.ad=some p->oldA.get i=some (.ptr (ν p.1) p.2)
theorem bE.old{base:Nat}{X0 X:Xt}{kf:Nat}{ν:Nat->Nat}{st:tG}{tm:Tm}{HA:xA}{t:Tr vA}(h:bE base X0 kf ν X st tm HA t):Gj ν st tm:=⟨h.tms,h.ads⟩
theorem Tm.get_cut{tm:Tm}{i:Nat}:tm.cut.get i=if i<tm.k then tm.get i else none:=by
 unfold Tm.cut Tm.get;simp only[bI];by_cases h:Nat.blt i tm.k=true
 ·rw[yab h,yab h,yab (vC.1 h)]
 ·rw[yaa h,yaa (fun e=>h (vC.2 e))];rfl
theorem ZV{k i:Nat}:∀ {l:List (Nat × Nat × Nat)},uK i (kC.adCut k l)=if i<k then uK i l else none:=by
 intro l;induction l with
 | nil=>show none=_;split<;>rfl
 | cons a l ih=>
  grind [kC.adCut,vC,Gd]
section
variable {W J:pF}{t:Tr vA}{X X0:Xt}{HA:xA}{C:rA}{A:Tr zC}{ν:Nat->Nat}{Q E:fA}{kf n:Nat}{st old:tG}{tm oldA:Tm}{all:Array Oper}{olds:List (Nat × List Nat)}
theorem bE.cut(h:bE C.base X0 kf ν X st tm HA t):bE C.base X0 kf ν X st.cut tm.cut HA t:=by
 refine⟨h.ov,h.le,h.k,h.kA,?_,?_,h.lo,h.inj⟩
 ·intro i v hi
  have hi:st.tm.cut.get i=some v:=hi
  rw[Tm.get_cut]at hi ⊢
  split at hi
  ·rename_i e;rw[yab (by rw[h.kA,<- h.k];exact e)];exact h.tms i v hi
  grind
 ·intro i p hi
  have hi:uK i (kC.adCut st.tm.k st.ad)=some p:=hi
  rw[ZV]at hi;rw[Tm.get_cut];split at hi
  ·rename_i e;rw[yab (by rw[h.kA,<- h.k];exact e)];exact h.ads i p hi
  grind
theorem Ci(h:bE C.base X0 kf ν X st tm HA t)(ho:Gj ν old oldA){os:List Nat}{op:Op}:yS (aO st old os op) (.mixed tm oldA os (cG op))/\Gq ν (mX st old os op) (.mixed tm oldA os (cG op)):=by
 constructor
 ·intro i v hi
  have hi:(bif bG i (cG op)then Tm.get (bif bG i os then old.tm else st.tm) i else none)=some v:=hi
  show(bif bG i (cG op)then Tm.get (bif bG i os then oldA else tm) i else none)=some v
  cases hm:bG i (cG op)with
  | false=>simp_all
  | true=>
   rw[hm]at hi;simp only[cond_true]at hi ⊢
   cases hq:bG i os with
   | true=>rw[hq]at hi;exact ho.tms i v hi
   | false=>rw[hq]at hi;exact h.tms i v hi
 ·intro i p hi
  have hi:(bif bG i (cG op)then uK i (bif bG i os then old.ad else st.ad)else none)=some p:=hi
  show(bif bG i (cG op)then Tm.get (bif bG i os then oldA else tm) i else none)=_
  cases hm:bG i (cG op)with
  | false=>simp_all
  | true=>
   rw[hm]at hi;simp only[cond_true]at hi ⊢
   cases hq:bG i os with
   | true=>rw[hq]at hi;exact ho.ads i p hi
   | false=>rw[hq]at hi;exact h.ads i p hi
theorem Sc(ho:Gj ν old oldA){κ:KT}{kd:Tm->sB}(hκ:∀st' tm',bE C.base X0 kf ν X st' tm' HA t->oA C.base W J (κ st') t Q->lB C.base X0 E Q (kd tm')) :
  ∀(l:List Nat) (st:tG) (tm:Tm),bE C.base X0 kf ν X st tm HA t->oA C.base W J (zR C all n old olds κ l st) t Q->lB C.base X0 E Q (sH C HA all n oldA olds kd l tm):=by
 intro l;induction l with
 | nil=>exact hκ
 | cons i l ih=>
  intro st tm hst h;have h:oA C.base W J (kB (fC all.toList i) fun o=>kB (tF o.guard all st.tm) fun w=>Bool.rec (motive:=fun _=>T) (cP n o.dst rD false st (zR C all n old olds κ l))
   (tL C o.op (aO st old (eE i olds) o.op) (mX st old (eE i olds) o.op) st.lo (kop C all n o (aO st old (eE i olds) o.op) st (zR C all n old olds κ l))) w) t Q:=h
  rw[xE]at h;obtain⟨o,h0,h⟩:=h
  rw[xE]at h;obtain⟨w,h1,h2⟩:=h
  rw[Pa];refine lB.ob h0 (lB.ob (Gy hst h1) ?_)
  cases w with
  | false=>
   rw[yaa (by simp)]
   obtain⟨st',h3,h4⟩:=hst.put h2
   grind
  | true=>
   rw[yab rfl];refine Exists.elim (Sl (R:=fun v=>lB C.base X0 E Q (cJ C o.type v fun v=>sH C HA all n oldA olds kd l (putA n tm o.dst v))) (Ci hst ho).1 (Ci hst ho).2 hst.ov hst.lo h2 ?_ ?_ ?_) (fun v h=>lB.ob h.1 h.2)
   ·intro v hk
    have hk:oA C.base W J (Hq C o.type v fun v=>Dw (Ph all.toList o.dst all.toList) (Ou o.op (aO st old (eE i olds) o.op) st.lit) v fun v lt=>cP n o.dst v lt st (zR C all n old olds κ l)) t Q:=hk
    obtain⟨g1,g2⟩:=AB hk
    obtain⟨lt',g3⟩:=Ml g2
    obtain⟨st',g4,g5⟩:=hst.put g3
    grind [lB.norm]
   ·intro v hk
    obtain⟨g1,g2⟩:=aM.1 hk
    obtain⟨lt',g3⟩:=Ml g2
    obtain⟨st',g4,g5⟩:=hst.put g3
    grind [lB.norm,Pt]
   ·intro d off hk
    obtain⟨g1,g2⟩:=aM.1 hk
    obtain⟨st',g4,g5⟩:=hst.putA g2
    grind [lB.norm,Xr]
theorem NZ(ho:Gj ν old oldA)(hst:bE C.base X0 kf ν X st tm HA t){k:T}{kd:sB}(hk:oA C.base W J k t Q->lB C.base X0 E Q kd) :
  ∀(l:List Nat),oA C.base W J (oV C all old olds st k l) t Q->lB C.base X0 E Q (rL C HA all oldA olds tm kd l):=by
 intro l;induction l with
 | nil=>exact hk
 | cons i l ih=>
  intro h;have h:oA C.base W J (kB (fC all.toList i) fun o=>kB o.dst fun d=>kB (tF o.guard all st.tm) fun w=>Bool.rec (motive:=fun _=>T) (oV C all old olds st k l)
   (kB (st.tm.get d) fun u=>wJ (Fi C o.type u) (tL C o.op (aO st old (eE i olds) o.op) (mX st old (eE i olds) o.op) st.lo ⟨fun v=>.ite (same 10 v u) (oV C all old olds st k l) .fail,fun v=>.ite (same 10 v u) (oV C all old olds st k l) .fail,fun _ _=>.fail⟩)) w) t Q:=h
  rw[xE]at h;obtain⟨o,h0,h⟩:=h
  rw[xE]at h;obtain⟨d,h1,h⟩:=h
  rw[xE]at h;obtain⟨w,h2,h⟩:=h
  rw[Yy];refine lB.ob h0 (lB.ob h1 (lB.ob (Gy hst h2) ?_))
  cases w with
  | false=>simp_all
  | true=>
   rw[yab rfl];simp only[xE,aM]at h;obtain⟨u,h3,h4,h5⟩:=h
   have bH:∀v,oA C.base W J (.ite (same 10 v u) (oV C all old olds st k l) .fail) t Q->lB C.base X0 E Q (cJ C o.type v fun v=>ob (tm.get d) fun u=>yB (same 10 v u) (rL C HA all oldA olds tm kd l)):=by
    intro v hv;have hv:if same 10 v u=true then oA C.base W J (oV C all old olds st k l) t Q else False:=hv
    split at hv
    ·rename_i hs
     refine lB.norm ?_ (lB.ob (hst.tms _ _ h3) ?_)
     ·grind [Um,Pt]
     ·rw[hs];exact ih hv
    simp_all
   obtain⟨v,h6,h7⟩:=Sl (R:=fun v=>lB C.base X0 E Q (cJ C o.type v fun v=>ob (tm.get d) fun u=>yB (same 10 v u) (rL C HA all oldA olds tm kd l))) (Ci hst ho).1 (Ci hst ho).2 hst.ov hst.lo h5 bH bH (fun _ _ h=>h.elim)
   simp_all
theorem ME(hst:bE C.base X0 kf ν X st tm HA t){h:Nat}{o:Oper}{w:Bool}(hw:nT C all h o st.tm=some w):nT C all h o tm=some w:=by
 grind [nT,tA,Gy]
theorem WT{e e':kC}(he:yS e e'){op:Op}{ef:mL}(h:nY op e=some ef):nY op e'=some ef:=by
 cases op<;>first | (cases h;done) | skip
 all_goals grind [nY,tA,kE]
theorem zb3{op:Op}{e:kC}{ae:bM}{ef:mL}(h:tEff op e ae=some ef):nY op e=some ef:=by
 cases op<;>first | exact h | skip
 grind [tEff]
theorem OC(hst:bE C.base X0 kf ν X st tm HA t)(ho:Gj ν old oldA){l:List Nat}{es:List mL}(h:Mn all old olds st l=some es):Fl all oldA olds tm l=some es:=by
 refine Oq l (fun i ef h=>?_) h
 unfold xW;simp only[tA,xB]at h ⊢
 obtain⟨o,h1,w,h2,h3,h4⟩:=h
 exact⟨o,h1,w,Gy hst h2,h3,WT (Ci hst ho).1 (zb3 h4)⟩
theorem NK(hW:rO C A E W)(ho:Gj ν old oldA){κ:KT}{m:Tm->xA->sB}(hκ:SK C W J X0 kf E Q κ m) :
  ∀(l:List iE) (st:tG) (tm:Tm) (HA:xA) (t:Tr vA) (X:Xt),bE C.base X0 kf ν X st tm HA t->oA C.base W J (qZ C all n old olds κ l st) t Q->lB C.base X0 E Q (vI C (nC C A) all n oldA olds m l tm HA):=by
 intro l;induction l with
 | nil=>intro st tm HA t X hst h;exact hκ _ _ _ _ _ _ hst h
 | cons s l ih=>
  intro st tm HA t X hst h
  cases hg:gS all s with
  | true=>
   have h:oA C.base W J (Bool.rec (motive:=fun _=>T) _ (wJ (iV C all) (kB (Mn all old olds st s.again) fun es=>.heavy (Dq C es) fun _=>zR C all n old olds (qZ C all n old olds κ l) s.lights st)) (gS all s)) t Q:=h
   rw[hg]at h;have h:oA C.base W J (wJ (iV C all) (kB (Mn all old olds st s.again) fun es=>.heavy (Dq C es) fun _=>zR C all n old olds (qZ C all n old olds κ l) s.lights st)) t Q:=h
   rw[aM]at h;obtain⟨h0,h⟩:=h
   rw[xE]at h;obtain⟨es,h1,h⟩:=h
   have h:=h HA.next hst.ov.nextT hst.ov.base
   rw[rX]at h;obtain⟨⟨v,H'⟩,h2,h3⟩:=h
   obtain⟨HA',h4,h5⟩:=MU _ _ _ _ _ hst.ov h2
   have h6:tY C es HA=some HA':=by
    grind [Dq,tA]
   rw[Hv hg];unfold Kf;rw[h0];show lB C.base X0 E Q (ob (Fl all oldA olds tm s.again) fun es=>ob (tY C es HA) fun H'=>sH C H' all n oldA olds (fun tm=>vI C (nC C A) all n oldA olds m l tm H') s.lights tm)
   refine lB.ob (OC hst ho h1) (lB.ob h6 ?_)
   exact Sc ho (fun st' tm' hs hw=>ih _ _ _ _ _ hs hw) _ _ _ (hst.later h5 (gH.refl _)) h3
  | false=>
  have h:oA C.base W J (Bool.rec (motive:=fun _=>T) (kB (fC all.toList (dL all s.heavy)) fun o=>kB (nT C all s.heavy o st.tm) fun w=>
   (fun cont:KT=>Bool.rec (motive:=fun _=>T) (cP n o.dst rD false st cont)
    (tH C [] o.dst o.op (aO st old (eE (dL all s.heavy) olds) o.op) (mX st old (eE (dL all s.heavy) olds) o.op) st.lo (kop C all n o (aO st old (eE (dL all s.heavy) olds) o.op) st cont) (klo C n o st cont)) w)
   (fun st'=>oV C all old olds st' (zR C all n old olds (qZ C all n old olds κ l) s.lights st') s.again)) _ (gS all s)) t Q:=h
  rw[hg]at h;have h:oA C.base W J (kB (fC all.toList (dL all s.heavy)) fun o=>kB (nT C all s.heavy o st.tm) fun w=>
   (fun cont:KT=>Bool.rec (motive:=fun _=>T) (cP n o.dst rD false st cont)
    (tH C [] o.dst o.op (aO st old (eE (dL all s.heavy) olds) o.op) (mX st old (eE (dL all s.heavy) olds) o.op) st.lo (kop C all n o (aO st old (eE (dL all s.heavy) olds) o.op) st cont) (klo C n o st cont)) w)
   (fun st'=>oV C all old olds st' (zR C all n old olds (qZ C all n old olds κ l) s.lights st') s.again)) t Q:=h
  rw[xE]at h;obtain⟨o,h0,h⟩:=h
  rw[xE]at h;obtain⟨w,h1,h2⟩:=h
  rw[Dy hg];refine lB.ob h0 (lB.ob (ME hst h1) ?_)
  have bH:∀st' tm' HA' t' X' ν',ν'=ν->bE C.base X0 kf ν' X' st' tm' HA' t'->oA C.base W J (oV C all old olds st' (zR C all n old olds (qZ C all n old olds κ l) s.lights st') s.again) t' Q →
    lB C.base X0 E Q (rL C HA' all oldA olds tm' (sH C HA' all n oldA olds (fun tm=>vI C (nC C A) all n oldA olds m l tm HA') s.lights tm') s.again):=by
   intro st' tm' HA' t' X' ν' e hs hw;subst e;exact NZ ho hs (fun hl=>Sc ho (fun st2 tm2 hs2 hw2=>ih _ _ _ _ _ hs2 hw2) _ _ _ hs hl) _ hw
  cases w with
  | false=>
   simp only[ybq,if_false];obtain⟨st',h3,h4⟩:=hst.put h2
   grind
  | true=>
   simp only[if_true];exact BK (m:=fun tm' HA'=>rL C HA' all oldA olds tm' (sH C HA' all n oldA olds (fun tm=>vI C (nC C A) all n oldA olds m l tm HA') s.lights tm') s.again)
    hW (Ci hst ho).1 (Ci hst ho).2 hst (fun st' tm' HA' t' X' ν' hn hs _ hw=>bH _ _ _ _ _ _ (hn rfl) hs hw) h2
theorem NO(hW:rO C A E W){la:List Nat}{fn id:Nat}{d:Bool}{κ:KT}{m:Tm->xA->sB}(hκ:SK C W J X0 kf E Q κ m):SK C W J X0 kf E Q (Zt C la fn n κ id all d) (Eg C (nC C A) fn n m id all d):=by
 intro st tm HA t X ν hst h
 cases d with
 | false=>exact zbz hW hκ _ _ _ _ _ _ _ hst.cut h
 | true=>
  have h:oA C.base W J (kB (ob (C.plans.get fn) fun t=>t.get id) fun p=>wJ (nS all p) (zR C all n st.cut p.olds (qZ C all n st.cut p.olds κ p.stages) p.first st.cut)) t Q:=h
  simp only[xE,aM]at h;obtain⟨p,h1,h2,h3⟩:=h
  show lB C.base X0 E Q (ob (ob (C.plans.get fn) fun t=>t.get id) fun p=>yB (nS all p) (sH C HA all n tm.cut p.olds (fun tm'=>vI C (nC C A) all n tm.cut p.olds m p.stages tm' HA) p.first tm.cut))
  refine lB.ob h1 ?_
  rw[h2];exact Sc hst.cut.old (fun st' tm' hs hw=>NK hW hst.cut.old hκ _ _ _ _ _ _ hs hw) _ _ _ hst.cut h3
end
structure PtD where
 p:PI
 m:Tm->xA->sB
def oJ(C:rA)(φ:aD)(fn n:Nat):zC->Kt->List PtD
 | .skip,_=>[]
 | .region _ _ _,_=>[]
 | .seq a b,κ=>oJ C φ fn n a ⟨aC C φ fn n b κ,κ.exit,κ.ret⟩++oJ C φ fn n b κ
 | .cond _ x y,κ=>oJ C φ fn n x κ++oJ C φ fn n y κ
 | .block id c,κ=>oJ C φ fn n c ⟨κ.norm,fun i tm H=>Bool.rec (motive:=fun _=>sB) (κ.exit i tm H) (κ.norm tm H) (Nat.beq id i),κ.ret⟩
 | .loop p c,κ=>⟨p,aC C φ fn n (.loop p c) κ⟩::oJ C φ fn n c ⟨aC C φ fn n (.loop p c) κ,κ.exit,κ.ret⟩
 | .exit _,_=>[]
 | .ret,_=>[]
 | .cut p c,κ=>⟨p,aC C φ fn n (.cut p c) κ⟩::oJ C φ fn n c κ
 | .range i pl fo ps aq c,_=>⟨⟨i,qD pl ps.toList,[]⟩,Qo C φ fn n ⟨i,pl,fo,ps,aq,c⟩⟩::oJ C φ fn n c bT
def Le(base kf:Nat)(E:fA)(d:PtD)(vals:List zA)(t:Tr vA)(Q:fA):Prop:=∀X0 X HA tm ν,bE base X0 kf ν X (mK kf d.p vals) tm HA t->lB base X0 E Q (d.m tm HA)
def fQ (base kf:Nat)(E:fA)(J:pF)(l:List PtD):Prop:=∀d∈l,∀vals t Q,J d.p.id vals t Q->Le base kf E d vals t Q
structure SKt (C:rA) (W J:pF) (X0:Xt) (kf:Nat) (E Q:fA) (κ:KtT) (m:Kt):Prop where
 norm:SK C W J X0 kf E Q κ.norm m.norm
 exit:∀i,SK C W J X0 kf E Q (κ.exit i) (m.exit i)
 ret:SK C W J X0 kf E Q κ.ret m.ret
theorem Ui{d:Nat}{l:List zA}{st:tG}:∀ {ll:List (Nat × Nat)} {b rest:List zA},Dn st ll=some b->(gT ll (b++rest)).get d=some l->st.lo.get d=some l:=by
 intro ll;induction ll with
 | nil=>grind [gT,Tr.get_leaf]
 | cons p ll ih=>
  intro b rest hb h;have hb:(ob (uK p.1 st.ad) fun a=>yB (Nat.beq a.1 p.1&&Nat.beq a.2 0) (ob (st.lo.get p.1) fun l=>yB (Nat.beq (bA l) p.2) (ob (Dn st ll) fun r=>some (qD l r))))=some b:=hb
  simp only[tA,xB]at hb;obtain⟨a,_,_,l0,h2,h3,r,h4,h5⟩:=hb
  cases h5;have h:((gT ll (wP (qD l0 r++rest) p.2)).set p.1 (kX (qD l0 r++rest) p.2)).get d=some l:=h
  grind [sC,sD,xG,xP,rR,List.drop_left,Tr.get_set]
theorem PE{i:Nat}{q:Nat × Nat}{st:tG}:∀ {ll:List (Nat × Nat)} {b:List zA},Dn st ll=some b->uK i (Hw ll)=some q->uK i st.ad=some q:=by
 intro ll;induction ll with
 | nil=>intro b _ h;cases h
 | cons p ll ih=>
  grind [Dn,tA,xB,sC,Hw,Gd]
theorem PC{i:Nat}{v:zA}{st:tG}:∀ {pl:List Nat} {a rest:List zA},lG (fun i=>st.tm.get i) pl=some a->(xN pl (a++rest)).get i=some v->st.tm.get i=some v:=by
 intro pl;induction pl with
 | nil=>grind [xN,Tr.get_leaf]
 | cons j pl ih=>
  intro a rest ha h;rw[zP,tA]at ha;obtain⟨u,h1,ha⟩:=ha
  rw[tA]at ha;obtain⟨r,h2,ha⟩:=ha
  cases ha;have h:((xN pl (r++rest)).set j u).get i=some v:=h
  grind [Tr.get_set]
theorem Tm.get_kv{k i:Nat}{v:Tr zA}{u:zA}(h:Tm.get ⟨k,v,[]⟩ i=some u):i<k/\v.get i=some u:=by
 unfold Tm.get at h;rw[bI]at h;split at h
 ·simp_all
 ·cases h
theorem MI{p:PI}{st:tG}{vals:List zA}(h:Bm p st=some vals):∃a b,vals=a++b/\lG (fun i=>st.tm.get i) p.pl=some a/\Dn st p.ll=some b/\a.length=p.pl.length:=by
 unfold Bm at h;simp only[tA]at h;obtain⟨a,h1,b,h2,h3⟩:=h
 cases h3;refine⟨a,b,xG _ _,h1,h2,?_⟩
 have:∀(l:List Nat) (r:List zA),lG (fun i=>st.tm.get i) l=some r->r.length=l.length:=by
  intro l;induction l with
  | nil=>intro r h;cases h;rfl
  | cons x l ih=>
   grind [zP,tA]
 grind
section
variable {W J:pF}{t:Tr vA}{X X0:Xt}{HA:xA}{C:rA}{A:Tr zC}{ν:Nat->Nat}{Q E:fA}{kf n:Nat}{st:tG}{tm:Tm}
theorem bE.at(h:bE C.base X0 kf ν X st tm HA t){p:PI}{vals:List zA}(hv:Bm p st=some vals):bE C.base X0 kf ν X (mK kf p vals) tm HA t:=by
 obtain⟨a,b,rfl,h1,h2,h3⟩:=MI hv
 have hd:wP (a++b) (bA p.pl)=b:=by rw[xP,sD,<- h3,List.drop_left]
 refine⟨h.ov,h.le,rfl,h.kA,?_,?_,?_,?_⟩
 ·intro i v hi
  exact h.tms i v (PC h1 (Tm.get_kv hi).2)
 ·intro i q hi
  exact h.ads i q (PE h2 hi)
 ·intro d l hl
  have hl:(gT p.ll (wP (a++b) (bA p.pl))).get d=some l:=hl
  rw[hd]at hl;have hb:(gT p.ll (b++[])).get d=some l:=by simp_all
  exact h.lo d l (Ui h2 hb)
 ·intro d d' l l' hl hl' he
  have hl:(gT p.ll (wP (a++b) (bA p.pl))).get d=some l:=hl
  have hl':(gT p.ll (wP (a++b) (bA p.pl))).get d'=some l':=hl'
  rw[hd]at hl hl'
  have hb:(gT p.ll (b++[])).get d=some l:=by simp_all
  have hb':(gT p.ll (b++[])).get d'=some l':=by simp_all
  exact h.inj d d' l l' (Ui h2 hb) (Ui h2 hb') he
theorem UT{tm:Tm}{i:Nat}{v:zA}(hv:tm.get i=some v):∀ {live:List Nat},i∈live->(Ez tm live).get i=some v:=by
 intro live;induction live with
 | nil=>simp_all
 | cons j live ih=>
  grind [Ez,Tr.get_set]
theorem PA{i:Nat}{v:zA}:∀ {pl:List Nat} {vals:List zA},(xN pl vals).get i=some v->i∈pl:=by
 intro pl;induction pl with
 | nil=>grind [xN,Tr.get_leaf]
 | cons j pl ih=>
  intro vals h
  cases vals with
  | nil=>grind [xN,Tr.get_leaf]
  | cons u vals=>
   have h:((xN pl vals).set j u).get i=some v:=h
   grind [Tr.get_set]
theorem PD{i:Nat}{q:Nat × Nat}:∀ {ll:List (Nat × Nat)},uK i (Hw ll)=some q->i∈(List.rec (motive:=fun _=>List Nat) [] (fun a _ r=>a.1::r) ll:List Nat):=by
 intro ll;induction ll with
 | nil=>intro h;cases h
 | cons p ll ih=>
  grind [Hw,Gd]
theorem bE.keep{p:PI}{vals:List zA}(hb:∀i,i∈p.kept->i<kf)(h:bE C.base X0 kf ν X (mK kf p vals) tm HA t):bE C.base X0 kf ν X (mK kf p vals) (Am.keep p.kept tm) HA t:=by
 have key:∀i v,i∈p.kept->tm.get i=some v->(Am.keep p.kept tm).get i=some v:=by
  intro i v hi hv;unfold Am.keep Tm.get;rw[bI,yab (vC.2 (by rw[h.kA];grind))]
  exact UT hv hi
 refine⟨h.ov,h.le,rfl,h.kA,?_,?_,h.lo,h.inj⟩
 ·intro i v hi
  refine key i v ?_ (h.tms i v hi)
  unfold PI.kept;rw[xG];exact ydc _ (PA (Tm.get_kv hi).2)
 ·intro i q hi
  refine key i _ ?_ (h.ads i q hi)
  unfold PI.kept;rw[xG];exact ycf _ (PD hi)
theorem Wx{l:List PtD}(hJ:fQ C.base kf E J l){p:PI}{m:Tm->xA->sB}(hm:(⟨p,m⟩:PtD)∈l):SK C W J X0 kf E Q (fV p) m:=by
 intro st tm HA t X ν hst h;unfold fV at h;rw[xE]at h;obtain⟨vals,h1,h2⟩:=h
 exact hJ _ hm vals t Q h2 _ _ _ _ _ (hst.at h1)
theorem DA:SKt C W J X0 kf E Q rdT bT:=⟨fun _ tm HA t X _ hst h=>⟨_,t,HA,X,rfl,hst.ov,hst.le,h⟩,fun _ _ _ _ _ _ _ _ h=>h.elim,fun _ tm HA t X _ hst h=>⟨_,t,HA,X,rfl,hst.ov,hst.le,h⟩⟩
def wZ(C:rA)(A:Tr zC)(W:pF):Prop:=∀l args t Q,(∀X HA,Ov C.base t X HA->lB C.base X oI Q (fY C A (yo+l) args HA))->W (yo+l) args t Q
def uN (X:Xt)(b:Nat)(y:vA):Xt:=fun c=>if c=b then some y else X c
theorem Jc{X:Xt}{b:Nat}{y:vA}(h:X b=none):gH X (uN X b y):=by
 intro c z hc;grind [uN]
theorem Ov.under{base:Nat}(h:Ov base t X HA){b:Nat}{y:vA}(hb:t.get b=some y)(z:vA):Ov base (t.del b) (uN X b z) (Am.setBlk HA b z):=by
 refine⟨h.base,fun c hc=>?_,fun c u hc=>?_,fun c u hc=>?_⟩
 ·show(HA.t.set b z).get c=_
  unfold uN at hc;split at hc
  ·cases hc
  ·rename_i e;rw[Tr.get_set,yaa e,Tr.get_del,yaa e];exact h.same c hc
 ·show(HA.t.set b z).get c=_/\_
  unfold uN at hc;split at hc
  ·rename_i e;cases hc;subst e;exact⟨by rw[Tr.get_set,yab rfl],by rw[Tr.get_del,yab rfl],h.lt _ _ hb⟩
  ·rename_i e
   obtain⟨g1,g2,g3⟩:=h.ext c u hc
   exact⟨by grind [Tr.get_set],by grind [Tr.get_del],g3⟩
 ·rw[Tr.get_del]at hc
  split at hc
  ·cases hc
  ·exact h.lt _ _ hc
theorem Ov.back{base:Nat}(h:Ov base t X HA){b:Nat}{y:vA}(hb:X b=some y)(z:vA):Ov base (t.set b z) (fun c=>if c=b then none else X c) (Am.setBlk HA b z):=by
 obtain⟨g1,g2,g3⟩:=h.ext b y hb
 refine⟨h.base,fun c hc=>?_,fun c u hc=>?_,fun c u hc=>?_⟩
 ·show(HA.t.set b z).get c=_
  rw[Tr.get_set,Tr.get_set];split
  ·rfl
  ·rename_i e;rw[yaa e]at hc;exact h.same c hc
 ·show(HA.t.set b z).get c=_/\_
  split at hc
  ·cases hc
  ·rename_i e
   obtain⟨g1,g2,g3⟩:=h.ext c u hc
   exact⟨by grind [Tr.get_set],by grind [Tr.get_set],g3⟩
 ·rw[Tr.get_set]at hc
  split at hc
  ·rename_i e;rw[e];exact g3
  ·exact h.lt _ _ hc
theorem Wh{H:xA}{l:Nat}{r:lL}(hl:256<=l)(h:H.t.get l=some (.loop r)):eH H l=some r:=by
 unfold eH;rw[h,qA,Nat.ble_eq_true_of_le hl];rfl
theorem QJ{base kf n:Nat}{st:tG}{tm:Tm}{i:Nat}{pl ps:List Nat}{vals args:List zA}{X:Xt}{HA:xA}{t:Tr vA}(ho:Ov base t X HA)(hk:st.tm.k=kf)(hkA:tm.k=kf)
  (ht:∀i v,st.tm.get i=some v->tm.get i=some v) (hv:BQ pl st=some vals) (hok:cB (fun p=>Nat.blt p st.tm.k&&Nat.blt p n && !bG p pl) ps=true) (h1:psOk ps=true) (hl:args.length=ps.length) :
  ∃tm',aW n ps args tm=some tm'/\bE base X kf (fun i=>i) X (mK kf ⟨i,qD pl ps,[]⟩ (vals++args)) tm' HA t:=by
 have old:∀(pl:List Nat) (vals rest:List zA) j v,lG (fun i=>st.tm.get i) pl=some vals->(xN (pl++ps) (vals++rest)).get j=some v->(j∈pl/\tm.get j=some v)\/(xN ps rest).get j=some v:=by
  intro pl;induction pl with
  | nil=>intro vals rest j v h hj;cases h;simp_all
  | cons a pl ih=>
   intro vals rest j v h hj;rw[zP,tA]at h;obtain⟨u,g1,h⟩:=h
   rw[tA]at h;obtain⟨us,g2,h⟩:=h
   cases h;have hj:((xN (pl++ps) (us++rest)).set a u).get j=some v:=hj
   grind [Tr.get_set]
 cases ps with
 | nil=>
  cases args with
  | cons _ _=>cases hl
  | nil=>
   refine⟨tm,rfl,ho,gH.refl _,rfl,hkA,fun j v hj=>?_,fun j p h=>(by cases h),fun d l h=>?_,fun d _ l _ h=>?_⟩
   ·have hj:=(Tm.get_kv hj).2
    have hj:(xN (qD pl []) (vals++[])).get j=some v:=hj
    rw[xG]at hj;rcases old pl vals [] j v hv hj with⟨_,h⟩ | h
    all_goals grind [xN,Tr.get_leaf]
   ·rw[show(mK kf ⟨i,qD pl [],[]⟩ (vals++[])).lo=.leaf from rfl,Tr.get_leaf]at h;cases h
   omega
 | cons p ps=>
  cases ps with
  | cons q ps=>
   cases ps with
   | cons _ _=>cases h1
   | nil=>
   match args,hl with
   | [a,b],_=>
    have hpq:p≠q:=fun e=>by subst e;simp[psOk]at h1
    have hp:(bif (Nat.blt p st.tm.k&&Nat.blt p n && !bG p pl)then(bif (Nat.blt q st.tm.k&&Nat.blt q n && !bG q pl)then true else false)else false)=true:=hok
    cases hx:(Nat.blt p st.tm.k&&Nat.blt p n && !bG p pl)with
    | false=>grind
    | true=>
    cases hy:(Nat.blt q st.tm.k&&Nat.blt q n && !bG q pl)with
    | false=>grind
    | true=>
     simp only[ybb,ycp]at hx hy;obtain⟨⟨x1,x2⟩,x3⟩:=hx
     obtain⟨⟨y1,y2⟩,y3⟩:=hy
     have x1:=vC.1 x1
     have x2:=vC.1 x2
     have y1:=vC.1 y1
     have y2:=vC.1 y2
     refine⟨putA n (putA n tm (some p) a) (some q) b,rfl,ho,gH.refl _,rfl,by grind [fZ],fun j v hj=>?_,fun j p h=>(by cases h),fun d l h=>?_,fun d _ l _ h=>?_⟩
     ·have hj:=(Tm.get_kv hj).2
      have hj:(xN (qD pl [p,q]) (vals++[a,b])).get j=some v:=hj
      rw[xG]at hj;rw[cH,cH];rcases old pl vals [a,b] j v hv hj with⟨hm,h⟩ | h
      all_goals grind [lX,xN,Tr.get_set,Tr.get_leaf,fZ]
     ·rw[show(mK kf ⟨i,qD pl [p,q],[]⟩ (vals++[a,b])).lo=.leaf from rfl,Tr.get_leaf]at h;cases h
     omega
  | nil=>
   cases args with
   | nil=>cases hl
   | cons a args=>
    cases args with
    | cons _ _=>simp at hl
    | nil=>
     have hp:(bif (Nat.blt p st.tm.k&&Nat.blt p n && !bG p pl)then cB (fun p=>Nat.blt p st.tm.k&&Nat.blt p n && !bG p pl) []else false)=true:=hok
     cases hx:(Nat.blt p st.tm.k&&Nat.blt p n && !bG p pl)with
     | false=>grind
     | true=>
      simp only[ybb,ycp]at hx;obtain⟨⟨x1,x2⟩,x3⟩:=hx
      have x1:=vC.1 x1
      have x2:=vC.1 x2
      refine⟨putA n tm (some p) a,rfl,ho,gH.refl _,rfl,by grind [fZ],fun j v hj=>?_,fun j p h=>(by cases h),fun d l h=>?_,fun d _ l _ h=>?_⟩
      ·have hj:=(Tm.get_kv hj).2
       have hj:(xN (qD pl [p]) (vals++[a])).get j=some v:=hj
       rw[xG]at hj;rw[cH];rcases old pl vals [a] j v hv hj with⟨hm,h⟩ | h
       all_goals grind [lX,xN,Tr.get_set,Tr.get_leaf]
      ·rw[show(mK kf ⟨i,qD pl [p],[]⟩ (vals++[a])).lo=.leaf from rfl,Tr.get_leaf]at h;cases h
      omega
theorem RG{c:zC}(l:List (Nat × Array Oper)):dJ (asA c l)=dJ c:=by
 induction l with
 | nil=>rfl
 | cons x l ih=>exact ih
theorem SD{C:rA}{φ:aD}{fn n:Nat}{c:zC}{κ:Kt}(l:List (Nat × Array Oper)):oJ C φ fn n (asA c l) κ=oJ C φ fn n c κ:=by
 induction l with
 | nil=>rfl
 | cons x l ih=>exact ih
theorem RK(hW:rO C A E W)(hE:E=oI)(hY:wZ C A W){f:Nat}{κ:KtT}{m:Kt}(hκ:∀X0,SKt C W J X0 kf E Q κ m){i:Nat}{pl:List Nat}{fo:Operand}{ps:Array Nat}{aq:List (Nat × Array Oper)}{c:zC}
  (hone:∃c0,A.get f=some c0/\Ja c0=some ⟨i,pl,fo,ps,aq,c⟩) (hJ:∀vals t Q,J i vals t Q->Le C.base kf E ⟨⟨i,qD pl ps.toList,[]⟩,Qo C (nC C A) f n ⟨i,pl,fo,ps,aq,c⟩⟩ vals t Q) :
  SK C W J X0 kf E Q (Vc C n κ i pl fo ps.toList aq c) (wQ C (nC C A) f n m fo ps.toList (asC aq) (lD c)):=by
 subst hE;intro st tm HA t X ν hst h;unfold Vc at h;rw[aM,xE]at h;obtain⟨hok,vals,hv,h⟩:=h
 rw[xE]at h;obtain⟨fv,hf,h256,h⟩:=h
 unfold DD at hok;simp only[ybb]at hok;obtain⟨⟨⟨hok1,hok2⟩,hok3⟩,hok4⟩:=hok
 have hok4:dJ c=[]:=by
  grind
 have ho:=hst.ov
 have hbase:=ho.base
 generalize hr:(⟨.ready,none,f,n,tm,ps.toList,asC aq,lD c,HA.next⟩:lL)=r at *
 have htn:t.get (HA.next+1)=none:=by
  cases hx:t.get (HA.next+1)with
  | none=>rfl
  | some y=>exact absurd (ho.lt _ _ hx) (by omega)
 have hyield:∀args t1 Q1,args.length=bA ps.toList->t1.get (HA.next+1)=some (.loop r)->J i (vals++args) (t1.del (HA.next+1)) (fun v t2=>t2.get (HA.next+1)=none->∃b,v=.bool b/\Q1 v (t2.set (HA.next+1) (.loop (rN b r))))->W (yo+(HA.next+1)) args t1 Q1:=by
  intro args t1 Q1 hla ht1 hj;refine hY _ _ _ _ fun X1 HA1 ho1=>?_
  rw[LC,Xm];show lB C.base X1 oI Q1 (Cd C A (nC C A) (HA.next+1) args HA1)
  have hx1:=ho1.notX ht1
  have hov:=ho1.under ht1 (.loop (Da r))
  obtain⟨tm',hs1,hs2⟩:=QJ (n:=n) (i:=i) hov hst.k hst.kA hst.tms hv hok1 hok2 (by rw[hla,sD])
  obtain⟨v,t2,HA2,X2,e1,e2,e3,e4⟩:=hO.1 (hJ _ _ _ hj _ _ _ _ _ hs2)
  have hb2:X2 (HA.next+1)=some (.loop (Da r)):=e3 _ _ (by unfold uN;rw[yab rfl])
  obtain⟨b,e4,e5⟩:=e4 (e2.ext _ _ hb2).2.1
  subst e4;obtain⟨c0,hc0,hc1⟩:=hone
  refine hO.2 ⟨.bool b,_,_,_,Ed.2 ⟨r,tm',c0,⟨i,pl,fo,ps,aq,c⟩,(⟨.bool b,false⟩,HA2),Da r,b,Wh (by omega) (by rw[ho1.up ht1]),?_,?_,hc1,?_,?_,Wh (by omega) (e2.ext _ _ hb2).1,rfl,rfl⟩,e2.back hb2 _,?_,e5⟩
  ·grind
  ·grind
  ·rw[<- hr];exact⟨⟨rfl,rfl,rfl,rfl,hok3,hok4⟩,ho1.lt _ _ ht1⟩
  ·grind
  ·intro c y hc
   have hne:c≠HA.next+1:=fun e=>by simp_all
   show(if c=HA.next+1 then none else X2 c)=some y
   rw[yaa hne];exact e3 _ _ (Jc hx1 _ _ hc)
 have h:=h (HA.next+1) r htn (by omega) (by rw[<- hr]) (by rw[<- hr]) hyield
 rw[rX]at h;obtain⟨⟨g,aq⟩,hra,hw⟩:=h
 unfold hZ at hra;rw[tA]at hra;obtain⟨⟨qf,q1,q2⟩,hq,hra⟩:=hra
 cases qf with
 | yld l=>cases hra
 | func g'=>
  simp only[xB,ybb]at hra;obtain⟨⟨hg,hnp⟩,hra⟩:=hra
  cases hra;have hp:C.prims.get g=none:=by
   unfold uQ at hnp
   cases hx:C.prims.get g with
   | none=>rfl
   | some u=>rw[hx]at hnp;cases hnp
  have hXd:X HA.next=none:=ho.nextX
  have ho1:Ov C.base t (uN X HA.next (.deferred (some []))) (newBlk HA (.deferred (some []))):=by
   refine⟨Nat.le_succ_of_le ho.base,fun b hb=>?_,fun b y hb=>?_,fun b y hb=>Nat.lt_succ_of_lt (ho.lt _ _ hb)⟩
   ·unfold uN at hb
    split at hb
    ·cases hb
    ·rename_i e
     show(HA.t.set HA.next _).get b=_
     rw[Tr.get_set,yaa e];exact ho.same b hb
   ·unfold uN at hb
    show(HA.t.set HA.next _).get b=_/\_/\b<HA.next+1
    split at hb
    ·rename_i e;cases hb;subst e;exact⟨by rw[Tr.get_set,yab rfl],ho.nextT,Nat.lt_succ_self _⟩
    ·rename_i e
     obtain⟨g1,g2,g3⟩:=ho.ext b y hb
     grind [Tr.get_set]
  have ho2:=ho1.newBlk (.loop r)
  obtain⟨v,t',HA2,X2,e1,e2,e3,e4⟩:=hO.1 (hW.fn _ _ _ _ hg hw _ _ ho2)
  rw[Fr (zbj hg).1,hp]at e1
  have e1:nC C A (.func g) (qD q1 (.func (.yld (HA.next+1)) [] []::q2)) (newBlk (newBlk HA (.deferred (some []))) (.loop r))=some (⟨v,false⟩,HA2):=e1
  have goal:∀r' (κ':KT) (m':Tm->xA->sB),t'.get (HA.next+1)=some (.loop r')->(!Nat.beq (LoopState.tag r'.state) 1)=true->(∀tm H,xZ m r'.pending tm H=m' tm H)->(∀X0,SK C W J X0 kf oI Q κ' m')->oA C.base W J (κ' st) (t'.del (HA.next+1)) Q →
    lB C.base X0 oI Q (wQ C (nC C A) f n m fo ps.toList (asC aq) (lD c) tm HA):=by
   intro r' κ' m' k1 k2 k3 k4 k5;have ho3:=e2.under k1 (.loop ⟨.exhausted,r'.pending,r'.fn,r'.n,r'.tm,r'.params,r'.assign,r'.body,r'.defers⟩)
   have hx2:=e2.notX k1
   have hXX:gH X (uN X2 (HA.next+1) (.loop ⟨.exhausted,r'.pending,r'.fn,r'.n,r'.tm,r'.params,r'.assign,r'.body,r'.defers⟩)):=((Jc hXd).trans e3).trans (Jc hx2)
   have hd3:(uN X2 (HA.next+1) (.loop ⟨.exhausted,r'.pending,r'.fn,r'.n,r'.tm,r'.params,r'.assign,r'.body,r'.defers⟩)) HA.next=some (.deferred (some [])):=by
    refine(Jc hx2) _ _ (e3 _ _ ?_)
    unfold uN;rw[yab rfl]
   have hX0d:X0 HA.next=none:=by
    cases hx:X0 HA.next with
    | none=>rfl
    | some y=>have:=hst.le _ _ hx;simp_all
   have hl:=hst.later ho3 hXX
   have hl':bE C.base (uN X0 HA.next (.deferred (some []))) kf ν (uN X2 (HA.next+1) (.loop ⟨.exhausted,r'.pending,r'.fn,r'.n,r'.tm,r'.params,r'.assign,r'.body,r'.defers⟩)) st tm (endLoop HA2 (HA.next+1) r') (t'.del (HA.next+1)):=by
    refine⟨hl.ov,?_,hl.k,hl.kA,hl.tms,hl.ads,fun d l hd=>?_,hl.inj⟩
    ·intro b y hb
     unfold uN at hb;split at hb
     ·simp_all
     ·exact hl.le _ _ hb
    ·obtain⟨g1,g2,g3⟩:=hl.lo d l hd
     grind [uN]
   obtain⟨w,t4,HA4,X4,f1,f2,f3,f4⟩:=hO.1 (k4 _ _ _ _ _ _ _ hl' k5)
   have hd4:X4 HA.next=some (.deferred (some [])):=f3 _ _ (by unfold uN;rw[yab rfl])
   refine hO.2 ⟨w,t4,_,_,?_,f2.setX hd4 (.deferred none),?_,f4⟩
   ·unfold wQ
    rw[kE (Jd hst).1 hf,qA,hq,qA]
    show(yB (jD (C.prims.get g)) _)=_
    rw[hp];show(ob (nC C A (.func g) _ (newBlk (newBlk HA (.deferred (some []))) (.loop ⟨.ready,none,f,n,tm,ps.toList,asC aq,lD c,HA.next⟩))) _)=_
    rw[hr,e1,qA];show(ob (eH HA2 (HA.next+1)) _)=_
    rw[Wh (by omega) (e2.up k1),qA,k2]
    show(ob (xZ m r'.pending tm _) _)=_
    rw[k3];show(ob (m' tm (endLoop HA2 (HA.next+1) r')) _)=_
    rw[f1,qA];show(ob (gU HA4 HA.next) _)=_
    have:gU HA4 HA.next=some (some []):=by
     unfold gU;rw[(f2.ext _ _ hd4).1,qA,Nat.ble_eq_true_of_le (by omega:256<=HA.next)]
     rfl
    simp only[this,qA];rfl
   ·intro b y hb
    have hne:b≠HA.next:=fun e=>by simp_all
    show(if b=HA.next then _ else X4 b)=some y
    rw[yaa hne];exact f3 _ _ (Jc hX0d _ _ hb)
  rcases e4 with⟨k1,k2⟩ | ⟨k1,k2⟩
  ·exact goal r κ.norm m.norm k1 (by rw[<- hr];rfl) (fun _ _=>by rw[<- hr];rfl) (fun X0=>(hκ X0).norm) k2
  ·exact goal _ κ.ret m.ret k1 (by rw[<- hr];rfl) (fun _ _=>by rw[<- hr];rfl) (fun X0=>(hκ X0).ret) k2
def zM (A:Tr zC)(E:fA)(f:Nat)(c:zC):Prop:=∀q∈dJ c,E=oI/\∃c0,A.get f=some c0/\Ja c0=some q
theorem zM.l{a b:List Dh}{P:Dh->Prop}(h:∀q∈qD a b,P q):(∀q∈a,P q)/\∀q∈b,P q:=by
 grind [xG]
theorem nZ(hW:rO C A E W)(hY:wZ C A W){la:List Nat}{f:Nat}:∀(c:zC) (κ:KtT) (m:Kt),zM A E f c->(∀X0,SKt C W J X0 kf E Q κ m)->fQ C.base kf E J (oJ C (nC C A) f n c m)->∀X0,SK C W J X0 kf E Q (nK C la f n c κ) (aC C (nC C A) f n c m):=by
 intro c;induction c with
 | skip=>intro κ m _ hκ _ X0;exact(hκ X0).norm
 | region id ops d=>intro κ m _ hκ _ X0;exact NO hW (hκ X0).norm
 | seq a b iha ihb=>
  intro κ m hR hκ hJ;exact iha ⟨nK C la f n b κ,κ.exit,κ.ret⟩ ⟨aC C (nC C A) f n b m,m.exit,m.ret⟩ (zM.l hR).1 (fun X0=>⟨ihb κ m (zM.l hR).2 hκ (fun d hd=>hJ d (ycf _ hd)) X0,(hκ X0).exit,(hκ X0).ret⟩) fun d hd=>hJ d (ydc _ hd)
 | cond x a b iha ihb=>
  intro κ m hR hκ hJ X0 st tm HA t X ν hst h;have ha:=iha κ m (zM.l hR).1 hκ (fun d hd=>hJ d (ydc _ hd)) X0
  have hb:=ihb κ m (zM.l hR).2 hκ (fun d hd=>hJ d (ycf _ hd)) X0
  have h:oA C.base W J (kB (ob (ev x (.now st.tm)) zA.asBool) fun b'=>bif Ab x st.lit then Bool.rec (motive:=fun _=>T) (nK C la f n b κ st) (nK C la f n a κ st) b' else .ite b' (nK C la f n a κ st) (nK C la f n b κ st)) t Q:=h
  rw[xE]at h;obtain⟨w,h1,h2⟩:=h
  rw[tA]at h1;obtain⟨v,h3,h4⟩:=h1
  show lB C.base X0 E Q (ob (ob (ev x (.now tm)) zA.asBool) fun t=>Bool.rec (motive:=fun _=>sB) (aC C (nC C A) f n b m tm HA) (aC C (nC C A) f n a m tm HA) t)
  refine lB.ob (a:=w) (by rw[kE (Jd hst).1 h3];exact h4) ?_
  have h2:if w=true then oA C.base W J (nK C la f n a κ st) t Q else oA C.base W J (nK C la f n b κ st) t Q:=by
   rw[dC]at h2;split at h2
   ·cases w<;>exact h2
   ·exact h2
  cases w with
  | true=>exact ha _ _ _ _ _ _ hst h2
  | false=>exact hb _ _ _ _ _ _ hst h2
 | block id c ih=>
  intro κ m hR hκ hJ;refine ih ⟨κ.norm,fun i st=>Bool.rec (motive:=fun _=>T) (κ.exit i st) (κ.norm st) (Nat.beq id i),κ.ret⟩ ⟨m.norm,fun i tm H=>Bool.rec (motive:=fun _=>sB) (m.exit i tm H) (m.norm tm H) (Nat.beq id i),m.ret⟩ hR (fun X0=>⟨(hκ X0).norm,fun i=>?_,(hκ X0).ret⟩) hJ
  intro st tm HA t X ν hst h;have h:oA C.base W J (Bool.rec (motive:=fun _=>T) (κ.exit i st) (κ.norm st) (Nat.beq id i)) t Q:=h
  show lB C.base X0 E Q (Bool.rec (motive:=fun _=>sB) (m.exit i tm HA) (m.norm tm HA) (Nat.beq id i))
  cases hb:Nat.beq id i with
  | true=>rw[hb]at h;exact(hκ X0).norm _ _ _ _ _ _ hst h
  | false=>rw[hb]at h;exact(hκ X0).exit i _ _ _ _ _ _ hst h
 | loop p c ih=>intro κ m _ hκ hJ X0;exact Wx hJ yby
 | exit id=>intro κ m _ hκ _ X0;exact(hκ X0).exit id
 | ret=>intro κ m _ hκ _ X0;exact(hκ X0).ret
 | cut p c ih=>intro κ m _ hκ hJ X0;exact Wx hJ yby
 | range i pl fo ps aq c ih=>intro κ m hR hκ hJ X0;exact RK hW (hR _ yby).1 hY hκ (hR _ yby).2 fun vals t Q h=>hJ _ yby vals t Q h
def PtOk (C:rA)(E:fA)(W J:pF)(kf:Nat)(l:List PtT)(d:PtD):Prop:=∃q∈l,q.p=d.p/\∀vals t Q,oA C.base W J (q.tree vals) t Q->Le C.base kf E d vals t Q
def keptOk(kf:Nat):zC->Bool
 | .seq a b=>keptOk kf a&&keptOk kf b
 | .cond _ a b=>keptOk kf a&&keptOk kf b
 | .block _ c=>keptOk kf c
 | .loop p c=>p.kept.all (fun i=>Nat.blt i kf)&&keptOk kf c
 | .cut p c=>p.kept.all (fun i=>Nat.blt i kf)&&keptOk kf c
 | .range _ _ _ _ _ c=>keptOk kf c
 | _=>true
theorem SC(hW:rO C A E W)(hY:wZ C A W){la:List Nat}{f:Nat}:∀(c:zC) (κ:KtT) (m:Kt),zM A E f c->keptOk kf c=true->(∀X0 Q,SKt C W J X0 kf E Q κ m)->fQ C.base kf E J (oJ C (nC C A) f n c m)->∀d∈oJ C (nC C A) f n c m,PtOk C E W J kf (eZ C la f n kf c κ) d:=by
 have up:∀ {l l':List PtT} {d:PtD},PtOk C E W J kf l d->(∀q∈l,q∈l')->PtOk C E W J kf l' d:=fun⟨q,h1,h2⟩ hl=>⟨q,hl q h1,h2⟩
 intro c;induction c with
 | skip=>intro κ m _ _ _ _ d hd;cases hd
 | region id ops dr=>intro κ m _ _ _ _ d hd;cases hd
 | seq a b iha ihb=>
  intro κ m hR hk hκ hJ d hd;unfold keptOk at hk;rw[ybb]at hk;have e:eZ C la f n kf (.seq a b) κ=eZ C la f n kf a ⟨nK C la f n b κ,κ.exit,κ.ret⟩++eZ C la f n kf b κ:=xG _ _
  rw[e];have hJa:fQ C.base kf E J (oJ C (nC C A) f n a ⟨aC C (nC C A) f n b m,m.exit,m.ret⟩):=fun d hd=>hJ d (ydc _ hd)
  have hJb:fQ C.base kf E J (oJ C (nC C A) f n b m):=fun d hd=>hJ d (ycf _ hd)
  rcases yaf.1 hd with hd | hd
  ·exact up (iha ⟨nK C la f n b κ,κ.exit,κ.ret⟩ ⟨aC C (nC C A) f n b m,m.exit,m.ret⟩ (zM.l hR).1 hk.1 (fun X0 Q=>⟨nZ hW hY b κ m (zM.l hR).2 (fun X0=>hκ X0 Q) hJb X0,(hκ X0 Q).exit,(hκ X0 Q).ret⟩) hJa d hd) fun q hq=>ydc _ hq
  ·exact up (ihb _ _ (zM.l hR).2 hk.2 hκ hJb d hd) fun q hq=>ycf _ hq
 | cond x a b iha ihb=>
  intro κ m hR hk hκ hJ d hd;unfold keptOk at hk;rw[ybb]at hk;have e:eZ C la f n kf (.cond x a b) κ=eZ C la f n kf a κ++eZ C la f n kf b κ:=xG _ _
  rw[e];rcases yaf.1 hd with hd | hd
  ·exact up (iha _ _ (zM.l hR).1 hk.1 hκ (fun d hd=>hJ d (ydc _ hd)) d hd) fun q hq=>ydc _ hq
  ·exact up (ihb _ _ (zM.l hR).2 hk.2 hκ (fun d hd=>hJ d (ycf _ hd)) d hd) fun q hq=>ycf _ hq
 | block id c ih=>
  intro κ m hR hk hκ hJ d hd;refine ih ⟨κ.norm,fun i st=>Bool.rec (motive:=fun _=>T) (κ.exit i st) (κ.norm st) (Nat.beq id i),κ.ret⟩ ⟨m.norm,fun i tm H=>Bool.rec (motive:=fun _=>sB) (m.exit i tm H) (m.norm tm H) (Nat.beq id i),m.ret⟩ hR hk (fun X0 Q=>⟨(hκ X0 Q).norm,fun i=>?_,(hκ X0 Q).ret⟩) hJ d hd
  intro st tm HA t X ν hst h;have h:oA C.base W J (Bool.rec (motive:=fun _=>T) (κ.exit i st) (κ.norm st) (Nat.beq id i)) t Q:=h
  show lB C.base X0 E Q (Bool.rec (motive:=fun _=>sB) (m.exit i tm HA) (m.norm tm HA) (Nat.beq id i))
  cases hb:Nat.beq id i with
  | true=>rw[hb]at h;exact(hκ X0 Q).norm _ _ _ _ _ _ hst h
  | false=>rw[hb]at h;exact(hκ X0 Q).exit i _ _ _ _ _ _ hst h
 | loop p c ih=>
  intro κ m hR hk hκ hJ d hd;unfold keptOk at hk;rw[ybb,ycb]at hk;have hJc:fQ C.base kf E J (oJ C (nC C A) f n c ⟨aC C (nC C A) f n (.loop p c) m,m.exit,m.ret⟩):=fun d hd=>hJ d (ybr _ hd)
  have hκ':∀X0 Q,SKt C W J X0 kf E Q ⟨fV p,κ.exit,κ.ret⟩ ⟨aC C (nC C A) f n (.loop p c) m,m.exit,m.ret⟩:=fun X0 Q=>⟨Wx hJ yby,(hκ X0 Q).exit,(hκ X0 Q).ret⟩
  rcases ybs.1 hd with rfl | hd
  ·refine⟨_,yby,rfl,fun vals t Q hw X0 X HA tm ν hst=>?_⟩
   show lB C.base X0 E Q (aC C (nC C A) f n (.loop p c) m tm HA)
   rw[zao];exact nZ hW hY c _ _ hR (fun X0=>hκ' X0 Q) hJc X0 _ _ _ _ _ _ (hst.keep fun i hi=>vC.1 (hk.1 i hi)) hw
  ·exact up (ih ⟨fV p,κ.exit,κ.ret⟩ ⟨aC C (nC C A) f n (.loop p c) m,m.exit,m.ret⟩ hR hk.2 hκ' hJc d hd) fun q hq=>ybr _ hq
 | exit id=>intro κ m _ _ _ _ d hd;cases hd
 | ret=>intro κ m _ _ _ _ d hd;cases hd
 | cut p c ih=>
  intro κ m hR hk hκ hJ d hd;unfold keptOk at hk;rw[ybb,ycb]at hk;have hJc:fQ C.base kf E J (oJ C (nC C A) f n c m):=fun d hd=>hJ d (ybr _ hd)
  rcases ybs.1 hd with rfl | hd
  ·refine⟨_,yby,rfl,fun vals t Q hw X0 X HA tm ν hst=>?_⟩
   exact nZ hW hY c _ _ hR (fun X0=>hκ X0 Q) hJc X0 _ _ _ _ _ _ (hst.keep fun i hi=>vC.1 (hk.1 i hi)) hw
  ·exact up (ih _ _ hR hk.2 hκ hJc d hd) fun q hq=>ybr _ hq
 | range i pl fo ps aq c ih=>
  intro κ m hR hk hκ hJ d hd;have hR':zM A E f c:=fun q hq=>hR q (ybr _ hq)
  have hJc:fQ C.base kf E J (oJ C (nC C A) f n c bT):=fun d hd=>hJ d (ybr _ hd)
  rcases ybs.1 hd with rfl | hd
  ·refine⟨_,yby,rfl,fun vals t Q hw X0 X HA tm ν hst=>?_⟩
   exact nZ hW hY (asA c aq) rdT bT (fun q hq=>hR' q (by rwa [RG]at hq)) (fun _=>DA) (fun d hd=>hJc d (by rwa [SD]at hd)) X0 _ _ _ _ _ _ hst hw
  ·exact up (ih rdT bT hR' hk (fun _ _=>DA) hJc d hd) fun q hq=>ybr _ hq
end
end Go.Am
namespace Go.Am
open Go Go.RowKit
def Tr.mapT{α β:Type}(f:α->β)(t:Tr α):Tr β:=Tr.rec (motive:=fun _=>Tr β) .leaf (fun _ v _ l r=>.node l (match v with | some a=>some (f a) | none=>none) r) t
theorem Tr.get_mapT{α β:Type}(f:α->β):∀(t:Tr α) (n:Nat),(t.mapT f).get n=(t.get n).map f:=by
 intro t;induction t with
 | leaf=>intro n;rfl
 | node l v r ihl ihr=>
  intro n;show(Tr.node (l.mapT f) (match v with | some a=>some (f a) | none=>none) (r.mapT f)).get n=_
  grind [Tr.get_node]
def eD(F:Tr kD):Tr zC:=F.mapT kD.code
def fnB (f kf:Nat)(c:zC):Bool:=Nat.blt f yo&&(keptOk kf c&&(jD (eT c)&&(match dJ c with | []=>true | [_]=>true | _=>false)))
structure yM (C:rA) (F:Tr kD) (f:Nat) (fn:Func) (kf:Nat) (A:kD):Prop where
 isF:F.get f=some A
 isFn:C.fns.get f=some fn
 isK:C.ks.get f=some kf
 prim:jD (C.prims.get f)=true
 kept:fnB f kf A.code=true
 body:jD fn.body=false
theorem yM.lt{C:rA}{F:Tr kD}{f:Nat}{fn:Func}{kf:Nat}{A:kD}(h:yM C F f fn kf A):Nat.blt f yo=true:=by
 have:=h.kept;grind [fnB]
theorem yM.keptOk{C:rA}{F:Tr kD}{f:Nat}{fn:Func}{kf:Nat}{A:kD}(h:yM C F f fn kf A):keptOk kf A.code=true:=by
 have:=h.kept;grind [fnB]
theorem yM.code{C:rA}{F:Tr kD}{f:Nat}{fn:Func}{kf:Nat}{A:kD}(h:yM C F f fn kf A):(eD F).get f=some A.code:=by unfold eD;rw[Tr.get_mapT,h.isF];rfl
theorem yM.one{C:rA}{F:Tr kD}{f:Nat}{fn:Func}{kf:Nat}{A:kD}{E:fA}(h:yM C F f fn kf A)(hr:E=oI\/dJ A.code=[]):zM (eD F) E f A.code:=by
 have:=h.kept
 unfold fnB at this;simp only[ybb]at this;intro q hq;refine⟨hr.resolve_right (fun e=>by rw[e]at hq;cases hq),_,h.code,?_⟩
 grind [Ja]
theorem yM.plain{C:rA}{F:Tr kD}{f:Nat}{fn:Func}{kf:Nat}{A:kD}(h:yM C F f fn kf A):eT A.code=none:=by
 have:=h.kept
 unfold fnB at this;simp only[ybb]at this
 cases hx:eT A.code with
 | none=>rfl
 | some u=>rw[hx]at this;cases this.2.2.1
def dK (C:rA)(F:Tr kD)(E:fA):pF:=fun f args t Q=>∀X HA,Ov C.base t X HA->lB C.base X E Q (fY C (eD F) f args HA)
def Wc (C:rA)(F:Tr kD):pF:=fun f args t Q=>∀X HA,Ov C.base t X HA->lB C.base X oI Q (fY C (eD F) f args HA)
theorem Wc.mono{C:rA}{F:Tr kD}{f:Nat}{args:List zA}{t:Tr vA}{Q Q':fA}(h:Wc C F f args t Q)(k:∀v t',Q v t'->Q' v t'):Wc C F f args t Q':=fun X HA ho=>(h X HA ho).mono k
theorem Tr.bound{α:Type}(t:Tr α):∃n,∀b y,t.get b=some y->b<n:=by
 induction t with
 | leaf=>simp_all [Tr.get_leaf]
 | node l v r ihl ihr=>
  obtain⟨n,hn⟩:=ihl
  obtain⟨m,hm⟩:=ihr
  refine⟨2*n+2*m+3,fun b y h=>?_⟩
  grind [Tr.get_node]
def PV (C:rA)(F:Tr kD)(f:Nat)(args:List zA)(t:Tr vA)(v:zA):Prop:=Wc C F f args t fun v' t'=>v'=v/\t'=t
theorem PV.unique{C:rA}{F:Tr kD}{f:Nat}{args:List zA}{t:Tr vA}{v v':zA}(h:PV C F f args t v)(h':PV C F f args t v'):v=v':=by
 obtain⟨n,hn⟩:=Tr.bound t
 have ho:Ov C.base t (fun _=>none) ⟨C.base+n,t⟩:=⟨Nat.le_add_right _ _,fun _ _=>rfl,fun _ _ h=>(by cases h),fun b y hb=>Nat.lt_of_lt_of_le (hn b y hb) (Nat.le_add_left _ _)⟩
 obtain⟨u,t',HA',X',h1,_,_,h2,_⟩:=hO.1 (h _ _ ho)
 obtain⟨u',t'',HA'',X'',h3,_,_,h4,_⟩:=hO.1 (h' _ _ ho)
 rw[h1]at h3
 cases h3;rw[<- h2,<- h4]
def fB (C:rA)(F:Tr kD)(f:Nat)(args:List zA)(t:Tr vA):Option zA:=@dite _ (∃v,PV C F f args t v) (Classical.propDecidable _) (fun h=>some h.choose) (fun _=>none)
theorem tE{C:rA}{F:Tr kD}{f:Nat}{args:List zA}{t:Tr vA}{v:zA}:fB C F f args t=some v ↔ PV C F f args t v:=by
 unfold fB;constructor
 ·intro h
  by_cases hx:∃v,PV C F f args t v
  all_goals grind
 ·intro h
  have hx:∃v,PV C F f args t v:=⟨v,h⟩
  rw[dif_pos hx,PV.unique hx.choose_spec h]
def Wq (C:rA)(F:Tr kD)(pure:Nat->Bool):pF:=fun f args t R=>if (pure f&&Nat.blt f yo)=true then xD (fB C F f args t) fun v=>R v t else if Nat.beq f pn=true then False else Wc C F f args t R
def kF (C:rA)(F:Tr kD)(pure pan:Nat->Bool)(E:fA):pF:=fun f args t R=>if (pure f&&Nat.blt f yo)=true then xD (fB C F f args t) fun v=>R v t else if Nat.beq f pn=true then ∃v,args=[v]/\E v t else
 if (pan f&&Nat.blt f pn)=true then dK C F E f args t R else Wc C F f args t R
theorem Wc.toE{C:rA}{F:Tr kD}{E:fA}{f:Nat}{args:List zA}{t:Tr vA}{Q:fA}(h:Wc C F f args t Q):dK C F E f args t Q:=fun X HA ho=>(h X HA ho).mono (fun _ _ h=>h) fun _ _ h=>h.elim
theorem pv_wc{C:rA}{F:Tr kD}{f:Nat}{args:List zA}{t:Tr vA}{R:fA}(h:xD (fB C F f args t) fun v=>R v t):Wc C F f args t R:=by
 rw[rX]at h;obtain⟨v,h1,h2⟩:=h
 exact(tE.1 h1).mono fun v' t' hh=>by simp_all
theorem DR{f:Nat}(h:Nat.blt f pn=true):Nat.beq f pn=false:=Bool.eq_false_iff.2 fun e=>by grind [vC,sC]
theorem tV{l:Nat}:Nat.blt (yo+l) yo=false/\Nat.blt (yo+l) pn=false/\Nat.beq (yo+l) pn=false:=by
 refine⟨Bool.eq_false_iff.2 fun e=>?_,Bool.eq_false_iff.2 fun e=>?_,Bool.eq_false_iff.2 fun e=>?_⟩
 ·have:=vC.1 e;omega
 ·have:=vC.1 e;unfold yo pn at this;omega
 ·have:=sC.1 e;unfold yo pn at this;omega
theorem Rb{C:rA}{F:Tr kD}{pure:Nat->Bool}(hpn:pure pn=false):rO C (eD F) oI (Wq C F pure):=by
 refine⟨fun f args t R hf h X HA ho=>?_,fun l args t R h X HA ho=>?_,fun args t R h=>?_⟩
 ·unfold Wq at h
  split at h
  ·exact pv_wc h X HA ho
  ·rw[DR hf,yaa (by simp)]at h
   exact h X HA ho
 ·unfold Wq at h
  rw[tV.1,yay,yaa (by simp),tV.2.2,yaa (by simp)]at h
  exact h X HA ho
 ·unfold Wq at h
  rw[hpn,Bool.false_and,yaa (by simp),yab (sC.2 rfl)]at h
  exact h.elim
theorem vG{C:rA}{F:Tr kD}{pure pan:Nat->Bool}{E:fA}(hpn:pure pn=false):rO C (eD F) E (kF C F pure pan E):=by
 refine⟨fun f args t R hf h X HA ho=>?_,fun l args t R h X HA ho=>?_,fun args t R h=>?_⟩
 ·unfold kF at h
  split at h
  ·exact(pv_wc h).toE X HA ho
  ·rw[DR hf,yaa (by simp)]at h
   split at h
   ·exact h X HA ho
   ·exact h.toE X HA ho
 ·unfold kF at h
  rw[tV.1,yay,yaa (by simp),tV.2.2,yaa (by simp),tV.2.1,yay,yaa (by simp)]at h
  exact h X HA ho
 ·unfold kF at h
  rw[hpn,Bool.false_and,yaa (by simp),yab (sC.2 rfl)]at h
  exact h
theorem Ra{C:rA}{F:Tr kD}{pure:Nat->Bool}:wZ C (eD F) (Wq C F pure):=by
 intro l args t Q h;unfold Wq;rw[tV.1,yay,yaa (by simp),tV.2.2,yaa (by simp)]
 exact h
theorem wG{C:rA}{F:Tr kD}{pure pan:Nat->Bool}{E:fA}:wZ C (eD F) (kF C F pure pan E):=by
 intro l args t Q h;unfold kF;rw[tV.1,yay,yaa (by simp),tV.2.2,yaa (by simp),tV.2.1,yay,yaa (by simp)]
 exact h
def JqE (C:rA)(F:Tr kD)(E:fA)(f:Nat):pF:=fun i vals t Q=>∀fn kf A,yM C F f fn kf A->∀d∈oJ C (nC C (eD F)) f fn.ntmps A.code (yN C fn),d.p.id=i->Le C.base kf E d vals t Q
def Jq (C:rA)(F:Tr kD)(f:Nat):pF:=fun i vals t Q=>∀fn kf A,yM C F f fn kf A->∀d∈oJ C (nC C (eD F)) f fn.ntmps A.code (yN C fn),d.p.id=i->Le C.base kf oI d vals t Q
theorem zbo{C:rA}{F:Tr kD}{E:fA}{f:Nat}{fn:Func}{kf:Nat}{A:kD}(h:yM C F f fn kf A):fQ C.base kf E (JqE C F E f) (oJ C (nC C (eD F)) f fn.ntmps A.code (yN C fn)):=
 fun d hd _ _ _ hJ=>hJ fn kf A h d hd rfl
section
variable {W J:pF}{t:Tr vA}{X X0:Xt}{HA:xA}{C:rA}{A:Tr zC}{ν:Nat->Nat}{Q E:fA}{kf n:Nat}{st:tG}{tm:Tm}
theorem zb8(hst:bE C.base X0 kf ν X st tm HA t):∀(l:List ResultVar) (K:List zA->T),oA C.base W J (Ef C st l K) t Q->∃vs,rS C HA tm l=some vs/\oA C.base W J (K vs) t Q:=by
 intro l;induction l with
 | nil=>intro K h;exact⟨[],rfl,h⟩
 | cons r l ih=>
  intro K h
  cases r with
  | tmp i=>
   have h:oA C.base W J (kB (st.tm.get i) fun v=>Ef C st l fun l=>K (v::l)) t Q:=h
   rw[xE]at h;obtain⟨v,h1,h2⟩:=h
   obtain⟨vs,h3,h4⟩:=ih _ h2
   refine⟨v::vs,?_,h4⟩
   show lG (zQ C HA tm) _=_
   rw[zP];show ob (tm.get i) _=_
   rw[hst.tms _ _ h1,qA];have h3:lG (zQ C HA tm) l=some vs:=h3
   rw[h3];rfl
  | cell a ty=>
   have h:oA C.base W J (match uK a st.ad with
    | some p=>kB (st.lo.get p.1) fun m=>kB (C.tys.get ty) fun y=>wJ (Nat.ble (p.2+y.size) (bA m)) (kB (eO C ty m p.2) fun v=>Ef C st l fun l=>K (v::l))
    | none=>kB (st.tm.get a) fun a=>.light (fun m=>iA C ty ⟨0,m⟩ a) fun v=>Ef C st l fun l=>K (v::l)) t Q:=h
   have bH:∀ {u v:zA},tm.get a=some u->iA C ty HA u=some v->oA C.base W J (Ef C st l fun l=>K (v::l)) t Q->∃vs,rS C HA tm (.cell a ty::l)=some vs/\oA C.base W J (K vs) t Q:=by
    intro u v h1 h2 h3;obtain⟨vs,h4,h5⟩:=ih _ h3
    refine⟨v::vs,?_,h5⟩
    show lG (zQ C HA tm) _=_
    rw[zP];have e:zQ C HA tm (.cell a ty)=some v:=by
     show(ob (ob (tm.get a) zA.asPtr) fun p=>ob (C.tys.get ty) fun ty=>ob (bD HA p.1) fun c=>sQ ty c.1 p.2)=some v
     grind [iA,qA]
    have h4:lG (zQ C HA tm) l=some vs:=h4
    simp_all
   split at h
   ·rename_i p hp
    simp only[xE,aM]at h;obtain⟨m,h1,y,h2,h3,v,h4,h5⟩:=h
    exact bH (hst.ads _ _ hp) (FC hst.ov hst.lo h1 h2 h3 h4) h5
   ·simp only[xE,Dm]at h
    obtain⟨u,h1,v,h2,h3⟩:=h
    exact bH (hst.tms _ _ h1) (Zi hst.ov.le h2) h3
theorem Kp{fn:Func}:SK C W J X0 kf E Q (endT C fn) (zT C fn):=by
 intro st tm HA t X ν hst h;obtain⟨vs,h1,h2⟩:=zb8 hst _ _ h
 unfold zT;exact lB.ob h1 ⟨_,t,HA,X,rfl,hst.ov,hst.le,h2⟩
theorem Sa{fn:Func}:SKt C W J X0 kf E Q (oZ C fn) (yN C fn):=⟨Kp,fun _ _ _ _ _ _ _ _ h=>h.elim,Kp⟩
end
section
variable {C:rA}{F:Tr kD}{f:Nat}{fn:Func}{kf:Nat}{A:kD}{pure:Nat->Bool}{t:Tr vA}{Q:fA}
theorem gJ{E:fA}{W:pF}(hW:rO C (eD F) E W)(hY:wZ C (eD F) W)(h:yM C F f fn kf A)(hr:E=oI\/dJ A.code=[]){args:List zA}(hl:(Nat.ble (bA args) kf&&Nat.ble (bA args) fn.ntmps)=true)(hw:oA C.base W (JqE C F E f) (dI C fn kf f A args) t Q):dK C F E f args t Q:=by
 intro X HA ho;have hA:=h.code
 obtain⟨body,hb⟩:∃b,fn.body=some b:=by
  cases hx:fn.body with
  | none=>have:=h.body;rw[hx]at this;cases this
  | some b=>simp_all
 have he:eI C f args false=some ⟨[.code body],⟨kf,Tr.ofList args,[]⟩,⟨f,fn.ntmps,[],.run,false,none⟩⟩:=by
  unfold eI;rw[h.isFn,qA,hb,qA,h.isK,qA,hl];rfl
 have hp:C.prims.get f=none:=by
  cases hx:C.prims.get f with
  | none=>rfl
  | some g=>have:=h.prim;rw[hx]at this;cases this
 rw[Fr h.lt,hp];show lB C.base X E Q (nC C (eD F) (.func f) args HA)
 rw[Xm];show lB C.base X E Q (nQ C (eD F) (nC C (eD F)) f args HA)
 unfold nQ;refine lB.ob hA (lB.ob h.isFn (lB.ob he ?_))
 unfold dU;rw[h.plain];have hst:bE C.base X kf (fun i=>i) X ⟨⟨kf,Tr.ofList args,[]⟩,[],.leaf,[]⟩ ⟨kf,Tr.ofList args,[]⟩ HA t:=
  ⟨ho,gH.refl _,rfl,rfl,fun _ _ h=>h,fun _ _ h=>(by cases h),fun d l h=>(by grind [Tr.get_leaf]),fun d _ l _ h=>(by omega)⟩
 exact nZ hW hY A.code (oZ C fn) (yN C fn) (h.one hr) (fun _=>Sa) (zbo h) _ _ _ _ _ _ _ hst hw
theorem Wc_of(h:yM C F f fn kf A){args:List zA}(hl:(Nat.ble (bA args) kf&&Nat.ble (bA args) fn.ntmps)=true)(hw:oA C.base (Wq C F pure) (Jq C F f) (dI C fn kf f A args) t Q)(hpn:pure pn=false:=by rfl):Wc C F f args t Q:=
 gJ (E:=oI) (Rb hpn) Ra h (.inl rfl) hl hw
theorem JqE_of{E:fA}{W:pF}(hW:rO C (eD F) E W)(hY:wZ C (eD F) W)(h:yM C F f fn kf A)(hr:E=oI\/dJ A.code=[]){i:Nat}{vals:List zA}{l:List T}(hp:zL (pM C fn kf f A) i vals=l)(hw:∀T∈l,oA C.base W (JqE C F E f) T t Q):JqE C F E f i vals t Q:=by
 intro fn' kf' A' h' d hd hi;have e1:=h.isFn;rw[h'.isFn]at e1;cases e1
 have e2:=h.isK;rw[h'.isK]at e2;cases e2
 have e3:=h.isF;rw[h'.isF]at e3;cases e3
 obtain⟨q,h1,h2,h3⟩:=SC hW hY A.code (oZ C fn) (yN C fn) (h.one hr) h.keptOk (fun _ _=>Sa) (zbo h) d hd
 refine h3 vals t Q (hw _ ?_)
 subst hp;have key:∀(l:List PtT),q∈l->q.tree vals∈zL l i vals:=by
  intro l;induction l with
  | nil=>simp_all
  | cons p l ih=>
   grind [zL,sC]
 exact key _ h1
theorem mP{E:fA}{W:pF}(hW:rO C (eD F) E W)(hY:wZ C (eD F) W)(h:yM C F f fn kf A)(hr:E=oI\/dJ A.code=[]){i:Nat}{vals:List zA}{T:T}(hp:zL (pM C fn kf f A) i vals=[T])(hw:oA C.base W (JqE C F E f) T t Q):JqE C F E f i vals t Q:=
 JqE_of hW hY h hr hp fun T' hT=>by rw[ydd.1 hT];exact hw
theorem Jq_of1(h:yM C F f fn kf A){i:Nat}{vals:List zA}{T:T}(hp:zL (pM C fn kf f A) i vals=[T])(hw:oA C.base (Wq C F pure) (Jq C F f) T t Q)(hpn:pure pn=false:=by rfl):Jq C F f i vals t Q:=
 mP (E:=oI) (Rb hpn) Ra h (.inl rfl) hp hw
theorem Iq{g:List zA->xA->Option zA}(hg:C.prims.get f=some (vN g)){args:List zA}{v:zA}(h:∀H,g args H=some v)(hf:Nat.blt f yo=true:=by rfl):fB C F f args t=some v:=by
 refine tE.2 fun X HA ho=>?_
 rw[Fr hf,hg];exact hO.2 ⟨v,t,HA,X,by grind [vN,qA],ho,gH.refl _,rfl,rfl⟩
theorem vX{args:List zA}{v:zA}(h:Wc C F f args t fun v' t'=>v'=v/\∀b y,t.get b=some y->t'.get b=some y):fB C F f args t=some v:=by
 refine tE.2 fun X HA ho=>?_
 obtain⟨u,t',HA',X',h1,h2,h3,h4,h5⟩:=hO.1 (h X HA ho)
 refine hO.2 ⟨u,t,HA',fun b=>match t.get b with | some _=>none | none=>HA'.t.get b,h1,⟨h2.base,?_,?_,?_⟩,?_,h4,rfl⟩
 ·intro b hb
  cases hg:t.get b with
  | some y=>rw[h2.up (h5 b y hg)]
  | none=>simp_all
 ·intro b y hb
  cases hg:t.get b with
  | some y=>simp_all
  | none=>
   simp only[hg]at hb;refine⟨hb,rfl,?_⟩
   cases hx:X' b with
   | some z=>exact(h2.ext b z hx).2.2
   | none=>rw[h2.same b hx]at hb;exact h2.lt b y hb
 ·intro b y hb;exact h2.lt b y (h5 b y hb)
 ·intro b y hb
  have hn:=(ho.ext b y hb).2.1
  simp only[hn];exact(h2.ext b y (h3 b y hb)).1
end
theorem YH{P:Program}{C:rA}{F:Tr kD}{B N:Nat}{I:World->Prop}{μ:Mu}{w:World}(hS:vJ P C B N I)(hI:I w)(hA:vV C (eD F)){f:Nat}(hp:C.prims.get f=none){args:List zA}{args':Array Value}{H:xA}{Q:fA}(hbase:C.base<=H.next)(hlt:∀b y,H.t.get b=some y->b<H.next)(hH:wB B N μ H w)(hl:rB μ args args'.toList)
  (h:Wc C F f args H.t Q) (hf:Nat.blt f yo=true:=by rfl):Calls P f args' w fun e w'=>∃v v' t' μ',e=.returned v'/\μ.lw μ'/\uA μ' v v'/\Q v t'/\Below N w w':=by
 obtain⟨v,t',HA',X',h1,h2,h3,h4⟩:=hO.1 (h (fun _=>none) H ⟨hbase,fun _ _=>rfl,fun _ _ h=>(by cases h),hlt⟩)
 rw[Fr hf,hp]at h1;intro base;obtain⟨e,w',b,⟨v',μ',g1,g2,g3,g4,g5⟩,g6⟩:=YF hS hI hA hH hl h1 base
 grind
end Go.Am
namespace Go.Am
open Go Go.RowKit
def piOf (i:Nat)(l:List (Nat × PI)):Option PI:=List.rec (motive:=fun _=>Option PI) none (fun a _ g=>bif Nat.beq i a.1 then some a.2 else g) l
def cutP (p:Option PI)(c:zC):zC:=
 match p with
 | some p=>.cut p c
 | none=>c
def Wg(p:Option PI)(c:zC):zC:=
 match p with
 | some p=>.loop p c
 | none=>.loop ⟨0,[],[]⟩ c
def rangeP(p:Option PI)(f:Operand)(ps:Array Nat)(a:Code)(c:zC):zC:=
 match a with
 | .region id ops _=>.range (match p with | some p=>p.id | none=>0) (match p with | some p=>p.pl | none=>[]) f ps [(id,ops)] c
 | .seq (.region i o _) (.region id ops _)=>.range (match p with | some p=>p.id | none=>0) (match p with | some p=>p.pl | none=>[]) f ps [(i,o),(id,ops)] c
 | _=>.skip
def IL:Code->Bool
 | .region _ _ d => !d
 | .seq (.region _ _ d) (.region _ _ e) => !d && !e
 | _=>false
def nW(rt lt:List (Nat × PI))(c:Code):Nat->zC:=
 Code.rec (motive:=fun _=>Nat->zC)
  (fun _=>.skip)
  (fun id ops d _=>cutP (piOf id rt) (.region id ops d))
  (fun _ _ ga gb k=>.seq (ga k) (gb k))
  (fun c _ _ gx gy k=>.cond c (gx k) (gy k))
  (fun id _ g _=>.block id (g id))
  (fun _ g k=>Wg (piOf k lt) (g k))
  (fun f ps a _ _ gb k=>rangeP (piOf k lt) f ps a (gb k))
  (fun id _=>.exit id)
  (fun _ _ _=>.skip)
  (fun _ _=>.skip)
  (fun _ _=>.skip)
  (fun _=>.ret)
  (fun _ _=>.skip) c
def annot(rt lt:List (Nat × PI))(k:Nat)(c:Code):zC:=nW rt lt c k
def oS(c:Code):Bool:=
 Code.rec (motive:=fun _=>Bool) true (fun _ _ _=>true) (fun _ _ a b=>bif a then b else false) (fun _ _ _ a b=>bif a then b else false) (fun _ _ a=>a) (fun _ a=>a)
  (fun _ _ a _ _ b=>bif IL a then b else false) (fun _=>true) (fun _ _=>false) (fun _=>false) (fun _=>false) true (fun _=>false) c
theorem WH(p:Option PI)(c:zC):lD (cutP p c)=lD c:=by cases p<;>rfl
theorem WG(p:Option PI)(c:zC):lD (Wg p c)=.loop (lD c):=by cases p<;>rfl
theorem WI{rt lt:List (Nat × PI)}:∀(c:Code) (k:Nat),oS c=true->lD (nW rt lt c k)=c:=by
 intro c;induction c with
 | skip=>intro k _;rfl
 | region id ops d=>intro k _;show lD (cutP _ _)=_;rw[WH];rfl
 | seq a b iha ihb=>
  intro k h;have h:(bif oS a then oS b else false)=true:=h
  have ha:oS a=true:=by simp_all
  have hb:oS b=true:=by simp_all
  show Code.seq (lD (nW rt lt a k)) (lD (nW rt lt b k))=_
  rw[iha k ha,ihb k hb]
 | cond c x y ihx ihy=>
  intro k h;have h:(bif oS x then oS y else false)=true:=h
  have ha:oS x=true:=by simp_all
  have hb:oS y=true:=by simp_all
  show Code.cond c (lD (nW rt lt x k)) (lD (nW rt lt y k))=_
  rw[ihx k ha,ihy k hb]
 | block id c ih=>intro k h;show Code.block id (lD (nW rt lt c id))=_;rw[ih id h]
 | loop c ih=>intro k h;show lD (Wg _ (nW rt lt c k))=_;rw[WG,ih k h]
 | exit id=>intro k _;rfl
 | ret=>intro k _;rfl
 | rangeFunc f ps a b _ ihb=>
  intro k h;have h:(bif IL a then oS b else false)=true:=h
  cases a with
  | region id ops d=>
   cases d with
   | true=>cases h
   | false=>show Code.rangeFunc f ps (.region id ops false) (lD (nW rt lt b k))=_;rw[ihb k h]
  | seq x y=>
   cases x with
   | region i o d=>
    cases y with
    | region i' o' d'=>
     cases d with
     | true=>cases h
     | false=>
      cases d' with
      | true=>cases h
      | false=>
       show Code.rangeFunc f ps (.seq (.region i o false) (.region i' o' false)) (lD (nW rt lt b k))=_
       rw[ihb k h]
    | _=>cases h
   | _=>cases h
  | _=>cases h
 | scope c _=>intro k h;cases h
 | label l=>intro k h;cases h
 | goto l=>intro k h;cases h
 | refuse s=>intro k h;cases h
def Dv (l:List (Nat × kD)):Tr kD:=List.rec (motive:=fun _=>Tr kD) .leaf (fun p _ g=>g.set p.1 p.2) l
theorem OB{l:List (Nat × kD)}{f:Nat}{A:kD}(h:(Dv l).get f=some A):(f,A)∈l:=by
 induction l with
 | nil=>grind [Dv,Tr.get_leaf]
 | cons p l ih=>
  grind [Dv,Tr.get_set]
def zbp(C:rA)(p:Nat × kD):Prop:=∃fn c,C.fns.get p.1=some fn/\fn.body=some c/\lD p.2.code=c
theorem bodyOk{C:rA}{f:Nat}{fn:Func}{c:Code}{rt lt:List (Nat × PI)}{la:List Nat}(h1:C.fns.get f=some fn)(h2:fn.body=some c)(h3:oS c=true):zbp C (f,⟨annot rt lt 0 c,la⟩):=⟨fn,c,h1,h2,WI c 0 h3⟩
theorem XT{C:rA}{l:List (Nat × kD)}(h:∀p∈l,zbp C p):vV C (eD (Dv l)):=by
 intro f c hc;unfold eD at hc;rw[Tr.get_mapT]at hc
 cases hq:(Dv l).get f with
 | none=>simp_all
 | some A=>
  rw[hq]at hc
  cases hc;obtain⟨fn,b,h1,h2,h3⟩:=h _ (OB hq)
  simp_all
end Go.Am
namespace Go.Am
class jC where
 n:Nat
def Nr(a:List zA)(_:xA):Option zA:=match a with | []=>some (.bool true) | _=>none
def kS:List Nat->List Nat->Bool
 | [],_=>true
 | _::_,[]=>false
 | a::x,b::y=>bif Nat.beq a b then kS x y else false
def kY (sub:List Nat):List Nat->Option (List Nat × List Nat)
 | []=>bif sub.isEmpty then some ([],[])else none
 | b::l=>bif kS sub (b::l)then some ([],wP (b::l) (bA sub))else ob (kY sub l) fun p=>some (b::p.1,p.2)
def Iv (a:List zA)(_:xA):Option zA:=match a with
 | [.str s,.str c]=>yB (Nat.blt (bA s) 4294967281) (match kY c s with
  | some p=>some (.tup [.str p.1,.str p.2,.bool true])
  | none=>some (.tup [.str s,.str [],.bool false]))
 | _=>none
end Go.Am
namespace Go.Am
open Go Go.Shelf Go.RowKit Go.Proofs
variable {P:Program}{ρ:Ren}
set_option maxHeartbeats 2000000 in
set_option maxRecDepth 100000 in
theorem WR(L:Lays.n169 P ρ)(X:Builder.Extra P ρ)(b g cap cells:Nat)(l:List UInt8)(w:World)(c1:w.cell? ⟨b,1,none⟩=some (.slice (some ⟨g,0,none⟩) l.length cap))(h0:l≠[])(hcap:l.length<=cap)
  (hsh:w.shape? g=some (ρ.t 5,cells)) (hc:l.length<=cells) (h63:l.length<=9223372036854775807) (hcell:∀j x,l[j]?=some x->w.cell? ((⟨g,0,none⟩:Addr).add j)=some (.int .u8 x.toNat)) :
  Calls P (ρ.f 169) #[.pointer (some ⟨b,0,none⟩)] w fun e w'=>e=.returned (.string ⟨l.toArray⟩)/\w'=w.drew.freeze ⟨g,0,none⟩ l.length:=by
 have hl0:l.length≠0:=by simp_all
 have c1:w.drew.cell? ⟨b,1,none⟩=some (.slice (some ⟨g,0,none⟩) l.length cap):=c1
 have hSD:(Builtin.unsafeSliceData_ #[(ρ.t 37)] (ρ.t 127) #[.slice (some ⟨g,0,none⟩) l.length cap]).run P w.drew=.ok (.pointer (some ⟨g,0,none⟩)) w.drew:=
  Lib.run_unsafeSliceData_row _ _ _ _ _ _ (by omega)
 have hUS:(Builtin.unsafeString_ #[(ρ.t 127),(ρ.t 3)] (ρ.t 9) #[.pointer (some ⟨g,0,none⟩),.int .i64 l.length]).run P w.drew=.ok (.string ⟨l.toArray⟩) (w.drew.freeze ⟨g,0,none⟩ l.length):=
  Lib.run_unsafeString_row w.drew (ρ.t 127) (ρ.t 3) (ρ.t 9) (ρ.t 5) L.t127 X.cellsByte g cells hsh l h0 hc h63 hcell
 have mixed:=L.mixed
 have t72:=L.t72;have a72:=L.a72;have z72:=L.z72;have v72:=L.v72;have u72:=run_underlying L.t72
 have t70:=L.t70;have a70:=L.a70;have z70:=L.z70;have v70:=L.v70;have u70:=run_underlying L.t70
 have t37:=L.t37;have a37:=L.a37;have z37:=L.z37;have v37:=L.v37;have u37:=run_underlying L.t37
 have t127:=L.t127;have a127:=L.a127;have z127:=L.z127;have v127:=L.v127;have u127:=run_underlying L.t127
 have t3:=L.t3;have a3:=L.a3;have z3:=L.z3;have v3:=L.v3;have u3:=run_underlying L.t3
 have t9:=L.t9;have a9:=L.a9;have z9:=L.z9;have v9:=L.v9;have u9:=run_underlying L.t9
 have t5:=X.t5;have a5:=X.a5;have z5:=X.z5;have v5:=X.v5;have u5:=run_underlying X.t5
 go_enter L.f169,Body.n169_ntmps ρ
 go_wp2
 go_region_o
 all_goals (go_wp2;go_ret;simp_all)
end Go.Am
namespace Go.Am
open Go Go.Shelf Go.RowKit Go.Proofs
section
variable {P:Program}{ρ:Ren}{B N:Nat}{μ:Mu}{H:xA}{w:World}
theorem wB.scratch(hH:wB B N μ H w){g:Nat}(hg:N<=g)(hfree:∀a x j,H.t.get a=some x->μ a=some j->j.b≠g)(o':Obj):wB B N μ H (World.setBlk w g o'):=by
 have hsz:(World.setBlk w g o').heap.size=w.heap.size:=by simp[World.setBlk]
 refine⟨hH.base,hH.glob,hH.low,hH.next,by rw[hsz];exact hH.size,hH.fresh,fun a x i hx hi=>?_,fun a i ha hi=>by rw[hsz];exact hH.own a i ha hi,hH.inj,hH.pnd⟩
 obtain⟨o,h1,h2⟩:=hH.blk a x i hx hi
 grind [Ca]
def Oo:List (Nat × Nat)->Nat->Nat->Bool
 | [],_,_=>false
 | p::r,t,n=>bif Nat.beq p.1 t&&Nat.ble p.2 n then true else Oo r t n
theorem EW:∀ {Ts:List (Nat × Nat)} {t n:Nat},Oo Ts t n=true->∃p∈Ts,p.1=t/\p.2<=n
 | [],_,_,h=>by cases h
 | p::r,t,n,h=>by
  unfold Oo at h;rw[dC]at h;split at h
  ·simp_all
  ·obtain⟨q,h1,h2⟩:=EW h
   grind
def Nt(base:Nat)(Ts:List (Nat × Nat))(args:List zA)(H:xA):Option (zA × xA):=
 match args with
 | [.ptr b 0]=>ob (bD H b) fun c=>ob (c.1.get 0) fun v=>match v with
  | .nilptr=>yB (!Nat.blt b base&&(match c.2.2 with | some (.ty t)=>Oo Ts t c.2.1 | _=>false)) (some (.tup [],setBlk H b (.cells (c.1.set 0 (.ptr b 0)) c.2.1 c.2.2)))
  | .ptr d o=>yB (Nat.beq d b&&Nat.beq o 0) (some (.tup [],H))
  | _=>none
 | _=>none
theorem SG{f:Nat}{Ts:List (Nat × Nat)}{base:Nat}(hbase:B<=base)
  (hfresh:∀p∈Ts,∀(b n:Nat) (w:World),w.cell? ⟨b,0,none⟩=some (.pointer none)->w.shape? b=some (p.1,n)->p.2<=n->w.frozen? ⟨b,0,none⟩=false->Calls P f #[.pointer (some ⟨b,0,none⟩)] w fun e w'=>e=.returned (.tuple #[])/\w'=w.setCell ⟨b,0,none⟩ (.pointer (some ⟨b,0,none⟩)))
  (hused:∀(b:Nat) (w:World),w.cell? ⟨b,0,none⟩=some (.pointer (some ⟨b,0,none⟩))->Calls P f #[.pointer (some ⟨b,0,none⟩)] w fun e w'=>e=.returned (.tuple #[])/\w'=w)
  (henter:∀(w:World) (a:Array Value),(callFunc f a).run P w=.ok (.enter f a) w) {args:List zA} {args':Array Value} {v:zA} {H':xA} (hH:wB B N μ H w) (hv:Nt base Ts args H=some (v,H')) (hl:rB μ args args'.toList) :
  (callFunc f args').run P w=.ok (.enter f args') w/\Calls P f args' w fun e w'=>∃v' μ',e=.returned v'/\μ.le μ'/\wB B N μ' H' w'/\Below N w w'/\uA μ' v v':=by
 refine⟨henter w args',?_⟩
 unfold Nt at hv;split at hv
 case h_2=>cases hv
 rename_i b;rw[rB]at hl;obtain⟨u,r,h1,h2,h3⟩:=hl
 rw[rB]at h3;subst h3;rw[uA]at h2;obtain⟨i,hi,rfl⟩:=h2
 have ha:args' = #[.pointer (some ⟨i.b,0,none⟩)]:=by apply yax.1;rw[h1]
 subst ha;rw[tA]at hv;obtain⟨⟨c,n,lo⟩,hc,hv⟩:=hv
 rw[tA]at hv;obtain⟨v0,h0,hv⟩:=hv
 have hx:=Ar hc
 obtain⟨o,g1,g2⟩:=hH.blk _ _ _ hx hi
 have g2':=g2
 obtain⟨cs,E,fr,rfl,g3,g4,g5,g6⟩:=g2
 obtain⟨hn,u,hu,hr⟩:=g5 0 v0 h0
 have g3:n<=cs.size:=g3
 have hn:0<n:=hn
 have hcell0:w.cell? ⟨i.b,0,none⟩=some u:=by grind [World.cell?]
 have hundef:uA μ (.tup []) (.tuple #[]):=by rw[uA];exact⟨#[],rfl,.nil⟩
 split at hv
 ·rw[uA]at hr
  subst hr;simp only[xB,ybb,ycp]at hv;obtain⟨⟨hb,ht⟩,hv⟩:=hv
  cases hv;have hown:B<=b:=by
   grind [vC]
  have hNb:=hH.own b i hown hi
  have hfr:=g4.resolve_left (by simp_all)
  have hE:∃p∈Ts,p.1=E/\p.2<=n:=by
   grind [EW]
  obtain⟨p,hpT,hpE,hpn⟩:=hE
  subst hpE;refine(hfresh p hpT i.b cs.size w hcell0 (by unfold World.shape?;rw[g1]) (Nat.le_trans hpn g3) ?_).mono ?_
  ·grind [World.frozen?]
  ·rintro e w' ⟨rfl,rfl⟩
   rw[CD g1];refine⟨_,μ,rfl,μ.le_refl,hH.upd hx hi hown ?_,qW hNb.1,hundef⟩
   refine⟨_,_,fr,rfl,by simp_all,by simp_all,fun j x hj=>?_,by simp_all⟩
   grind [Tr.get_set,uA]
 ·rename_i d o
  simp only[xB,ybb,sC]at hv;obtain⟨⟨rfl,rfl⟩,hv⟩:=hv
  cases hv;rw[uA]at hr;obtain⟨i',hi',rfl⟩:=hr
  rw[hi]at hi'
  cases hi'
  refine(hused i.b w hcell0).mono ?_
  rintro e w' ⟨rfl,rfl⟩
  exact⟨_,μ,rfl,μ.le_refl,hH,Below.refl _ _,hundef⟩
 grind
theorem TV{α β:Type}{f:α->Option β}:∀ {l:List α} {r:List β},lG f l=some r->r.length=l.length/\∀(t:Nat) k,r[t]?=some k->∃y,l[t]?=some y/\f y=some k:=by
 intro l;induction l with
 | nil=>grind [Ck]
 | cons a l ih=>
  grind [zP,tA]
theorem Zn{k:Nat}(h:k<256):(UInt8.ofNat k).toNat=k:=by
 simp_all
def Yo:zA->Option Nat
 | .int .u8 (.ofNat k)=>yB (Nat.blt k 256) (some k)
 | _=>none
theorem YN{v:zA}{k:Nat}(h:Yo v=some k):v=.int .u8 (k:Int)/\k<256:=by
 unfold Yo at h;split at h
 all_goals grind [xB,vC]
def Ns(base U:Nat)(args:List zA)(H:xA):Option (zA × xA):=
 match args with
 | [.ptr b 0]=>ob (bD H b) fun c=>ob (c.1.get 1) fun v=>ob v.asSlice fun s=>ob (bD H s.1) fun d=>ob (d.1.many s.2.2.1 0) fun m=>ob (lG Yo m) fun l=>
  yB (!Nat.blt s.1 base&&Nat.beq s.2.1 0&&Nat.blt 0 s.2.2.1&&Nat.ble s.2.2.1 s.2.2.2&&Nat.ble s.2.2.1 d.2.1&&Nat.blt s.2.2.1 1000000000&&(match d.2.2 with | some (.ty t)=>Nat.beq t U | _=>false)) (some (.str l,⟨H.next,H.t.del s.1⟩))
 | _=>none
theorem SF{f:Nat}(L:Lays.n169 P ρ)(X:Builder.Extra P ρ)(hf:ρ.f 169=f){base:Nat}(hbase:B<=base)
  (henter:∀(w:World) (a:Array Value),(callFunc f a).run P w=.ok (.enter f a) w) {args:List zA} {args':Array Value} {v:zA} {H':xA} (hH:wB B N μ H w) (hv:Ns base (ρ.t 5) args H=some (v,H')) (hl:rB μ args args'.toList) :
  (callFunc f args').run P w=.ok (.enter f args') w/\Calls P f args' w fun e w'=>∃v' μ',e=.returned v'/\μ.le μ'/\wB B N μ' H' w'/\Below N w w'/\uA μ' v v':=by
 refine⟨henter w args',?_⟩
 subst hf;unfold Ns at hv;split at hv
 case h_2=>cases hv
 rename_i b;rw[rB]at hl;obtain⟨u,r,h1,h2,h3⟩:=hl
 rw[rB]at h3;subst h3;rw[uA]at h2;obtain⟨i,hi,rfl⟩:=h2
 have ha:args' = #[.pointer (some ⟨i.b,0,none⟩)]:=by apply yax.1;rw[h1]
 subst ha;simp only[tA,xB,ybb,ycp,As]at hv;obtain⟨⟨c,n,lo⟩,hc,v0,h0,⟨g,off,len,cap⟩,rfl,⟨d,m,lo2⟩,hd,ml,hm,l,hlm,⟨⟨⟨⟨⟨⟨q1,q2⟩,q3⟩,q4⟩,q5⟩,q6⟩,q7⟩,hv⟩:=hv
 cases hv;have q2:off=0:=sC.1 q2
 have q3:0<len:=vC.1 q3
 have q4:len<=cap:=qE.1 q4
 have q5:len<=m:=qE.1 q5
 have q6:len<1000000000:=vC.1 q6
 subst q2;have hx:=Ar hc
 obtain⟨o,g1,cs,E,fr,rfl,g3,g4,g5,g6⟩:=hH.blk _ _ _ hx hi
 obtain⟨hn,u,hu,hr⟩:=g5 1 _ h0
 rw[uA]at hr;rcases hr with⟨j,cap',hj,rfl,hcap,_,_⟩ | ⟨_,hz,_⟩
 case inr=>simp_all
 have hcap:cap<=cap':=hcap
 have hx2:=Ar hd
 obtain⟨o2,k1,cs2,E2,fr2,rfl,k3,k4,k5,k6⟩:=hH.blk _ _ _ hx2 hj
 have k3:m<=cs2.size:=k3
 have hE:E2=ρ.t 5:=by
  grind [sC]
 subst hE;have hown:B<=g:=by
  grind [vC]
 have hNb:=hH.own g j hown hj
 obtain⟨m1,m2⟩:=Tr.many_some _ _ _ _ hm
 obtain⟨hll,hla⟩:=TV hlm
 let bs:List UInt8:=l.map UInt8.ofNat
 have hbl:bs.length=len:=by grind
 have hby:∀(t:Nat) k,l[t]?=some k->ml[t]?=some (.int .u8 (k:Int))/\k<256:=by
  grind [YN]
 have hcell:∀t x,bs[t]?=some x->w.cell? ((⟨j.b,0,none⟩:Addr).add t)=some (.int .u8 x.toNat):=by
  intro t x ht;simp only[bs,ybu,yar]at ht;obtain⟨k,e1,rfl⟩:=ht
  obtain⟨e2,e3⟩:=hby t k e1
  have hg:=m2 t (by grind)
  rw[ybw,e2]at hg;obtain⟨_,y,e4,e5⟩:=k5 t _ hg
  rw[uA]at e5;subst e5;rw[lW];unfold World.cell?
  simp only[k1];simp only[ybw];show cs2[t]?=_
  rw[e4,Zn e3]
 have c1:w.cell? ⟨i.b,1,none⟩=some (.slice (some ⟨j.b,0,none⟩) bs.length cap'):=by
  grind [World.cell?]
 have hne:bs≠[]:=by grind
 refine(WR L X i.b j.b cap' cs2.size bs w c1 hne (by omega) (by unfold World.shape?;rw[k1]) (by omega) (by omega) hcell).mono ?_
 rintro e w' ⟨rfl,rfl⟩
 have hfz:∃o',w.drew.freeze ⟨j.b,0,none⟩ bs.length=World.setBlk w.drew j.b o':=by
  unfold World.freeze;rw[yaa (by omega)]
  refine⟨.cells cs2 (ρ.t 5) (if fr2.1 == fr2.2 then(0,0+bs.length)else(min fr2.1 0,max fr2.2 (0+bs.length))),?_⟩
  unfold World.setBlk;congr 1
  apply Array.ext_getElem?
  intro k;rw[Array.getElem?_modify,ycs];have hk1:w.drew.heap[j.b]?=some (.cells cs2 (ρ.t 5) fr2):=k1
  grind
 obtain⟨o',ho'⟩:=hfz
 rw[ho'];have hdrop:=hH.drew.drop g (fun x t e=>by have:=(hH.pnd _ _ _ e).1;simp_all)
 refine⟨_,μ,rfl,μ.le_refl,hdrop.scratch hNb.1 (fun a x k hax hak e=>?_) o',(Fx).trans (qW hNb.1),?_⟩
 ·have hax':(if a=g then none else H.t.get a)=some x:=by grind [Tr.get_del]
  split at hax'
  ·cases hax'
  ·rename_i hne
   by_cases hab:B<=a
   ·exact hne (hH.inj a g x _ k j hax' hx2 hak hj hab hown e)
   ·have:=(hH.low a x k (by omega) hax' hak).1
    omega
 ·rw[uA]
  refine⟨_,rfl,?_⟩
  unfold aE;show bs.map UInt8.toNat=l
  simp only[bs,List.map_map];have:∀k∈l,(UInt8.toNat ∘ UInt8.ofNat) k=k:=by
   grind [List.mem_iff_getElem?,Zn]
  rw[List.map_congr_left this,List.map_id']
end
end Go.Am
set_option maxRecDepth 100000
namespace Go.Am
open Go Go.RowKit
def eS(c:Nat):List Nat->Option Nat
 | []=>none
 | x::r=>bif Nat.beq x c then some 0 else ob (eS c r) fun n=>some (n+1)
def jY(sub:List Nat):List Nat->Bool
 | []=>sub.isEmpty
 | b::l=>bif kS sub (b::l)then true else jY sub l
def Iu(a:List zA)(_:xA):Option zA:=match a with | [.str s,.int .u8 (.ofNat c)]=>yB (Nat.blt c 256) (some (.int .i64 (match eS c s with | some n=>.ofNat n | none=>.negSucc 0))) | _=>none
def El(a:List zA)(_:xA):Option zA:=match a with | [.str s,.str c]=>yB (Nat.blt (bA s) 4294967281) (some (.bool (jY c s))) | _=>none
def glob (g:Nat)(l:List zA)(t:Tr vA):Tr vA:=t.set g (.cells (Tr.ofList l) (bA l) none)
def bH:yF->Nat
 | .next _=>0
 | .done v _=>match v.asBool with
  | some true=>1
  | _=>2
 | .fail n=>100+n
def Ug(C:rA)(f:Nat)(args:List zA)(H:xA):yF:=match eI C f args false with
 | some fr=>.next ⟨fr,[],H⟩
 | none=>.fail 0
theorem Xa:∀(c s:List UInt8),kS (c.map UInt8.toNat) (s.map UInt8.toNat)=c.isPrefixOf s
 | [],_=>by simp[kS]
 | _::_,[]=>rfl
 | a::x,b::y=>by
  simp only[ycm,kS,dC,Xa x y,List.isPrefixOf];grind [UInt8.toNat_inj,sC]
theorem KH(c:List UInt8):∀s:List UInt8,jY (c.map UInt8.toNat) (s.map UInt8.toNat)=Lib.contains s c
 | []=>by cases c<;>simp[jY,Lib.contains,Lib.index]
 | b::l=>by
  have ih:=KH c l
  grind [Xa,jY,Lib.contains,Lib.index]
theorem IN(c:UInt8):∀s:List UInt8,(match eS c.toNat (s.map UInt8.toNat)with | some n=>Int.ofNat n | none=>.negSucc 0)=Lib.indexByte s c
 | []=>rfl
 | b::l=>by
  have ih:=IN c l
  simp only[ycm,eS,dC];rw[Lib.indexByte];by_cases h:b=c
  ·subst h;simp
  ·have:¬ Nat.beq b.toNat c.toNat=true:=fun e=>h (UInt8.toNat_inj.1 (sC.1 e))
   rw[yaa this];simp only[beq_iff_eq,h,if_false]
   cases hx:eS c.toNat (l.map UInt8.toNat)with
   | none=>simp_all
   | some n=>
    grind [qA]
theorem zbe(c:List UInt8):∀s:List UInt8,match kY (c.map UInt8.toNat) (s.map UInt8.toNat)with
  | some p=>∃x y,p=(x.map UInt8.toNat,y.map UInt8.toNat)/\0<=Lib.index s c/\x=s.take (Lib.index s c).toNat/\y=s.drop ((Lib.index s c).toNat+c.length)
  | none=>Lib.index s c = -1
 | []=>by
  cases c with
  | nil=>exact⟨[],[],by simp,by simp[Lib.index],by simp,by simp⟩
  | cons a c=>simp[kY,Lib.index]
 | b::l=>by
  have ih:=zbe c l
  have hp:=Xa c (b::l)
  have ge:=Lib.index_ge l c
  simp only[ycm]at hp ⊢
  simp only[kY,dC,hp];rw[Lib.index];by_cases h:c.isPrefixOf (b::l)=true
  ·rw[yab h,yab h]
   grind [xP,sD,List.map_drop]
  ·rw[yaa h,yaa h]
   cases hx:kY (c.map UInt8.toNat) (l.map UInt8.toNat)with
   | none=>simp_all
   | some p=>
    rw[hx]at ih;obtain⟨x,y,rfl,h1,h2,h3⟩:=ih
    have e:¬ ((Lib.index l c == -1)=true):=by grind
    rw[yaa e];obtain⟨n,hn⟩:∃n:Nat,Lib.index l c=n:=⟨_,(Int.toNat_of_nonneg h1).symm⟩
    rw[hn]at h2 h3 ⊢
    have e2:((n:Int)+1).toNat=n+1:=by omega
    have e3:((n:Int)).toNat=n:=by omega
    rw[e2];rw[e3]at h2 h3;refine⟨b::x,y,by simp,by omega,by simp[h2],?_⟩
    grind
def Ya:yE->yE->Bool
 | .bool,.bool=>true
 | .int k,.int j=>eL k j
 | .string,.string=>true
 | .ptr a,.ptr b=>Nat.beq a b
 | .slice a,.slice b=>Nat.beq a b
 | .arr a c,.arr b d=>Nat.beq a b&&Nat.beq c d
 | .map a c,.map b d=>Nat.beq a b&&Nat.beq c d
 | .struct f,.struct g=>decide (f=g)
 | .func,.func=>true
 | .iface,.iface=>true
 | .other,.other=>true
 | _,_=>false
theorem WK{a b:yE}(h:Ya a b=true):a=b:=by
 cases a<;>cases b<;>simp[Ya,qN]at h ⊢<;>first | exact h | exact⟨h.1,h.2⟩
def eqTy (a b:rC):Bool:=Ya a.desc b.desc&&Nat.beq a.size b.size&&Nat.beq a.bytes b.bytes&&same.sames 10 a.zero b.zero&&bEq a.eqOk b.eqOk
theorem zdm{a b:rC}(h:eqTy a b=true):a=b:=by
 obtain⟨d,s,y,z,e⟩:=a
 obtain⟨d',s',y',z',e'⟩:=b
 simp only[eqTy,ybb,sC,zZ,beq_iff_eq]at h;obtain⟨⟨⟨⟨h1,h2⟩,h3⟩,h4⟩,h5⟩:=h
 rw[WK h1,h2,h3,Ul _ _ _ h4,h5]
def allT {α:Type}(p:Nat->α->Bool):Tr α->(Nat->Nat)->Bool
 | .leaf,_=>true
 | .node l v r,f=>(match v with | some v=>p (f 0) v | none=>true)&&allT p l (fun m=>f (2*m+1))&&allT p r (fun m=>f (2*m+2))
theorem zec{α:Type}{p:Nat->α->Bool}:∀(t:Tr α) (f:Nat->Nat),allT p t f=true->∀(n:Nat) v,t.get n=some v->p (f n) v=true:=by
 intro t;induction t with
 | leaf=>grind [Tr.get_leaf]
 | node l x r ihl ihr=>
  intro f h n v hv;simp only[allT,ybb]at h;grind [Tr.get_node]
def wR (l:List (List UInt8)):List Value:=l.map fun b=>.string ⟨b.toArray⟩
def dV (l:List Int):List Value:=l.map fun n=>.int .i64 n
def mu0:Mu:=⟨fun g=>if g<256 then some ⟨g,true,0,0,true⟩else none,fun _=>none⟩
theorem Ua{μ:Mu}:∀l:List (List UInt8),rB μ (l.map fun b=>zA.str (b.map UInt8.toNat)) (wR l)
 | []=>.nil
 | b::l=>.cons (by grind [uA,aE]) (Ua l)
theorem IM{μ:Mu}:∀l:List Int,rB μ (l.map fun n=>zA.int .i64 n) (dV l)
 | []=>.nil
 | b::l=>.cons (by rw[uA]) (IM l)
theorem Ym{μ:Mu}{g:Nat}{l:List zA}{vs:List Value}(h:rB μ l vs)(t:TypeId):yI μ ⟨g,true,0,0,true⟩ (.cells (Tr.ofList l) (bA l) none) (.cells vs.toArray t (0,0)):=h.rel_one rfl
theorem zde{o:yF}(h:bH o=1):∃H,o=.done (.bool true) H:=by
 cases o with
 | next s=>cases h
 | fail n=>grind [bH]
 | done v H=>
  grind [bH,Au]
end Go.Am
namespace Go.Am
open Go Go.RowKit
def eR(c:Nat):List Nat->Nat
 | []=>0
 | x::r=>bif Nat.beq x c then eR c r+1 else eR c r
def Iw(a:List zA)(_:xA):Option zA:=match a with | [.str s,.str [c]]=>some (.int .i64 (.ofNat (eR c s))) | _=>none
end Go.Am
