/- Trees: slots, regions. -/
import Derived.Lib.Bytealg
import Derived.Lib.Index
import Derived.Lib.IndexMore
import Derived.Lib.ItoaNum
import Derived.Shelf.Strings.Builder1
import Derived.Test.YtefajchlhjcgpaaGreatDoorA05
set_option linter.all false
noncomputable section
namespace Go.Am
open Go Go.RowKit
section
variable {d i ty:Nat}{l:List zA}{dst:Option Nat}{v:zA}{lt:Bool}{κ:KT}{all:Array Oper}{la:List Nat}{m:Tm->xA->iB}
structure oF (base:Nat) (X0:Xt) (kf:Nat) (ν:Nat->Nat) (X:Xt) (st:zH) (tm:Tm) (HA:xA) (t:Tr tA):Prop where
 ov:Ov base t X HA
 le:iI X0 X
 k:st.tm.k=kf
 kA:tm.k=kf
 tms:∀i v,st.tm.get i=some v->tm.get i=some v
 ads:∀i p,tM i st.ad=some p->tm.get i=some (.ptr (ν p.1) p.2)
 lo:Qz base X0 X ν st.lo
 inj:∀d d' l l',st.lo.get d=some l->st.lo.get d'=some l'->ν d=ν d'->d=d'
theorem Lt {a:Nat × Nat × Nat}{l:List (Nat × Nat × Nat)}:tM i (a::l)=if i=a.1 then some a.2 else tM i l:=by
 grind [tM,vK,gC]
theorem zfu {p:Nat × Nat}:∀ {l:List (Nat × Nat × Nat)},tM i l=some p->(i,p.1,p.2)∈l:=by
 intro l;induction l with
 | nil=>intro h;cases h
 | cons a l ih=>
  grind [Lt]
theorem Gx{n:Nat}{tm:Tm}   : (putA n tm dst v).k=tm.k:=by
 unfold putA putB
 cases dst with
 | none=>rfl
 | some d=>
  grind [Jz,Tm.set,vK]
theorem Tm.set_k{tm:Tm}   : (tm.set i v).k=tm.k:=by unfold Tm.set;rw[vK];split<;>rfl
section
variable {W J:eF}{t:Tr tA}{X X0:Xt}{HA:xA}{C:iA}{A:Tr oC}{ν:Nat->Nat}{Q E:mB}{kf n:Nat}{st:zH}{tm:Tm}
theorem oF.put(h:oF C.base X0 kf ν X st tm HA t)    (hw:oA C.base W J (jS n dst v lt st κ) t Q) :
  ∃st',oF C.base X0 kf ν X st' (putA n tm dst v) HA t/\oA C.base W J (κ st') t Q:=by
 unfold jS at hw
 cases dst with
 | none=>exact⟨st,h,hw⟩
 | some d=>
  simp only[rD]at hw;split at hw
  ·rename_i hd
   rw[wP]at hw;obtain⟨h1,h2⟩:=hw
   refine⟨_,?_,h2⟩
   refine⟨h.ov,h.le,(by grind [k,Tm.set_k]),by rw[Gx];exact h.kA,?_,?_,h.lo,h.inj⟩
   ·intro i u hi
    have hi2:(st.tm.set d v).get i=some u:=hi
    rw[Tm.get_set]at hi2;rw[wJ];split at hi2
    ·simp_all
    ·rename_i e
     rw[yaa (fun hh=>e (by simp_all))]
     exact h.tms i u hi2
   ·intro i p hi
    rw[wJ,yaa]
    ·exact h.ads i p hi
    ·rintro⟨e,_⟩
     injection e with e
     subst e;rw[hi]at h1
     cases h1
  ·rename_i hd
   refine⟨st,?_,hw⟩
   simp_all [putA,putB,Jz,rD,yaa]
theorem oF.putA(h:oF C.base X0 kf ν X st tm HA t) {off:Nat} (hw:oA C.base W J (znx n dst d off st κ) t Q) :
  ∃st',oF C.base X0 kf ν X st' (Am.putA n tm dst (.ptr (ν d) off)) HA t/\oA C.base W J (κ st') t Q:=by
 unfold znx at hw;rw[kE]at hw;obtain⟨i,h1,hw⟩:=hw
 subst h1;simp only[wP]at hw;obtain⟨h2,h3,h4⟩:=hw
 refine⟨_,?_,h4⟩
 refine⟨h.ov,h.le,h.k,by rw[Gx];exact h.kA,?_,?_,h.lo,h.inj⟩
 ·intro j u hj
  rw[wJ,yaa]
  ·exact h.tms j u hj
  ·rintro⟨e,_⟩
   injection e with e
   subst e;have hj:st.tm.get i=some u:=hj
   rw[hj]at h3
   cases h3
 ·intro j p hj
  have hj:tM j ((i,d,off)::st.ad)=some p:=hj
  rw[Lt]at hj;rw[wJ];split at hj
  ·rename_i e;cases hj;rw[yab ⟨by rw[e],by simp_all⟩]
  ·rename_i e
   rw[yaa (fun hh=>e (by simp_all))]
   exact h.ads j p hj
theorem oF.new(h:oF C.base X0 kf ν X st tm HA t)   (hw:oA C.base W J (tNew n d l st κ) t Q) :
  ∃st' ν' X',oF C.base X0 kf ν' X' st' (Am.putA n tm (some d) (.ptr HA.next 0)) (rF HA l none) t/\oA C.base W J (κ st') t Q:=by
 unfold tNew at hw;simp only[wP]at hw;obtain⟨h1,h2,h3,h4⟩:=hw
 have hx:=h.ov.nextX
 refine⟨_,fun c=>if c=d then HA.next else ν c,fun c=>if c=HA.next then some (.cells (Tr.ofList l) (yB l) none)else X c,?_,h4⟩
 refine⟨h.ov.newX _,?_,h.k,by rw[Gx];exact h.kA,?_,?_,?_,?_⟩
 ·intro b y hb
  have:X b=some y:=h.le b y hb
  grind
 ·intro j u hj
  rw[wJ,yaa]
  ·exact h.tms j u hj
  ·rintro⟨e,_⟩
   injection e with e
   subst e;have hj:st.tm.get d=some u:=hj
   rw[hj]at h2
   cases h2
 ·intro j p hj
  have hj:tM j ((d,d,0)::st.ad)=some p:=hj
  rw[Lt]at hj;rw[wJ];split at hj
  ·rename_i e
   cases hj;rw[yab ⟨by rw[e],by simp_all⟩];show some (zA.ptr HA.next 0)=some (zA.ptr (if d=d then HA.next else ν d) 0)
   rw[yab rfl]
  ·rename_i e
   rw[yaa (fun hh=>e (by simp_all))]
   have hm:=zfu hj
   unfold zld at h3;rw[mI,ycb]at h3;have:=h3 _ hm
   simp only[rD]at this;have hne:p.1≠d:=by
    simp_all
   show Tm.get tm j=some (zA.ptr (if p.1=d then HA.next else ν p.1) p.2)
   rw[yaa hne];exact h.ads j p hj
 ·intro c m hc
  have hc:(st.lo.set d l).get c=some m:=hc
  rw[Tr.get_set]at hc;show X0 (if c=d then HA.next else ν c)=none/\C.base<=(if c=d then HA.next else ν c)/\∃c',(if (if c=d then HA.next else ν c)=HA.next then some (tA.cells (Tr.ofList l) (yB l) none)else X (if c=d then HA.next else ν c))=some (.cells c' m.length none)/\∀j a,m[j]?=some a->c'.get j=some a
  split at hc
  ·rename_i e
   cases hc;simp only[e,if_true];refine⟨?_,h.ov.base,Tr.ofList l,by rw[kD],fun j a hj=>by grind [Tr.get_ofList]⟩
   cases hq:X0 HA.next with
   | none=>rfl
   | some z=>have:=h.le _ _ hq;simp_all
  ·rename_i e
   simp only[yaa e];obtain⟨g1,g2,c',g3,g4⟩:=h.lo c m hc
   grind
 ·intro c c' m m' hc hc' he
  have hc:(st.lo.set d l).get c=some m:=hc
  have hc':(st.lo.set d l).get c'=some m':=hc'
  have he:(if c=d then HA.next else ν c)=(if c'=d then HA.next else ν c'):=he
  rw[Tr.get_set]at hc hc'
  split at hc<;>split at hc'
  ·rename_i e1 e2;rw[e1,e2]
  ·rename_i e1 e2
   rw[yab e1,yaa e2]at he;obtain⟨_,_,_,g3,_⟩:=h.lo c' m' hc'
   simp_all
  ·rename_i e1 e2
   rw[yaa e1,yab e2]at he;obtain⟨_,_,_,g3,_⟩:=h.lo c m hc
   simp_all
  ·rename_i e1 e2
   rw[yaa e1,yaa e2]at he;exact h.inj c c' m m' hc hc' he
theorem oF.setLo(h:oF C.base X0 kf ν X st tm HA t) {l':List zA}{c':Tr zA}(h1:st.lo.get d=some l)(h2:l'.length=l.length)(h3:∀j a,l'[j]?=some a->c'.get j=some a) :
  ∃X',oF C.base X0 kf ν X' ⟨st.tm,st.ad,st.lo.set d l',st.lit⟩ tm (setBlk HA (ν d) (.cells c' l.length none)) t:=by
 obtain⟨g1,g2,c,g3,g4⟩:=h.lo d l h1
 refine⟨_,h.ov.setX g3 _,?_,h.k,h.kA,h.tms,h.ads,?_,?_⟩
 ·intro b y hb
  show(if b=ν d then _ else X b)=some y
  rw[yaa]
  ·exact h.le b y hb
  grind
 ·intro e m he
  have he:(st.lo.set d l').get e=some m:=he
  rw[Tr.get_set]at he;split at he
  ·simp_all
  ·rename_i e1
   obtain⟨k1,k2,k3,k4,k5⟩:=h.lo e m he
   refine⟨k1,k2,k3,?_,k5⟩
   show(if ν e=ν d then _ else X (ν e))=_
   rw[yaa,k4];intro e2;exact e1 (h.inj e d m l he h1 e2)
 ·intro e e' m m' he he' hv
  have he:(st.lo.set d l').get e=some m:=he
  have he':(st.lo.set d l').get e'=some m':=he'
  rw[Tr.get_set]at he he'
  have x1:∃q,st.lo.get e=some q:=by
   grind
  have x2:∃q,st.lo.get e'=some q:=by
   grind
  exact h.inj e e' _ _ x1.choose_spec x2.choose_spec hv
def oF.later(h:oF C.base X0 kf ν X st tm HA t){X':Xt}{HA':xA}{t':Tr tA}(ho:Ov C.base t' X' HA')(hx:iI X X'):oF C.base X0 kf ν X' st tm HA' t':=
 ⟨ho,h.le.trans hx,h.k,h.kA,h.tms,h.ads,fun d l hd=>by
  obtain⟨g1,g2,c,g3,g4⟩:=h.lo d l hd
  exact⟨g1,g2,c,hx _ _ g3,g4⟩,h.inj⟩
theorem Uk  (h:fitB C ty v=true):Cf C ty v:=by
 unfold fitB at h;unfold Cf
 cases hy:C.tys.get ty with
 | none=>trivial
 | some y=>
  rw[hy]at h;simp only at h ⊢
  unfold fitD
  cases hd:y.desc<;>rw[hd]at h<;>simp only at h ⊢
  case bool=>
   have:=gC.1 h
   cases v<;>simp only[zA.tag]at this<;>first
    | exact⟨_,rfl⟩
    | (cases this;done)
  case int k=>
   cases v<;>simp only[zA.asIntK]at h<;>first
    | exact⟨_,by rw[iM.1 h]⟩
    | (cases h;done)
  case string=>
   have:=gC.1 h
   cases v<;>simp only[zA.tag]at this<;>first
    | exact⟨_,rfl⟩
    | (cases this;done)
theorem CP  (h:(!Nat.ble (bH C ty) 2)=true):Cf C ty v:=by
 unfold Cf;unfold bH at h
 cases hy:C.tys.get ty with
 | none=>trivial
 | some y=>
  rw[hy]at h;simp only at h ⊢
  unfold fitD
  cases hd:y.desc<;>rw[hd]at h<;>first
   | trivial
   | (simp only[vE.tag]at h;exact absurd h (by decide))
def NL:∀(zs l:List zA) (pre:List zA),jT zs l=true->Bj zs (cellsOf (pre++l)) pre.length=l:=by
 intro zs;induction zs with
 | nil=>intro l pre h;cases l with
  | nil=>rfl
  | cons a l=>cases h
 | cons z zs ih=>
  intro l pre h
  cases l with
  | nil=>cases h
  | cons a l=>
   unfold jT at h;rw[ybb]at h;show AO z (cellsOf (pre++a::l)) pre.length::Bj zs (cellsOf (pre++a::l)) (pre.length+1)=a::l
   have e2:=ih l (pre++[a]) h.2
   rw[ybz]at e2;simp only[List.cons_append,yah,ybg,ybn,ybx]at e2;rw[e2];congr 1
   have hg:(pre++a::l)[pre.length]?=some a:=by simp
   have h1:=h.1
   cases z<;>simp only[Ce]at h1<;>simp only[AO,cellsOf,Ih,zir,zn5,Je,hg]<;>try (cases h1;done)
   case bool=>
    have:=gC.1 h1
    cases a<;>simp only[zA.tag]at this<;>first
     | rfl
     | (cases this;done)
   case int k _=>
    cases a<;>simp only[zA.asIntK]at h1<;>first
     | (rw[iM.1 h1];done)
     | (cases h1;done)
   case str=>
    have:=gC.1 h1
    cases a<;>simp only[zA.tag]at this<;>first
     | rfl
     | (cases this;done)
theorem FQ  {K:zA->T}(h:oA C.base W J (Nd C ty v K) t Q):Cf C ty v/\oA C.base W J (K v) t Q:=by
 unfold Nd at h;unfold Cf;have agg:∀zs,oA C.base W J (bif Nat.ble (yB zs) 40 then .asG zs v fun X=>K (.agg (Bj zs X 0))else K v) t Q->oA C.base W J (K v) t Q:=by
  intro zs h;rw[rD]at h;split at h
  ·have h:oD (eK zs v) fun X=>oA C.base W J (K (.agg (Bj zs X 0))) t Q:=h
   rw[Be]at h;obtain⟨X,h1,h2⟩:=h
   unfold eK at h1;simp only[sA,sB]at h1;obtain⟨l,h3,h4,h5⟩:=h1
   cases h5;have:=NL zs l [] h4
   grind [Lp]
  ·exact h
 grind [fitD,oA,Be,Fj,intK,sA,sB,kY,iM,lY]
theorem Rx{g:Bool} {K:zA->Bool->T}(h:oA C.base W J (Jk g lt v K) t Q):∃lt',oA C.base W J (K v lt') t Q:=by
 grind [Jk,kE,Fj,oA]
theorem Mn(h:oF C.base X0 kf ν X st tm HA t){g:Option (Nat × Bool)} {w:Bool}(hw:cF g all st.tm=some w):cF g all tm=some w:=by
 unfold cF Mp at hw ⊢
 cases g with
 | none=>exact hw
 | some jw=>
  simp only[Mo]at hw ⊢
  rw[sA]at hw ⊢
  obtain⟨d,h1,hw⟩:=hw
  refine⟨d,h1,?_⟩
  rw[sA]at hw ⊢
  obtain⟨v,h2,hw⟩:=hw
  exact⟨v,h.tms _ _ h2,hw⟩
def SK (C:iA)(W J:eF)(X0:Xt)(kf:Nat)(E Q:mB)(κ:KT)(m:Tm->xA->iB):Prop:=∀st tm HA t X ν,oF C.base X0 kf ν X st tm HA t->oA C.base W J (κ st) t Q->zC C.base X0 E Q (m tm HA)
theorem zC.norm  {K:zA->iB}(hf:Cf C ty v)(h:zC C.base X0 E Q (K v)):zC C.base X0 E Q (zM C ty v K):=by
 obtain⟨u,t',HA',X',h1,h2⟩:=h
 exact⟨u,t',HA',X',wQ.2 ⟨hf,h1⟩,h2⟩
theorem zC.ob{α:Type}{x:Option α}{a:α}{K:α->iB}(hx:x=some a)(h:zC C.base X0 E Q (K a)):zC C.base X0 E Q (Am.ob x K):=by simp_all
theorem zbe(hW:kQ C A E W){e eA:vD}{ae:yP}(he:tV e eA)(ha:Mf ν ae eA)(hst:oF C.base X0 kf ν X st tm HA t)  {o:Oper}
  (hκ:∀st' tm' HA' t' X' ν',(la=[]->ν'=ν)->oF C.base X0 kf ν' X' st' tm' HA' t'->(∃v,tm'=putA n tm o.dst v)->oA C.base W J (κ st') t' Q->zC C.base X0 E Q (m tm' HA'))
  (h:oA C.base W J (tH C la o.dst o.op e ae st.lo (kop C all n o e st κ) (klo C n o st κ)) t Q) :
  zC C.base X0 E Q (nG (zD C A) ((eE o.op).f C eA HA) HA fun v H'=>zM C o.type v fun v=>m (putA n tm o.dst v) H'):=by
 refine tH_ok hW hst.le he ha hst.ov hst.lo h ?_ ?_ ?_ ?_ ?_
 ·intro v t' HA' X' ho hx hk
  have hk:oA C.base W J (Nd C o.type v fun v=>Jk (Tv all.toList o.dst all.toList) (zh5 o.op e st.lit) v fun v lt=>jS n o.dst v lt st κ) t' Q:=hk
  obtain⟨h1,h2⟩:=FQ hk
  obtain⟨lt',h3⟩:=Rx h2
  obtain⟨st',h4,h5⟩:=(hst.later ho hx).put h3
  grind [zC.norm]
 ·intro v t' HA' X' ho hx hk
  obtain⟨h1,h2⟩:=wP.1 hk
  obtain⟨lt',h3⟩:=Rx h2
  obtain⟨st',h4,h5⟩:=(hst.later ho hx).put h3
  grind [zC.norm,Uk]
 ·intro d off hk
  obtain⟨h1,h2⟩:=wP.1 hk
  obtain⟨st',h4,h5⟩:=hst.putA h2
  grind [zC.norm,CP]
 ·intro d l hd hk
  obtain⟨h1,h2⟩:=wP.1 hk
  obtain⟨st',ν',X',h4,h5⟩:=hst.new h2
  have e:=zdb hd
  rw[e];refine zC.norm (CP h1) (hκ _ _ _ _ _ _ (fun hl=>?_) h4 ⟨_,by rw[e]⟩ h5)
  rw[hl,e]at hd
  cases hd
 ·intro d l l' c' h1 h2 h3 hk
  obtain⟨h4,h5⟩:=wP.1 hk
  obtain⟨X',h6⟩:=hst.setLo h1 h2 h3
  obtain⟨st',h7,h8⟩:=h6.put h5
  grind [zC.norm,Uk]
def Og(h:oF C.base X0 kf ν X st tm HA t):tV (.now st.tm) (.now tm)/\Mf ν (.now st.ad) (.now tm):=⟨h.tms,h.ads⟩
def znp(hW:kQ C A E W)    (hκ:SK C W J X0 kf E Q κ m):∀(l:List Oper),SK C W J X0 kf E Q (tops C la all n κ l) (nM C (zD C A) all n m l):=by
 intro l;induction l with
 | nil=>exact hκ
 | cons o l ih=>
  intro st tm HA t X ν hst h;have h:oA C.base W J (vC (cF o.guard all st.tm) fun w=>Bool.rec (motive:=fun _=>T) (jS n o.dst pD false st (tops C la all n κ l))
   (tH C la o.dst o.op (.now st.tm) (.now st.ad) st.lo (kop C all n o (.now st.tm) st (tops C la all n κ l)) (klo C n o st (tops C la all n κ l))) w) t Q:=h
  rw[kE]at h;obtain⟨w,h1,h2⟩:=h
  rw[Eg];refine zC.ob (Mn hst h1) ?_
  cases w with
  | false=>
   rw[yaa (by simp)]
   obtain⟨st',h3,h4⟩:=hst.put h2
   exact ih _ _ _ _ _ _ h3 h4
  | true=>
   rw[yab rfl];exact zbe hW (Og hst).1 (Og hst).2 hst (fun st' tm' HA' t' X' ν' _ hs _ hw=>ih _ _ _ _ _ _ hs hw) h2
end
end
section
variable {b base f fn i k:Nat}{op:Op}{κ:KT}{e:vD}{ef:wO}{m:Tm->xA->iB}{la pl:List Nat}{q:Nat × Nat}{v:zA}{p:PI}{vals:List zA}{y:tA}{c:oC}
structure Ly (ν:Nat->Nat) (old:zH) (oldA:Tm):Prop where
 tms:∀i v,old.tm.get i=some v->oldA.get i=some v
 ads:∀i p,tM i old.ad=some p->oldA.get i=some (.ptr (ν p.1) p.2)
def oF.old {X0 X:Xt}{kf:Nat}{ν:Nat->Nat}{st:zH}{tm:Tm}{HA:xA}{t:Tr tA}(h:oF base X0 kf ν X st tm HA t):Ly ν st tm:=⟨h.tms,h.ads⟩
def Tm.get_cut{tm:Tm}  : tm.cut.get i=if i<tm.k then tm.get i else none:=by
 unfold Tm.cut Tm.get;simp only[vK];by_cases h:Nat.blt i tm.k=true
 ·rw[yab h,yab h,yab (qC.1 h)]
 ·rw[yaa h,yaa (fun e=>h (qC.2 e))];rfl
theorem zfv  : ∀ {l:List (Nat × Nat × Nat)},tM i (vD.adCut k l)=if i<k then tM i l else none:=by
 intro l;induction l with
 | nil=>show none=_;split<;>rfl
 | cons a l ih=>
  grind [vD.adCut,qC,Lt]
section
variable {W J:eF}{t:Tr tA}{X X0:Xt}{HA:xA}{C:iA}{A:Tr oC}{ν:Nat->Nat}{Q E:mB}{kf n:Nat}{st old:zH}{tm oldA:Tm}{all:Array Oper}{olds:List (Nat × List Nat)}
theorem oF.cut(h:oF C.base X0 kf ν X st tm HA t):oF C.base X0 kf ν X st.cut tm.cut HA t:=by
 refine⟨h.ov,h.le,h.k,h.kA,?_,?_,h.lo,h.inj⟩
 ·intro i v hi
  have hi:st.tm.cut.get i=some v:=hi
  rw[Tm.get_cut]at hi ⊢
  split at hi
  ·rename_i e;rw[yab (by rw[h.kA,<- h.k];exact e)];exact h.tms i v hi
  grind
 ·intro i p hi
  have hi:tM i (vD.adCut st.tm.k st.ad)=some p:=hi
  rw[zfv]at hi;rw[Tm.get_cut];split at hi
  ·rename_i e;rw[yab (by rw[h.kA,<- h.k];exact e)];exact h.ads i p hi
  grind
theorem Hf(h:oF C.base X0 kf ν X st tm HA t)(ho:Ly ν old oldA){os:List Nat}  : tV (yR st old os op) (.mixed tm oldA os (eH op))/\Mf ν (Bk st old os op) (.mixed tm oldA os (eH op)):=by
 constructor
 ·intro i v hi
  have hi:(bif dH i (eH op)then Tm.get (bif dH i os then old.tm else st.tm) i else none)=some v:=hi
  show(bif dH i (eH op)then Tm.get (bif dH i os then oldA else tm) i else none)=some v
  cases hm:dH i (eH op)with
  | false=>simp_all
  | true=>
   rw[hm]at hi;simp only[cond_true]at hi ⊢
   cases hq:dH i os with
   | true=>rw[hq]at hi;exact ho.tms i v hi
   | false=>rw[hq]at hi;exact h.tms i v hi
 ·intro i p hi
  have hi:(bif dH i (eH op)then tM i (bif dH i os then old.ad else st.ad)else none)=some p:=hi
  show(bif dH i (eH op)then Tm.get (bif dH i os then oldA else tm) i else none)=_
  cases hm:dH i (eH op)with
  | false=>simp_all
  | true=>
   rw[hm]at hi;simp only[cond_true]at hi ⊢
   cases hq:dH i os with
   | true=>rw[hq]at hi;exact ho.ads i p hi
   | false=>rw[hq]at hi;exact h.ads i p hi
theorem Ww(ho:Ly ν old oldA) {kd:Tm->iB}(hκ:∀st' tm',oF C.base X0 kf ν X st' tm' HA t->oA C.base W J (κ st') t Q->zC C.base X0 E Q (kd tm')) :
  ∀(l:List Nat) (st:zH) (tm:Tm),oF C.base X0 kf ν X st tm HA t->oA C.base W J (pU C all n old olds κ l st) t Q->zC C.base X0 E Q (wI C HA all n oldA olds kd l tm):=by
 intro l;induction l with
 | nil=>exact hκ
 | cons i l ih=>
  intro st tm hst h;have h:oA C.base W J (vC (tD all.toList i) fun o=>vC (cF o.guard all st.tm) fun w=>Bool.rec (motive:=fun _=>T) (jS n o.dst pD false st (pU C all n old olds κ l))
   (tL C o.op (yR st old (sF i olds) o.op) (Bk st old (sF i olds) o.op) st.lo (kop C all n o (yR st old (sF i olds) o.op) st (pU C all n old olds κ l))) w) t Q:=h
  rw[kE]at h;obtain⟨o,h0,h⟩:=h
  rw[kE]at h;obtain⟨w,h1,h2⟩:=h
  rw[Tl];refine zC.ob h0 (zC.ob (Mn hst h1) ?_)
  cases w with
  | false=>
   rw[yaa (by simp)]
   obtain⟨st',h3,h4⟩:=hst.put h2
   grind
  | true=>
   rw[yab rfl];refine Exists.elim (zny (R:=fun v=>zC C.base X0 E Q (zM C o.type v fun v=>wI C HA all n oldA olds kd l (putA n tm o.dst v))) (Hf hst ho).1 (Hf hst ho).2 hst.ov hst.lo h2 ?_ ?_ ?_) (fun v h=>zC.ob h.1 h.2)
   ·intro v hk
    have hk:oA C.base W J (Nd C o.type v fun v=>Jk (Tv all.toList o.dst all.toList) (zh5 o.op (yR st old (sF i olds) o.op) st.lit) v fun v lt=>jS n o.dst v lt st (pU C all n old olds κ l)) t Q:=hk
    obtain⟨g1,g2⟩:=FQ hk
    obtain⟨lt',g3⟩:=Rx g2
    obtain⟨st',g4,g5⟩:=hst.put g3
    grind [zC.norm]
   ·intro v hk
    obtain⟨g1,g2⟩:=wP.1 hk
    obtain⟨lt',g3⟩:=Rx g2
    obtain⟨st',g4,g5⟩:=hst.put g3
    grind [zC.norm,Uk]
   ·intro d off hk
    obtain⟨g1,g2⟩:=wP.1 hk
    obtain⟨st',g4,g5⟩:=hst.putA g2
    grind [zC.norm,CP]
theorem zaw(ho:Ly ν old oldA)(hst:oF C.base X0 kf ν X st tm HA t){k:T}{kd:iB}(hk:oA C.base W J k t Q->zC C.base X0 E Q kd) :
  ∀(l:List Nat),oA C.base W J (wZ C all old olds st k l) t Q->zC C.base X0 E Q (pN C HA all oldA olds tm kd l):=by
 intro l;induction l with
 | nil=>exact hk
 | cons i l ih=>
  intro h;have h:oA C.base W J (vC (tD all.toList i) fun o=>vC o.dst fun d=>vC (cF o.guard all st.tm) fun w=>Bool.rec (motive:=fun _=>T) (wZ C all old olds st k l)
   (vC (st.tm.get d) fun u=>fK (fitB C o.type u) (tL C o.op (yR st old (sF i olds) o.op) (Bk st old (sF i olds) o.op) st.lo ⟨fun v=>.ite (same 10 v u) (wZ C all old olds st k l) .fail,fun v=>.ite (same 10 v u) (wZ C all old olds st k l) .fail,fun _ _=>.fail⟩)) w) t Q:=h
  rw[kE]at h;obtain⟨o,h0,h⟩:=h
  rw[kE]at h;obtain⟨d,h1,h⟩:=h
  rw[kE]at h;obtain⟨w,h2,h⟩:=h
  rw[DY];refine zC.ob h0 (zC.ob h1 (zC.ob (Mn hst h2) ?_))
  cases w with
  | false=>simp_all
  | true=>
   rw[yab rfl];simp only[kE,wP]at h;obtain⟨u,h3,h4,h5⟩:=h
   have jH:∀v,oA C.base W J (.ite (same 10 v u) (wZ C all old olds st k l) .fail) t Q->zC C.base X0 E Q (zM C o.type v fun v=>ob (tm.get d) fun u=>tB (same 10 v u) (pN C HA all oldA olds tm kd l)):=by
    intro v hv;have hv:if same 10 v u=true then oA C.base W J (wZ C all old olds st k l) t Q else False:=hv
    split at hv
    ·rename_i hs
     refine zC.norm ?_ (zC.ob (hst.tms _ _ h3) ?_)
     ·grind [Ze,Uk]
     ·rw[hs];exact ih hv
    simp_all
   obtain⟨v,h6,h7⟩:=zny (R:=fun v=>zC C.base X0 E Q (zM C o.type v fun v=>ob (tm.get d) fun u=>tB (same 10 v u) (pN C HA all oldA olds tm kd l))) (Hf hst ho).1 (Hf hst ho).2 hst.ov hst.lo h5 jH jH (fun _ _ h=>h.elim)
   simp_all
theorem zf5(hst:oF C.base X0 kf ν X st tm HA t){h:Nat}{o:Oper}{w:Bool}(hw:aW C all h o st.tm=some w):aW C all h o tm=some w:=by
 grind [aW,sA,Mn]
theorem XQ{e':vD}(he:tV e e')  (h:Cj op e=some ef):Cj op e'=some ef:=by
 cases op<;>first | (cases h;done) | skip
 all_goals grind [Cj,sA,xF]
theorem znz  {ae:yP} (h:tEff op e ae=some ef):Cj op e=some ef:=by
 cases op<;>first | exact h | skip
 grind [tEff]
def zgp(hst:oF C.base X0 kf ν X st tm HA t)(ho:Ly ν old oldA){l:List Nat}{es:List wO}(h:zgq all old olds st l=some es):La all oldA olds tm l=some es:=by
 refine Tg l (fun i ef h=>?_) h
 unfold iZ;simp only[sA,sB]at h ⊢
 obtain⟨o,h1,w,h2,h3,h4⟩:=h
 exact⟨o,h1,w,Mn hst h2,h3,XQ (Hf hst ho).1 (znz h4)⟩
theorem SM(hW:kQ C A E W)(ho:Ly ν old oldA)  (hκ:SK C W J X0 kf E Q κ m) :
  ∀(l:List lG) (st:zH) (tm:Tm) (HA:xA) (t:Tr tA) (X:Xt),oF C.base X0 kf ν X st tm HA t->oA C.base W J (Dn C all n old olds κ l st) t Q->zC C.base X0 E Q (rJ C (zD C A) all n oldA olds m l tm HA):=by
 intro l;induction l with
 | nil=>intro st tm HA t X hst h;exact hκ _ _ _ _ _ _ hst h
 | cons s l ih=>
  intro st tm HA t X hst h
  cases hg:tW all s with
  | true=>
   have h:oA C.base W J (Bool.rec (motive:=fun _=>T) _ (fK (mZ C all) (vC (zgq all old olds st s.again) fun es=>.heavy (Jf C es) fun _=>pU C all n old olds (Dn C all n old olds κ l) s.lights st)) (tW all s)) t Q:=h
   rw[hg]at h;have h:oA C.base W J (fK (mZ C all) (vC (zgq all old olds st s.again) fun es=>.heavy (Jf C es) fun _=>pU C all n old olds (Dn C all n old olds κ l) s.lights st)) t Q:=h
   rw[wP]at h;obtain⟨h0,h⟩:=h
   rw[kE]at h;obtain⟨es,h1,h⟩:=h
   have h:=h HA.next hst.ov.nextT hst.ov.base
   rw[Be]at h;obtain⟨⟨v,H'⟩,h2,h3⟩:=h
   obtain⟨HA',h4,h5⟩:=zai _ _ _ _ _ hst.ov h2
   have h6:Cb C es HA=some HA':=by
    grind [Jf,sA]
   rw[Ni hg];unfold Pn;rw[h0];show zC C.base X0 E Q (ob (La all oldA olds tm s.again) fun es=>ob (Cb C es HA) fun H'=>wI C H' all n oldA olds (fun tm=>rJ C (zD C A) all n oldA olds m l tm H') s.lights tm)
   refine zC.ob (zgp hst ho h1) (zC.ob h6 ?_)
   exact Ww ho (fun st' tm' hs hw=>ih _ _ _ _ _ hs hw) _ _ _ (hst.later h5 (iI.refl _)) h3
  | false=>
  have h:oA C.base W J (Bool.rec (motive:=fun _=>T) (vC (tD all.toList (eN all s.heavy)) fun o=>vC (aW C all s.heavy o st.tm) fun w=>
   (fun cont:KT=>Bool.rec (motive:=fun _=>T) (jS n o.dst pD false st cont)
    (tH C [] o.dst o.op (yR st old (sF (eN all s.heavy) olds) o.op) (Bk st old (sF (eN all s.heavy) olds) o.op) st.lo (kop C all n o (yR st old (sF (eN all s.heavy) olds) o.op) st cont) (klo C n o st cont)) w)
   (fun st'=>wZ C all old olds st' (pU C all n old olds (Dn C all n old olds κ l) s.lights st') s.again)) _ (tW all s)) t Q:=h
  rw[hg]at h;have h:oA C.base W J (vC (tD all.toList (eN all s.heavy)) fun o=>vC (aW C all s.heavy o st.tm) fun w=>
   (fun cont:KT=>Bool.rec (motive:=fun _=>T) (jS n o.dst pD false st cont)
    (tH C [] o.dst o.op (yR st old (sF (eN all s.heavy) olds) o.op) (Bk st old (sF (eN all s.heavy) olds) o.op) st.lo (kop C all n o (yR st old (sF (eN all s.heavy) olds) o.op) st cont) (klo C n o st cont)) w)
   (fun st'=>wZ C all old olds st' (pU C all n old olds (Dn C all n old olds κ l) s.lights st') s.again)) t Q:=h
  rw[kE]at h;obtain⟨o,h0,h⟩:=h
  rw[kE]at h;obtain⟨w,h1,h2⟩:=h
  rw[Jm hg];refine zC.ob h0 (zC.ob (zf5 hst h1) ?_)
  have jH:∀st' tm' HA' t' X' ν',ν'=ν->oF C.base X0 kf ν' X' st' tm' HA' t'->oA C.base W J (wZ C all old olds st' (pU C all n old olds (Dn C all n old olds κ l) s.lights st') s.again) t' Q →
    zC C.base X0 E Q (pN C HA' all oldA olds tm' (wI C HA' all n oldA olds (fun tm=>rJ C (zD C A) all n oldA olds m l tm HA') s.lights tm') s.again):=by
   intro st' tm' HA' t' X' ν' e hs hw;subst e;exact zaw ho hs (fun hl=>Ww ho (fun st2 tm2 hs2 hw2=>ih _ _ _ _ _ hs2 hw2) _ _ _ hs hl) _ hw
  cases w with
  | false=>
   simp only[ybq,if_false];obtain⟨st',h3,h4⟩:=hst.put h2
   grind
  | true=>
   simp only[if_true];exact zbe (m:=fun tm' HA'=>pN C HA' all oldA olds tm' (wI C HA' all n oldA olds (fun tm=>rJ C (zD C A) all n oldA olds m l tm HA') s.lights tm') s.again)
    hW (Hf hst ho).1 (Hf hst ho).2 hst (fun st' tm' HA' t' X' ν' hn hs _ hw=>jH _ _ _ _ _ _ (hn rfl) hs hw) h2
def SP(hW:kQ C A E W) {id:Nat}{d:Bool}  (hκ:SK C W J X0 kf E Q κ m):SK C W J X0 kf E Q (zar C la fn n κ id all d) (Jv C (zD C A) fn n m id all d):=by
 intro st tm HA t X ν hst h
 cases d with
 | false=>exact znp hW hκ _ _ _ _ _ _ _ hst.cut h
 | true=>
  have h:oA C.base W J (vC (ob (C.plans.get fn) fun t=>t.get id) fun p=>fK (dV all p) (pU C all n st.cut p.olds (Dn C all n st.cut p.olds κ p.stages) p.first st.cut)) t Q:=h
  simp only[kE,wP]at h;obtain⟨p,h1,h2,h3⟩:=h
  show zC C.base X0 E Q (ob (ob (C.plans.get fn) fun t=>t.get id) fun p=>tB (dV all p) (wI C HA all n tm.cut p.olds (fun tm'=>rJ C (zD C A) all n tm.cut p.olds m p.stages tm' HA) p.first tm.cut))
  refine zC.ob h1 ?_
  rw[h2];exact Ww hst.cut.old (fun st' tm' hs hw=>SM hW hst.cut.old hκ _ _ _ _ _ _ hs hw) _ _ _ hst.cut h3
end
structure PtD where
 p:PI
 m:Tm->xA->iB
def vL(C:iA)(φ:dE)(fn n:Nat):oC->Kt->List PtD
 | .skip,_=>[]
 | .region _ _ _,_=>[]
 | .seq a b,κ=>vL C φ fn n a ⟨mD C φ fn n b κ,κ.exit,κ.ret⟩++vL C φ fn n b κ
 | .cond _ x y,κ=>vL C φ fn n x κ++vL C φ fn n y κ
 | .block id c,κ=>vL C φ fn n c ⟨κ.norm,fun i tm H=>Bool.rec (motive:=fun _=>iB) (κ.exit i tm H) (κ.norm tm H) (Nat.beq id i),κ.ret⟩
 | .loop p c,κ=>⟨p,mD C φ fn n (.loop p c) κ⟩::vL C φ fn n c ⟨mD C φ fn n (.loop p c) κ,κ.exit,κ.ret⟩
 | .exit _,_=>[]
 | .ret,_=>[]
 | .cut p c,κ=>⟨p,mD C φ fn n (.cut p c) κ⟩::vL C φ fn n c κ
 | .range i pl fo ps aq c,_=>⟨⟨i,fD pl ps.toList,[]⟩,zj3 C φ fn n ⟨i,pl,fo,ps,aq,c⟩⟩::vL C φ fn n c rdK
def Qw(base kf:Nat)(E:mB)(d:PtD)(vals:List zA)(t:Tr tA)(Q:mB):Prop:=∀X0 X HA tm ν,oF base X0 kf ν X (oK kf d.p vals) tm HA t->zC base X0 E Q (d.m tm HA)
def JOk (base kf:Nat)(E:mB)(J:eF)(l:List PtD):Prop:=∀d∈l,∀vals t Q,J d.p.id vals t Q->Qw base kf E d vals t Q
structure SKt (C:iA) (W J:eF) (X0:Xt) (kf:Nat) (E Q:mB) (κ:KtT) (m:Kt):Prop where
 norm:SK C W J X0 kf E Q κ.norm m.norm
 exit:∀i,SK C W J X0 kf E Q (κ.exit i) (m.exit i)
 ret:SK C W J X0 kf E Q κ.ret m.ret
theorem Yy{d:Nat}{l:List zA}{st:zH}:∀ {ll:List (Nat × Nat)} {b rest:List zA},Jb st ll=some b->(vX ll (b++rest)).get d=some l->st.lo.get d=some l:=by
 intro ll;induction ll with
 | nil=>grind [vX,Tr.get_leaf]
 | cons p ll ih=>
  intro b rest hb h;have hb:(ob (tM p.1 st.ad) fun a=>tB (Nat.beq a.1 p.1&&Nat.beq a.2 0) (ob (st.lo.get p.1) fun l=>tB (Nat.beq (yB l) p.2) (ob (Jb st ll) fun r=>some (fD l r))))=some b:=hb
  simp only[sA,sB]at hb;obtain⟨a,_,_,l0,h2,h3,r,h4,h5⟩:=hb
  cases h5;have h:((vX ll (uR (fD l0 r++rest) p.2)).set p.1 (Bm (fD l0 r++rest) p.2)).get d=some l:=h
  grind [gC,kD,aG,vR,xT,Tr.get_set]
theorem zg5  {st:zH}:∀ {ll:List (Nat × Nat)} {b:List zA},Jb st ll=some b->tM i (stAd ll)=some q->tM i st.ad=some q:=by
 intro ll;induction ll with
 | nil=>intro b _ h;cases h
 | cons p ll ih=>
  grind [Jb,sA,sB,gC,stAd,Lt]
theorem zg3  {st:zH}:∀ {pl:List Nat} {a rest:List zA},pG (fun i=>st.tm.get i) pl=some a->(sP pl (a++rest)).get i=some v->st.tm.get i=some v:=by
 intro pl;induction pl with
 | nil=>grind [sP,Tr.get_leaf]
 | cons j pl ih=>
  intro a rest ha h;rw[lO,sA]at ha;obtain⟨u,h1,ha⟩:=ha
  rw[sA]at ha;obtain⟨r,h2,ha⟩:=ha
  cases ha;have h:((sP pl (r++rest)).set j u).get i=some v:=h
  grind [Tr.get_set]
theorem Tm.get_kv {v:Tr zA}{u:zA}(h:Tm.get ⟨k,v,[]⟩ i=some u):i<k/\v.get i=some u:=by
 unfold Tm.get at h;rw[vK]at h;split at h
 ·simp_all
 ·cases h
theorem RO {st:zH} (h:Gf p st=some vals):∃a b,vals=a++b/\pG (fun i=>st.tm.get i) p.pl=some a/\Jb st p.ll=some b/\a.length=p.pl.length:=by
 unfold Gf at h;simp only[sA]at h;obtain⟨a,h1,b,h2,h3⟩:=h
 cases h3;refine⟨a,b,aG _ _,h1,h2,?_⟩
 have:∀(l:List Nat) (r:List zA),pG (fun i=>st.tm.get i) l=some r->r.length=l.length:=by
  intro l;induction l with
  | nil=>intro r h;cases h;rfl
  | cons x l ih=>
   grind [lO,sA]
 grind
section
variable {W J:eF}{t:Tr tA}{X X0:Xt}{HA:xA}{C:iA}{A:Tr oC}{ν:Nat->Nat}{Q E:mB}{kf n:Nat}{st:zH}{tm:Tm}
theorem oF.at(h:oF C.base X0 kf ν X st tm HA t){p:PI}{vals:List zA}(hv:Gf p st=some vals):oF C.base X0 kf ν X (oK kf p vals) tm HA t:=by
 obtain⟨a,b,rfl,h1,h2,h3⟩:=RO hv
 have hd:uR (a++b) (yB p.pl)=b:=by rw[vR,kD,<- h3,List.drop_left]
 refine⟨h.ov,h.le,rfl,h.kA,?_,?_,?_,?_⟩
 ·intro i v hi
  exact h.tms i v (zg3 h1 (Tm.get_kv hi).2)
 ·intro i q hi
  exact h.ads i q (zg5 h2 hi)
 ·intro d l hl
  have hl:(vX p.ll (uR (a++b) (yB p.pl))).get d=some l:=hl
  rw[hd]at hl;have hb:(vX p.ll (b++[])).get d=some l:=by simp_all
  exact h.lo d l (Yy h2 hb)
 ·intro d d' l l' hl hl' he
  have hl:(vX p.ll (uR (a++b) (yB p.pl))).get d=some l:=hl
  have hl':(vX p.ll (uR (a++b) (yB p.pl))).get d'=some l':=hl'
  rw[hd]at hl hl'
  have hb:(vX p.ll (b++[])).get d=some l:=by simp_all
  have hb':(vX p.ll (b++[])).get d'=some l':=by simp_all
  exact h.inj d d' l l' (Yy h2 hb) (Yy h2 hb') he
theorem zdn{tm:Tm}  (hv:tm.get i=some v):∀ {live:List Nat},i∈live->(Kq tm live).get i=some v:=by
 intro live;induction live with
 | nil=>simp_all
 | cons j live ih=>
  grind [Kq,Tr.get_set]
theorem zg2   : ∀ {pl:List Nat} {vals:List zA},(sP pl vals).get i=some v->i∈pl:=by
 intro pl;induction pl with
 | nil=>grind [sP,Tr.get_leaf]
 | cons j pl ih=>
  intro vals h
  cases vals with
  | nil=>grind [sP,Tr.get_leaf]
  | cons u vals=>
   have h:((sP pl vals).set j u).get i=some v:=h
   grind [Tr.get_set]
theorem zg4   : ∀ {ll:List (Nat × Nat)},tM i (stAd ll)=some q->i∈(List.rec (motive:=fun _=>List Nat) [] (fun a _ r=>a.1::r) ll:List Nat):=by
 intro ll;induction ll with
 | nil=>intro h;cases h
 | cons p ll ih=>
  grind [stAd,Lt]
theorem oF.keep  (hb:∀i,i∈p.kept->i<kf)(h:oF C.base X0 kf ν X (oK kf p vals) tm HA t):oF C.base X0 kf ν X (oK kf p vals) (Am.keep p.kept tm) HA t:=by
 have key:∀i v,i∈p.kept->tm.get i=some v->(Am.keep p.kept tm).get i=some v:=by
  intro i v hi hv;unfold Am.keep Tm.get;rw[vK,yab (qC.2 (by rw[h.kA];grind))]
  exact zdn hv hi
 refine⟨h.ov,h.le,rfl,h.kA,?_,?_,h.lo,h.inj⟩
 ·intro i v hi
  refine key i v ?_ (h.tms i v hi)
  unfold PI.kept;rw[aG];exact ydc _ (zg2 (Tm.get_kv hi).2)
 ·intro i q hi
  refine key i _ ?_ (h.ads i q hi)
  unfold PI.kept;rw[aG];exact ycf _ (zg4 hi)
def BN{l:List PtD}(hJ:JOk C.base kf E J l)  (hm:(⟨p,m⟩:PtD)∈l):SK C W J X0 kf E Q (wY p) m:=by
 intro st tm HA t X ν hst h;unfold wY at h;rw[kE]at h;obtain⟨vals,h1,h2⟩:=h
 exact hJ _ hm vals t Q h2 _ _ _ _ _ (hst.at h1)
def zla:SKt C W J X0 kf E Q rdT rdK:=⟨fun _ tm HA t X _ hst h=>⟨_,t,HA,X,rfl,hst.ov,hst.le,h⟩,fun _ _ _ _ _ _ _ _ h=>h.elim,fun _ tm HA t X _ hst h=>⟨_,t,HA,X,rfl,hst.ov,hst.le,h⟩⟩
def Cz(C:iA)(A:Tr oC)(W:eF):Prop:=∀l args t Q,(∀X HA,Ov C.base t X HA->zC C.base X qJ Q (Co C A (yo+l) args HA))->W (yo+l) args t Q
def oP (X:Xt)(b:Nat)(y:tA):Xt:=fun c=>if c=b then some y else X c
theorem Of{X:Xt}  (h:X b=none):iI X (oP X b y):=by
 intro c z hc;grind [oP]
theorem Ov.under (h:Ov base t X HA)  (hb:t.get b=some y)(z:tA):Ov base (t.del b) (oP X b z) (Am.setBlk HA b z):=by
 refine⟨h.base,fun c hc=>?_,fun c u hc=>?_,fun c u hc=>?_⟩
 ·show(HA.t.set b z).get c=_
  unfold oP at hc;split at hc
  ·cases hc
  ·rename_i e;rw[Tr.get_set,yaa e,Tr.get_del,yaa e];exact h.same c hc
 ·show(HA.t.set b z).get c=_/\_
  unfold oP at hc;split at hc
  ·rename_i e;cases hc;subst e;exact⟨by rw[Tr.get_set,yab rfl],by rw[Tr.get_del,yab rfl],h.lt _ _ hb⟩
  ·rename_i e
   obtain⟨g1,g2,g3⟩:=h.ext c u hc
   exact⟨by grind [Tr.get_set],by grind [Tr.get_del],g3⟩
 ·rw[Tr.get_del]at hc
  split at hc
  ·cases hc
  ·exact h.lt _ _ hc
theorem Ov.back (h:Ov base t X HA)  (hb:X b=some y)(z:tA):Ov base (t.set b z) (fun c=>if c=b then none else X c) (Am.setBlk HA b z):=by
 obtain⟨g1,g2,g3⟩:=h.ext b y hb
 refine⟨h.base,fun c hc=>?_,fun c u hc=>?_,fun c u hc=>?_⟩
 ·show(HA.t.set b z).get c=_
  rw[Tr.get_set,Tr.get_set];split
  ·rfl
  ·rename_i e;rw[yaa e]at hc;exact h.same c hc
 ·show(HA.t.set b z).get c=_/\_
  split at hc
  ·cases hc
  ·rename_i e
   obtain⟨g1,g2,g3⟩:=h.ext c u hc
   exact⟨by grind [Tr.get_set],by grind [Tr.get_set],g3⟩
 ·rw[Tr.get_set]at hc
  split at hc
  ·rename_i e;rw[e];exact g3
  ·exact h.lt _ _ hc
def AT{H:xA}{l:Nat}{r:mN}(hl:256<=l)(h:H.t.get l=some (.loop r)):xJ H l=some r:=by
 unfold xJ;rw[h,pA,Nat.ble_eq_true_of_le hl];rfl
theorem zha{kf n:Nat}{st:zH}{tm:Tm} {ps:List Nat}{args:List zA}{X:Xt}{HA:xA}{t:Tr tA}(ho:Ov base t X HA)(hk:st.tm.k=kf)(hkA:tm.k=kf)
  (ht:∀i v,st.tm.get i=some v->tm.get i=some v) (hv:zk5 pl st=some vals) (hok:sD (fun p=>Nat.blt p st.tm.k&&Nat.blt p n && !dH p pl) ps=true) (h1:psOk ps=true) (hl:args.length=ps.length) :
  ∃tm',Ax n ps args tm=some tm'/\oF base X kf (fun i=>i) X (oK kf ⟨i,fD pl ps,[]⟩ (vals++args)) tm' HA t:=by
 have old:∀(pl:List Nat) (vals rest:List zA) j v,pG (fun i=>st.tm.get i) pl=some vals->(sP (pl++ps) (vals++rest)).get j=some v->(j∈pl/\tm.get j=some v)\/(sP ps rest).get j=some v:=by
  intro pl;induction pl with
  | nil=>intro vals rest j v h hj;cases h;simp_all
  | cons a pl ih=>
   intro vals rest j v h hj;rw[lO,sA]at h;obtain⟨u,g1,h⟩:=h
   rw[sA]at h;obtain⟨us,g2,h⟩:=h
   cases h;have hj:((sP (pl++ps) (us++rest)).set a u).get j=some v:=hj
   grind [Tr.get_set]
 cases ps with
 | nil=>
  cases args with
  | cons _ _=>cases hl
  | nil=>
   refine⟨tm,rfl,ho,iI.refl _,rfl,hkA,fun j v hj=>?_,fun j p h=>(by cases h),fun d l h=>?_,fun d _ l _ h=>?_⟩
   ·have hj:=(Tm.get_kv hj).2
    have hj:(sP (fD pl []) (vals++[])).get j=some v:=hj
    rw[aG]at hj;rcases old pl vals [] j v hv hj with⟨_,h⟩ | h
    all_goals grind [sP,Tr.get_leaf]
   ·rw[show(oK kf ⟨i,fD pl [],[]⟩ (vals++[])).lo=.leaf from rfl,Tr.get_leaf]at h;cases h
   omega
 | cons p ps=>
  cases ps with
  | cons q ps=>
   cases ps with
   | cons _ _=>cases h1
   | nil=>
   match args,hl with
   | [a,b],_=>
    have hpq:p≠q:=fun e=>by simp_all [psOk]
    have hp:(bif (Nat.blt p st.tm.k&&Nat.blt p n && !dH p pl)then(bif (Nat.blt q st.tm.k&&Nat.blt q n && !dH q pl)then true else false)else false)=true:=hok
    cases hx:(Nat.blt p st.tm.k&&Nat.blt p n && !dH p pl)with
    | false=>grind
    | true=>
    cases hy:(Nat.blt q st.tm.k&&Nat.blt q n && !dH q pl)with
    | false=>grind
    | true=>
     simp only[ybb,ycp]at hx hy;obtain⟨⟨x1,x2⟩,x3⟩:=hx
     obtain⟨⟨y1,y2⟩,y3⟩:=hy
     have x1:=qC.1 x1
     have x2:=qC.1 x2
     have y1:=qC.1 y1
     have y2:=qC.1 y2
     refine⟨putA n (putA n tm (some p) a) (some q) b,rfl,ho,iI.refl _,rfl,by grind [Gx],fun j v hj=>?_,fun j p h=>(by cases h),fun d l h=>?_,fun d _ l _ h=>?_⟩
     ·have hj:=(Tm.get_kv hj).2
      have hj:(sP (fD pl [p,q]) (vals++[a,b])).get j=some v:=hj
      rw[aG]at hj;rw[wJ,wJ];rcases old pl vals [a,b] j v hv hj with⟨hm,h⟩ | h
      all_goals grind [Bl,sP,Tr.get_set,Tr.get_leaf]
     ·rw[show(oK kf ⟨i,fD pl [p,q],[]⟩ (vals++[a,b])).lo=.leaf from rfl,Tr.get_leaf]at h;cases h
     omega
  | nil=>
   cases args with
   | nil=>cases hl
   | cons a args=>
    cases args with
    | cons _ _=>simp at hl
    | nil=>
     have hp:(bif (Nat.blt p st.tm.k&&Nat.blt p n && !dH p pl)then sD (fun p=>Nat.blt p st.tm.k&&Nat.blt p n && !dH p pl) []else false)=true:=hok
     cases hx:(Nat.blt p st.tm.k&&Nat.blt p n && !dH p pl)with
     | false=>grind
     | true=>
      simp only[ybb,ycp]at hx;obtain⟨⟨x1,x2⟩,x3⟩:=hx
      have x1:=qC.1 x1
      have x2:=qC.1 x2
      refine⟨putA n tm (some p) a,rfl,ho,iI.refl _,rfl,by grind [Gx],fun j v hj=>?_,fun j p h=>(by cases h),fun d l h=>?_,fun d _ l _ h=>?_⟩
      ·have hj:=(Tm.get_kv hj).2
       have hj:(sP (fD pl [p]) (vals++[a])).get j=some v:=hj
       rw[aG]at hj;rw[wJ];rcases old pl vals [a] j v hv hj with⟨hm,h⟩ | h
       all_goals grind [Bl,sP,Tr.get_set,Tr.get_leaf]
      ·rw[show(oK kf ⟨i,fD pl [p],[]⟩ (vals++[a])).lo=.leaf from rfl,Tr.get_leaf]at h;cases h
      omega
def UP (l:List (Nat × Array Oper)):mK (asA c l)=mK c:=by
 induction l with
 | nil=>rfl
 | cons x l ih=>exact ih
def VA{C:iA}{φ:dE}{n:Nat} {κ:Kt}(l:List (Nat × Array Oper)):vL C φ fn n (asA c l) κ=vL C φ fn n c κ:=by
 induction l with
 | nil=>rfl
 | cons x l ih=>exact ih
theorem zb0(hW:kQ C A E W)(hE:E=qJ)(hY:Cz C A W) {κ:KtT}{m:Kt}(hκ:∀X0,SKt C W J X0 kf E Q κ m)  {fo:Operand}{ps:Array Nat}{aq:List (Nat × Array Oper)}
  (hone:∃c0,A.get f=some c0/\Od c0=some ⟨i,pl,fo,ps,aq,c⟩) (hJ:∀vals t Q,J i vals t Q->Qw C.base kf E ⟨⟨i,fD pl ps.toList,[]⟩,zj3 C (zD C A) f n ⟨i,pl,fo,ps,aq,c⟩⟩ vals t Q) :
  SK C W J X0 kf E Q (Zq C n κ i pl fo ps.toList aq c) (cS C (zD C A) f n m fo ps.toList (asC aq) (qE c)):=by
 subst hE;intro st tm HA t X ν hst h;unfold Zq at h;rw[wP,kE]at h;obtain⟨hok,vals,hv,h⟩:=h
 rw[kE]at h;obtain⟨fv,hf,h256,h⟩:=h
 unfold zb1 at hok;simp only[ybb]at hok;obtain⟨⟨⟨hok1,hok2⟩,hok3⟩,hok4⟩:=hok
 have hok4:mK c=[]:=by
  grind
 have ho:=hst.ov
 have hbase:=ho.base
 generalize hr:(⟨.ready,none,f,n,tm,ps.toList,asC aq,qE c,HA.next⟩:mN)=r at *
 have htn:t.get (HA.next+1)=none:=by
  cases hx:t.get (HA.next+1)with
  | none=>rfl
  | some y=>exact absurd (ho.lt _ _ hx) (by omega)
 have hyield:∀args t1 Q1,args.length=yB ps.toList->t1.get (HA.next+1)=some (.loop r)->J i (vals++args) (t1.del (HA.next+1)) (fun v t2=>t2.get (HA.next+1)=none->∃b,v=.bool b/\Q1 v (t2.set (HA.next+1) (.loop (kP b r))))->W (yo+(HA.next+1)) args t1 Q1:=by
  intro args t1 Q1 hla ht1 hj;refine hY _ _ _ _ fun X1 HA1 ho1=>?_
  rw[PW,CJ];show zC C.base X1 qJ Q1 (Gt C A (zD C A) (HA.next+1) args HA1)
  have hx1:=ho1.notX ht1
  have hov:=ho1.under ht1 (.loop (Ig r))
  obtain⟨tm',hs1,hs2⟩:=zha (n:=n) (i:=i) hov hst.k hst.kA hst.tms hv hok1 hok2 (by rw[hla,kD])
  obtain⟨v,t2,HA2,X2,e1,e2,e3,e4⟩:=pP.1 (hJ _ _ _ hj _ _ _ _ _ hs2)
  have hb2:X2 (HA.next+1)=some (.loop (Ig r)):=e3 _ _ (by unfold oP;rw[yab rfl])
  obtain⟨b,e4,e5⟩:=e4 (e2.ext _ _ hb2).2.1
  subst e4;obtain⟨c0,hc0,hc1⟩:=hone
  refine pP.2 ⟨.bool b,_,_,_,Jt.2 ⟨r,tm',c0,⟨i,pl,fo,ps,aq,c⟩,(⟨.bool b,false⟩,HA2),Ig r,b,AT (by omega) (by rw[ho1.up ht1]),?_,?_,hc1,?_,?_,AT (by omega) (e2.ext _ _ hb2).1,rfl,rfl⟩,e2.back hb2 _,?_,e5⟩
  ·grind
  ·grind
  ·rw[<- hr];exact⟨⟨rfl,rfl,rfl,rfl,hok3,hok4⟩,ho1.lt _ _ ht1⟩
  ·grind
  ·intro c y hc
   have hne:c≠HA.next+1:=fun e=>by simp_all
   show(if c=HA.next+1 then none else X2 c)=some y
   rw[yaa hne];exact e3 _ _ (Of hx1 _ _ hc)
 have h:=h (HA.next+1) r htn (by omega) (by rw[<- hr]) (by rw[<- hr]) hyield
 rw[Be]at h;obtain⟨⟨g,aq⟩,hra,hw⟩:=h
 unfold Eb at hra;rw[sA]at hra;obtain⟨⟨qf,q1,q2⟩,hq,hra⟩:=hra
 cases qf with
 | yld l=>cases hra
 | func g'=>
  simp only[sB,ybb]at hra;obtain⟨⟨hg,hnp⟩,hra⟩:=hra
  cases hra;have hp:C.prims.get g=none:=by
   unfold bQ at hnp
   cases hx:C.prims.get g with
   | none=>rfl
   | some u=>rw[hx]at hnp;cases hnp
  have hXd:X HA.next=none:=ho.nextX
  have ho1:Ov C.base t (oP X HA.next (.deferred (some []))) (newBlk HA (.deferred (some []))):=by
   refine⟨Nat.le_succ_of_le ho.base,fun b hb=>?_,fun b y hb=>?_,fun b y hb=>Nat.lt_succ_of_lt (ho.lt _ _ hb)⟩
   ·unfold oP at hb
    split at hb
    ·cases hb
    ·rename_i e
     show(HA.t.set HA.next _).get b=_
     rw[Tr.get_set,yaa e];exact ho.same b hb
   ·unfold oP at hb
    show(HA.t.set HA.next _).get b=_/\_/\b<HA.next+1
    split at hb
    ·rename_i e;cases hb;subst e;exact⟨by rw[Tr.get_set,yab rfl],ho.nextT,Nat.lt_succ_self _⟩
    ·rename_i e
     obtain⟨g1,g2,g3⟩:=ho.ext b y hb
     grind [Tr.get_set]
  have ho2:=ho1.newBlk (.loop r)
  obtain⟨v,t',HA2,X2,e1,e2,e3,e4⟩:=pP.1 (hW.fn _ _ _ _ hg hw _ _ ho2)
  rw[Ie (zmy hg).1,hp]at e1
  have e1:zD C A (.func g) (fD q1 (.func (.yld (HA.next+1)) [] []::q2)) (newBlk (newBlk HA (.deferred (some []))) (.loop r))=some (⟨v,false⟩,HA2):=e1
  have goal:∀r' (κ':KT) (m':Tm->xA->iB),t'.get (HA.next+1)=some (.loop r')->(!Nat.beq (LoopState.tag r'.state) 1)=true->(∀tm H,Cy m r'.pending tm H=m' tm H)->(∀X0,SK C W J X0 kf qJ Q κ' m')->oA C.base W J (κ' st) (t'.del (HA.next+1)) Q →
    zC C.base X0 qJ Q (cS C (zD C A) f n m fo ps.toList (asC aq) (qE c) tm HA):=by
   intro r' κ' m' k1 k2 k3 k4 k5;have ho3:=e2.under k1 (.loop ⟨.exhausted,r'.pending,r'.fn,r'.n,r'.tm,r'.params,r'.assign,r'.body,r'.defers⟩)
   have hx2:=e2.notX k1
   have hXX:iI X (oP X2 (HA.next+1) (.loop ⟨.exhausted,r'.pending,r'.fn,r'.n,r'.tm,r'.params,r'.assign,r'.body,r'.defers⟩)):=((Of hXd).trans e3).trans (Of hx2)
   have hd3:(oP X2 (HA.next+1) (.loop ⟨.exhausted,r'.pending,r'.fn,r'.n,r'.tm,r'.params,r'.assign,r'.body,r'.defers⟩)) HA.next=some (.deferred (some [])):=by
    refine(Of hx2) _ _ (e3 _ _ ?_)
    unfold oP;rw[yab rfl]
   have hX0d:X0 HA.next=none:=by
    cases hx:X0 HA.next with
    | none=>rfl
    | some y=>have:=hst.le _ _ hx;simp_all
   have hl:=hst.later ho3 hXX
   have hl':oF C.base (oP X0 HA.next (.deferred (some []))) kf ν (oP X2 (HA.next+1) (.loop ⟨.exhausted,r'.pending,r'.fn,r'.n,r'.tm,r'.params,r'.assign,r'.body,r'.defers⟩)) st tm (endLoop HA2 (HA.next+1) r') (t'.del (HA.next+1)):=by
    refine⟨hl.ov,?_,hl.k,hl.kA,hl.tms,hl.ads,fun d l hd=>?_,hl.inj⟩
    ·intro b y hb
     unfold oP at hb;split at hb
     ·simp_all
     ·exact hl.le _ _ hb
    ·obtain⟨g1,g2,g3⟩:=hl.lo d l hd
     grind [oP]
   obtain⟨w,t4,HA4,X4,f1,f2,f3,f4⟩:=pP.1 (k4 _ _ _ _ _ _ _ hl' k5)
   have hd4:X4 HA.next=some (.deferred (some [])):=f3 _ _ (by unfold oP;rw[yab rfl])
   refine pP.2 ⟨w,t4,_,_,?_,f2.setX hd4 (.deferred none),?_,f4⟩
   ·unfold cS
    rw[xF (Og hst).1 hf,pA,hq,pA]
    show(tB (rE (C.prims.get g)) _)=_
    rw[hp];show(ob (zD C A (.func g) _ (newBlk (newBlk HA (.deferred (some []))) (.loop ⟨.ready,none,f,n,tm,ps.toList,asC aq,qE c,HA.next⟩))) _)=_
    rw[hr,e1,pA];show(ob (xJ HA2 (HA.next+1)) _)=_
    rw[AT (by omega) (e2.up k1),pA,k2]
    show(ob (Cy m r'.pending tm _) _)=_
    rw[k3];show(ob (m' tm (endLoop HA2 (HA.next+1) r')) _)=_
    rw[f1,pA];show(ob (pY HA4 HA.next) _)=_
    have:pY HA4 HA.next=some (some []):=by
     unfold pY;rw[(f2.ext _ _ hd4).1,pA,Nat.ble_eq_true_of_le (by omega:256<=HA.next)]
     rfl
    simp only[this,pA];rfl
   ·intro b y hb
    have hne:b≠HA.next:=fun e=>by simp_all
    show(if b=HA.next then _ else X4 b)=some y
    rw[yaa hne];exact f3 _ _ (Of hX0d _ _ hb)
  rcases e4 with⟨k1,k2⟩ | ⟨k1,k2⟩
  ·exact goal r κ.norm m.norm k1 (by rw[<- hr];rfl) (fun _ _=>by rw[<- hr];rfl) (fun X0=>(hκ X0).norm) k2
  ·exact goal _ κ.ret m.ret k1 (by rw[<- hr];rfl) (fun _ _=>by rw[<- hr];rfl) (fun X0=>(hκ X0).ret) k2
def xO (A:Tr oC)(E:mB)(f:Nat)(c:oC):Prop:=∀q∈mK c,E=qJ/\∃c0,A.get f=some c0/\Od c0=some q
theorem xO.l{a b:List It}{P:It->Prop}(h:∀q∈fD a b,P q):(∀q∈a,P q)/\∀q∈b,P q:=by
 grind [aG]
def Dr(hW:kQ C A E W)(hY:Cz C A W)   : ∀(c:oC) (κ:KtT) (m:Kt),xO A E f c->(∀X0,SKt C W J X0 kf E Q κ m)->JOk C.base kf E J (vL C (zD C A) f n c m)->∀X0,SK C W J X0 kf E Q (qK C la f n c κ) (mD C (zD C A) f n c m):=by
 intro c;induction c with
 | skip=>intro κ m _ hκ _ X0;exact(hκ X0).norm
 | region id ops d=>intro κ m _ hκ _ X0;exact SP hW (hκ X0).norm
 | seq a b iha ihb=>
  intro κ m hR hκ hJ;exact iha ⟨qK C la f n b κ,κ.exit,κ.ret⟩ ⟨mD C (zD C A) f n b m,m.exit,m.ret⟩ (xO.l hR).1 (fun X0=>⟨ihb κ m (xO.l hR).2 hκ (fun d hd=>hJ d (ycf _ hd)) X0,(hκ X0).exit,(hκ X0).ret⟩) fun d hd=>hJ d (ydc _ hd)
 | cond x a b iha ihb=>
  intro κ m hR hκ hJ X0 st tm HA t X ν hst h;have ha:=iha κ m (xO.l hR).1 hκ (fun d hd=>hJ d (ydc _ hd)) X0
  have hb:=ihb κ m (xO.l hR).2 hκ (fun d hd=>hJ d (ycf _ hd)) X0
  have h:oA C.base W J (vC (ob (ev x (.now st.tm)) zA.asBool) fun b'=>bif El x st.lit then Bool.rec (motive:=fun _=>T) (qK C la f n b κ st) (qK C la f n a κ st) b' else .ite b' (qK C la f n a κ st) (qK C la f n b κ st)) t Q:=h
  rw[kE]at h;obtain⟨w,h1,h2⟩:=h
  rw[sA]at h1;obtain⟨v,h3,h4⟩:=h1
  show zC C.base X0 E Q (ob (ob (ev x (.now tm)) zA.asBool) fun t=>Bool.rec (motive:=fun _=>iB) (mD C (zD C A) f n b m tm HA) (mD C (zD C A) f n a m tm HA) t)
  refine zC.ob (a:=w) (by rw[xF (Og hst).1 h3];exact h4) ?_
  have h2:if w=true then oA C.base W J (qK C la f n a κ st) t Q else oA C.base W J (qK C la f n b κ st) t Q:=by
   rw[rD]at h2;split at h2
   ·cases w<;>exact h2
   ·exact h2
  cases w with
  | true=>exact ha _ _ _ _ _ _ hst h2
  | false=>exact hb _ _ _ _ _ _ hst h2
 | block id c ih=>
  intro κ m hR hκ hJ;refine ih ⟨κ.norm,fun i st=>Bool.rec (motive:=fun _=>T) (κ.exit i st) (κ.norm st) (Nat.beq id i),κ.ret⟩ ⟨m.norm,fun i tm H=>Bool.rec (motive:=fun _=>iB) (m.exit i tm H) (m.norm tm H) (Nat.beq id i),m.ret⟩ hR (fun X0=>⟨(hκ X0).norm,fun i=>?_,(hκ X0).ret⟩) hJ
  intro st tm HA t X ν hst h;have h:oA C.base W J (Bool.rec (motive:=fun _=>T) (κ.exit i st) (κ.norm st) (Nat.beq id i)) t Q:=h
  show zC C.base X0 E Q (Bool.rec (motive:=fun _=>iB) (m.exit i tm HA) (m.norm tm HA) (Nat.beq id i))
  cases hb:Nat.beq id i with
  | true=>rw[hb]at h;exact(hκ X0).norm _ _ _ _ _ _ hst h
  | false=>rw[hb]at h;exact(hκ X0).exit i _ _ _ _ _ _ hst h
 | loop p c ih=>intro κ m _ hκ hJ X0;exact BN hJ yby
 | exit id=>intro κ m _ hκ _ X0;exact(hκ X0).exit id
 | ret=>intro κ m _ hκ _ X0;exact(hκ X0).ret
 | cut p c ih=>intro κ m _ hκ hJ X0;exact BN hJ yby
 | range i pl fo ps aq c ih=>intro κ m hR hκ hJ X0;exact zb0 hW (hR _ yby).1 hY hκ (hR _ yby).2 fun vals t Q h=>hJ _ yby vals t Q h
def PtOk (C:iA)(E:mB)(W J:eF)(kf:Nat)(l:List PtT)(d:PtD):Prop:=∃q∈l,q.p=d.p/\∀vals t Q,oA C.base W J (q.tree vals) t Q->Qw C.base kf E d vals t Q
def keptOk(kf:Nat):oC->Bool
 | .seq a b=>keptOk kf a&&keptOk kf b
 | .cond _ a b=>keptOk kf a&&keptOk kf b
 | .block _ c=>keptOk kf c
 | .loop p c=>p.kept.all (fun i=>Nat.blt i kf)&&keptOk kf c
 | .cut p c=>p.kept.all (fun i=>Nat.blt i kf)&&keptOk kf c
 | .range _ _ _ _ _ c=>keptOk kf c
 | _=>true
def zb7(hW:kQ C A E W)(hY:Cz C A W)   : ∀(c:oC) (κ:KtT) (m:Kt),xO A E f c->keptOk kf c=true->(∀X0 Q,SKt C W J X0 kf E Q κ m)->JOk C.base kf E J (vL C (zD C A) f n c m)->∀d∈vL C (zD C A) f n c m,PtOk C E W J kf (Ee C la f n kf c κ) d:=by
 have up:∀ {l l':List PtT} {d:PtD},PtOk C E W J kf l d->(∀q∈l,q∈l')->PtOk C E W J kf l' d:=fun⟨q,h1,h2⟩ hl=>⟨q,hl q h1,h2⟩
 intro c;induction c with
 | skip=>intro κ m _ _ _ _ d hd;cases hd
 | region id ops dr=>intro κ m _ _ _ _ d hd;cases hd
 | seq a b iha ihb=>
  intro κ m hR hk hκ hJ d hd;unfold keptOk at hk;rw[ybb]at hk;have e:Ee C la f n kf (.seq a b) κ=Ee C la f n kf a ⟨qK C la f n b κ,κ.exit,κ.ret⟩++Ee C la f n kf b κ:=aG _ _
  rw[e];have hJa:JOk C.base kf E J (vL C (zD C A) f n a ⟨mD C (zD C A) f n b m,m.exit,m.ret⟩):=fun d hd=>hJ d (ydc _ hd)
  have hJb:JOk C.base kf E J (vL C (zD C A) f n b m):=fun d hd=>hJ d (ycf _ hd)
  rcases yaf.1 hd with hd | hd
  ·exact up (iha ⟨qK C la f n b κ,κ.exit,κ.ret⟩ ⟨mD C (zD C A) f n b m,m.exit,m.ret⟩ (xO.l hR).1 hk.1 (fun X0 Q=>⟨Dr hW hY b κ m (xO.l hR).2 (fun X0=>hκ X0 Q) hJb X0,(hκ X0 Q).exit,(hκ X0 Q).ret⟩) hJa d hd) fun q hq=>ydc _ hq
  ·exact up (ihb _ _ (xO.l hR).2 hk.2 hκ hJb d hd) fun q hq=>ycf _ hq
 | cond x a b iha ihb=>
  intro κ m hR hk hκ hJ d hd;unfold keptOk at hk;rw[ybb]at hk;have e:Ee C la f n kf (.cond x a b) κ=Ee C la f n kf a κ++Ee C la f n kf b κ:=aG _ _
  rw[e];rcases yaf.1 hd with hd | hd
  ·exact up (iha _ _ (xO.l hR).1 hk.1 hκ (fun d hd=>hJ d (ydc _ hd)) d hd) fun q hq=>ydc _ hq
  ·exact up (ihb _ _ (xO.l hR).2 hk.2 hκ (fun d hd=>hJ d (ycf _ hd)) d hd) fun q hq=>ycf _ hq
 | block id c ih=>
  intro κ m hR hk hκ hJ d hd;refine ih ⟨κ.norm,fun i st=>Bool.rec (motive:=fun _=>T) (κ.exit i st) (κ.norm st) (Nat.beq id i),κ.ret⟩ ⟨m.norm,fun i tm H=>Bool.rec (motive:=fun _=>iB) (m.exit i tm H) (m.norm tm H) (Nat.beq id i),m.ret⟩ hR hk (fun X0 Q=>⟨(hκ X0 Q).norm,fun i=>?_,(hκ X0 Q).ret⟩) hJ d hd
  intro st tm HA t X ν hst h;have h:oA C.base W J (Bool.rec (motive:=fun _=>T) (κ.exit i st) (κ.norm st) (Nat.beq id i)) t Q:=h
  show zC C.base X0 E Q (Bool.rec (motive:=fun _=>iB) (m.exit i tm HA) (m.norm tm HA) (Nat.beq id i))
  cases hb:Nat.beq id i with
  | true=>rw[hb]at h;exact(hκ X0 Q).norm _ _ _ _ _ _ hst h
  | false=>rw[hb]at h;exact(hκ X0 Q).exit i _ _ _ _ _ _ hst h
 | loop p c ih=>
  intro κ m hR hk hκ hJ d hd;unfold keptOk at hk;rw[ybb,ycb]at hk;have hJc:JOk C.base kf E J (vL C (zD C A) f n c ⟨mD C (zD C A) f n (.loop p c) m,m.exit,m.ret⟩):=fun d hd=>hJ d (ybr _ hd)
  have hκ':∀X0 Q,SKt C W J X0 kf E Q ⟨wY p,κ.exit,κ.ret⟩ ⟨mD C (zD C A) f n (.loop p c) m,m.exit,m.ret⟩:=fun X0 Q=>⟨BN hJ yby,(hκ X0 Q).exit,(hκ X0 Q).ret⟩
  rcases ybs.1 hd with rfl | hd
  ·refine⟨_,yby,rfl,fun vals t Q hw X0 X HA tm ν hst=>?_⟩
   show zC C.base X0 E Q (mD C (zD C A) f n (.loop p c) m tm HA)
   rw[zji];exact Dr hW hY c _ _ hR (fun X0=>hκ' X0 Q) hJc X0 _ _ _ _ _ _ (hst.keep fun i hi=>qC.1 (hk.1 i hi)) hw
  ·exact up (ih ⟨wY p,κ.exit,κ.ret⟩ ⟨mD C (zD C A) f n (.loop p c) m,m.exit,m.ret⟩ hR hk.2 hκ' hJc d hd) fun q hq=>ybr _ hq
 | exit id=>intro κ m _ _ _ _ d hd;cases hd
 | ret=>intro κ m _ _ _ _ d hd;cases hd
 | cut p c ih=>
  intro κ m hR hk hκ hJ d hd;unfold keptOk at hk;rw[ybb,ycb]at hk;have hJc:JOk C.base kf E J (vL C (zD C A) f n c m):=fun d hd=>hJ d (ybr _ hd)
  rcases ybs.1 hd with rfl | hd
  ·refine⟨_,yby,rfl,fun vals t Q hw X0 X HA tm ν hst=>?_⟩
   exact Dr hW hY c _ _ hR (fun X0=>hκ X0 Q) hJc X0 _ _ _ _ _ _ (hst.keep fun i hi=>qC.1 (hk.1 i hi)) hw
  ·exact up (ih _ _ hR hk.2 hκ hJc d hd) fun q hq=>ybr _ hq
 | range i pl fo ps aq c ih=>
  intro κ m hR hk hκ hJ d hd;have hR':xO A E f c:=fun q hq=>hR q (ybr _ hq)
  have hJc:JOk C.base kf E J (vL C (zD C A) f n c rdK):=fun d hd=>hJ d (ybr _ hd)
  rcases ybs.1 hd with rfl | hd
  ·refine⟨_,yby,rfl,fun vals t Q hw X0 X HA tm ν hst=>?_⟩
   exact Dr hW hY (asA c aq) rdT rdK (fun q hq=>hR' q (by rwa [UP]at hq)) (fun _=>zla) (fun d hd=>hJc d (by rwa [VA]at hd)) X0 _ _ _ _ _ _ hst hw
  ·exact up (ih rdT rdK hR' hk (fun _ _=>zla) hJc d hd) fun q hq=>ybr _ hq
end
end
section
variable {α:Type}{args vals:List zA}{Q':mB}{v:zA}{pan:Nat->Bool}{i:Nat}
def Tr.mapT{α β:Type}(f:α->β)(t:Tr α):Tr β:=Tr.rec (motive:=fun _=>Tr β) .leaf (fun _ v _ l r=>.node l (match v with | some a=>some (f a) | none=>none) r) t
theorem Tr.get_mapT{β:Type}(f:α->β):∀(t:Tr α) (n:Nat),(t.mapT f).get n=(t.get n).map f:=by
 intro t;induction t with
 | leaf=>intro n;rfl
 | node l v r ihl ihr=>
  intro n;show(Tr.node (l.mapT f) (match v with | some a=>some (f a) | none=>none) (r.mapT f)).get n=_
  grind [Tr.get_node]
def sE(F:Tr xE):Tr oC:=F.mapT xE.code
def fnB (f kf:Nat)(c:oC):Bool:=Nat.blt f yo&&(keptOk kf c&&(rE (tX c)&&(match mK c with | []=>true | [_]=>true | _=>false)))
structure cM (C:iA) (F:Tr xE) (f:Nat) (fn:Func) (kf:Nat) (A:xE):Prop where
 isF:F.get f=some A
 isFn:C.fns.get f=some fn
 isK:C.ks.get f=some kf
 prim:rE (C.prims.get f)=true
 kept:fnB f kf A.code=true
 body:rE fn.body=false
theorem cM.lt{C:iA}{F:Tr xE}{f:Nat}{fn:Func}{kf:Nat}{A:xE}(h:cM C F f fn kf A):Nat.blt f yo=true:=by
 have:=h.kept;grind [fnB]
theorem cM.keptOk{C:iA}{F:Tr xE}{f:Nat}{fn:Func}{kf:Nat}{A:xE}(h:cM C F f fn kf A):keptOk kf A.code=true:=by
 have:=h.kept;grind [fnB]
def cM.code{C:iA}{F:Tr xE}{f:Nat}{fn:Func}{kf:Nat}{A:xE}(h:cM C F f fn kf A):(sE F).get f=some A.code:=by unfold sE;rw[Tr.get_mapT,h.isF];rfl
theorem cM.one{C:iA}{F:Tr xE}{f:Nat}{fn:Func}{kf:Nat}{A:xE}{E:mB}(h:cM C F f fn kf A)(hr:E=qJ\/mK A.code=[]):xO (sE F) E f A.code:=by
 have:=h.kept
 unfold fnB at this;simp only[ybb]at this;intro q hq;refine⟨hr.resolve_right (fun e=>by simp_all),_,h.code,?_⟩
 grind [Od]
def cM.plain{C:iA}{F:Tr xE}{f:Nat}{fn:Func}{kf:Nat}{A:xE}(h:cM C F f fn kf A):tX A.code=none:=by
 have:=h.kept
 unfold fnB at this;simp only[ybb]at this
 cases hx:tX A.code with
 | none=>rfl
 | some u=>rw[hx]at this;cases this.2.2.1
def sM (C:iA)(F:Tr xE)(E:mB):eF:=fun f args t Q=>∀X HA,Ov C.base t X HA->zC C.base X E Q (Co C (sE F) f args HA)
def Wc (C:iA)(F:Tr xE):eF:=fun f args t Q=>∀X HA,Ov C.base t X HA->zC C.base X qJ Q (Co C (sE F) f args HA)
theorem Wc.mono{C:iA}{F:Tr xE}{f:Nat} {t:Tr tA}{Q:mB}(h:Wc C F f args t Q)(k:∀v t',Q v t'->Q' v t'):Wc C F f args t Q':=fun X HA ho=>(h X HA ho).mono k
theorem Tr.bound (t:Tr α):∃n,∀b y,t.get b=some y->b<n:=by
 induction t with
 | leaf=>simp_all [Tr.get_leaf]
 | node l v r ihl ihr=>
  obtain⟨n,hn⟩:=ihl
  obtain⟨m,hm⟩:=ihr
  refine⟨2*n+2*m+3,fun b y h=>?_⟩
  grind [Tr.get_node]
def PV (C:iA)(F:Tr xE)(f:Nat)(args:List zA)(t:Tr tA)(v:zA):Prop:=Wc C F f args t fun v' t'=>v'=v/\t'=t
def PV.unique{C:iA}{F:Tr xE}{f:Nat} {t:Tr tA}{v':zA}(h:PV C F f args t v)(h':PV C F f args t v'):v=v':=by
 obtain⟨n,hn⟩:=Tr.bound t
 have ho:Ov C.base t (fun _=>none) ⟨C.base+n,t⟩:=⟨Nat.le_add_right _ _,fun _ _=>rfl,fun _ _ h=>(by cases h),fun b y hb=>Nat.lt_of_lt_of_le (hn b y hb) (Nat.le_add_left _ _)⟩
 obtain⟨u,t',HA',X',h1,_,_,h2,_⟩:=pP.1 (h _ _ ho)
 obtain⟨u',t'',HA'',X'',h3,_,_,h4,_⟩:=pP.1 (h' _ _ ho)
 rw[h1]at h3
 cases h3;rw[<- h2,<- h4]
def kB (C:iA)(F:Tr xE)(f:Nat)(args:List zA)(t:Tr tA):Option zA:=@dite _ (∃v,PV C F f args t v) (Classical.propDecidable _) (fun h=>some h.choose) (fun _=>none)
theorem iC{C:iA}{F:Tr xE}{f:Nat} {t:Tr tA}  : kB C F f args t=some v ↔ PV C F f args t v:=by
 unfold kB;constructor
 ·intro h
  by_cases hx:∃v,PV C F f args t v
  all_goals grind
 ·intro h
  have hx:∃v,PV C F f args t v:=⟨v,h⟩
  rw[dif_pos hx,PV.unique hx.choose_spec h]
def Wq (C:iA)(F:Tr xE)(pure:Nat->Bool):eF:=fun f args t R=>if (pure f&&Nat.blt f yo)=true then oD (kB C F f args t) fun v=>R v t else if Nat.beq f pn=true then False else Wc C F f args t R
def rG (C:iA)(F:Tr xE)(pure pan:Nat->Bool)(E:mB):eF:=fun f args t R=>if (pure f&&Nat.blt f yo)=true then oD (kB C F f args t) fun v=>R v t else if Nat.beq f pn=true then ∃v,args=[v]/\E v t else
 if (pan f&&Nat.blt f pn)=true then sM C F E f args t R else Wc C F f args t R
def Wc.toE{C:iA}{F:Tr xE}{E:mB}{f:Nat} {t:Tr tA}{Q:mB}(h:Wc C F f args t Q):sM C F E f args t Q:=fun X HA ho=>(h X HA ho).mono (fun _ _ h=>h) fun _ _ h=>h.elim
theorem pv_wc{C:iA}{F:Tr xE}{f:Nat} {t:Tr tA}{R:mB}(h:oD (kB C F f args t) fun v=>R v t):Wc C F f args t R:=by
 rw[Be]at h;obtain⟨v,h1,h2⟩:=h
 exact(iC.1 h1).mono fun v' t' hh=>by simp_all
theorem zlc{f:Nat}(h:Nat.blt f pn=true):Nat.beq f pn=false:=Bool.eq_false_iff.2 fun e=>by simp_all
theorem bY{l:Nat}:Nat.blt (yo+l) yo=false/\Nat.blt (yo+l) pn=false/\Nat.beq (yo+l) pn=false:=by
 grind [qC,yo,pn,gC]
theorem Qu{C:iA}{F:Tr xE}{pure:Nat->Bool}(hpn:pure pn=false):kQ C (sE F) qJ (Wq C F pure):=by
 refine⟨fun f args t R hf h X HA ho=>?_,fun l args t R h X HA ho=>?_,fun args t R h=>?_⟩
 ·unfold Wq at h
  split at h
  ·exact pv_wc h X HA ho
  ·rw[zlc hf,yaa (by simp)]at h
   exact h X HA ho
 ·unfold Wq at h
  rw[bY.1,yay,yaa (by simp),bY.2.2,yaa (by simp)]at h
  exact h X HA ho
 grind [Wq,gC]
theorem EC{C:iA}{F:Tr xE}{pure:Nat->Bool}{E:mB}(hpn:pure pn=false):kQ C (sE F) E (rG C F pure pan E):=by
 refine⟨fun f args t R hf h X HA ho=>?_,fun l args t R h X HA ho=>?_,fun args t R h=>?_⟩
 ·unfold rG at h
  split at h
  ·exact(pv_wc h).toE X HA ho
  ·rw[zlc hf,yaa (by simp)]at h
   split at h
   ·exact h X HA ho
   ·exact h.toE X HA ho
 ·unfold rG at h
  rw[bY.1,yay,yaa (by simp),bY.2.2,yaa (by simp),bY.2.1,yay,yaa (by simp)]at h
  exact h X HA ho
 grind [rG,gC]
def Qs{C:iA}{F:Tr xE}{pure:Nat->Bool}:Cz C (sE F) (Wq C F pure):=by
 intro l args t Q h;unfold Wq;rw[bY.1,yay,yaa (by simp),bY.2.2,yaa (by simp)]
 exact h
def EA{C:iA}{F:Tr xE}{pure:Nat->Bool}{E:mB}:Cz C (sE F) (rG C F pure pan E):=by
 intro l args t Q h;unfold rG;rw[bY.1,yay,yaa (by simp),bY.2.2,yaa (by simp),bY.2.1,yay,yaa (by simp)]
 exact h
def JqE (C:iA)(F:Tr xE)(E:mB)(f:Nat):eF:=fun i vals t Q=>∀fn kf A,cM C F f fn kf A->∀d∈vL C (zD C (sE F)) f fn.ntmps A.code (uP C fn),d.p.id=i->Qw C.base kf E d vals t Q
def Jq (C:iA)(F:Tr xE)(f:Nat):eF:=fun i vals t Q=>∀fn kf A,cM C F f fn kf A->∀d∈vL C (zD C (sE F)) f fn.ntmps A.code (uP C fn),d.p.id=i->Qw C.base kf qJ d vals t Q
def zm5{C:iA}{F:Tr xE}{E:mB}{f:Nat}{fn:Func}{kf:Nat}{A:xE}(h:cM C F f fn kf A):JOk C.base kf E (JqE C F E f) (vL C (zD C (sE F)) f fn.ntmps A.code (uP C fn)):=
 fun d hd _ _ _ hJ=>hJ fn kf A h d hd rfl
section
variable {W J:eF}{t:Tr tA}{X X0:Xt}{HA:xA}{C:iA}{A:Tr oC}{ν:Nat->Nat}{Q E:mB}{kf n:Nat}{st:zH}{tm:Tm}
theorem zoe(hst:oF C.base X0 kf ν X st tm HA t):∀(l:List ResultVar) (K:List zA->T),oA C.base W J (resT C st l K) t Q->∃vs,rX C HA tm l=some vs/\oA C.base W J (K vs) t Q:=by
 intro l;induction l with
 | nil=>intro K h;exact⟨[],rfl,h⟩
 | cons r l ih=>
  intro K h
  cases r with
  | tmp i=>
   have h:oA C.base W J (vC (st.tm.get i) fun v=>resT C st l fun l=>K (v::l)) t Q:=h
   rw[kE]at h;obtain⟨v,h1,h2⟩:=h
   obtain⟨vs,h3,h4⟩:=ih _ h2
   refine⟨v::vs,?_,h4⟩
   show pG (fS C HA tm) _=_
   rw[lO];show ob (tm.get i) _=_
   rw[hst.tms _ _ h1,pA];have h3:pG (fS C HA tm) l=some vs:=h3
   rw[h3];rfl
  | cell a ty=>
   have h:oA C.base W J (match tM a st.ad with
    | some p=>vC (st.lo.get p.1) fun m=>vC (C.tys.get ty) fun y=>fK (Nat.ble (p.2+y.size) (yB m)) (vC (eQ C ty m p.2) fun v=>resT C st l fun l=>K (v::l))
    | none=>vC (st.tm.get a) fun a=>.light (fun m=>cA C ty ⟨0,m⟩ a) fun v=>resT C st l fun l=>K (v::l)) t Q:=h
   have jH:∀ {u v:zA},tm.get a=some u->cA C ty HA u=some v->oA C.base W J (resT C st l fun l=>K (v::l)) t Q->∃vs,rX C HA tm (.cell a ty::l)=some vs/\oA C.base W J (K vs) t Q:=by
    intro u v h1 h2 h3;obtain⟨vs,h4,h5⟩:=ih _ h3
    refine⟨v::vs,?_,h5⟩
    show pG (fS C HA tm) _=_
    rw[lO];have e:fS C HA tm (.cell a ty)=some v:=by
     show(ob (ob (tm.get a) zA.asPtr) fun p=>ob (C.tys.get ty) fun ty=>ob (qD HA p.1) fun c=>wT ty c.1 p.2)=some v
     grind [cA,pA]
    have h4:pG (fS C HA tm) l=some vs:=h4
    simp_all
   split at h
   ·rename_i p hp
    simp only[kE,wP]at h;obtain⟨m,h1,y,h2,h3,v,h4,h5⟩:=h
    exact jH (hst.ads _ _ hp) (KI hst.ov hst.lo h1 h2 h3 h4) h5
   ·simp only[kE,Ix]at h
    obtain⟨u,h1,v,h2,h3⟩:=h
    exact jH (hst.tms _ _ h1) (Ro hst.ov.le h2) h3
def Px{fn:Func}:SK C W J X0 kf E Q (endT C fn) (mW C fn):=by
 intro st tm HA t X ν hst h;obtain⟨vs,h1,h2⟩:=zoe hst _ _ h
 unfold mW;exact zC.ob h1 ⟨_,t,HA,X,rfl,hst.ov,hst.le,h2⟩
def Wt{fn:Func}:SKt C W J X0 kf E Q (An C fn) (uP C fn):=⟨Px,fun _ _ _ _ _ _ _ _ h=>h.elim,Px⟩
end
section
variable {C:iA}{F:Tr xE}{f:Nat}{fn:Func}{kf:Nat}{A:xE}{pure:Nat->Bool}{t:Tr tA}{Q:mB}
theorem zm2{E:mB}{W:eF}(hW:kQ C (sE F) E W)(hY:Cz C (sE F) W)(h:cM C F f fn kf A)(hr:E=qJ\/mK A.code=[]) (hl:(Nat.ble (yB args) kf&&Nat.ble (yB args) fn.ntmps)=true)(hw:oA C.base W (JqE C F E f) (entT C fn kf f A args) t Q):sM C F E f args t Q:=by
 intro X HA ho;have hA:=h.code
 obtain⟨body,hb⟩:∃b,fn.body=some b:=by
  cases hx:fn.body with
  | none=>have:=h.body;rw[hx]at this;cases this
  | some b=>simp_all
 have he:yK C f args false=some ⟨[.code body],⟨kf,Tr.ofList args,[]⟩,⟨f,fn.ntmps,[],.run,false,none⟩⟩:=by
  unfold yK;rw[h.isFn,pA,hb,pA,h.isK,pA,hl];rfl
 have hp:C.prims.get f=none:=by
  cases hx:C.prims.get f with
  | none=>rfl
  | some g=>have:=h.prim;rw[hx]at this;cases this
 rw[Ie h.lt,hp];show zC C.base X E Q (zD C (sE F) (.func f) args HA)
 rw[CJ];show zC C.base X E Q (kT C (sE F) (zD C (sE F)) f args HA)
 unfold kT;refine zC.ob hA (zC.ob h.isFn (zC.ob he ?_))
 unfold mY;rw[h.plain];have hst:oF C.base X kf (fun i=>i) X ⟨⟨kf,Tr.ofList args,[]⟩,[],.leaf,[]⟩ ⟨kf,Tr.ofList args,[]⟩ HA t:=
  ⟨ho,iI.refl _,rfl,rfl,fun _ _ h=>h,fun _ _ h=>(by cases h),fun d l h=>(by grind [Tr.get_leaf]),fun d _ l _ h=>(by omega)⟩
 exact Dr hW hY A.code (An C fn) (uP C fn) (h.one hr) (fun _=>Wt) (zm5 h) _ _ _ _ _ _ _ hst hw
def zq0(h:cM C F f fn kf A) (hl:(Nat.ble (yB args) kf&&Nat.ble (yB args) fn.ntmps)=true)(hw:oA C.base (Wq C F pure) (Jq C F f) (entT C fn kf f A args) t Q)(hpn:pure pn=false:=by rfl):Wc C F f args t Q:=
 zm2 (E:=qJ) (Qu hpn) Qs h (.inl rfl) hl hw
theorem JqE_of{E:mB}{W:eF}(hW:kQ C (sE F) E W)(hY:Cz C (sE F) W)(h:cM C F f fn kf A)(hr:E=qJ\/mK A.code=[])  {l:List T}(hp:Gy (ptsT C fn kf f A) i vals=l)(hw:∀T∈l,oA C.base W (JqE C F E f) T t Q):JqE C F E f i vals t Q:=by
 intro fn' kf' A' h' d hd hi;have e1:=h.isFn;rw[h'.isFn]at e1;cases e1
 have e2:=h.isK;rw[h'.isK]at e2;cases e2
 have e3:=h.isF;rw[h'.isF]at e3;cases e3
 obtain⟨q,h1,h2,h3⟩:=zb7 hW hY A.code (An C fn) (uP C fn) (h.one hr) h.keptOk (fun _ _=>Wt) (zm5 h) d hd
 refine h3 vals t Q (hw _ ?_)
 subst hp;have key:∀(l:List PtT),q∈l->q.tree vals∈Gy l i vals:=by
  intro l;induction l with
  | nil=>simp_all
  | cons p l ih=>
   grind [Gy,gC]
 exact key _ h1
theorem zfy{E:mB}{W:eF}(hW:kQ C (sE F) E W)(hY:Cz C (sE F) W)(h:cM C F f fn kf A)(hr:E=qJ\/mK A.code=[])  {T:T}(hp:Gy (ptsT C fn kf f A) i vals=[T])(hw:oA C.base W (JqE C F E f) T t Q):JqE C F E f i vals t Q:=
 JqE_of hW hY h hr hp fun T' hT=>by simp_all
def Jq_of1(h:cM C F f fn kf A)  {T:T}(hp:Gy (ptsT C fn kf f A) i vals=[T])(hw:oA C.base (Wq C F pure) (Jq C F f) T t Q)(hpn:pure pn=false:=by rfl):Jq C F f i vals t Q:=
 zfy (E:=qJ) (Qu hpn) Qs h (.inl rfl) hp hw
theorem Jq.mono   (h:Jq C F f i vals t Q)(k:∀v t',Q v t'->Q' v t'):Jq C F f i vals t Q':=
 fun fn kf A hf d hd hi X0 X HA tm ν hst=>(h fn kf A hf d hd hi X0 X HA tm ν hst).mono k
theorem Wc_pv  (h:kB C F f args t=some v)(hq:Q v t):Wc C F f args t Q:=(iC.1 h).mono fun _ _ hh=>by simp_all
theorem Gw{g:List zA->xA->Option zA}(hg:C.prims.get f=some (bL g))  (h:∀H,g args H=some v)(hf:Nat.blt f yo=true:=by rfl):kB C F f args t=some v:=by
 refine iC.2 fun X HA ho=>?_
 grind [Ie,pP,bL,pA,iI.refl]
theorem iV  (h:Wc C F f args t fun v' t'=>v'=v/\∀b y,t.get b=some y->t'.get b=some y):kB C F f args t=some v:=by
 refine iC.2 fun X HA ho=>?_
 obtain⟨u,t',HA',X',h1,h2,h3,h4,h5⟩:=pP.1 (h X HA ho)
 refine pP.2 ⟨u,t,HA',fun b=>match t.get b with | some _=>none | none=>HA'.t.get b,h1,⟨h2.base,?_,?_,?_⟩,?_,h4,rfl⟩
 ·intro b hb
  cases hg:t.get b with
  | some y=>rw[h2.up (h5 b y hg)]
  | none=>simp_all
 ·intro b y hb
  cases hg:t.get b with
  | some y=>simp_all
  | none=>
   simp only[hg]at hb;refine⟨hb,rfl,?_⟩
   cases hx:X' b with
   | some z=>exact(h2.ext b z hx).2.2
   | none=>rw[h2.same b hx]at hb;exact h2.lt b y hb
 ·intro b y hb;exact h2.lt b y (h5 b y hb)
 ·intro b y hb
  have hn:=(ho.ext b y hb).2.1
  simp only[hn];exact(h2.ext b y (h3 b y hb)).1
end
theorem YW{P:Program}{C:iA}{F:Tr xE}{B N:Nat}{I:World->Prop}{μ:Mu}{w:World}(hS:uK P C B N I)(hI:I w)(hA:dY C (sE F)){f:Nat}(hp:C.prims.get f=none) {args':Array Value}{H:xA}{Q:mB}(hbase:C.base<=H.next)(hlt:∀b y,H.t.get b=some y->b<H.next)(hH:rB B N μ H w)(hl:pB μ args args'.toList)
  (h:Wc C F f args H.t Q) (hf:Nat.blt f yo=true:=by rfl):Calls P f args' w fun e w'=>∃v v' t' μ',e=.returned v'/\μ.lw μ'/\vA μ' v v'/\Q v t'/\Below N w w':=by
 obtain⟨v,t',HA',X',h1,h2,h3,h4⟩:=pP.1 (h (fun _=>none) H ⟨hbase,fun _ _=>rfl,fun _ _ h=>(by cases h),hlt⟩)
 rw[Ie hf,hp]at h1;intro base;obtain⟨e,w',b,⟨v',μ',g1,g2,g3,g4,g5⟩,g6⟩:=YU hS hI hA hH hl h1 base
 grind
end
section
variable {lt rt:List (Nat × PI)}{l:List (Nat × xE)}{f:Nat}{C:iA}
def piOf (i:Nat)(l:List (Nat × PI)):Option PI:=List.rec (motive:=fun _=>Option PI) none (fun a _ g=>bif Nat.beq i a.1 then some a.2 else g) l
def cutP (p:Option PI)(c:oC):oC:=
 match p with
 | some p=>.cut p c
 | none=>c
def zo0(p:Option PI)(c:oC):oC:=
 match p with
 | some p=>.loop p c
 | none=>.loop ⟨0,[],[]⟩ c
def rangeP(p:Option PI)(f:Operand)(ps:Array Nat)(a:Code)(c:oC):oC:=
 match a with
 | .region id ops _=>.range (match p with | some p=>p.id | none=>0) (match p with | some p=>p.pl | none=>[]) f ps [(id,ops)] c
 | .seq (.region i o _) (.region id ops _)=>.range (match p with | some p=>p.id | none=>0) (match p with | some p=>p.pl | none=>[]) f ps [(i,o),(id,ops)] c
 | _=>.skip
def ME:Code->Bool
 | .region _ _ d => !d
 | .seq (.region _ _ d) (.region _ _ e) => !d && !e
 | _=>false
def Ab(rt lt:List (Nat × PI))(c:Code):Nat->oC:=
 Code.rec (motive:=fun _=>Nat->oC)
  (fun _=>.skip)
  (fun id ops d _=>cutP (piOf id rt) (.region id ops d))
  (fun _ _ ga gb k=>.seq (ga k) (gb k))
  (fun c _ _ gx gy k=>.cond c (gx k) (gy k))
  (fun id _ g _=>.block id (g id))
  (fun _ g k=>zo0 (piOf k lt) (g k))
  (fun f ps a _ _ gb k=>rangeP (piOf k lt) f ps a (gb k))
  (fun id _=>.exit id)
  (fun _ _ _=>.skip)
  (fun _ _=>.skip)
  (fun _ _=>.skip)
  (fun _=>.ret)
  (fun _ _=>.skip) c
def annot(rt lt:List (Nat × PI))(k:Nat)(c:Code):oC:=Ab rt lt c k
def eV(c:Code):Bool:=
 Code.rec (motive:=fun _=>Bool) true (fun _ _ _=>true) (fun _ _ a b=>bif a then b else false) (fun _ _ _ a b=>bif a then b else false) (fun _ _ a=>a) (fun _ a=>a)
  (fun _ _ a _ _ b=>bif ME a then b else false) (fun _=>true) (fun _ _=>false) (fun _=>false) (fun _=>false) true (fun _=>false) c
def XJ(p:Option PI)(c:oC):qE (cutP p c)=qE c:=by cases p<;>rfl
def XI(p:Option PI)(c:oC):qE (zo0 p c)=.loop (qE c):=by cases p<;>rfl
def XK  : ∀(c:Code) (k:Nat),eV c=true->qE (Ab rt lt c k)=c:=by
 intro c;induction c with
 | skip=>intro k _;rfl
 | region id ops d=>intro k _;show qE (cutP _ _)=_;rw[XJ];rfl
 | seq a b iha ihb=>
  intro k h;have h:(bif eV a then eV b else false)=true:=h
  have ha:eV a=true:=by simp_all
  have hb:eV b=true:=by simp_all
  show Code.seq (qE (Ab rt lt a k)) (qE (Ab rt lt b k))=_
  rw[iha k ha,ihb k hb]
 | cond c x y ihx ihy=>
  intro k h;have h:(bif eV x then eV y else false)=true:=h
  have ha:eV x=true:=by simp_all
  have hb:eV y=true:=by simp_all
  show Code.cond c (qE (Ab rt lt x k)) (qE (Ab rt lt y k))=_
  rw[ihx k ha,ihy k hb]
 | block id c ih=>intro k h;show Code.block id (qE (Ab rt lt c id))=_;rw[ih id h]
 | loop c ih=>intro k h;show qE (zo0 _ (Ab rt lt c k))=_;rw[XI,ih k h]
 | exit id=>intro k _;rfl
 | ret=>intro k _;rfl
 | rangeFunc f ps a b _ ihb=>
  intro k h;have h:(bif ME a then eV b else false)=true:=h
  cases a with
  | region id ops d=>
   cases d with
   | true=>cases h
   | false=>show Code.rangeFunc f ps (.region id ops false) (qE (Ab rt lt b k))=_;rw[ihb k h]
  | seq x y=>
   cases x with
   | region i o d=>
    cases y with
    | region i' o' d'=>
     cases d with
     | true=>cases h
     | false=>
      cases d' with
      | true=>cases h
      | false=>
       show Code.rangeFunc f ps (.seq (.region i o false) (.region i' o' false)) (qE (Ab rt lt b k))=_
       rw[ihb k h]
    | _=>cases h
   | _=>cases h
  | _=>cases h
 | scope c _=>intro k h;cases h
 | label l=>intro k h;cases h
 | goto l=>intro k h;cases h
 | refuse s=>intro k h;cases h
def tabF (l:List (Nat × xE)):Tr xE:=List.rec (motive:=fun _=>Tr xE) .leaf (fun p _ g=>g.set p.1 p.2) l
def zgn  {A:xE}(h:(tabF l).get f=some A):(f,A)∈l:=by
 induction l with
 | nil=>grind [tabF,Tr.get_leaf]
 | cons p l ih=>
  grind [tabF,Tr.get_set]
def zm6(C:iA)(p:Nat × xE):Prop:=∃fn c,C.fns.get p.1=some fn/\fn.body=some c/\qE p.2.code=c
def bodyOk  {fn:Func}{c:Code} {la:List Nat}(h1:C.fns.get f=some fn)(h2:fn.body=some c)(h3:eV c=true):zm6 C (f,⟨annot rt lt 0 c,la⟩):=⟨fn,c,h1,h2,XK c 0 h3⟩
def YI  (h:∀p∈l,zm6 C p):dY C (sE (tabF l)):=by
 intro f c hc;unfold sE at hc;rw[Tr.get_mapT]at hc
 cases hq:(tabF l).get f with
 | none=>simp_all
 | some A=>
  rw[hq]at hc
  cases hc;obtain⟨fn,b,h1,h2,h3⟩:=h _ (zgn hq)
  simp_all
end
end Go.Am
namespace Go.Am
class nC where
 n:Nat
def zho(a:List zA)(_:xA):Option zA:=match a with | []=>some (.bool true) | _=>none
def vY:List Nat->List Nat->Bool
 | [],_=>true
 | _::_,[]=>false
 | a::x,b::y=>bif Nat.beq a b then vY x y else false
def Cm (sub:List Nat):List Nat->Option (List Nat × List Nat)
 | []=>bif sub.isEmpty then some ([],[])else none
 | b::l=>bif vY sub (b::l)then some ([],uR (b::l) (yB sub))else ob (Cm sub l) fun p=>some (b::p.1,p.2)
def pCut (a:List zA)(_:xA):Option zA:=match a with
 | [.str s,.str c]=>tB (Nat.blt (yB s) 4294967281) (match Cm c s with
  | some p=>some (.tup [.str p.1,.str p.2,.bool true])
  | none=>some (.tup [.str s,.str [],.bool false]))
 | _=>none
def xM(n:Int):List Nat:=(Lib.itoa n).map UInt8.toNat
def Kb(a:List zA)(_:xA):Option zA:=match a with
 | [.int .i64 n]=>tB (gE (-9223372036854775808) n&&fB n 9223372036854775808) (some (.str (xM n)))
 | _=>none
def Nz(a:List zA)(_:xA):Option zA:=match a with
 | [.int .u64 n,.int .i64 b]=>tB (gE 0 n&&fB n 18446744073709551616&&lB b 10) (some (.str (xM n)))
 | _=>none
end Go.Am
namespace Go.Am
open Go Go.Shelf Go.RowKit Go.Proofs
variable {P:Program}{ρ:Ren}
set_option maxHeartbeats 2000000 in
set_option maxRecDepth 100000 in
theorem XP(L:Lays.n169 P ρ)(X:Builder.Extra P ρ)(b g cap cells:Nat)(l:List UInt8)(w:World)(c1:w.cell? ⟨b,1,none⟩=some (.slice (some ⟨g,0,none⟩) l.length cap))(h0:l≠[])(hcap:l.length<=cap)
  (hsh:w.shape? g=some (ρ.t 5,cells)) (hc:l.length<=cells) (h63:l.length<=9223372036854775807) (hcell:∀j x,l[j]?=some x->w.cell? ((⟨g,0,none⟩:Addr).add j)=some (.int .u8 x.toNat)) :
  Calls P (ρ.f 169) #[.pointer (some ⟨b,0,none⟩)] w fun e w'=>e=.returned (.string ⟨l.toArray⟩)/\w'=w.drew.freeze ⟨g,0,none⟩ l.length:=by
 have hl0:l.length≠0:=by simp_all
 have c1:w.drew.cell? ⟨b,1,none⟩=some (.slice (some ⟨g,0,none⟩) l.length cap):=c1
 have hSD:(Builtin.unsafeSliceData_ #[(ρ.t 37)] (ρ.t 127) #[.slice (some ⟨g,0,none⟩) l.length cap]).run P w.drew=.ok (.pointer (some ⟨g,0,none⟩)) w.drew:=
  Lib.run_unsafeSliceData_row _ _ _ _ _ _ (by omega)
 have hUS:(Builtin.unsafeString_ #[(ρ.t 127),(ρ.t 3)] (ρ.t 9) #[.pointer (some ⟨g,0,none⟩),.int .i64 l.length]).run P w.drew=.ok (.string ⟨l.toArray⟩) (w.drew.freeze ⟨g,0,none⟩ l.length):=
  Lib.run_unsafeString_row w.drew (ρ.t 127) (ρ.t 3) (ρ.t 9) (ρ.t 5) L.t127 X.cellsByte g cells hsh l h0 hc h63 hcell
 have mixed:=L.mixed
 have t72:=L.t72;have a72:=L.a72;have z72:=L.z72;have v72:=L.v72;have u72:=run_underlying L.t72
 have t70:=L.t70;have a70:=L.a70;have z70:=L.z70;have v70:=L.v70;have u70:=run_underlying L.t70
 have t37:=L.t37;have a37:=L.a37;have z37:=L.z37;have v37:=L.v37;have u37:=run_underlying L.t37
 have t127:=L.t127;have a127:=L.a127;have z127:=L.z127;have v127:=L.v127;have u127:=run_underlying L.t127
 have t3:=L.t3;have a3:=L.a3;have z3:=L.z3;have v3:=L.v3;have u3:=run_underlying L.t3
 have t9:=L.t9;have a9:=L.a9;have z9:=L.z9;have v9:=L.v9;have u9:=run_underlying L.t9
 have t5:=X.t5;have a5:=X.a5;have z5:=X.z5;have v5:=X.v5;have u5:=run_underlying X.t5
 go_enter L.f169,Body.n169_ntmps ρ
 go_wp2
 go_region_o
 all_goals (go_wp2;go_ret;simp_all)
end Go.Am
namespace Go.Am
open Go Go.Shelf Go.RowKit Go.Proofs
variable {base f k:Nat}{args:List zA}{args':Array Value}{v:zA}{H':xA}
section
variable {P:Program}{ρ:Ren}{B N:Nat}{μ:Mu}{H:xA}{w:World}
theorem rB.scratch(hH:rB B N μ H w){g:Nat}(hg:N<=g)(hfree:∀a x j,H.t.get a=some x->μ a=some j->j.b≠g)(o':Obj):rB B N μ H (World.setBlk w g o'):=by
 have hsz:(World.setBlk w g o').heap.size=w.heap.size:=by simp[World.setBlk]
 refine⟨hH.base,hH.glob,hH.low,hH.next,by rw[hsz];exact hH.size,hH.fresh,fun a x i hx hi=>?_,fun a i ha hi=>by rw[hsz];exact hH.own a i ha hi,hH.inj,hH.pnd⟩
 obtain⟨o,h1,h2⟩:=hH.blk a x i hx hi
 grind [Gr]
def Oq:List (Nat × Nat)->Nat->Nat->Bool
 | [],_,_=>false
 | p::r,t,n=>bif Nat.beq p.1 t&&Nat.ble p.2 n then true else Oq r t n
theorem KB:∀ {Ts:List (Nat × Nat)} {t n:Nat},Oq Ts t n=true->∃p∈Ts,p.1=t/\p.2<=n
 | [],_,_,h=>by cases h
 | p::r,t,n,h=>by
  unfold Oq at h;rw[rD]at h;split at h
  ·simp_all
  ·obtain⟨q,h1,h2⟩:=KB h
   grind
def Ha(base:Nat)(Ts:List (Nat × Nat))(args:List zA)(H:xA):Option (zA × xA):=
 match args with
 | [.ptr b 0]=>ob (qD H b) fun c=>ob (c.1.get 0) fun v=>match v with
  | .nilptr=>tB (!Nat.blt b base&&(match c.2.2 with | some (.ty t)=>Oq Ts t c.2.1 | _=>false)) (some (.tup [],setBlk H b (.cells (c.1.set 0 (.ptr b 0)) c.2.1 c.2.2)))
  | .ptr d o=>tB (Nat.beq d b&&Nat.beq o 0) (some (.tup [],H))
  | _=>none
 | _=>none
theorem zb9 {Ts:List (Nat × Nat)} (hbase:B<=base)
  (hfresh:∀p∈Ts,∀(b n:Nat) (w:World),w.cell? ⟨b,0,none⟩=some (.pointer none)->w.shape? b=some (p.1,n)->p.2<=n->w.frozen? ⟨b,0,none⟩=false->Calls P f #[.pointer (some ⟨b,0,none⟩)] w fun e w'=>e=.returned (.tuple #[])/\w'=w.setCell ⟨b,0,none⟩ (.pointer (some ⟨b,0,none⟩)))
  (hused:∀(b:Nat) (w:World),w.cell? ⟨b,0,none⟩=some (.pointer (some ⟨b,0,none⟩))->Calls P f #[.pointer (some ⟨b,0,none⟩)] w fun e w'=>e=.returned (.tuple #[])/\w'=w)
  (henter:∀(w:World) (a:Array Value),(callFunc f a).run P w=.ok (.enter f a) w)     (hH:rB B N μ H w) (hv:Ha base Ts args H=some (v,H')) (hl:pB μ args args'.toList) :
  (callFunc f args').run P w=.ok (.enter f args') w/\Calls P f args' w fun e w'=>∃v' μ',e=.returned v'/\μ.le μ'/\rB B N μ' H' w'/\Below N w w'/\vA μ' v v':=by
 refine⟨henter w args',?_⟩
 unfold Ha at hv;split at hv
 case h_2=>cases hv
 rename_i b;rw[pB]at hl;obtain⟨u,r,h1,h2,h3⟩:=hl
 rw[pB]at h3;subst h3;rw[vA]at h2;obtain⟨i,hi,rfl⟩:=h2
 have ha:args' = #[.pointer (some ⟨i.b,0,none⟩)]:=by apply yax.1;rw[h1]
 subst ha;rw[sA]at hv;obtain⟨⟨c,n,lo⟩,hc,hv⟩:=hv
 rw[sA]at hv;obtain⟨v0,h0,hv⟩:=hv
 have hx:=Cs hc
 obtain⟨o,g1,g2⟩:=hH.blk _ _ _ hx hi
 have g2':=g2
 obtain⟨cs,E,fr,rfl,g3,g4,g5,g6⟩:=g2
 obtain⟨hn,u,hu,hr⟩:=g5 0 v0 h0
 have g3:n<=cs.size:=g3
 have hn:0<n:=hn
 have hcell0:w.cell? ⟨i.b,0,none⟩=some u:=by grind [World.cell?]
 have hundef:vA μ (.tup []) (.tuple #[]):=by rw[vA];exact⟨#[],rfl,.nil⟩
 split at hv
 ·rw[vA]at hr
  subst hr;simp only[sB,ybb,ycp]at hv;obtain⟨⟨hb,ht⟩,hv⟩:=hv
  cases hv;have hown:B<=b:=by
   grind [qC]
  have hNb:=hH.own b i hown hi
  have hfr:=g4.resolve_left (by simp_all)
  have hE:∃p∈Ts,p.1=E/\p.2<=n:=by
   grind [KB]
  obtain⟨p,hpT,hpE,hpn⟩:=hE
  subst hpE;refine(hfresh p hpT i.b cs.size w hcell0 (by unfold World.shape?;rw[g1]) (Nat.le_trans hpn g3) ?_).mono ?_
  ·grind [World.frozen?]
  ·rintro e w' ⟨rfl,rfl⟩
   rw[HC g1];refine⟨_,μ,rfl,μ.le_refl,hH.upd hx hi hown ?_,bZ hNb.1,hundef⟩
   refine⟨_,_,fr,rfl,by simp_all,by simp_all,fun j x hj=>?_,by simp_all⟩
   grind [Tr.get_set,vA]
 ·rename_i d o
  simp only[sB,ybb,gC]at hv;obtain⟨⟨rfl,rfl⟩,hv⟩:=hv
  cases hv;rw[vA]at hr;obtain⟨i',hi',rfl⟩:=hr
  rw[hi]at hi'
  cases hi'
  refine(hused i.b w hcell0).mono ?_
  rintro e w' ⟨rfl,rfl⟩
  exact⟨_,μ,rfl,μ.le_refl,hH,Below.refl _ _,hundef⟩
 grind
theorem zh3{α β:Type}{f:α->Option β}:∀ {l:List α} {r:List β},pG f l=some r->r.length=l.length/\∀(t:Nat) k,r[t]?=some k->∃y,l[t]?=some y/\f y=some k:=by
 intro l;induction l with
 | nil=>grind [Hh]
 | cons a l ih=>
  grind [lO,sA]
theorem zkf (h:k<256):(UInt8.ofNat k).toNat=k:=by
 simp_all
def byteOf:zA->Option Nat
 | .int .u8 (.ofNat k)=>tB (Nat.blt k 256) (some k)
 | _=>none
theorem ZD  (h:byteOf v=some k):v=.int .u8 (k:Int)/\k<256:=by
 unfold byteOf at h;split at h
 all_goals grind [sB,qC]
def Su(base U:Nat)(args:List zA)(H:xA):Option (zA × xA):=
 match args with
 | [.ptr b 0]=>ob (qD H b) fun c=>ob (c.1.get 1) fun v=>ob v.asSlice fun s=>ob (qD H s.1) fun d=>ob (d.1.many s.2.2.1 0) fun m=>ob (pG byteOf m) fun l=>
  tB (!Nat.blt s.1 base&&Nat.beq s.2.1 0&&Nat.blt 0 s.2.2.1&&Nat.ble s.2.2.1 s.2.2.2&&Nat.ble s.2.2.1 d.2.1&&Nat.blt s.2.2.1 1000000000&&(match d.2.2 with | some (.ty t)=>Nat.beq t U | _=>false)) (some (.str l,⟨H.next,H.t.del s.1⟩))
 | _=>none
theorem VD (L:Lays.n169 P ρ)(X:Builder.Extra P ρ)(hf:ρ.f 169=f) (hbase:B<=base)
  (henter:∀(w:World) (a:Array Value),(callFunc f a).run P w=.ok (.enter f a) w)     (hH:rB B N μ H w) (hv:Su base (ρ.t 5) args H=some (v,H')) (hl:pB μ args args'.toList) :
  (callFunc f args').run P w=.ok (.enter f args') w/\Calls P f args' w fun e w'=>∃v' μ',e=.returned v'/\μ.le μ'/\rB B N μ' H' w'/\Below N w w'/\vA μ' v v':=by
 refine⟨henter w args',?_⟩
 subst hf;unfold Su at hv;split at hv
 case h_2=>cases hv
 rename_i b;rw[pB]at hl;obtain⟨u,r,h1,h2,h3⟩:=hl
 rw[pB]at h3;subst h3;rw[vA]at h2;obtain⟨i,hi,rfl⟩:=h2
 have ha:args' = #[.pointer (some ⟨i.b,0,none⟩)]:=by apply yax.1;rw[h1]
 subst ha;simp only[sA,sB,ybb,ycp,Fi]at hv;obtain⟨⟨c,n,lo⟩,hc,v0,h0,⟨g,off,len,cap⟩,rfl,⟨d,m,lo2⟩,hd,ml,hm,l,hlm,⟨⟨⟨⟨⟨⟨q1,q2⟩,q3⟩,q4⟩,q5⟩,q6⟩,q7⟩,hv⟩:=hv
 cases hv;have q2:off=0:=gC.1 q2
 have q3:0<len:=qC.1 q3
 have q4:len<=cap:=aE.1 q4
 have q5:len<=m:=aE.1 q5
 have q6:len<1000000000:=qC.1 q6
 subst q2;have hx:=Cs hc
 obtain⟨o,g1,cs,E,fr,rfl,g3,g4,g5,g6⟩:=hH.blk _ _ _ hx hi
 obtain⟨hn,u,hu,hr⟩:=g5 1 _ h0
 rw[vA]at hr;rcases hr with⟨j,cap',hj,rfl,hcap,_,_⟩ | ⟨_,hz,_⟩
 case inr=>simp_all
 have hcap:cap<=cap':=hcap
 have hx2:=Cs hd
 obtain⟨o2,k1,cs2,E2,fr2,rfl,k3,k4,k5,k6⟩:=hH.blk _ _ _ hx2 hj
 have k3:m<=cs2.size:=k3
 have hE:E2=ρ.t 5:=by
  grind [gC]
 subst hE;have hown:B<=g:=by
  grind [qC]
 have hNb:=hH.own g j hown hj
 obtain⟨m1,m2⟩:=Tr.many_some _ _ _ _ hm
 obtain⟨hll,hla⟩:=zh3 hlm
 let bs:List UInt8:=l.map UInt8.ofNat
 have hbl:bs.length=len:=by grind
 have hby:∀(t:Nat) k,l[t]?=some k->ml[t]?=some (.int .u8 (k:Int))/\k<256:=by
  grind [ZD]
 have hcell:∀t x,bs[t]?=some x->w.cell? ((⟨j.b,0,none⟩:Addr).add t)=some (.int .u8 x.toNat):=by
  intro t x ht;simp only[bs,ybu,yar]at ht;obtain⟨k,e1,rfl⟩:=ht
  obtain⟨e2,e3⟩:=hby t k e1
  have hg:=m2 t (by grind)
  rw[ybw,e2]at hg;obtain⟨_,y,e4,e5⟩:=k5 t _ hg
  rw[vA]at e5;subst e5;rw[Ae];unfold World.cell?
  simp only[k1];simp only[ybw];show cs2[t]?=_
  rw[e4,zkf e3]
 have c1:w.cell? ⟨i.b,1,none⟩=some (.slice (some ⟨j.b,0,none⟩) bs.length cap'):=by
  grind [World.cell?]
 have hne:bs≠[]:=by grind
 refine(XP L X i.b j.b cap' cs2.size bs w c1 hne (by omega) (by unfold World.shape?;rw[k1]) (by omega) (by omega) hcell).mono ?_
 rintro e w' ⟨rfl,rfl⟩
 have hfz:∃o',w.drew.freeze ⟨j.b,0,none⟩ bs.length=World.setBlk w.drew j.b o':=by
  unfold World.freeze;rw[yaa (by omega)]
  refine⟨.cells cs2 (ρ.t 5) (if fr2.1 == fr2.2 then(0,0+bs.length)else(min fr2.1 0,max fr2.2 (0+bs.length))),?_⟩
  unfold World.setBlk;congr 1
  apply Array.ext_getElem?
  intro k;rw[Array.getElem?_modify,ycs];have hk1:w.drew.heap[j.b]?=some (.cells cs2 (ρ.t 5) fr2):=k1
  grind
 obtain⟨o',ho'⟩:=hfz
 rw[ho'];have hdrop:=hH.drew.drop g (fun x t e=>by have:=(hH.pnd _ _ _ e).1;simp_all)
 refine⟨_,μ,rfl,μ.le_refl,hdrop.scratch hNb.1 (fun a x k hax hak e=>?_) o',(Ik).trans (bZ hNb.1),?_⟩
 ·have hax':(if a=g then none else H.t.get a)=some x:=by grind [Tr.get_del]
  split at hax'
  ·cases hax'
  ·rename_i hne
   by_cases hab:B<=a
   ·exact hne (hH.inj a g x _ k j hax' hx2 hak hj hab hown e)
   ·have:=(hH.low a x k (by omega) hax' hak).1
    omega
 ·rw[vA]
  refine⟨_,rfl,?_⟩
  unfold pF;show bs.map UInt8.toNat=l
  simp only[bs,List.map_map];have:∀k∈l,(UInt8.toNat ∘ UInt8.ofNat) k=k:=by
   grind [List.mem_iff_getElem?,zkf]
  rw[List.map_congr_left this,List.map_id']
end
end Go.Am
namespace Go.Am
open Go Go.Shelf Go.RowKit Go.Proofs
section
variable {P:Program}{ρ:Ren}
set_option maxHeartbeats 2000000 in
set_option maxRecDepth 100000 in
theorem XO(L:Lays.n169 P ρ)(X:Builder.Extra P ρ)(b:Nat)(w:World)(c1:w.cell? ⟨b,1,none⟩=some (.slice none 0 0)) :
  Calls P (ρ.f 169) #[.pointer (some ⟨b,0,none⟩)] w fun e w'=>e=.returned (.string .empty)/\w'=w.drew:=by
 have c1:w.drew.cell? ⟨b,1,none⟩=some (.slice none 0 0):=c1
 have hSD:(Builtin.unsafeSliceData_ #[(ρ.t 37)] (ρ.t 127) #[.slice none 0 0]).run P w.drew=.ok (.pointer none) w.drew:=Lib.run_unsafeSliceData_nil ..
 have hUS:(Builtin.unsafeString_ #[(ρ.t 127),(ρ.t 3)] (ρ.t 9) #[.pointer none,.int .i64 0]).run P w.drew=.ok (.string .empty) w.drew:=Lib.run_unsafeString_none ..
 have mixed:=L.mixed
 have t72:=L.t72;have a72:=L.a72;have z72:=L.z72;have v72:=L.v72;have u72:=run_underlying L.t72
 have t70:=L.t70;have a70:=L.a70;have z70:=L.z70;have v70:=L.v70;have u70:=run_underlying L.t70
 have t37:=L.t37;have a37:=L.a37;have z37:=L.z37;have v37:=L.v37;have u37:=run_underlying L.t37
 have t127:=L.t127;have a127:=L.a127;have z127:=L.z127;have v127:=L.v127;have u127:=run_underlying L.t127
 have t3:=L.t3;have a3:=L.a3;have z3:=L.z3;have v3:=L.v3;have u3:=run_underlying L.t3
 have t9:=L.t9;have a9:=L.a9;have z9:=L.z9;have v9:=L.v9;have u9:=run_underlying L.t9
 have t5:=X.t5;have a5:=X.a5;have z5:=X.z5;have v5:=X.v5;have u5:=run_underlying X.t5
 go_enter L.f169,Body.n169_ntmps ρ
 go_wp2
 go_region_o
 all_goals (go_wp2;go_ret;simp_all)
end
section
variable {P:Program}{ρ:Ren}{B:Nat}{N:Nat}{μ:Mu}{H:xA}{w:World}
def Gz(base U:Nat)(args:List zA)(H:xA):Option (zA × xA):=
 match args with
 | [.ptr b 0]=>ob (qD H b) fun c=>ob (c.1.get 1) fun v=>match v with
  | .nilslice=>some (.str [],H)
  | _=>Su base U args H
 | _=>none
theorem VE{f:Nat}(L:Lays.n169 P ρ)(X:Builder.Extra P ρ)(hf:ρ.f 169=f){base:Nat}(hbase:B<=base)
  (henter:∀(w:World) (a:Array Value),(callFunc f a).run P w=.ok (.enter f a) w) {args:List zA} {args':Array Value} {v:zA} {H':xA} (hH:rB B N μ H w) (hv:Gz base (ρ.t 5) args H=some (v,H')) (hl:pB μ args args'.toList) :
  (callFunc f args').run P w=.ok (.enter f args') w/\Calls P f args' w fun e w'=>∃v' μ',e=.returned v'/\μ.le μ'/\rB B N μ' H' w'/\Below N w w'/\vA μ' v v':=by
 unfold Gz at hv;split at hv
 case h_2=>cases hv
 rename_i b;simp only[sA]at hv;obtain⟨⟨c,n,lo⟩,hc,v0,h0,hv⟩:=hv
 split at hv
 case h_2=>grind [VD]
 cases hv;refine⟨henter w args',?_⟩
 subst hf;rw[pB]at hl;obtain⟨u,r,h1,h2,h3⟩:=hl
 rw[pB]at h3;subst h3;rw[vA]at h2;obtain⟨i,hi,rfl⟩:=h2
 have ha:args' = #[.pointer (some ⟨i.b,0,none⟩)]:=by apply yax.1;rw[h1]
 subst ha;have hx:=Cs hc
 obtain⟨o,g1,cs,E,fr,rfl,g3,g4,g5,g6⟩:=hH.blk _ _ _ hx hi
 obtain⟨hn,u,hu,hr⟩:=g5 1 _ h0
 rw[vA]at hr;have c1:w.cell? ⟨i.b,1,none⟩=some (.slice none 0 0):=by
  grind [World.cell?]
 refine(XO L X i.b w c1).mono ?_
 rintro e w' ⟨rfl,rfl⟩
 exact⟨_,μ,rfl,μ.le_refl,hH.drew,Ik,by rw[vA];exact⟨_,rfl,rfl⟩⟩
end
end Go.Am
set_option maxRecDepth 100000
namespace Go.Am
open Go Go.RowKit
def sW(c:Nat):List Nat->Option Nat
 | []=>none
 | x::r=>bif Nat.beq x c then some 0 else ob (sW c r) fun n=>some (n+1)
def Cn(sub:List Nat):List Nat->Bool
 | []=>sub.isEmpty
 | b::l=>bif vY sub (b::l)then true else Cn sub l
def Oa(a:List zA)(_:xA):Option zA:=match a with | [.str s,.int .u8 (.ofNat c)]=>tB (Nat.blt c 256) (some (.int .i64 (match sW c s with | some n=>.ofNat n | none=>.negSucc 0))) | _=>none
def Kc(a:List zA)(_:xA):Option zA:=match a with | [.str s,.str c]=>tB (Nat.blt (yB s) 4294967281) (some (.bool (Cn c s))) | _=>none
def glob (g:Nat)(l:List zA)(t:Tr tA):Tr tA:=t.set g (.cells (Tr.ofList l) (yB l) none)
def jH:dF->Nat
 | .next _=>0
 | .done v _=>match v.asBool with
  | some true=>1
  | _=>2
 | .fail n=>100+n
def As(C:iA)(f:Nat)(args:List zA)(H:xA):dF:=match yK C f args false with
 | some fr=>.next ⟨fr,[],H⟩
 | none=>.fail 0
theorem BT:∀(c s:List UInt8),vY (c.map UInt8.toNat) (s.map UInt8.toNat)=c.isPrefixOf s
 | [],_=>by simp[vY]
 | _::_,[]=>rfl
 | a::x,b::y=>by
  simp only[ycm,vY,rD,BT x y,List.isPrefixOf];grind [UInt8.toNat_inj,gC]
def OY(c:List UInt8):∀s:List UInt8,Cn (c.map UInt8.toNat) (s.map UInt8.toNat)=Lib.contains s c
 | []=>by cases c<;>simp[Cn,Lib.contains,Lib.index]
 | b::l=>by
  have ih:=OY c l
  grind [BT,Cn,Lib.contains,Lib.index]
def MH(c:UInt8):∀s:List UInt8,(match sW c.toNat (s.map UInt8.toNat)with | some n=>Int.ofNat n | none=>.negSucc 0)=Lib.indexByte s c
 | []=>rfl
 | b::l=>by
  have ih:=MH c l
  simp only[ycm,sW,rD];rw[Lib.indexByte];by_cases h:b=c
  ·subst h;simp
  ·have:¬ Nat.beq b.toNat c.toNat=true:=fun e=>h (UInt8.toNat_inj.1 (gC.1 e))
   rw[yaa this];simp only[beq_iff_eq,h,if_false]
   cases hx:sW c.toNat (l.map UInt8.toNat)with
   | none=>simp_all
   | some n=>
    grind [pA]
def zms(c:List UInt8):∀s:List UInt8,match Cm (c.map UInt8.toNat) (s.map UInt8.toNat)with
  | some p=>∃x y,p=(x.map UInt8.toNat,y.map UInt8.toNat)/\0<=Lib.index s c/\x=s.take (Lib.index s c).toNat/\y=s.drop ((Lib.index s c).toNat+c.length)
  | none=>Lib.index s c = -1
 | []=>by
  cases c with
  | nil=>exact⟨[],[],by simp,by simp[Lib.index],by simp,by simp⟩
  | cons a c=>simp[Cm,Lib.index]
 | b::l=>by
  have ih:=zms c l
  have hp:=BT c (b::l)
  have ge:=Lib.index_ge l c
  simp only[ycm]at hp ⊢
  simp only[Cm,rD,hp];rw[Lib.index];by_cases h:c.isPrefixOf (b::l)=true
  ·rw[yab h,yab h]
   grind [vR,kD,List.map_drop]
  ·rw[yaa h,yaa h]
   cases hx:Cm (c.map UInt8.toNat) (l.map UInt8.toNat)with
   | none=>simp_all
   | some p=>
    rw[hx]at ih;obtain⟨x,y,rfl,h1,h2,h3⟩:=ih
    have e:¬ ((Lib.index l c == -1)=true):=by grind
    rw[yaa e];obtain⟨n,hn⟩:∃n:Nat,Lib.index l c=n:=⟨_,(Int.toNat_of_nonneg h1).symm⟩
    rw[hn]at h2 h3 ⊢
    have e2:((n:Int)+1).toNat=n+1:=by omega
    have e3:((n:Int)).toNat=n:=by omega
    rw[e2];rw[e3]at h2 h3;refine⟨b::x,y,by simp,by omega,by simp[h2],?_⟩
    grind
def CY:vE->vE->Bool
 | .bool,.bool=>true
 | .int k,.int j=>gN k j
 | .string,.string=>true
 | .ptr a,.ptr b=>Nat.beq a b
 | .slice a,.slice b=>Nat.beq a b
 | .arr a c,.arr b d=>Nat.beq a b&&Nat.beq c d
 | .map a c,.map b d=>Nat.beq a b&&Nat.beq c d
 | .struct f,.struct g=>decide (f=g)
 | .func,.func=>true
 | .iface,.iface=>true
 | .other,.other=>true
 | _,_=>false
def zeh{a b:vE}(h:CY a b=true):a=b:=by
 cases a<;>cases b<;>simp[CY,iM]at h ⊢<;>first | exact h | exact⟨h.1,h.2⟩
def eqTy (a b:lD):Bool:=CY a.desc b.desc&&Nat.beq a.size b.size&&Nat.beq a.bytes b.bytes&&same.sames 10 a.zero b.zero&&bEq a.eqOk b.eqOk
theorem zp7{a b:lD}(h:eqTy a b=true):a=b:=by
 obtain⟨d,s,y,z,e⟩:=a
 obtain⟨d',s',y',z',e'⟩:=b
 simp only[eqTy,ybb,gC,aZ,beq_iff_eq]at h;obtain⟨⟨⟨⟨h1,h2⟩,h3⟩,h4⟩,h5⟩:=h
 rw[zeh h1,h2,h3,Zd _ _ _ h4,h5]
def allT {α:Type}(p:Nat->α->Bool):Tr α->(Nat->Nat)->Bool
 | .leaf,_=>true
 | .node l v r,f=>(match v with | some v=>p (f 0) v | none=>true)&&allT p l (fun m=>f (2*m+1))&&allT p r (fun m=>f (2*m+2))
theorem zqx{α:Type}{p:Nat->α->Bool}:∀(t:Tr α) (f:Nat->Nat),allT p t f=true->∀(n:Nat) v,t.get n=some v->p (f n) v=true:=by
 intro t;induction t with
 | leaf=>grind [Tr.get_leaf]
 | node l x r ihl ihr=>
  intro f h n v hv;simp only[allT,ybb]at h;grind [Tr.get_node]
def tP (l:List (List UInt8)):List Value:=l.map fun b=>.string ⟨b.toArray⟩
def Et (l:List Int):List Value:=l.map fun n=>.int .i64 n
def mu0:Mu:=⟨fun g=>if g<256 then some ⟨g,true,0,0,true⟩else none,fun _=>none⟩
def Yo{μ:Mu}:∀l:List (List UInt8),pB μ (l.map fun b=>zA.str (b.map UInt8.toNat)) (tP l)
 | []=>.nil
 | b::l=>.cons (by grind [vA,pF]) (Yo l)
def MF{μ:Mu}:∀l:List Int,pB μ (l.map fun n=>zA.int .i64 n) (Et l)
 | []=>.nil
 | b::l=>.cons (by rw[vA]) (MF l)
theorem Vh{μ:Mu}{g:Nat}{l:List zA}{vs:List Value}(h:pB μ l vs)(t:TypeId):uJ μ ⟨g,true,0,0,true⟩ (.cells (Tr.ofList l) (yB l) none) (.cells vs.toArray t (0,0)):=h.rel_one rfl
def zpz{o:dF}(h:jH o=1):∃H,o=.done (.bool true) H:=by
 cases o with
 | next s=>cases h
 | fail n=>grind [jH]
 | done v H=>
  grind [jH,Fj]
end Go.Am
namespace Go.Am
open Go Go.RowKit
def oY(c:Nat):List Nat->Nat
 | []=>0
 | x::r=>bif Nat.beq x c then oY c r+1 else oY c r
def Sv(a:List zA)(_:xA):Option zA:=match a with | [.str s,.str [c]]=>some (.int .i64 (.ofNat (oY c s))) | _=>none
end Go.Am
