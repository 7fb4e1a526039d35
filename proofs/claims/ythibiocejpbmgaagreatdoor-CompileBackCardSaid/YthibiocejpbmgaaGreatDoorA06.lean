/- Trees: regions that draw, code, points; what a function's tree is worth. -/
import Derived.Lib.Bytealg
import Derived.Lib.Index
import Derived.Lib.IndexMore
import Derived.Lib.ItoaNum
import Derived.Shelf.Strings.Builder1
import Derived.Test.YthibiocejpbmgaaGreatDoorA05
set_option linter.all false
noncomputable section
namespace Go.Am
open Go Go.RowKit
section
variable {b base f i id k:Nat}{op:Op}{κ:KT}{e:vD}{ef:vN}{m:Tm->pA->dB}{la pl:List Nat}{q:Nat × Nat}{v:zA}{p:PI}{vals:List zA}{y:qA}
structure Iu (ν:Nat->Nat) (old:rH) (oldA:Tm):Prop where
 tms:∀i v,old.tm.get i=some v->oldA.get i=some v
 ads:∀i p,rL i old.ad=some p->oldA.get i=some (.ptr (ν p.1) p.2)
def yG.old {X0 X:Xt}{kf:Nat}{ν:Nat->Nat}{st:rH}{tm:Tm}{HA:pA}{t:Tr qA}(h:yG base X0 kf ν X st tm HA t):Iu ν st tm:=⟨h.tms,h.ads⟩
def Tm.get_cut{tm:Tm}  : tm.cut.get i=if i<tm.k then tm.get i else none:=by
 unfold Tm.cut Tm.get;simp only[sK];by_cases h:Nat.blt i tm.k=true
 ·rw[yab h,yab h,yab (sC.1 h)]
 ·rw[yaa h,yaa (fun e=>h (sC.2 e))];rfl
theorem zbm  : ∀ {l:List (Nat × Nat × Nat)},rL i (vD.adCut k l)=if i<k then rL i l else none:=by
 intro l;induction l with
 | nil=>show none=_;split<;>rfl
 | cons a l ih=>
  grind [vD.adCut,sC,It]
section
variable {W J:cI}{t:Tr qA}{X X0:Xt}{HA:pA}{C:fA}{A:Tr dD}{ν:Nat->Nat}{Q:xC}{kf n:Nat}{st old:rH}{tm oldA:Tm}{all:Array Oper}{olds:List (Nat × List Nat)}
theorem yG.cut(h:yG C.base X0 kf ν X st tm HA t):yG C.base X0 kf ν X st.cut tm.cut HA t:=by
 refine⟨h.ov,h.le,h.k,h.kA,?_,?_,h.lo,h.inj⟩
 ·intro i v hi;have hi:st.tm.cut.get i=some v:=hi;rw[Tm.get_cut]at hi ⊢;split at hi
  ·rename_i e;rw[yab (by rw[h.kA,<- h.k];exact e)];exact h.tms i v hi
  grind
 ·intro i p hi;have hi:rL i (vD.adCut st.tm.k st.ad)=some p:=hi;rw[zbm]at hi;rw[Tm.get_cut];split at hi
  ·rename_i e;rw[yab (by rw[h.kA,<- h.k];exact e)];exact h.ads i p hi
  grind
theorem Dv(h:yG C.base X0 kf ν X st tm HA t)(ho:Iu ν old oldA){os:List Nat}  : cS (fP st old os op) (.mixed tm oldA os (bH op))/\Iz ν (lY st old os op) (.mixed tm oldA os (bH op)):=by
 constructor
 ·intro i v hi;have hi:(bif aI i (bH op)then Tm.get (bif aI i os then old.tm else st.tm) i else none)=some v:=hi;show(bif aI i (bH op)then Tm.get (bif aI i os then oldA else tm) i else none)=some v
  cases hm:aI i (bH op)with
  | false=>simp_all
  | true=>
   rw[hm]at hi;simp only[cond_true]at hi ⊢
   cases hq:aI i os with
   | true=>rw[hq]at hi;exact ho.tms i v hi
   | false=>rw[hq]at hi;exact h.tms i v hi
 ·intro i p hi;have hi:(bif aI i (bH op)then rL i (bif aI i os then old.ad else st.ad)else none)=some p:=hi;show(bif aI i (bH op)then Tm.get (bif aI i os then oldA else tm) i else none)=_
  cases hm:aI i (bH op)with
  | false=>simp_all
  | true=>
   rw[hm]at hi;simp only[cond_true]at hi ⊢
   cases hq:aI i os with
   | true=>rw[hq]at hi;exact ho.ads i p hi
   | false=>rw[hq]at hi;exact h.ads i p hi
theorem Tz(ho:Iu ν old oldA) {kd:Tm->dB}(hκ:∀st' tm',yG C.base X0 kf ν X st' tm' HA t->tA C.base W J (κ st') t Q->mC C.base X0 Q (kd tm')) :
  ∀(l:List Nat) (st:rH) (tm:Tm),yG C.base X0 kf ν X st tm HA t->tA C.base W J (fR C all n old olds κ l st) t Q->mC C.base X0 Q (pI C HA all n oldA olds kd l tm):=by
 intro l;induction l with
 | nil=>exact hκ
 | cons i l ih=>
  intro st tm hst h;have h:tA C.base W J (uC (tD all.toList i) fun o=>uC (aF o.guard all st.tm) fun w=>Bool.rec (motive:=fun _=>T) (qQ n o.dst kD false st (fR C all n old olds κ l))
   (tL C o.op (fP st old (rF i olds) o.op) (lY st old (rF i olds) o.op) st.lo (kop C all n o (fP st old (rF i olds) o.op) st (fR C all n old olds κ l))) w) t Q:=h
  rw[kE]at h;obtain⟨o,h0,h⟩:=h;rw[kE]at h;obtain⟨w,h1,h2⟩:=h;rw[Qw];refine mC.ob h0 (mC.ob (Ji hst h1) ?_)
  cases w with
  | false=>
   rw[yaa (by simp)];obtain⟨st',h3,h4⟩:=hst.put h2
   grind
  | true=>
   rw[yab rfl];refine Exists.elim (zg3 (R:=fun v=>mC C.base X0 Q (iL C o.type v fun v=>pI C HA all n oldA olds kd l (putA n tm o.dst v))) (Dv hst ho).1 (Dv hst ho).2 hst.ov hst.lo h2 ?_ ?_ ?_) (fun v h=>mC.ob h.1 h.2)
   ·intro v hk;have hk:tA C.base W J (Jz C o.type v fun v=>Gf (Rf all.toList o.dst all.toList) (Qr o.op (fP st old (rF i olds) o.op) st.lit) v fun v lt=>qQ n o.dst v lt st (fR C all n old olds κ l)) t Q:=hk;obtain⟨g1,g2⟩:=BT hk;obtain⟨lt',g3⟩:=Oi g2;obtain⟨st',g4,g5⟩:=hst.put g3
    grind [mC.norm]
   ·intro v hk;obtain⟨g1,g2⟩:=fN.1 hk;obtain⟨lt',g3⟩:=Oi g2;obtain⟨st',g4,g5⟩:=hst.put g3
    grind [mC.norm,Rq]
   ·intro d off hk;obtain⟨g1,g2⟩:=fN.1 hk;obtain⟨st',g4,g5⟩:=hst.putA g2
    grind [mC.norm,Yr]
theorem QR(ho:Iu ν old oldA)(hst:yG C.base X0 kf ν X st tm HA t){k:T}{kd:dB}(hk:tA C.base W J k t Q->mC C.base X0 Q kd) :
  ∀(l:List Nat),tA C.base W J (tW C all old olds st k l) t Q->mC C.base X0 Q (nM C HA all oldA olds tm kd l):=by
 intro l;induction l with
 | nil=>exact hk
 | cons i l ih=>
  intro h;have h:tA C.base W J (uC (tD all.toList i) fun o=>uC o.dst fun d=>uC (aF o.guard all st.tm) fun w=>Bool.rec (motive:=fun _=>T) (tW C all old olds st k l)
   (uC (st.tm.get d) fun u=>vK (fitB C o.type u) (tL C o.op (fP st old (rF i olds) o.op) (lY st old (rF i olds) o.op) st.lo ⟨fun v=>.ite (same 10 v u) (tW C all old olds st k l) .fail,fun v=>.ite (same 10 v u) (tW C all old olds st k l) .fail,fun _ _=>.fail⟩)) w) t Q:=h
  rw[kE]at h;obtain⟨o,h0,h⟩:=h;rw[kE]at h;obtain⟨d,h1,h⟩:=h;rw[kE]at h;obtain⟨w,h2,h⟩:=h;rw[Zv];refine mC.ob h0 (mC.ob h1 (mC.ob (Ji hst h2) ?_))
  cases w with
  | false=>simp_all
  | true=>
   rw[yab rfl];simp only[kE,fN]at h;obtain⟨u,h3,h4,h5⟩:=h;have bD:∀v,tA C.base W J (.ite (same 10 v u) (tW C all old olds st k l) .fail) t Q->mC C.base X0 Q (iL C o.type v fun v=>ob (tm.get d) fun u=>vB (same 10 v u) (nM C HA all oldA olds tm kd l)):=by
    intro v hv;have hv:if same 10 v u=true then tA C.base W J (tW C all old olds st k l) t Q else False:=hv;split at hv
    ·rename_i hs;refine mC.norm ?_ (mC.ob (hst.tms _ _ h3) ?_)
     ·grind [Vt,Rq]
     ·rw[hs];exact ih hv
    simp_all
   obtain⟨v,h6,h7⟩:=zg3 (R:=fun v=>mC C.base X0 Q (iL C o.type v fun v=>ob (tm.get d) fun u=>vB (same 10 v u) (nM C HA all oldA olds tm kd l))) (Dv hst ho).1 (Dv hst ho).2 hst.ov hst.lo h5 bD bD (fun _ _ h=>h.elim)
   simp_all
theorem zbr(hst:yG C.base X0 kf ν X st tm HA t){h:Nat}{o:Oper}{w:Bool}(hw:sU C all h o st.tm=some w):sU C all h o tm=some w:=by
 grind [sU,lA,Ji]
theorem XQ{e':vD}(he:cS e e')  (h:pZ op e=some ef):pZ op e'=some ef:=by
 cases op<;>first | (cases h;done) | skip
 all_goals grind [pZ,lA,zF]
theorem zg4  {ae:gN} (h:tEff op e ae=some ef):pZ op e=some ef:=by
 cases op<;>first | exact h | skip
 grind [tEff]
def zby(hst:yG C.base X0 kf ν X st tm HA t)(ho:Iu ν old oldA){l:List Nat}{es:List vN}(h:Ok all old olds st l=some es):Ic all oldA olds tm l=some es:=by
 refine Qq l (fun i ef h=>?_) h;unfold cW;simp only[lA,oB]at h ⊢;obtain⟨o,h1,w,h2,h3,h4⟩:=h;exact⟨o,h1,w,Ji hst h2,h3,XQ (Dv hst ho).1 (zg4 h4)⟩
theorem QJ(hW:eV C A W)(ho:Iu ν old oldA)  (hκ:SK C W J X0 kf Q κ m) :
  ∀(l:List fG) (st:rH) (tm:Tm) (HA:pA) (t:Tr qA) (X:Xt),yG C.base X0 kf ν X st tm HA t->tA C.base W J (Ac C all n old olds κ l st) t Q->mC C.base X0 Q (tJ C (jD C A) all n oldA olds m l tm HA):=by
 intro l;induction l with
 | nil=>intro st tm HA t X hst h;exact hκ _ _ _ _ _ _ hst h
 | cons s l ih=>
  intro st tm HA t X hst h
  cases hg:jT all s with
  | true=>
   have h:tA C.base W J (Bool.rec (motive:=fun _=>T) _ (vK (jW C all) (uC (Ok all old olds st s.again) fun es=>.heavy (Fw C es) fun _=>fR C all n old olds (Ac C all n old olds κ l) s.lights st)) (jT all s)) t Q:=h;rw[hg]at h;have h:tA C.base W J (vK (jW C all) (uC (Ok all old olds st s.again) fun es=>.heavy (Fw C es) fun _=>fR C all n old olds (Ac C all n old olds κ l) s.lights st)) t Q:=h
   rw[fN]at h;obtain⟨h0,h⟩:=h;rw[kE]at h;obtain⟨es,h1,h⟩:=h;have h:=h HA.next hst.ov.nextT hst.ov.base;rw[rY]at h;obtain⟨⟨v,H'⟩,h2,h3⟩:=h;obtain⟨HA',h4,h5⟩:=PQ _ _ _ _ _ hst.ov h2;have h6:vZ C es HA=some HA':=by
    grind [Fw,lA]
   rw[Kc hg];unfold Mh;rw[h0];show mC C.base X0 Q (ob (Ic all oldA olds tm s.again) fun es=>ob (vZ C es HA) fun H'=>pI C H' all n oldA olds (fun tm=>tJ C (jD C A) all n oldA olds m l tm H') s.lights tm);refine mC.ob (zby hst ho h1) (mC.ob h6 ?_);exact Tz ho (fun st' tm' hs hw=>ih _ _ _ _ _ hs hw) _ _ _ (hst.later h5 (bJ.refl _)) h3
  | false=>
  have h:tA C.base W J (Bool.rec (motive:=fun _=>T) (uC (tD all.toList (dM all s.heavy)) fun o=>uC (sU C all s.heavy o st.tm) fun w=>
   (fun cont:KT=>Bool.rec (motive:=fun _=>T) (qQ n o.dst kD false st cont)
    (tH C [] o.dst o.op (fP st old (rF (dM all s.heavy) olds) o.op) (lY st old (rF (dM all s.heavy) olds) o.op) st.lo (kop C all n o (fP st old (rF (dM all s.heavy) olds) o.op) st cont) (klo C n o st cont)) w)
   (fun st'=>tW C all old olds st' (fR C all n old olds (Ac C all n old olds κ l) s.lights st') s.again)) _ (jT all s)) t Q:=h
  rw[hg]at h;have h:tA C.base W J (uC (tD all.toList (dM all s.heavy)) fun o=>uC (sU C all s.heavy o st.tm) fun w=>
   (fun cont:KT=>Bool.rec (motive:=fun _=>T) (qQ n o.dst kD false st cont)
    (tH C [] o.dst o.op (fP st old (rF (dM all s.heavy) olds) o.op) (lY st old (rF (dM all s.heavy) olds) o.op) st.lo (kop C all n o (fP st old (rF (dM all s.heavy) olds) o.op) st cont) (klo C n o st cont)) w)
   (fun st'=>tW C all old olds st' (fR C all n old olds (Ac C all n old olds κ l) s.lights st') s.again)) t Q:=h
  rw[kE]at h;obtain⟨o,h0,h⟩:=h;rw[kE]at h;obtain⟨w,h1,h2⟩:=h;rw[Gi hg];refine mC.ob h0 (mC.ob (zbr hst h1) ?_);have bD:∀st' tm' HA' t' X' ν',ν'=ν->yG C.base X0 kf ν' X' st' tm' HA' t'->tA C.base W J (tW C all old olds st' (fR C all n old olds (Ac C all n old olds κ l) s.lights st') s.again) t' Q →
    mC C.base X0 Q (nM C HA' all oldA olds tm' (pI C HA' all n oldA olds (fun tm=>tJ C (jD C A) all n oldA olds m l tm HA') s.lights tm') s.again):=by
   intro st' tm' HA' t' X' ν' e hs hw;subst e;exact QR ho hs (fun hl=>Tz ho (fun st2 tm2 hs2 hw2=>ih _ _ _ _ _ hs2 hw2) _ _ _ hs hl) _ hw
  cases w with
  | false=>
   simp only[ybq,if_false];obtain⟨st',h3,h4⟩:=hst.put h2
   grind
  | true=>
   simp only[if_true];exact CK (m:=fun tm' HA'=>nM C HA' all oldA olds tm' (pI C HA' all n oldA olds (fun tm=>tJ C (jD C A) all n oldA olds m l tm HA') s.lights tm') s.again)
    hW (Dv hst ho).1 (Dv hst ho).2 hst (fun st' tm' HA' t' X' ν' hn hs _ hw=>bD _ _ _ _ _ _ (hn rfl) hs hw) h2
def QO(hW:eV C A W) {fn:Nat}{d:Bool}  (hκ:SK C W J X0 kf Q κ m):SK C W J X0 kf Q (BA C la fn n κ id all d) (Gw C (jD C A) fn n m id all d):=by
 intro st tm HA t X ν hst h
 cases d with
 | false=>exact zgx hW hκ _ _ _ _ _ _ _ hst.cut h
 | true=>
  have h:tA C.base W J (uC (ob (C.plans.get fn) fun t=>t.get id) fun p=>vK (qT all p) (fR C all n st.cut p.olds (Ac C all n st.cut p.olds κ p.stages) p.first st.cut)) t Q:=h;simp only[kE,fN]at h;obtain⟨p,h1,h2,h3⟩:=h;show mC C.base X0 Q (ob (ob (C.plans.get fn) fun t=>t.get id) fun p=>vB (qT all p) (pI C HA all n tm.cut p.olds (fun tm'=>tJ C (jD C A) all n tm.cut p.olds m p.stages tm' HA) p.first tm.cut))
  refine mC.ob h1 ?_;rw[h2];exact Tz hst.cut.old (fun st' tm' hs hw=>QJ hW hst.cut.old hκ _ _ _ _ _ _ hs hw) _ _ _ hst.cut h3
end
structure PtD where
 p:PI
 m:Tm->pA->dB
def oN(C:fA)(φ:xJ)(fn n:Nat):dD->Kt->List PtD
 | .skip,_=>[]
 | .region _ _ _,_=>[]
 | .seq a b,κ=>oN C φ fn n a ⟨aD C φ fn n b κ,κ.exit,κ.ret⟩++oN C φ fn n b κ
 | .cond _ x y,κ=>oN C φ fn n x κ++oN C φ fn n y κ
 | .block id c,κ=>oN C φ fn n c ⟨κ.norm,fun i tm H=>Bool.rec (motive:=fun _=>dB) (κ.exit i tm H) (κ.norm tm H) (Nat.beq id i),κ.ret⟩
 | .loop p c,κ=>⟨p,aD C φ fn n (.loop p c) κ⟩::oN C φ fn n c ⟨aD C φ fn n (.loop p c) κ,κ.exit,κ.ret⟩
 | .exit _,_=>[]
 | .ret,_=>[]
 | .cut p c,κ=>⟨p,aD C φ fn n (.cut p c) κ⟩::oN C φ fn n c κ
 | .range i pl fo ps id ops c,_=>⟨⟨i,tE pl ps.toList,[]⟩,Sn C φ fn n ⟨i,pl,fo,ps,id,ops,c⟩⟩::oN C φ fn n c rdK
def Sz(base kf:Nat)(d:PtD)(vals:List zA)(t:Tr qA)(Q:xC):Prop:=∀X0 X HA tm ν,yG base X0 kf ν X (qW kf d.p vals) tm HA t->mC base X0 Q (d.m tm HA)
def JOk (base kf:Nat)(J:cI)(l:List PtD):Prop:=∀d∈l,∀vals t Q,J d.p.id vals t Q->Sz base kf d vals t Q
structure SKt (C:fA) (W J:cI) (X0:Xt) (kf:Nat) (Q:xC) (κ:KtT) (m:Kt):Prop where
 norm:SK C W J X0 kf Q κ.norm m.norm
 exit:∀i,SK C W J X0 kf Q (κ.exit i) (m.exit i)
 ret:SK C W J X0 kf Q κ.ret m.ret
theorem Vi{d:Nat}{l:List zA}{st:rH}:∀ {ll:List (Nat × Nat)} {b rest:List zA},Ft st ll=some b->(rW ll (b++rest)).get d=some l->st.lo.get d=some l:=by
 intro ll;induction ll with
 | nil=>grind [rW,Tr.get_leaf]
 | cons p ll ih=>
  intro b rest hb h;have hb:(ob (rL p.1 st.ad) fun a=>vB (Nat.beq a.1 p.1&&Nat.beq a.2 0) (ob (st.lo.get p.1) fun l=>vB (Nat.beq (wB l) p.2) (ob (Ft st ll) fun r=>some (tE l r))))=some b:=hb;simp only[lA,oB]at hb;obtain⟨a,_,_,l0,h2,h3,r,h4,h5⟩:=hb;cases h5;have h:((rW ll (cQ (tE l0 r++rest) p.2)).set p.1 (kY (tE l0 r++rest) p.2)).get d=some l:=h
  grind [gC,oD,fH,fU,iU,List.drop_left,Tr.get_set]
theorem zb5  {st:rH}:∀ {ll:List (Nat × Nat)} {b:List zA},Ft st ll=some b->rL i (stAd ll)=some q->rL i st.ad=some q:=by
 intro ll;induction ll with
 | nil=>intro b _ h;cases h
 | cons p ll ih=>
  grind [Ft,lA,oB,gC,stAd,It]
theorem zb3  {st:rH}:∀ {pl:List Nat} {a rest:List zA},oH (fun i=>st.tm.get i) pl=some a->(mP pl (a++rest)).get i=some v->st.tm.get i=some v:=by
 intro pl;induction pl with
 | nil=>grind [mP,Tr.get_leaf]
 | cons j pl ih=>
  intro a rest ha h;rw[dO,lA]at ha;obtain⟨u,h1,ha⟩:=ha;rw[lA]at ha;obtain⟨r,h2,ha⟩:=ha;cases ha;have h:((mP pl (r++rest)).set j u).get i=some v:=h
  grind [Tr.get_set]
theorem Tm.get_kv {v:Tr zA}{u:zA}(h:Tm.get ⟨k,v,[]⟩ i=some u):i<k/\v.get i=some u:=by
 unfold Tm.get at h;rw[sK]at h;split at h
 ·simp_all
 ·cases h
theorem PD {st:rH} (h:Fs p st=some vals):∃a b,vals=a++b/\oH (fun i=>st.tm.get i) p.pl=some a/\Ft st p.ll=some b/\a.length=p.pl.length:=by
 unfold Fs at h;simp only[lA]at h;obtain⟨a,h1,b,h2,h3⟩:=h;cases h3;refine⟨a,b,fH _ _,h1,h2,?_⟩;have:∀(l:List Nat) (r:List zA),oH (fun i=>st.tm.get i) l=some r->r.length=l.length:=by
  intro l;induction l with
  | nil=>intro r h;cases h;rfl
  | cons x l ih=>
   grind [dO,lA]
 grind
section
variable {W J:cI}{t:Tr qA}{X X0:Xt}{HA:pA}{C:fA}{A:Tr dD}{ν:Nat->Nat}{Q:xC}{kf n:Nat}{st:rH}{tm:Tm}
theorem yG.at(h:yG C.base X0 kf ν X st tm HA t){p:PI}{vals:List zA}(hv:Fs p st=some vals):yG C.base X0 kf ν X (qW kf p vals) tm HA t:=by
 obtain⟨a,b,rfl,h1,h2,h3⟩:=PD hv;have hd:cQ (a++b) (wB p.pl)=b:=by rw[fU,oD,<- h3,List.drop_left]
 refine⟨h.ov,h.le,rfl,h.kA,?_,?_,?_,?_⟩
 ·intro i v hi;exact h.tms i v (zb3 h1 (Tm.get_kv hi).2)
 ·intro i q hi;exact h.ads i q (zb5 h2 hi)
 ·intro d l hl;have hl:(rW p.ll (cQ (a++b) (wB p.pl))).get d=some l:=hl;rw[hd]at hl;have hb:(rW p.ll (b++[])).get d=some l:=by simp_all
  exact h.lo d l (Vi h2 hb)
 ·intro d d' l l' hl hl' he;have hl:(rW p.ll (cQ (a++b) (wB p.pl))).get d=some l:=hl;have hl':(rW p.ll (cQ (a++b) (wB p.pl))).get d'=some l':=hl';rw[hd]at hl hl';have hb:(rW p.ll (b++[])).get d=some l:=by simp_all
  have hb':(rW p.ll (b++[])).get d'=some l':=by simp_all
  exact h.inj d d' l l' (Vi h2 hb) (Vi h2 hb') he
theorem zac{tm:Tm}  (hv:tm.get i=some v):∀ {live:List Nat},i∈live->(Hl tm live).get i=some v:=by
 intro live;induction live with
 | nil=>simp_all
 | cons j live ih=>
  grind [Hl,Tr.get_set]
theorem zb2   : ∀ {pl:List Nat} {vals:List zA},(mP pl vals).get i=some v->i∈pl:=by
 intro pl;induction pl with
 | nil=>grind [mP,Tr.get_leaf]
 | cons j pl ih=>
  intro vals h
  cases vals with
  | nil=>grind [mP,Tr.get_leaf]
  | cons u vals=>
   have h:((mP pl vals).set j u).get i=some v:=h
   grind [Tr.get_set]
theorem zb4   : ∀ {ll:List (Nat × Nat)},rL i (stAd ll)=some q->i∈(List.rec (motive:=fun _=>List Nat) [] (fun a _ r=>a.1::r) ll:List Nat):=by
 intro ll;induction ll with
 | nil=>intro h;cases h
 | cons p ll ih=>
  grind [stAd,It]
theorem yG.keep  (hb:∀i,i∈p.kept->i<kf)(h:yG C.base X0 kf ν X (qW kf p vals) tm HA t):yG C.base X0 kf ν X (qW kf p vals) (Am.keep p.kept tm) HA t:=by
 have key:∀i v,i∈p.kept->tm.get i=some v->(Am.keep p.kept tm).get i=some v:=by
  intro i v hi hv;unfold Am.keep Tm.get;rw[sK,yab (sC.2 (by rw[h.kA];grind))];exact zac hv hi
 refine⟨h.ov,h.le,rfl,h.kA,?_,?_,h.lo,h.inj⟩
 ·intro i v hi;refine key i v ?_ (h.tms i v hi);unfold PI.kept;rw[fH];exact ydc _ (zb2 (Tm.get_kv hi).2)
 ·intro i q hi;refine key i _ ?_ (h.ads i q hi);unfold PI.kept;rw[fH];exact ycf _ (zb4 hi)
theorem Hm{l:List PtD}(hJ:JOk C.base kf J l)  (hm:(⟨p,m⟩:PtD)∈l):SK C W J X0 kf Q (Ho p) m:=by
 intro st tm HA t X ν hst h;unfold Ho at h;rw[kE]at h;obtain⟨vals,h1,h2⟩:=h;exact hJ _ hm vals t Q h2 _ _ _ _ _ (hst.at h1)
def zfc:SKt C W J X0 kf Q rdT rdK:=⟨fun _ tm HA t X _ hst h=>⟨_,t,HA,X,rfl,hst.ov,hst.le,h⟩,fun _ _ _ _ _ _ _ _ h=>h.elim,fun _ tm HA t X _ hst h=>⟨_,t,HA,X,rfl,hst.ov,hst.le,h⟩⟩
def Sw(C:fA)(A:Tr dD)(W:cI):Prop:=∀l args t Q,(∀X HA,Ov C.base t X HA->mC C.base X Q (Fc C A (yo+l) args HA))->W (yo+l) args t Q
def vO (X:Xt)(b:Nat)(y:qA):Xt:=fun c=>if c=b then some y else X c
theorem Lg{X:Xt}  (h:X b=none):bJ X (vO X b y):=by
 intro c z hc;grind [vO]
theorem Ov.under (h:Ov base t X HA)  (hb:t.get b=some y)(z:qA):Ov base (t.del b) (vO X b z) (Am.setBlk HA b z):=by
 refine⟨h.base,fun c hc=>?_,fun c u hc=>?_,fun c u hc=>?_⟩
 ·show(HA.t.set b z).get c=_;unfold vO at hc;split at hc
  ·cases hc
  ·rename_i e;rw[Tr.get_set,yaa e,Tr.get_del,yaa e];exact h.same c hc
 ·show(HA.t.set b z).get c=_/\_;unfold vO at hc;split at hc
  ·rename_i e;cases hc;subst e;exact⟨by rw[Tr.get_set,yab rfl],by rw[Tr.get_del,yab rfl],h.lt _ _ hb⟩
  ·rename_i e;obtain⟨g1,g2,g3⟩:=h.ext c u hc;exact⟨by grind [Tr.get_set],by grind [Tr.get_del],g3⟩
 ·rw[Tr.get_del]at hc;split at hc
  ·cases hc
  ·exact h.lt _ _ hc
theorem Ov.back (h:Ov base t X HA)  (hb:X b=some y)(z:qA):Ov base (t.set b z) (fun c=>if c=b then none else X c) (Am.setBlk HA b z):=by
 obtain⟨g1,g2,g3⟩:=h.ext b y hb;refine⟨h.base,fun c hc=>?_,fun c u hc=>?_,fun c u hc=>?_⟩
 ·show(HA.t.set b z).get c=_;rw[Tr.get_set,Tr.get_set];split
  ·rfl
  ·rename_i e;rw[yaa e]at hc;exact h.same c hc
 ·show(HA.t.set b z).get c=_/\_;split at hc
  ·cases hc
  ·rename_i e;obtain⟨g1,g2,g3⟩:=h.ext c u hc;exact⟨by grind [Tr.get_set],by grind [Tr.get_set],g3⟩
 ·rw[Tr.get_set]at hc;split at hc
  ·rename_i e;rw[e];exact g3
  ·exact h.lt _ _ hc
def Xe{H:pA}{l:Nat}{r:vQ}(hl:256<=l)(h:H.t.get l=some (.loop r)):eK H l=some r:=by
 unfold eK;rw[h,uA,Nat.ble_eq_true_of_le hl];rfl
theorem zcg{kf n:Nat}{st:rH}{tm:Tm} {ps:List Nat}{args:List zA}{X:Xt}{HA:pA}{t:Tr qA}(ho:Ov base t X HA)(hk:st.tm.k=kf)(hkA:tm.k=kf)
  (ht:∀i v,st.tm.get i=some v->tm.get i=some v) (hv:ze9 pl st=some vals) (hok:zD (fun p=>Nat.blt p st.tm.k&&Nat.blt p n && !aI p pl) ps=true) (h1:ps.length<=1) (hl:args.length=ps.length) :
  ∃tm',zY n ps args tm=some tm'/\yG base X kf (fun i=>i) X (qW kf ⟨i,tE pl ps,[]⟩ (vals++args)) tm' HA t:=by
 have old:∀(pl:List Nat) (vals rest:List zA) j v,oH (fun i=>st.tm.get i) pl=some vals->(mP (pl++ps) (vals++rest)).get j=some v->(j∈pl/\tm.get j=some v)\/(mP ps rest).get j=some v:=by
  intro pl;induction pl with
  | nil=>intro vals rest j v h hj;cases h;simp_all
  | cons a pl ih=>
   intro vals rest j v h hj;rw[dO,lA]at h;obtain⟨u,g1,h⟩:=h;rw[lA]at h;obtain⟨us,g2,h⟩:=h;cases h;have hj:((mP (pl++ps) (us++rest)).set a u).get j=some v:=hj
   grind [Tr.get_set]
 cases ps with
 | nil=>
  cases args with
  | cons _ _=>cases hl
  | nil=>
   refine⟨tm,rfl,ho,bJ.refl _,rfl,hkA,fun j v hj=>?_,fun j p h=>(by cases h),fun d l h=>?_,fun d _ l _ h=>?_⟩
   ·have hj:=(Tm.get_kv hj).2;have hj:(mP (tE pl []) (vals++[])).get j=some v:=hj;rw[fH]at hj;rcases old pl vals [] j v hv hj with⟨_,h⟩ | h
    all_goals grind [mP,Tr.get_leaf]
   ·rw[show(qW kf ⟨i,tE pl [],[]⟩ (vals++[])).lo=.leaf from rfl,Tr.get_leaf]at h;cases h
   omega
 | cons p ps=>
  cases ps with
  | cons _ _=>simp at h1
  | nil=>
   cases args with
   | nil=>cases hl
   | cons a args=>
    cases args with
    | cons _ _=>simp at hl
    | nil=>
     have hp:(bif (Nat.blt p st.tm.k&&Nat.blt p n && !aI p pl)then zD (fun p=>Nat.blt p st.tm.k&&Nat.blt p n && !aI p pl) []else false)=true:=hok
     cases hx:(Nat.blt p st.tm.k&&Nat.blt p n && !aI p pl)with
     | false=>grind
     | true=>
      simp only[ybb,ycp]at hx;obtain⟨⟨x1,x2⟩,x3⟩:=hx;have x1:=sC.1 x1;have x2:=sC.1 x2;refine⟨putA n tm (some p) a,rfl,ho,bJ.refl _,rfl,by grind [Pq],fun j v hj=>?_,fun j p h=>(by cases h),fun d l h=>?_,fun d _ l _ h=>?_⟩
      ·have hj:=(Tm.get_kv hj).2;have hj:(mP (tE pl [p]) (vals++[a])).get j=some v:=hj;rw[fH]at hj;rw[cK];rcases old pl vals [a] j v hv hj with⟨hm,h⟩ | h
       all_goals grind [Ao,mP,Tr.get_set,Tr.get_leaf]
      ·rw[show(qW kf ⟨i,tE pl [p],[]⟩ (vals++[a])).lo=.leaf from rfl,Tr.get_leaf]at h;cases h
      omega
theorem TF(hW:eV C A W)(hY:Sw C A W) {κ:KtT}{m:Kt}(hκ:∀X0,SKt C W J X0 kf Q κ m)  {fo:Operand}{ps:Array Nat} {ops:Array Oper}{c:dD}
  (hone:∃c0,A.get f=some c0/\Le c0=some ⟨i,pl,fo,ps,id,ops,c⟩) (hJ:∀vals t Q,J i vals t Q->Sz C.base kf ⟨⟨i,tE pl ps.toList,[]⟩,Sn C (jD C A) f n ⟨i,pl,fo,ps,id,ops,c⟩⟩ vals t Q) :
  SK C W J X0 kf Q (We C n κ i pl fo ps.toList ops.toList c) (lQ C (jD C A) f n m fo ps.toList (.region id ops false) (sG c)):=by
 intro st tm HA t X ν hst h;unfold We at h;rw[fN,kE]at h;obtain⟨hok,vals,hv,h⟩:=h;rw[kE]at h;obtain⟨fv,hf,h256,h⟩:=h;unfold EW at hok;simp only[ybb]at hok;obtain⟨⟨⟨hok1,hok2⟩,hok3⟩,hok4⟩:=hok;have hok2:ps.toList.length<=1:=by simp_all [oD]
 have hok4:mU c=[]:=by
  grind
 have ho:=hst.ov;have hbase:=ho.base;generalize hr:(⟨.ready,none,f,n,tm,ps.toList,.region id ops false,sG c,HA.next⟩:vQ)=r at *;have htn:t.get (HA.next+1)=none:=by
  cases hx:t.get (HA.next+1)with
  | none=>rfl
  | some y=>exact absurd (ho.lt _ _ hx) (by omega)
 have hyield:∀args t1 Q1,args.length=wB ps.toList->t1.get (HA.next+1)=some (.loop r)->J i (vals++args) (t1.del (HA.next+1)) (fun v t2=>t2.get (HA.next+1)=none->∃b,v=.bool b/\Q1 v (t2.set (HA.next+1) (.loop (iY b r))))->W (yo+(HA.next+1)) args t1 Q1:=by
  intro args t1 Q1 hla ht1 hj;refine hY _ _ _ _ fun X1 HA1 ho1=>?_;rw[NC,zgb];show mC C.base X1 Q1 (Dd C A (jD C A) (HA.next+1) args HA1);have hx1:=ho1.notX ht1;have hov:=ho1.under ht1 (.loop (Fdzx r));obtain⟨tm',hs1,hs2⟩:=zcg (n:=n) (i:=i) hov hst.k hst.kA hst.tms hv hok1 hok2 (by rw[hla,oD]);obtain⟨v,t2,HA2,X2,e1,e2,e3,e4⟩:=hJ _ _ _ hj _ _ _ _ _ hs2;have hb2:X2 (HA.next+1)=some (.loop (Fdzx r)):=e3 _ _ (by unfold vO;rw[yab rfl])
  obtain⟨b,e4,e5⟩:=e4 (e2.ext _ _ hb2).2.1;subst e4;obtain⟨c0,hc0,hc1⟩:=hone;refine⟨.bool b,_,_,_,Gu.2 ⟨r,tm',c0,⟨i,pl,fo,ps,id,ops,c⟩,(.bool b,HA2),Fdzx r,b,Xe (by omega) (by rw[ho1.up ht1]),?_,?_,hc1,?_,?_,Xe (by omega) (e2.ext _ _ hb2).1,rfl,rfl⟩,e2.back hb2 _,?_,e5⟩
  ·grind
  ·grind
  ·rw[<- hr];exact⟨rfl,rfl,rfl,rfl,hok3,hok4⟩
  ·grind
  ·intro c y hc;have hne:c≠HA.next+1:=fun e=>by simp_all
   show(if c=HA.next+1 then none else X2 c)=some y;rw[yaa hne];exact e3 _ _ (Lg hx1 _ _ hc)
 have h:=h (HA.next+1) r htn (by omega) (by rw[<- hr]) (by rw[<- hr]) hyield;rw[rY]at h;obtain⟨⟨g,aq⟩,hra,hw⟩:=h;unfold Pn at hra;rw[lA]at hra;obtain⟨⟨qf,q1,q2⟩,hq,hra⟩:=hra
 cases qf with
 | yld l=>cases hra
 | func g'=>
  simp only[oB,ybb]at hra;obtain⟨⟨hg,hnp⟩,hra⟩:=hra;cases hra;have hp:C.prims.get g=none:=by
   unfold npC at hnp
   cases hx:C.prims.get g with
   | none=>rfl
   | some u=>rw[hx]at hnp;cases hnp
  have hXd:X HA.next=none:=ho.nextX;have ho1:Ov C.base t (vO X HA.next (.deferred (some []))) (newBlk HA (.deferred (some []))):=by
   refine⟨Nat.le_succ_of_le ho.base,fun b hb=>?_,fun b y hb=>?_,fun b y hb=>Nat.lt_succ_of_lt (ho.lt _ _ hb)⟩
   ·unfold vO at hb;split at hb
    ·cases hb
    ·rename_i e;show(HA.t.set HA.next _).get b=_;rw[Tr.get_set,yaa e];exact ho.same b hb
   ·unfold vO at hb;show(HA.t.set HA.next _).get b=_/\_/\b<HA.next+1;split at hb
    ·rename_i e;cases hb;subst e;exact⟨by rw[Tr.get_set,yab rfl],ho.nextT,Nat.lt_succ_self _⟩
    ·rename_i e;obtain⟨g1,g2,g3⟩:=ho.ext b y hb
     grind [Tr.get_set]
  have ho2:=ho1.newBlk (.loop r);obtain⟨v,t',HA2,X2,e1,e2,e3,e4⟩:=hW _ _ _ _ hw _ _ ho2;rw[Ii hg,hp]at e1;have e1:jD C A (.func g) (tE q1 (.func (.yld (HA.next+1)) [] []::q2)) (newBlk (newBlk HA (.deferred (some []))) (.loop r))=some (v,HA2):=e1;have goal:∀r' (κ':KT) (m':Tm->pA->dB),t'.get (HA.next+1)=some (.loop r')->(!Nat.beq (LoopState.tag r'.state) 1)=true->(∀tm H,hZ m r'.pending tm H=m' tm H)->(∀X0,SK C W J X0 kf Q κ' m')->tA C.base W J (κ' st) (t'.del (HA.next+1)) Q →
    mC C.base X0 Q (lQ C (jD C A) f n m fo ps.toList (.region id ops false) (sG c) tm HA):=by
   intro r' κ' m' k1 k2 k3 k4 k5;have ho3:=e2.under k1 (.loop ⟨.exhausted,r'.pending,r'.fn,r'.n,r'.tm,r'.params,r'.assign,r'.body,r'.defers⟩);have hx2:=e2.notX k1;have hXX:bJ X (vO X2 (HA.next+1) (.loop ⟨.exhausted,r'.pending,r'.fn,r'.n,r'.tm,r'.params,r'.assign,r'.body,r'.defers⟩)):=((Lg hXd).trans e3).trans (Lg hx2);have hd3:(vO X2 (HA.next+1) (.loop ⟨.exhausted,r'.pending,r'.fn,r'.n,r'.tm,r'.params,r'.assign,r'.body,r'.defers⟩)) HA.next=some (.deferred (some [])):=by
    refine(Lg hx2) _ _ (e3 _ _ ?_);unfold vO;rw[yab rfl]
   have hX0d:X0 HA.next=none:=by
    cases hx:X0 HA.next with
    | none=>rfl
    | some y=>have:=hst.le _ _ hx;simp_all
   have hl:=hst.later ho3 hXX;have hl':yG C.base (vO X0 HA.next (.deferred (some []))) kf ν (vO X2 (HA.next+1) (.loop ⟨.exhausted,r'.pending,r'.fn,r'.n,r'.tm,r'.params,r'.assign,r'.body,r'.defers⟩)) st tm (endLoop HA2 (HA.next+1) r') (t'.del (HA.next+1)):=by
    refine⟨hl.ov,?_,hl.k,hl.kA,hl.tms,hl.ads,fun d l hd=>?_,hl.inj⟩
    ·intro b y hb;unfold vO at hb;split at hb
     ·simp_all
     ·exact hl.le _ _ hb
    ·obtain⟨g1,g2,g3⟩:=hl.lo d l hd
     grind [vO]
   obtain⟨w,t4,HA4,X4,f1,f2,f3,f4⟩:=k4 _ _ _ _ _ _ _ hl' k5;have hd4:X4 HA.next=some (.deferred (some [])):=f3 _ _ (by unfold vO;rw[yab rfl]);refine⟨w,t4,_,_,?_,f2.setX hd4 (.deferred none),?_,f4⟩
   ·unfold lQ;rw[zF (Qh hst).1 hf,uA,hq,uA];show(vB (aH (C.prims.get g)) _)=_;rw[hp];show(ob (jD C A (.func g) _ (newBlk (newBlk HA (.deferred (some []))) (.loop ⟨.ready,none,f,n,tm,ps.toList,.region id ops false,sG c,HA.next⟩))) _)=_;rw[hr,e1,uA,Xe (by omega) (e2.up k1),uA,k2];show(ob (hZ m r'.pending tm _) _)=_;rw[k3];show(ob (m' tm (endLoop HA2 (HA.next+1) r')) _)=_
    rw[f1,uA];have:bW HA4 HA.next=some (some []):=by
     unfold bW;rw[(f2.ext _ _ hd4).1,uA,Nat.ble_eq_true_of_le (by omega:256<=HA.next)];rfl
    simp only[this,uA];rfl
   ·intro b y hb;have hne:b≠HA.next:=fun e=>by simp_all
    show(if b=HA.next then _ else X4 b)=some y;rw[yaa hne];exact f3 _ _ (Lg hX0d _ _ hb)
  rcases e4 with⟨k1,k2⟩ | ⟨k1,k2⟩
  ·exact goal r κ.norm m.norm k1 (by rw[<- hr];rfl) (fun _ _=>by rw[<- hr];rfl) (fun X0=>(hκ X0).norm) k2
  ·exact goal _ κ.ret m.ret k1 (by rw[<- hr];rfl) (fun _ _=>by rw[<- hr];rfl) (fun X0=>(hκ X0).ret) k2
def oR (A:Tr dD)(f:Nat)(c:dD):Prop:=∀q∈mU c,∃c0,A.get f=some c0/\Le c0=some q
theorem oR.l{a b:List Fk}{P:Fk->Prop}(h:∀q∈tE a b,P q):(∀q∈a,P q)/\∀q∈b,P q:=by
 grind [fH]
def Jx(hW:eV C A W)(hY:Sw C A W)   : ∀(c:dD) (κ:KtT) (m:Kt),oR A f c->(∀X0,SKt C W J X0 kf Q κ m)->JOk C.base kf J (oN C (jD C A) f n c m)->∀X0,SK C W J X0 kf Q (nP C la f n c κ) (aD C (jD C A) f n c m):=by
 intro c;induction c with
 | skip=>intro κ m _ hκ _ X0;exact(hκ X0).norm
 | region id ops d=>intro κ m _ hκ _ X0;exact QO hW (hκ X0).norm
 | seq a b iha ihb=>
  intro κ m hR hκ hJ;exact iha ⟨nP C la f n b κ,κ.exit,κ.ret⟩ ⟨aD C (jD C A) f n b m,m.exit,m.ret⟩ (oR.l hR).1 (fun X0=>⟨ihb κ m (oR.l hR).2 hκ (fun d hd=>hJ d (ycf _ hd)) X0,(hκ X0).exit,(hκ X0).ret⟩) fun d hd=>hJ d (ydc _ hd)
 | cond x a b iha ihb=>
  intro κ m hR hκ hJ X0 st tm HA t X ν hst h;have ha:=iha κ m (oR.l hR).1 hκ (fun d hd=>hJ d (ydc _ hd)) X0;have hb:=ihb κ m (oR.l hR).2 hκ (fun d hd=>hJ d (ycf _ hd)) X0;have h:tA C.base W J (uC (ob (ev x (.now st.tm)) zA.asBool) fun b'=>bif Ap x st.lit then Bool.rec (motive:=fun _=>T) (nP C la f n b κ st) (nP C la f n a κ st) b' else .ite b' (nP C la f n a κ st) (nP C la f n b κ st)) t Q:=h
  rw[kE]at h;obtain⟨w,h1,h2⟩:=h;rw[lA]at h1;obtain⟨v,h3,h4⟩:=h1;show mC C.base X0 Q (ob (ob (ev x (.now tm)) zA.asBool) fun t=>Bool.rec (motive:=fun _=>dB) (aD C (jD C A) f n b m tm HA) (aD C (jD C A) f n a m tm HA) t);refine mC.ob (a:=w) (by rw[zF (Qh hst).1 h3];exact h4) ?_;have h2:if w=true then tA C.base W J (nP C la f n a κ st) t Q else tA C.base W J (nP C la f n b κ st) t Q:=by
   rw[nD]at h2;split at h2
   ·cases w<;>exact h2
   ·exact h2
  cases w with
  | true=>exact ha _ _ _ _ _ _ hst h2
  | false=>exact hb _ _ _ _ _ _ hst h2
 | block id c ih=>
  intro κ m hR hκ hJ;refine ih ⟨κ.norm,fun i st=>Bool.rec (motive:=fun _=>T) (κ.exit i st) (κ.norm st) (Nat.beq id i),κ.ret⟩ ⟨m.norm,fun i tm H=>Bool.rec (motive:=fun _=>dB) (m.exit i tm H) (m.norm tm H) (Nat.beq id i),m.ret⟩ hR (fun X0=>⟨(hκ X0).norm,fun i=>?_,(hκ X0).ret⟩) hJ;intro st tm HA t X ν hst h;have h:tA C.base W J (Bool.rec (motive:=fun _=>T) (κ.exit i st) (κ.norm st) (Nat.beq id i)) t Q:=h
  show mC C.base X0 Q (Bool.rec (motive:=fun _=>dB) (m.exit i tm HA) (m.norm tm HA) (Nat.beq id i))
  cases hb:Nat.beq id i with
  | true=>rw[hb]at h;exact(hκ X0).norm _ _ _ _ _ _ hst h
  | false=>rw[hb]at h;exact(hκ X0).exit i _ _ _ _ _ _ hst h
 | loop p c ih=>intro κ m _ hκ hJ X0;exact Hm hJ yby
 | exit id=>intro κ m _ hκ _ X0;exact(hκ X0).exit id
 | ret=>intro κ m _ hκ _ X0;exact(hκ X0).ret
 | cut p c ih=>intro κ m _ hκ hJ X0;exact Hm hJ yby
 | range i pl fo ps id ops c ih=>intro κ m hR hκ hJ X0;exact TF hW hY hκ (hR _ yby) fun vals t Q h=>hJ _ yby vals t Q h
def PtOk (C:fA)(W J:cI)(kf:Nat)(l:List PtT)(d:PtD):Prop:=∃q∈l,q.p=d.p/\∀vals t Q,tA C.base W J (q.tree vals) t Q->Sz C.base kf d vals t Q
def keptOk(kf:Nat):dD->Bool
 | .seq a b=>keptOk kf a&&keptOk kf b
 | .cond _ a b=>keptOk kf a&&keptOk kf b
 | .block _ c=>keptOk kf c
 | .loop p c=>p.kept.all (fun i=>Nat.blt i kf)&&keptOk kf c
 | .cut p c=>p.kept.all (fun i=>Nat.blt i kf)&&keptOk kf c
 | .range _ _ _ _ _ _ c=>keptOk kf c
 | _=>true
def UD(hW:eV C A W)(hY:Sw C A W)   : ∀(c:dD) (κ:KtT) (m:Kt),oR A f c->keptOk kf c=true->(∀X0 Q,SKt C W J X0 kf Q κ m)->JOk C.base kf J (oN C (jD C A) f n c m)->∀d∈oN C (jD C A) f n c m,PtOk C W J kf (Ak C la f n kf c κ) d:=by
 have up:∀ {l l':List PtT} {d:PtD},PtOk C W J kf l d->(∀q∈l,q∈l')->PtOk C W J kf l' d:=fun⟨q,h1,h2⟩ hl=>⟨q,hl q h1,h2⟩
 intro c;induction c with
 | skip=>intro κ m _ _ _ _ d hd;cases hd
 | region id ops dr=>intro κ m _ _ _ _ d hd;cases hd
 | seq a b iha ihb=>
  intro κ m hR hk hκ hJ d hd;unfold keptOk at hk;rw[ybb]at hk;have e:Ak C la f n kf (.seq a b) κ=Ak C la f n kf a ⟨nP C la f n b κ,κ.exit,κ.ret⟩++Ak C la f n kf b κ:=fH _ _;rw[e];have hJa:JOk C.base kf J (oN C (jD C A) f n a ⟨aD C (jD C A) f n b m,m.exit,m.ret⟩):=fun d hd=>hJ d (ydc _ hd);have hJb:JOk C.base kf J (oN C (jD C A) f n b m):=fun d hd=>hJ d (ycf _ hd)
  rcases yaf.1 hd with hd | hd
  ·exact up (iha ⟨nP C la f n b κ,κ.exit,κ.ret⟩ ⟨aD C (jD C A) f n b m,m.exit,m.ret⟩ (oR.l hR).1 hk.1 (fun X0 Q=>⟨Jx hW hY b κ m (oR.l hR).2 (fun X0=>hκ X0 Q) hJb X0,(hκ X0 Q).exit,(hκ X0 Q).ret⟩) hJa d hd) fun q hq=>ydc _ hq
  ·exact up (ihb _ _ (oR.l hR).2 hk.2 hκ hJb d hd) fun q hq=>ycf _ hq
 | cond x a b iha ihb=>
  intro κ m hR hk hκ hJ d hd;unfold keptOk at hk;rw[ybb]at hk;have e:Ak C la f n kf (.cond x a b) κ=Ak C la f n kf a κ++Ak C la f n kf b κ:=fH _ _;rw[e];rcases yaf.1 hd with hd | hd
  ·exact up (iha _ _ (oR.l hR).1 hk.1 hκ (fun d hd=>hJ d (ydc _ hd)) d hd) fun q hq=>ydc _ hq
  ·exact up (ihb _ _ (oR.l hR).2 hk.2 hκ (fun d hd=>hJ d (ycf _ hd)) d hd) fun q hq=>ycf _ hq
 | block id c ih=>
  intro κ m hR hk hκ hJ d hd;refine ih ⟨κ.norm,fun i st=>Bool.rec (motive:=fun _=>T) (κ.exit i st) (κ.norm st) (Nat.beq id i),κ.ret⟩ ⟨m.norm,fun i tm H=>Bool.rec (motive:=fun _=>dB) (m.exit i tm H) (m.norm tm H) (Nat.beq id i),m.ret⟩ hR hk (fun X0 Q=>⟨(hκ X0 Q).norm,fun i=>?_,(hκ X0 Q).ret⟩) hJ d hd;intro st tm HA t X ν hst h;have h:tA C.base W J (Bool.rec (motive:=fun _=>T) (κ.exit i st) (κ.norm st) (Nat.beq id i)) t Q:=h
  show mC C.base X0 Q (Bool.rec (motive:=fun _=>dB) (m.exit i tm HA) (m.norm tm HA) (Nat.beq id i))
  cases hb:Nat.beq id i with
  | true=>rw[hb]at h;exact(hκ X0 Q).norm _ _ _ _ _ _ hst h
  | false=>rw[hb]at h;exact(hκ X0 Q).exit i _ _ _ _ _ _ hst h
 | loop p c ih=>
  intro κ m hR hk hκ hJ d hd;unfold keptOk at hk;rw[ybb,ycb]at hk;have hJc:JOk C.base kf J (oN C (jD C A) f n c ⟨aD C (jD C A) f n (.loop p c) m,m.exit,m.ret⟩):=fun d hd=>hJ d (ybr _ hd);have hκ':∀X0 Q,SKt C W J X0 kf Q ⟨Ho p,κ.exit,κ.ret⟩ ⟨aD C (jD C A) f n (.loop p c) m,m.exit,m.ret⟩:=fun X0 Q=>⟨Hm hJ yby,(hκ X0 Q).exit,(hκ X0 Q).ret⟩;rcases ybs.1 hd with rfl | hd
  ·refine⟨_,yby,rfl,fun vals t Q hw X0 X HA tm ν hst=>?_⟩;show mC C.base X0 Q (aD C (jD C A) f n (.loop p c) m tm HA);rw[zd5];exact Jx hW hY c _ _ hR (fun X0=>hκ' X0 Q) hJc X0 _ _ _ _ _ _ (hst.keep fun i hi=>sC.1 (hk.1 i hi)) hw
  ·exact up (ih ⟨Ho p,κ.exit,κ.ret⟩ ⟨aD C (jD C A) f n (.loop p c) m,m.exit,m.ret⟩ hR hk.2 hκ' hJc d hd) fun q hq=>ybr _ hq
 | exit id=>intro κ m _ _ _ _ d hd;cases hd
 | ret=>intro κ m _ _ _ _ d hd;cases hd
 | cut p c ih=>
  intro κ m hR hk hκ hJ d hd;unfold keptOk at hk;rw[ybb,ycb]at hk;have hJc:JOk C.base kf J (oN C (jD C A) f n c m):=fun d hd=>hJ d (ybr _ hd);rcases ybs.1 hd with rfl | hd
  ·refine⟨_,yby,rfl,fun vals t Q hw X0 X HA tm ν hst=>?_⟩;exact Jx hW hY c _ _ hR (fun X0=>hκ X0 Q) hJc X0 _ _ _ _ _ _ (hst.keep fun i hi=>sC.1 (hk.1 i hi)) hw
  ·exact up (ih _ _ hR hk.2 hκ hJc d hd) fun q hq=>ybr _ hq
 | range i pl fo ps id ops c ih=>
  intro κ m hR hk hκ hJ d hd;have hR':oR A f c:=fun q hq=>hR q (ybr _ hq);have hJc:JOk C.base kf J (oN C (jD C A) f n c rdK):=fun d hd=>hJ d (ybr _ hd);rcases ybs.1 hd with rfl | hd
  ·refine⟨_,yby,rfl,fun vals t Q hw X0 X HA tm ν hst=>?_⟩;exact Jx hW hY (.seq (.region id ops false) c) rdT rdK (fun q hq=>hR' q hq) (fun _=>zfc) (fun d hd=>hJc d hd) X0 _ _ _ _ _ _ hst hw
  ·exact up (ih rdT rdK hR' hk (fun _ _=>zfc) hJc d hd) fun q hq=>ybr _ hq
end
end
section
variable {α:Type}{args vals:List zA}{Q':xC}{v:zA}{i:Nat}
def Tr.mapT{α β:Type}(f:α->β)(t:Tr α):Tr β:=Tr.rec (motive:=fun _=>Tr β) .leaf (fun _ v _ l r=>.node l (match v with | some a=>some (f a) | none=>none) r) t
theorem Tr.get_mapT{β:Type}(f:α->β):∀(t:Tr α) (n:Nat),(t.mapT f).get n=(t.get n).map f:=by
 intro t;induction t with
 | leaf=>intro n;rfl
 | node l v r ihl ihr=>
  intro n;show(Tr.node (l.mapT f) (match v with | some a=>some (f a) | none=>none) (r.mapT f)).get n=_
  grind [Tr.get_node]
def aP(F:Tr oG):Tr dD:=F.mapT oG.code
def fnB (f kf:Nat)(c:dD):Bool:=Nat.blt f yo&&(keptOk kf c&&(match mU c with | []=>true | [_]=>true | _=>false))
structure mR (C:fA) (F:Tr oG) (f:Nat) (fn:Func) (kf:Nat) (A:oG):Prop where
 isF:F.get f=some A
 isFn:C.fns.get f=some fn
 isK:C.ks.get f=some kf
 prim:aH (C.prims.get f)=true
 kept:fnB f kf A.code=true
 body:aH fn.body=false
theorem mR.lt{C:fA}{F:Tr oG}{f:Nat}{fn:Func}{kf:Nat}{A:oG}(h:mR C F f fn kf A):Nat.blt f yo=true:=by
 have:=h.kept;grind [fnB]
theorem mR.keptOk{C:fA}{F:Tr oG}{f:Nat}{fn:Func}{kf:Nat}{A:oG}(h:mR C F f fn kf A):keptOk kf A.code=true:=by
 have:=h.kept;grind [fnB]
def mR.code{C:fA}{F:Tr oG}{f:Nat}{fn:Func}{kf:Nat}{A:oG}(h:mR C F f fn kf A):(aP F).get f=some A.code:=by unfold aP;rw[Tr.get_mapT,h.isF];rfl
theorem mR.one{C:fA}{F:Tr oG}{f:Nat}{fn:Func}{kf:Nat}{A:oG}(h:mR C F f fn kf A):oR (aP F) f A.code:=by
 have:=h.kept;unfold fnB at this;simp only[ybb]at this;intro q hq;refine⟨_,h.code,?_⟩
 grind [Le]
def Wc (C:fA)(F:Tr oG):cI:=fun f args t Q=>∀X HA,Ov C.base t X HA->mC C.base X Q (Fc C (aP F) f args HA)
theorem Wc.mono{C:fA}{F:Tr oG}{f:Nat} {t:Tr qA}{Q:xC}(h:Wc C F f args t Q)(k:∀v t',Q v t'->Q' v t'):Wc C F f args t Q':=fun X HA ho=>(h X HA ho).mono k
theorem Tr.bound (t:Tr α):∃n,∀b y,t.get b=some y->b<n:=by
 induction t with
 | leaf=>simp_all [Tr.get_leaf]
 | node l v r ihl ihr=>
  obtain⟨n,hn⟩:=ihl;obtain⟨m,hm⟩:=ihr;refine⟨2*n+2*m+3,fun b y h=>?_⟩
  grind [Tr.get_node]
def PV (C:fA)(F:Tr oG)(f:Nat)(args:List zA)(t:Tr qA)(v:zA):Prop:=Wc C F f args t fun v' t'=>v'=v/\t'=t
def PV.unique{C:fA}{F:Tr oG}{f:Nat} {t:Tr qA}{v':zA}(h:PV C F f args t v)(h':PV C F f args t v'):v=v':=by
 obtain⟨n,hn⟩:=Tr.bound t;have ho:Ov C.base t (fun _=>none) ⟨C.base+n,t⟩:=⟨Nat.le_add_right _ _,fun _ _=>rfl,fun _ _ h=>(by cases h),fun b y hb=>Nat.lt_of_lt_of_le (hn b y hb) (Nat.le_add_left _ _)⟩;obtain⟨u,t',HA',X',h1,_,_,h2,_⟩:=h _ _ ho;obtain⟨u',t'',HA'',X'',h3,_,_,h4,_⟩:=h' _ _ ho;rw[h1]at h3;cases h3;rw[<- h2,<- h4]
def iB (C:fA)(F:Tr oG)(f:Nat)(args:List zA)(t:Tr qA):Option zA:=@dite _ (∃v,PV C F f args t v) (Classical.propDecidable _) (fun h=>some h.choose) (fun _=>none)
theorem pC{C:fA}{F:Tr oG}{f:Nat} {t:Tr qA}  : iB C F f args t=some v ↔ PV C F f args t v:=by
 unfold iB;constructor
 ·intro h;by_cases hx:∃v,PV C F f args t v
  all_goals grind
 ·intro h;have hx:∃v,PV C F f args t v:=⟨v,h⟩;rw[dif_pos hx,PV.unique hx.choose_spec h]
def Wq (C:fA)(F:Tr oG)(pure:Nat->Bool):cI:=fun f args t R=>if (pure f&&Nat.blt f yo)=true then nE (iB C F f args t) fun v=>R v t else Wc C F f args t R
theorem Wq_ok{C:fA}{F:Tr oG}{pure:Nat->Bool}:eV C (aP F) (Wq C F pure):=by
 intro f args t R h X HA ho;unfold Wq at h;split at h
 ·rw[rY]at h;obtain⟨v,h1,h2⟩:=h;exact((pC.1 h1) X HA ho).mono fun v' t' hh=>by simp_all
 ·exact h X HA ho
theorem zgl{C:fA}{F:Tr oG}{pure:Nat->Bool}:Sw C (aP F) (Wq C F pure):=by
 intro l args t Q h;unfold Wq;have:Nat.blt (yo+l) yo=false:=Bool.eq_false_iff.2 fun e=>by grind [sC]
 rw[this,yay,yaa (by simp)];exact h
def Jq (C:fA)(F:Tr oG)(f:Nat):cI:=fun i vals t Q=>∀fn kf A,mR C F f fn kf A->∀d∈oN C (jD C (aP F)) f fn.ntmps A.code (vW C fn),d.p.id=i->Sz C.base kf d vals t Q
def Jq_ok{C:fA}{F:Tr oG}{f:Nat}{fn:Func}{kf:Nat}{A:oG}(h:mR C F f fn kf A):JOk C.base kf (Jq C F f) (oN C (jD C (aP F)) f fn.ntmps A.code (vW C fn)):=
 fun d hd _ _ _ hJ=>hJ fn kf A h d hd rfl
section
variable {W J:cI}{t:Tr qA}{X X0:Xt}{HA:pA}{C:fA}{A:Tr dD}{ν:Nat->Nat}{Q:xC}{kf n:Nat}{st:rH}{tm:Tm}
theorem zho(hst:yG C.base X0 kf ν X st tm HA t):∀(l:List ResultVar) (K:List zA->T),tA C.base W J (Gv C st l K) t Q->∃vs,wY C HA tm l=some vs/\tA C.base W J (K vs) t Q:=by
 intro l;induction l with
 | nil=>intro K h;exact⟨[],rfl,h⟩
 | cons r l ih=>
  intro K h
  cases r with
  | tmp i=>
   have h:tA C.base W J (uC (st.tm.get i) fun v=>Gv C st l fun l=>K (v::l)) t Q:=h;rw[kE]at h;obtain⟨v,h1,h2⟩:=h;obtain⟨vs,h3,h4⟩:=ih _ h2;refine⟨v::vs,?_,h4⟩;show oH (Ag C HA tm) _=_;rw[dO];show ob (tm.get i) _=_;rw[hst.tms _ _ h1,uA];have h3:oH (Ag C HA tm) l=some vs:=h3;rw[h3];rfl
  | cell a ty=>
   have h:tA C.base W J (match rL a st.ad with
    | some p=>uC (st.lo.get p.1) fun m=>uC (C.tys.get ty) fun y=>vK (Nat.ble (p.2+y.size) (wB m)) (uC (jP C ty m p.2) fun v=>Gv C st l fun l=>K (v::l))
    | none=>uC (st.tm.get a) fun a=>.light (fun m=>mA C ty ⟨0,m⟩ a) fun v=>Gv C st l fun l=>K (v::l)) t Q:=h
   have bD:∀ {u v:zA},tm.get a=some u->mA C ty HA u=some v->tA C.base W J (Gv C st l fun l=>K (v::l)) t Q->∃vs,wY C HA tm (.cell a ty::l)=some vs/\tA C.base W J (K vs) t Q:=by
    intro u v h1 h2 h3;obtain⟨vs,h4,h5⟩:=ih _ h3;refine⟨v::vs,?_,h5⟩;show oH (Ag C HA tm) _=_;rw[dO];have e:Ag C HA tm (.cell a ty)=some v:=by
     show(ob (ob (tm.get a) zA.asPtr) fun p=>ob (C.tys.get ty) fun ty=>ob (rD HA p.1) fun c=>qS ty c.1 p.2)=some v
     grind [mA,uA]
    have h4:oH (Ag C HA tm) l=some vs:=h4
    simp_all
   split at h
   ·rename_i p hp;simp only[kE,fN]at h;obtain⟨m,h1,y,h2,h3,v,h4,h5⟩:=h;exact bD (hst.ads _ _ hp) (GZ hst.ov hst.lo h1 h2 h3 h4) h5
   ·simp only[kE,Fr]at h;obtain⟨u,h1,v,h2,h3⟩:=h;exact bD (hst.tms _ _ h1) (tQ hst.ov.le h2) h3
def LK{fn:Func}:SK C W J X0 kf Q (endT C fn) (endK C fn):=by
 intro st tm HA t X ν hst h;obtain⟨vs,h1,h2⟩:=zho hst _ _ h;unfold endK;exact mC.ob h1 ⟨_,t,HA,X,rfl,hst.ov,hst.le,h2⟩
def BK{fn:Func}:SKt C W J X0 kf Q (topT C fn) (vW C fn):=⟨LK,fun _ _ _ _ _ _ _ _ h=>h.elim,LK⟩
end
section
variable {C:fA}{F:Tr oG}{f:Nat}{fn:Func}{kf:Nat}{A:oG}{pure:Nat->Bool}{t:Tr qA}{Q:xC}
theorem Wc_of(h:mR C F f fn kf A) (hl:(Nat.ble (wB args) kf&&Nat.ble (wB args) fn.ntmps)=true)(hw:tA C.base (Wq C F pure) (Jq C F f) (entT C fn kf f A args) t Q):Wc C F f args t Q:=by
 intro X HA ho;have hA:=h.code;obtain⟨body,hb⟩:∃b,fn.body=some b:=by
  cases hx:fn.body with
  | none=>have:=h.body;rw[hx]at this;cases this
  | some b=>simp_all
 have he:bM C f args false=some ⟨[.code body],⟨kf,Tr.ofList args,[]⟩,⟨f,fn.ntmps,[],.run,false,none⟩⟩:=by
  unfold bM;rw[h.isFn,uA,hb,uA,h.isK,uA,hl];rfl
 have hp:C.prims.get f=none:=by
  cases hx:C.prims.get f with
  | none=>rfl
  | some g=>have:=h.prim;rw[hx]at this;cases this
 rw[Ii h.lt,hp];show mC C.base X Q (jD C (aP F) (.func f) args HA);rw[zgb];show mC C.base X Q (dT C (aP F) (jD C (aP F)) f args HA);unfold dT;refine mC.ob hA (mC.ob h.isFn (mC.ob he ?_));have hst:yG C.base X kf (fun i=>i) X ⟨⟨kf,Tr.ofList args,[]⟩,[],.leaf,[]⟩ ⟨kf,Tr.ofList args,[]⟩ HA t:=
  ⟨ho,bJ.refl _,rfl,rfl,fun _ _ h=>h,fun _ _ h=>(by cases h),fun d l h=>(by grind [Tr.get_leaf]),fun d _ l _ h=>(by omega)⟩
 exact Jx Wq_ok zgl A.code (topT C fn) (vW C fn) h.one (fun _=>BK) (Jq_ok h) _ _ _ _ _ _ _ hst hw
theorem Jq_of(h:mR C F f fn kf A)  {l:List T}(hp:Kz (ptsT C fn kf f A) i vals=l)(hw:∀T∈l,tA C.base (Wq C F pure) (Jq C F f) T t Q):Jq C F f i vals t Q:=by
 intro fn' kf' A' h' d hd hi;have e1:=h.isFn;rw[h'.isFn]at e1;cases e1;have e2:=h.isK;rw[h'.isK]at e2;cases e2;have e3:=h.isF;rw[h'.isF]at e3;cases e3;obtain⟨q,h1,h2,h3⟩:=UD (W:=Wq C F pure) Wq_ok zgl A.code (topT C fn) (vW C fn) h.one h.keptOk (fun _ _=>BK) (Jq_ok h) d hd;refine h3 vals t Q (hw _ ?_);subst hp;have key:∀(l:List PtT),q∈l->q.tree vals∈Kz l i vals:=by
  intro l;induction l with
  | nil=>simp_all
  | cons p l ih=>
   grind [Kz,gC]
 exact key _ h1
def Jq_of1(h:mR C F f fn kf A)  {T:T}(hp:Kz (ptsT C fn kf f A) i vals=[T])(hw:tA C.base (Wq C F pure) (Jq C F f) T t Q):Jq C F f i vals t Q:=
 Jq_of h hp fun T' hT=>by rw[ydd.1 hT];exact hw
theorem Jq.mono   (h:Jq C F f i vals t Q)(k:∀v t',Q v t'->Q' v t'):Jq C F f i vals t Q':=
 fun fn kf A hf d hd hi X0 X HA tm ν hst=>(h fn kf A hf d hd hi X0 X HA tm ν hst).mono k
theorem Wc_pv  (h:iB C F f args t=some v)(hq:Q v t):Wc C F f args t Q:=(pC.1 h).mono fun _ _ hh=>by simp_all
theorem Dj{g:List zA->pA->Option zA}(hg:C.prims.get f=some (hO g))  (h:∀H,g args H=some v)(hf:Nat.blt f yo=true:=by rfl):iB C F f args t=some v:=by
 refine pC.2 fun X HA ho=>?_;rw[Ii hf,hg];exact⟨v,t,HA,X,by grind [hO,uA],ho,bJ.refl _,rfl,rfl⟩
theorem jQ  (h:Wc C F f args t fun v' t'=>v'=v/\∀b y,t.get b=some y->t'.get b=some y):iB C F f args t=some v:=by
 refine pC.2 fun X HA ho=>?_;obtain⟨u,t',HA',X',h1,h2,h3,h4,h5⟩:=h X HA ho;refine⟨u,t,HA',fun b=>match t.get b with | some _=>none | none=>HA'.t.get b,h1,⟨h2.base,?_,?_,?_⟩,?_,h4,rfl⟩
 ·intro b hb
  cases hg:t.get b with
  | some y=>rw[h2.up (h5 b y hg)]
  | none=>simp_all
 ·intro b y hb
  cases hg:t.get b with
  | some y=>simp_all
  | none=>
   simp only[hg]at hb;refine⟨hb,rfl,?_⟩
   cases hx:X' b with
   | some z=>exact(h2.ext b z hx).2.2
   | none=>rw[h2.same b hx]at hb;exact h2.lt b y hb
 ·intro b y hb;exact h2.lt b y (h5 b y hb)
 ·intro b y hb;have hn:=(ho.ext b y hb).2.1;simp only[hn];exact(h2.ext b y (h3 b y hb)).1
end
theorem YQ{P:Program}{C:fA}{F:Tr oG}{B N:Nat}{I:World->Prop}{μ:Mu}{w:World}(hS:pK P C B N I)(hI:I w)(hA:Fl C (aP F)){f:Nat}(hp:C.prims.get f=none) {args':Array Value}{H:pA}{Q:xC}(hbase:C.base<=H.next)(hlt:∀b y,H.t.get b=some y->b<H.next)(hH:rB B N μ H w)(hl:pB μ args args'.toList)
  (h:Wc C F f args H.t Q) (hf:Nat.blt f yo=true:=by rfl):Calls P f args' w fun e w'=>∃v v' t' μ',e=.returned v'/\μ.lw μ'/\rA μ' v v'/\Q v t'/\Below N w w':=by
 obtain⟨v,t',HA',X',h1,h2,h3,h4⟩:=h (fun _=>none) H ⟨hbase,fun _ _=>rfl,fun _ _ h=>(by cases h),hlt⟩;rw[Ii hf,hp]at h1;intro base;obtain⟨e,w',b,⟨v',μ',g1,g2,g3,g4,g5⟩,g6⟩:=YO hS hI hA hH hl h1 base
 grind
end
section
variable {lt rt:List (Nat × PI)}{l:List (Nat × oG)}{f:Nat}{C:fA}
def piOf (i:Nat)(l:List (Nat × PI)):Option PI:=List.rec (motive:=fun _=>Option PI) none (fun a _ g=>bif Nat.beq i a.1 then some a.2 else g) l
def cutP (p:Option PI)(c:dD):dD:=
 match p with
 | some p=>.cut p c
 | none=>c
def zh6(p:Option PI)(c:dD):dD:=
 match p with
 | some p=>.loop p c
 | none=>.loop ⟨0,[],[]⟩ c
def rangeP(p:Option PI)(f:Operand)(ps:Array Nat)(a:Code)(c:dD):dD:=
 match a with
 | .region id ops _=>.range (match p with | some p=>p.id | none=>0) (match p with | some p=>p.pl | none=>[]) f ps id ops c
 | _=>.skip
def JI:Code->Bool
 | .region _ _ d => !d
 | _=>false
def jZ(rt lt:List (Nat × PI))(c:Code):Nat->dD:=
 Code.rec (motive:=fun _=>Nat->dD)
  (fun _=>.skip)
  (fun id ops d _=>cutP (piOf id rt) (.region id ops d))
  (fun _ _ ga gb k=>.seq (ga k) (gb k))
  (fun c _ _ gx gy k=>.cond c (gx k) (gy k))
  (fun id _ g _=>.block id (g id))
  (fun _ g k=>zh6 (piOf k lt) (g k))
  (fun f ps a _ _ gb k=>rangeP (piOf k lt) f ps a (gb k))
  (fun id _=>.exit id)
  (fun _ _ _=>.skip)
  (fun _ _=>.skip)
  (fun _ _=>.skip)
  (fun _=>.ret)
  (fun _ _=>.skip) c
def annot(rt lt:List (Nat × PI))(k:Nat)(c:Code):dD:=jZ rt lt c k
def vT(c:Code):Bool:=
 Code.rec (motive:=fun _=>Bool) true (fun _ _ _=>true) (fun _ _ a b=>bif a then b else false) (fun _ _ _ a b=>bif a then b else false) (fun _ _ a=>a) (fun _ a=>a)
  (fun _ _ a _ _ b=>bif JI a then b else false) (fun _=>true) (fun _ _=>false) (fun _=>false) (fun _=>false) true (fun _=>false) c
def XH(p:Option PI)(c:dD):sG (cutP p c)=sG c:=by cases p<;>rfl
def XG(p:Option PI)(c:dD):sG (zh6 p c)=.loop (sG c):=by cases p<;>rfl
def XI  : ∀(c:Code) (k:Nat),vT c=true->sG (jZ rt lt c k)=c:=by
 intro c;induction c with
 | skip=>intro k _;rfl
 | region id ops d=>intro k _;show sG (cutP _ _)=_;rw[XH];rfl
 | seq a b iha ihb=>
  intro k h;have h:(bif vT a then vT b else false)=true:=h;have ha:vT a=true:=by simp_all
  have hb:vT b=true:=by simp_all
  show Code.seq (sG (jZ rt lt a k)) (sG (jZ rt lt b k))=_;rw[iha k ha,ihb k hb]
 | cond c x y ihx ihy=>
  intro k h;have h:(bif vT x then vT y else false)=true:=h;have ha:vT x=true:=by simp_all
  have hb:vT y=true:=by simp_all
  show Code.cond c (sG (jZ rt lt x k)) (sG (jZ rt lt y k))=_;rw[ihx k ha,ihy k hb]
 | block id c ih=>intro k h;show Code.block id (sG (jZ rt lt c id))=_;rw[ih id h]
 | loop c ih=>intro k h;show sG (zh6 _ (jZ rt lt c k))=_;rw[XG,ih k h]
 | exit id=>intro k _;rfl
 | ret=>intro k _;rfl
 | rangeFunc f ps a b _ ihb=>
  intro k h;have h:(bif JI a then vT b else false)=true:=h
  cases a with
  | region id ops d=>
   cases d with
   | true=>cases h
   | false=>show Code.rangeFunc f ps (.region id ops false) (sG (jZ rt lt b k))=_;rw[ihb k h]
  | _=>cases h
 | scope c _=>intro k h;cases h
 | label l=>intro k h;cases h
 | goto l=>intro k h;cases h
 | refuse s=>intro k h;cases h
def Ge (l:List (Nat × oG)):Tr oG:=List.rec (motive:=fun _=>Tr oG) .leaf (fun p _ g=>g.set p.1 p.2) l
def zbx  {A:oG}(h:(Ge l).get f=some A):(f,A)∈l:=by
 induction l with
 | nil=>grind [Ge,Tr.get_leaf]
 | cons p l ih=>
  grind [Ge,Tr.get_set]
def zgm(C:fA)(p:Nat × oG):Prop:=∃fn c,C.fns.get p.1=some fn/\fn.body=some c/\sG p.2.code=c
def bodyOk  {fn:Func}{c:Code} {la:List Nat}(h1:C.fns.get f=some fn)(h2:fn.body=some c)(h3:vT c=true):zgm C (f,⟨annot rt lt 0 c,la⟩):=⟨fn,c,h1,h2,XI c 0 h3⟩
def YG  (h:∀p∈l,zgm C p):Fl C (aP (Ge l)):=by
 intro f c hc;unfold aP at hc;rw[Tr.get_mapT]at hc
 cases hq:(Ge l).get f with
 | none=>simp_all
 | some A=>
  rw[hq]at hc;cases hc;obtain⟨fn,b,h1,h2,h3⟩:=h _ (zbx hq)
  simp_all
end
end Go.Am
namespace Go.Am
class tC where
 n:Nat
def Pv(a:List zA)(_:pA):Option zA:=match a with | []=>some (.bool true) | _=>none
def Hq:List Nat->List Nat->Bool
 | [],_=>true
 | _::_,[]=>false
 | a::x,b::y=>bif Nat.beq a b then Hq x y else false
def oZ (sub:List Nat):List Nat->Option (List Nat × List Nat)
 | []=>bif sub.isEmpty then some ([],[])else none
 | b::l=>bif Hq sub (b::l)then some ([],cQ (b::l) (wB sub))else ob (oZ sub l) fun p=>some (b::p.1,p.2)
def Hc (a:List zA)(_:pA):Option zA:=match a with
 | [.str s,.str c]=>vB (Nat.blt (wB s) 4294967281) (match oZ c s with
  | some p=>some (.tup [.str p.1,.str p.2,.bool true])
  | none=>some (.tup [.str s,.str [],.bool false]))
 | _=>none
def aG(n:Int):List Nat:=(Lib.itoa n).map UInt8.toNat
def Dn(a:List zA)(_:pA):Option zA:=match a with
 | [.int .i64 n]=>vB (eC (-9223372036854775808) n&&jB n 9223372036854775808) (some (.str (aG n)))
 | _=>none
def Pu(a:List zA)(_:pA):Option zA:=match a with
 | [.int .u64 n,.int .i64 b]=>vB (eC 0 n&&jB n 18446744073709551616&&cA b 10) (some (.str (aG n)))
 | _=>none
end Go.Am
namespace Go.Am
open Go Go.Shelf Go.RowKit Go.Proofs
variable {P:Program}{ρ:Ren}
set_option maxHeartbeats 2000000 in
set_option maxRecDepth 100000 in
theorem XN(L:Lays.n169 P ρ)(X:Builder.Extra P ρ)(b g cap cells:Nat)(l:List UInt8)(w:World)(c1:w.cell? ⟨b,1,none⟩=some (.slice (some ⟨g,0,none⟩) l.length cap))(h0:l≠[])(hcap:l.length<=cap)
  (hsh:w.shape? g=some (ρ.t 5,cells)) (hc:l.length<=cells) (h63:l.length<=9223372036854775807) (hcell:∀j x,l[j]?=some x->w.cell? ((⟨g,0,none⟩:Addr).add j)=some (.int .u8 x.toNat)) :
  Calls P (ρ.f 169) #[.pointer (some ⟨b,0,none⟩)] w fun e w'=>e=.returned (.string ⟨l.toArray⟩)/\w'=w.drew.freeze ⟨g,0,none⟩ l.length:=by
 have hl0:l.length≠0:=by simp_all
 have c1:w.drew.cell? ⟨b,1,none⟩=some (.slice (some ⟨g,0,none⟩) l.length cap):=c1;have hSD:(Builtin.unsafeSliceData_ #[(ρ.t 37)] (ρ.t 127) #[.slice (some ⟨g,0,none⟩) l.length cap]).run P w.drew=.ok (.pointer (some ⟨g,0,none⟩)) w.drew:=
  Lib.run_unsafeSliceData_row _ _ _ _ _ _ (by omega)
 have hUS:(Builtin.unsafeString_ #[(ρ.t 127),(ρ.t 3)] (ρ.t 9) #[.pointer (some ⟨g,0,none⟩),.int .i64 l.length]).run P w.drew=.ok (.string ⟨l.toArray⟩) (w.drew.freeze ⟨g,0,none⟩ l.length):=
  Lib.run_unsafeString_row w.drew (ρ.t 127) (ρ.t 3) (ρ.t 9) (ρ.t 5) L.t127 X.cellsByte g cells hsh l h0 hc h63 hcell
 have mixed:=L.mixed;have t72:=L.t72;have a72:=L.a72;have z72:=L.z72;have v72:=L.v72;have u72:=run_underlying L.t72;have t70:=L.t70;have a70:=L.a70;have z70:=L.z70;have v70:=L.v70;have u70:=run_underlying L.t70;have t37:=L.t37;have a37:=L.a37;have z37:=L.z37;have v37:=L.v37;have u37:=run_underlying L.t37;have t127:=L.t127;have a127:=L.a127;have z127:=L.z127;have v127:=L.v127;have u127:=run_underlying L.t127
 have t3:=L.t3;have a3:=L.a3;have z3:=L.z3;have v3:=L.v3;have u3:=run_underlying L.t3;have t9:=L.t9;have a9:=L.a9;have z9:=L.z9;have v9:=L.v9;have u9:=run_underlying L.t9;have t5:=X.t5;have a5:=X.a5;have z5:=X.z5;have v5:=X.v5;have u5:=run_underlying X.t5
 go_enter L.f169,Body.n169_ntmps ρ
 go_wp2
 go_region_o
 all_goals (go_wp2;go_ret;simp_all)
end Go.Am
namespace Go.Am
open Go Go.Shelf Go.RowKit Go.Proofs
variable {base f k:Nat}{args:List zA}{args':Array Value}{v:zA}{H':pA}
section
variable {P:Program}{ρ:Ren}{B N:Nat}{μ:Mu}{H:pA}{w:World}
theorem rB.scratch(hH:rB B N μ H w){g:Nat}(hg:N<=g)(hfree:∀a x j,H.t.get a=some x->μ a=some j->j.b≠g)(o':Obj):rB B N μ H (World.setBlk w g o'):=by
 have hsz:(World.setBlk w g o').heap.size=w.heap.size:=by simp[World.setBlk]
 refine⟨hH.base,hH.glob,hH.low,hH.next,by rw[hsz];exact hH.size,hH.fresh,fun a x i hx hi=>?_,fun a i ha hi=>by rw[hsz];exact hH.own a i ha hi,hH.inj,hH.pnd⟩;obtain⟨o,h1,h2⟩:=hH.blk a x i hx hi
 grind [Cy]
def Lp:List (Nat × Nat)->Nat->Nat->Bool
 | [],_,_=>false
 | p::r,t,n=>bif Nat.beq p.1 t&&Nat.ble p.2 n then true else Lp r t n
theorem GL:∀ {Ts:List (Nat × Nat)} {t n:Nat},Lp Ts t n=true->∃p∈Ts,p.1=t/\p.2<=n
 | [],_,_,h=>by cases h
 | p::r,t,n,h=>by
  unfold Lp at h;rw[nD]at h;split at h
  ·simp_all
  ·obtain⟨q,h1,h2⟩:=GL h
   grind
def He(base:Nat)(Ts:List (Nat × Nat))(args:List zA)(H:pA):Option (zA × pA):=
 match args with
 | [.ptr b 0]=>ob (rD H b) fun c=>ob (c.1.get 0) fun v=>match v with
  | .nilptr=>vB (!Nat.blt b base&&(match c.2.2 with | some (.ty t)=>Lp Ts t c.2.1 | _=>false)) (some (.tup [],setBlk H b (.cells (c.1.set 0 (.ptr b 0)) c.2.1 c.2.2)))
  | .ptr d o=>vB (Nat.beq d b&&Nat.beq o 0) (some (.tup [],H))
  | _=>none
 | _=>none
theorem UI {Ts:List (Nat × Nat)} (hbase:B<=base)
  (hfresh:∀p∈Ts,∀(b n:Nat) (w:World),w.cell? ⟨b,0,none⟩=some (.pointer none)->w.shape? b=some (p.1,n)->p.2<=n->w.frozen? ⟨b,0,none⟩=false->Calls P f #[.pointer (some ⟨b,0,none⟩)] w fun e w'=>e=.returned (.tuple #[])/\w'=w.setCell ⟨b,0,none⟩ (.pointer (some ⟨b,0,none⟩)))
  (hused:∀(b:Nat) (w:World),w.cell? ⟨b,0,none⟩=some (.pointer (some ⟨b,0,none⟩))->Calls P f #[.pointer (some ⟨b,0,none⟩)] w fun e w'=>e=.returned (.tuple #[])/\w'=w)
  (henter:∀(w:World) (a:Array Value),(callFunc f a).run P w=.ok (.enter f a) w)     (hH:rB B N μ H w) (hv:He base Ts args H=some (v,H')) (hl:pB μ args args'.toList) :
  (callFunc f args').run P w=.ok (.enter f args') w/\Calls P f args' w fun e w'=>∃v' μ',e=.returned v'/\μ.le μ'/\rB B N μ' H' w'/\Below N w w'/\rA μ' v v':=by
 refine⟨henter w args',?_⟩;unfold He at hv;split at hv
 case h_2=>cases hv
 rename_i b;rw[pB]at hl;obtain⟨u,r,h1,h2,h3⟩:=hl;rw[pB]at h3;subst h3;rw[rA]at h2;obtain⟨i,hi,rfl⟩:=h2;have ha:args' = #[.pointer (some ⟨i.b,0,none⟩)]:=by apply yax.1;rw[h1]
 subst ha;rw[lA]at hv;obtain⟨⟨c,n,lo⟩,hc,hv⟩:=hv;rw[lA]at hv;obtain⟨v0,h0,hv⟩:=hv;have hx:=Bg hc;obtain⟨o,g1,g2⟩:=hH.blk _ _ _ hx hi;have g2':=g2;obtain⟨cs,E,fr,rfl,g3,g4,g5,g6⟩:=g2;obtain⟨hn,u,hu,hr⟩:=g5 0 v0 h0;have g3:n<=cs.size:=g3;have hn:0<n:=hn;have hcell0:w.cell? ⟨i.b,0,none⟩=some u:=by grind [World.cell?]
 have hundef:rA μ (.tup []) (.tuple #[]):=by rw[rA];exact⟨#[],rfl,.nil⟩
 split at hv
 ·rw[rA]at hr;subst hr;simp only[oB,ybb,ycp]at hv;obtain⟨⟨hb,ht⟩,hv⟩:=hv;cases hv;have hown:B<=b:=by
   grind [sC]
  have hNb:=hH.own b i hown hi;have hfr:=g4.resolve_left (by simp_all);have hE:∃p∈Ts,p.1=E/\p.2<=n:=by
   grind [GL]
  obtain⟨p,hpT,hpE,hpn⟩:=hE;subst hpE;refine(hfresh p hpT i.b cs.size w hcell0 (by unfold World.shape?;rw[g1]) (Nat.le_trans hpn g3) ?_).mono ?_
  ·grind [World.frozen?]
  ·rintro e w' ⟨rfl,rfl⟩;rw[DT g1];refine⟨_,μ,rfl,μ.le_refl,hH.upd hx hi hown ?_,tX hNb.1,hundef⟩;refine⟨_,_,fr,rfl,by simp_all,by simp_all,fun j x hj=>?_,by simp_all⟩
   grind [Tr.get_set,rA]
 ·rename_i d o;simp only[oB,ybb,gC]at hv;obtain⟨⟨rfl,rfl⟩,hv⟩:=hv;cases hv;rw[rA]at hr;obtain⟨i',hi',rfl⟩:=hr;rw[hi]at hi';cases hi';refine(hused i.b w hcell0).mono ?_;rintro e w' ⟨rfl,rfl⟩;exact⟨_,μ,rfl,μ.le_refl,hH,Below.refl _ _,hundef⟩
 grind
theorem zc2{α β:Type}{f:α->Option β}:∀ {l:List α} {r:List β},oH f l=some r->r.length=l.length/\∀(t:Nat) k,r[t]?=some k->∃y,l[t]?=some y/\f y=some k:=by
 intro l;induction l with
 | nil=>grind [Dy]
 | cons a l ih=>
  grind [dO,lA]
theorem zep (h:k<256):(UInt8.ofNat k).toNat=k:=by
 simp_all
def byteOf:zA->Option Nat
 | .int .u8 (.ofNat k)=>vB (Nat.blt k 256) (some k)
 | _=>none
theorem YX  (h:byteOf v=some k):v=.int .u8 (k:Int)/\k<256:=by
 unfold byteOf at h;split at h
 all_goals grind [oB,sC]
def Lb(base U:Nat)(args:List zA)(H:pA):Option (zA × pA):=
 match args with
 | [.ptr b 0]=>ob (rD H b) fun c=>ob (c.1.get 1) fun v=>ob v.asSlice fun s=>ob (rD H s.1) fun d=>ob (d.1.many s.2.2.1 0) fun m=>ob (oH byteOf m) fun l=>
  vB (!Nat.blt s.1 base&&Nat.beq s.2.1 0&&Nat.blt 0 s.2.2.1&&Nat.ble s.2.2.1 s.2.2.2&&Nat.ble s.2.2.1 d.2.1&&Nat.blt s.2.2.1 1000000000&&(match d.2.2 with | some (.ty t)=>Nat.beq t U | _=>false)) (some (.str l,⟨H.next,H.t.del s.1⟩))
 | _=>none
theorem UH (L:Lays.n169 P ρ)(X:Builder.Extra P ρ)(hf:ρ.f 169=f) (hbase:B<=base)
  (henter:∀(w:World) (a:Array Value),(callFunc f a).run P w=.ok (.enter f a) w)     (hH:rB B N μ H w) (hv:Lb base (ρ.t 5) args H=some (v,H')) (hl:pB μ args args'.toList) :
  (callFunc f args').run P w=.ok (.enter f args') w/\Calls P f args' w fun e w'=>∃v' μ',e=.returned v'/\μ.le μ'/\rB B N μ' H' w'/\Below N w w'/\rA μ' v v':=by
 refine⟨henter w args',?_⟩;subst hf;unfold Lb at hv;split at hv
 case h_2=>cases hv
 rename_i b;rw[pB]at hl;obtain⟨u,r,h1,h2,h3⟩:=hl;rw[pB]at h3;subst h3;rw[rA]at h2;obtain⟨i,hi,rfl⟩:=h2;have ha:args' = #[.pointer (some ⟨i.b,0,none⟩)]:=by apply yax.1;rw[h1]
 subst ha;simp only[lA,oB,ybb,ycp,Bh]at hv;obtain⟨⟨c,n,lo⟩,hc,v0,h0,⟨g,off,len,cap⟩,rfl,⟨d,m,lo2⟩,hd,ml,hm,l,hlm,⟨⟨⟨⟨⟨⟨q1,q2⟩,q3⟩,q4⟩,q5⟩,q6⟩,q7⟩,hv⟩:=hv;cases hv;have q2:off=0:=gC.1 q2;have q3:0<len:=sC.1 q3;have q4:len<=cap:=pE.1 q4;have q5:len<=m:=pE.1 q5;have q6:len<1000000000:=sC.1 q6;subst q2;have hx:=Bg hc;obtain⟨o,g1,cs,E,fr,rfl,g3,g4,g5,g6⟩:=hH.blk _ _ _ hx hi
 obtain⟨hn,u,hu,hr⟩:=g5 1 _ h0;rw[rA]at hr;rcases hr with⟨j,cap',hj,rfl,hcap,_,_⟩ | ⟨_,hz,_⟩
 case inr=>simp_all
 have hcap:cap<=cap':=hcap;have hx2:=Bg hd;obtain⟨o2,k1,cs2,E2,fr2,rfl,k3,k4,k5,k6⟩:=hH.blk _ _ _ hx2 hj;have k3:m<=cs2.size:=k3;have hE:E2=ρ.t 5:=by
  grind [gC]
 subst hE;have hown:B<=g:=by
  grind [sC]
 have hNb:=hH.own g j hown hj;obtain⟨m1,m2⟩:=Tr.many_some _ _ _ _ hm;obtain⟨hll,hla⟩:=zc2 hlm
 let bs:List UInt8:=l.map UInt8.ofNat
 have hbl:bs.length=len:=by grind
 have hby:∀(t:Nat) k,l[t]?=some k->ml[t]?=some (.int .u8 (k:Int))/\k<256:=by
  grind [YX]
 have hcell:∀t x,bs[t]?=some x->w.cell? ((⟨j.b,0,none⟩:Addr).add t)=some (.int .u8 x.toNat):=by
  intro t x ht;simp only[bs,ybu,yar]at ht;obtain⟨k,e1,rfl⟩:=ht;obtain⟨e2,e3⟩:=hby t k e1;have hg:=m2 t (by grind);rw[ybw,e2]at hg;obtain⟨_,y,e4,e5⟩:=k5 t _ hg;rw[rA]at e5;subst e5;rw[rX];unfold World.cell?;simp only[k1];simp only[ybw];show cs2[t]?=_;rw[e4,zep e3]
 have c1:w.cell? ⟨i.b,1,none⟩=some (.slice (some ⟨j.b,0,none⟩) bs.length cap'):=by
  grind [World.cell?]
 have hne:bs≠[]:=by grind
 refine(XN L X i.b j.b cap' cs2.size bs w c1 hne (by omega) (by unfold World.shape?;rw[k1]) (by omega) (by omega) hcell).mono ?_;rintro e w' ⟨rfl,rfl⟩;have hfz:∃o',w.drew.freeze ⟨j.b,0,none⟩ bs.length=World.setBlk w.drew j.b o':=by
  unfold World.freeze;rw[yaa (by omega)];refine⟨.cells cs2 (ρ.t 5) (if fr2.1 == fr2.2 then(0,0+bs.length)else(min fr2.1 0,max fr2.2 (0+bs.length))),?_⟩;unfold World.setBlk;congr 1;apply Array.ext_getElem?;intro k;rw[Array.getElem?_modify,ycs];have hk1:w.drew.heap[j.b]?=some (.cells cs2 (ρ.t 5) fr2):=k1
  grind
 obtain⟨o',ho'⟩:=hfz;rw[ho'];have hdrop:=hH.drew.drop g (fun x t e=>by have:=(hH.pnd _ _ _ e).1;simp_all);refine⟨_,μ,rfl,μ.le_refl,hdrop.scratch hNb.1 (fun a x k hax hak e=>?_) o',(Io).trans (tX hNb.1),?_⟩
 ·have hax':(if a=g then none else H.t.get a)=some x:=by grind [Tr.get_del]
  split at hax'
  ·cases hax'
  ·rename_i hne;by_cases hab:B<=a
   ·exact hne (hH.inj a g x _ k j hax' hx2 hak hj hab hown e)
   ·have:=(hH.low a x k (by omega) hax' hak).1;omega
 ·rw[rA];refine⟨_,rfl,?_⟩;unfold qF;show bs.map UInt8.toNat=l;simp only[bs,List.map_map];have:∀k∈l,(UInt8.toNat ∘ UInt8.ofNat) k=k:=by
   grind [List.mem_iff_getElem?,zep]
  rw[List.map_congr_left this,List.map_id']
end
end Go.Am
set_option maxRecDepth 100000
namespace Go.Am
open Go Go.RowKit
def Me(c:Nat):List Nat->Option Nat
 | []=>none
 | x::r=>bif Nat.beq x c then some 0 else ob (Me c r) fun n=>some (n+1)
def Ez(sub:List Nat):List Nat->Bool
 | []=>sub.isEmpty
 | b::l=>bif Hq sub (b::l)then true else Ez sub l
def Wp(a:List zA)(_:pA):Option zA:=match a with | [.str s,.int .u8 (.ofNat c)]=>vB (Nat.blt c 256) (some (.int .i64 (match Me c s with | some n=>.ofNat n | none=>.negSucc 0))) | _=>none
def Hd(a:List zA)(_:pA):Option zA:=match a with | [.str s,.str c]=>vB (Nat.blt (wB s) 4294967281) (some (.bool (Ez c s))) | _=>none
def glob (g:Nat)(l:List zA)(t:Tr qA):Tr qA:=t.set g (.cells (Tr.ofList l) (wB l) none)
def bD:bF->Nat
 | .next _=>0
 | .done v _=>match v.asBool with
  | some true=>1
  | _=>2
 | .fail n=>100+n
def Vg(C:fA)(f:Nat)(args:List zA)(H:pA):bF:=match bM C f args false with
 | some fr=>.next ⟨fr,[],H⟩
 | none=>.fail 0
theorem Yc:∀(c s:List UInt8),Hq (c.map UInt8.toNat) (s.map UInt8.toNat)=c.isPrefixOf s
 | [],_=>by simp[Hq]
 | _::_,[]=>rfl
 | a::x,b::y=>by
  simp only[ycm,Hq,nD,Yc x y,List.isPrefixOf];grind [UInt8.toNat_inj,gC]
def MC(c:List UInt8):∀s:List UInt8,Ez (c.map UInt8.toNat) (s.map UInt8.toNat)=Lib.contains s c
 | []=>by cases c<;>simp[Ez,Lib.contains,Lib.index]
 | b::l=>by
  have ih:=MC c l
  grind [Yc,Ez,Lib.contains,Lib.index]
def JM(c:UInt8):∀s:List UInt8,(match Me c.toNat (s.map UInt8.toNat)with | some n=>Int.ofNat n | none=>.negSucc 0)=Lib.indexByte s c
 | []=>rfl
 | b::l=>by
  have ih:=JM c l;simp only[ycm,Me,nD];rw[Lib.indexByte];by_cases h:b=c
  ·subst h;simp
  ·have:¬ Nat.beq b.toNat c.toNat=true:=fun e=>h (UInt8.toNat_inj.1 (gC.1 e));rw[yaa this];simp only[beq_iff_eq,h,if_false]
   cases hx:Me c.toNat (l.map UInt8.toNat)with
   | none=>simp_all
   | some n=>
    grind [uA]
def zge(c:List UInt8):∀s:List UInt8,match oZ (c.map UInt8.toNat) (s.map UInt8.toNat)with
  | some p=>∃x y,p=(x.map UInt8.toNat,y.map UInt8.toNat)/\0<=Lib.index s c/\x=s.take (Lib.index s c).toNat/\y=s.drop ((Lib.index s c).toNat+c.length)
  | none=>Lib.index s c = -1
 | []=>by
  cases c with
  | nil=>exact⟨[],[],by simp,by simp[Lib.index],by simp,by simp⟩
  | cons a c=>simp[oZ,Lib.index]
 | b::l=>by
  have ih:=zge c l;have hp:=Yc c (b::l);have ge:=Lib.index_ge l c;simp only[ycm]at hp ⊢;simp only[oZ,nD,hp];rw[Lib.index];by_cases h:c.isPrefixOf (b::l)=true
  ·rw[yab h,yab h]
   grind [fU,oD,List.map_drop]
  ·rw[yaa h,yaa h]
   cases hx:oZ (c.map UInt8.toNat) (l.map UInt8.toNat)with
   | none=>simp_all
   | some p=>
    rw[hx]at ih;obtain⟨x,y,rfl,h1,h2,h3⟩:=ih;have e:¬ ((Lib.index l c == -1)=true):=by grind
    rw[yaa e];obtain⟨n,hn⟩:∃n:Nat,Lib.index l c=n:=⟨_,(Int.toNat_of_nonneg h1).symm⟩;rw[hn]at h2 h3 ⊢;have e2:((n:Int)+1).toNat=n+1:=by omega
    have e3:((n:Int)).toNat=n:=by omega
    rw[e2];rw[e3]at h2 h3;refine⟨b::x,y,by simp,by omega,by simp[h2],?_⟩
    grind
def Za:fD->fD->Bool
 | .bool,.bool=>true
 | .int k,.int j=>bO k j
 | .string,.string=>true
 | .ptr a,.ptr b=>Nat.beq a b
 | .slice a,.slice b=>Nat.beq a b
 | .arr a c,.arr b d=>Nat.beq a b&&Nat.beq c d
 | .map a c,.map b d=>Nat.beq a b&&Nat.beq c d
 | .struct f,.struct g=>decide (f=g)
 | .func,.func=>true
 | .iface,.iface=>true
 | .other,.other=>true
 | _,_=>false
def zas{a b:fD}(h:Za a b=true):a=b:=by
 cases a<;>cases b<;>simp[Za,eL]at h ⊢<;>first | exact h | exact⟨h.1,h.2⟩
def eqTy (a b:lD):Bool:=Za a.desc b.desc&&Nat.beq a.size b.size&&Nat.beq a.bytes b.bytes&&same.sames 10 a.zero b.zero&&bEq a.eqOk b.eqOk
def zi3{a b:lD}(h:eqTy a b=true):a=b:=by
 obtain⟨d,s,y,z,e⟩:=a;obtain⟨d',s',y',z',e'⟩:=b;simp only[eqTy,ybb,gC,wU,beq_iff_eq]at h;obtain⟨⟨⟨⟨h1,h2⟩,h3⟩,h4⟩,h5⟩:=h;rw[zas h1,h2,h3,Vs _ _ _ h4,h5]
def allT {α:Type}(p:Nat->α->Bool):Tr α->(Nat->Nat)->Bool
 | .leaf,_=>true
 | .node l v r,f=>(match v with | some v=>p (f 0) v | none=>true)&&allT p l (fun m=>f (2*m+1))&&allT p r (fun m=>f (2*m+2))
def zjv{α:Type}{p:Nat->α->Bool}:∀(t:Tr α) (f:Nat->Nat),allT p t f=true->∀(n:Nat) v,t.get n=some v->p (f n) v=true:=by
 intro t;induction t with
 | leaf=>grind [Tr.get_leaf]
 | node l x r ihl ihr=>
  intro f h n v hv;simp only[allT,ybb]at h;grind [Tr.get_node]
def xM (l:List (List UInt8)):List Value:=l.map fun b=>.string ⟨b.toArray⟩
def Av (l:List Int):List Value:=l.map fun n=>.int .i64 n
def mu0:Mu:=⟨fun g=>if g<256 then some ⟨g,true,0,0,true⟩else none,fun _=>none⟩
def Uy{μ:Mu}:∀l:List (List UInt8),pB μ (l.map fun b=>zA.str (b.map UInt8.toNat)) (xM l)
 | []=>.nil
 | b::l=>.cons (by grind [rA,qF]) (Uy l)
def JJ{μ:Mu}:∀l:List Int,pB μ (l.map fun n=>zA.int .i64 n) (Av l)
 | []=>.nil
 | b::l=>.cons (by rw[rA]) (JJ l)
def Si{μ:Mu}{g:Nat}{l:List zA}{vs:List Value}(h:pB μ l vs)(t:TypeId):vJ μ ⟨g,true,0,0,true⟩ (.cells (Tr.ofList l) (wB l) none) (.cells vs.toArray t (0,0)):=h.rel_one rfl
def ziv{o:bF}(h:bD o=1):∃H,o=.done (.bool true) H:=by
 cases o with
 | next s=>cases h
 | fail n=>grind [bD]
 | done v H=>
  grind [bD,Bi]
end Go.Am
