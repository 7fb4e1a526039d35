/- Trees: regions that draw, code, points; what a function's tree is worth. -/
import Derived.Lib.Bytealg
import Derived.Lib.Index
import Derived.Lib.IndexMore
import Derived.Lib.ItoaNum
import Derived.Shelf.Strings.Builder1
import Derived.Test.YtmmedgeabnpnhaaGreatDoorB05
set_option linter.all false
noncomputable section
namespace Go.Am
open Go Go.RowKit
section
structure Hw (ν:Nat->Nat) (old:lG) (oldA:Tm):Prop where
 tms:∀i v,old.tm.get i=some v->oldA.get i=some v
 ads:∀i p,qK i old.ad=some p->oldA.get i=some (.ptr (ν p.1) p.2)
def gF.old{base:Nat}{X0 X:Xt}{kf:Nat}{ν:Nat->Nat}{st:lG}{tm:Tm}{HA:wA}{t:Tr sA}(h:gF base X0 kf ν X st tm HA t):Hw ν st tm:=⟨h.tms,h.ads⟩
def Tm.get_cut{tm:Tm}{i:Nat}:tm.cut.get i=if i<tm.k then tm.get i else none:=by
 unfold Tm.cut Tm.get;simp only[kJ];by_cases h:Nat.blt i tm.k=true
 ·rw[yab h,yab h,yab (lC.1 h)]
 ·rw[yaa h,yaa (fun e=>h (lC.2 e))];rfl
theorem zba{k i:Nat}:∀ {l:List (Nat × Nat × Nat)},qK i (xD.adCut k l)=if i<k then qK i l else none:=by
 intro l;induction l with
 | nil=>show none=_;split<;>rfl
 | cons a l ih=>
  grind [xD.adCut,lC,Hu]
section
variable {W J:pI}{t:Tr sA}{X X0:Xt}{HA:wA}{C:fA}{A:Tr kD}{ν:Nat->Nat}{Q:wC}{kf n:Nat}{st old:lG}{tm oldA:Tm}{all:Array Oper}{olds:List (Nat × List Nat)}
theorem gF.cut(h:gF C.base X0 kf ν X st tm HA t):gF C.base X0 kf ν X st.cut tm.cut HA t:=by
 refine⟨h.ov,h.le,h.k,h.kA,?_,?_,h.lo,h.inj⟩
 ·intro i v hi;have hi:st.tm.cut.get i=some v:=hi;rw[Tm.get_cut]at hi ⊢;split at hi
  ·rename_i e;rw[yab (by rw[h.kA,<- h.k];exact e)];exact h.tms i v hi
  grind
 ·intro i p hi;have hi:qK i (xD.adCut st.tm.k st.ad)=some p:=hi;rw[zba]at hi;rw[Tm.get_cut];split at hi
  ·rename_i e;rw[yab (by rw[h.kA,<- h.k];exact e)];exact h.ads i p hi
  grind
theorem Cu(h:gF C.base X0 kf ν X st tm HA t)(ho:Hw ν old oldA){os:List Nat}{op:Op}:kR (iO st old os op) (.mixed tm oldA os (vH op))/\Ic ν (xY st old os op) (.mixed tm oldA os (vH op)):=by
 constructor
 ·intro i v hi;have hi:(bif sI i (vH op)then Tm.get (bif sI i os then old.tm else st.tm) i else none)=some v:=hi;show(bif sI i (vH op)then Tm.get (bif sI i os then oldA else tm) i else none)=some v
  cases hm:sI i (vH op)with
  | false=>simp_all
  | true=>
   rw[hm]at hi;simp only[cond_true]at hi ⊢
   cases hq:sI i os with
   | true=>rw[hq]at hi;exact ho.tms i v hi
   | false=>rw[hq]at hi;exact h.tms i v hi
 ·intro i p hi;have hi:(bif sI i (vH op)then qK i (bif sI i os then old.ad else st.ad)else none)=some p:=hi;show(bif sI i (vH op)then Tm.get (bif sI i os then oldA else tm) i else none)=_
  cases hm:sI i (vH op)with
  | false=>simp_all
  | true=>
   rw[hm]at hi;simp only[cond_true]at hi ⊢
   cases hq:sI i os with
   | true=>rw[hq]at hi;exact ho.ads i p hi
   | false=>rw[hq]at hi;exact h.ads i p hi
theorem Te(ho:Hw ν old oldA){κ:KT}{kd:Tm->dB}(hκ:∀st' tm',gF C.base X0 kf ν X st' tm' HA t->lA C.base W J (κ st') t Q->oC C.base X0 Q (kd tm')) :
  ∀(l:List Nat) (st:lG) (tm:Tm),gF C.base X0 kf ν X st tm HA t->lA C.base W J (eQ C all n old olds κ l st) t Q->oC C.base X0 Q (fH C HA all n oldA olds kd l tm):=by
 intro l;induction l with
 | nil=>exact hκ
 | cons i l ih=>
  intro st tm hst h;have h:lA C.base W J (tC (uD all.toList i) fun o=>tC (iF o.guard all st.tm) fun w=>Bool.rec (motive:=fun _=>T) (kP n o.dst vE false st (eQ C all n old olds κ l))
   (tL C o.op (iO st old (xF i olds) o.op) (xY st old (xF i olds) o.op) st.lo (kop C all n o (iO st old (xF i olds) o.op) st (eQ C all n old olds κ l))) w) t Q:=h
  rw[wE]at h;obtain⟨o,h0,h⟩:=h;rw[wE]at h;obtain⟨w,h1,h2⟩:=h;rw[Pw];refine oC.ob h0 (oC.ob (Io hst h1) ?_)
  cases w with
  | false=>
   rw[yaa (by simp)];obtain⟨st',h3,h4⟩:=hst.put h2
   grind
  | true=>
   rw[yab rfl];refine Exists.elim (zg9 (R:=fun v=>oC C.base X0 Q (gK C o.type v fun v=>fH C HA all n oldA olds kd l (putA n tm o.dst v))) (Cu hst ho).1 (Cu hst ho).2 hst.ov hst.lo h2 ?_ ?_ ?_) (fun v h=>oC.ob h.1 h.2)
   ·intro v hk;have hk:lA C.base W J (Jd C o.type v fun v=>Fa (Qi all.toList o.dst all.toList) (Pr o.op (iO st old (xF i olds) o.op) st.lit) v fun v lt=>kP n o.dst v lt st (eQ C all n old olds κ l)) t Q:=hk;obtain⟨g1,g2⟩:=CO hk;obtain⟨lt',g3⟩:=Nf g2;obtain⟨st',g4,g5⟩:=hst.put g3
    grind [oC.norm]
   ·intro v hk;obtain⟨g1,g2⟩:=mM.1 hk;obtain⟨lt',g3⟩:=Nf g2;obtain⟨st',g4,g5⟩:=hst.put g3
    grind [oC.norm,Rb]
   ·intro d off hk;obtain⟨g1,g2⟩:=mM.1 hk;obtain⟨st',g4,g5⟩:=hst.putA g2
    grind [oC.norm,Zk]
theorem QU(ho:Hw ν old oldA)(hst:gF C.base X0 kf ν X st tm HA t){k:T}{kd:dB}(hk:lA C.base W J k t Q->oC C.base X0 Q kd) :
  ∀(l:List Nat),lA C.base W J (rV C all old olds st k l) t Q->oC C.base X0 Q (wL C HA all oldA olds tm kd l):=by
 intro l;induction l with
 | nil=>exact hk
 | cons i l ih=>
  intro h;have h:lA C.base W J (tC (uD all.toList i) fun o=>tC o.dst fun d=>tC (iF o.guard all st.tm) fun w=>Bool.rec (motive:=fun _=>T) (rV C all old olds st k l)
   (tC (st.tm.get d) fun u=>mJ (fitB C o.type u) (tL C o.op (iO st old (xF i olds) o.op) (xY st old (xF i olds) o.op) st.lo ⟨fun v=>.ite (same 10 v u) (rV C all old olds st k l) .fail,fun v=>.ite (same 10 v u) (rV C all old olds st k l) .fail,fun _ _=>.fail⟩)) w) t Q:=h
  rw[wE]at h;obtain⟨o,h0,h⟩:=h;rw[wE]at h;obtain⟨d,h1,h⟩:=h;rw[wE]at h;obtain⟨w,h2,h⟩:=h;rw[AU];refine oC.ob h0 (oC.ob h1 (oC.ob (Io hst h2) ?_))
  cases w with
  | false=>simp_all
  | true=>
   rw[yab rfl];simp only[wE,mM]at h;obtain⟨u,h3,h4,h5⟩:=h;have cC:∀v,lA C.base W J (.ite (same 10 v u) (rV C all old olds st k l) .fail) t Q->oC C.base X0 Q (gK C o.type v fun v=>ob (tm.get d) fun u=>mB (same 10 v u) (wL C HA all oldA olds tm kd l)):=by
    intro v hv;have hv:if same 10 v u=true then lA C.base W J (rV C all old olds st k l) t Q else False:=hv;split at hv
    ·rename_i hs;refine oC.norm ?_ (oC.ob (hst.tms _ _ h3) ?_)
     ·grind [Vw,Rb]
     ·rw[hs];exact ih hv
    simp_all
   obtain⟨v,h6,h7⟩:=zg9 (R:=fun v=>oC C.base X0 Q (gK C o.type v fun v=>ob (tm.get d) fun u=>mB (same 10 v u) (wL C HA all oldA olds tm kd l))) (Cu hst ho).1 (Cu hst ho).2 hst.ov hst.lo h5 cC cC (fun _ _ h=>h.elim)
   simp_all
theorem zbf(hst:gF C.base X0 kf ν X st tm HA t){h:Nat}{o:Oper}{w:Bool}(hw:vT C all h o st.tm=some w):vT C all h o tm=some w:=by
 grind [vT,rA,Io]
theorem YA{e e':xD}(he:kR e e'){op:Op}{ef:rL}(h:aY op e=some ef):aY op e'=some ef:=by
 cases op<;>first | (cases h;done) | skip
 all_goals grind [aY,rA,dE]
theorem zha{op:Op}{e:xD}{ae:nM}{ef:rL}(h:tEff op e ae=some ef):aY op e=some ef:=by
 cases op<;>first | exact h | skip
 grind [tEff]
def zbo(hst:gF C.base X0 kf ν X st tm HA t)(ho:Hw ν old oldA){l:List Nat}{es:List rL}(h:Nh all old olds st l=some es):Gy all oldA olds tm l=some es:=by
 refine Pp l (fun i ef h=>?_) h;unfold sW;simp only[rA,fB]at h ⊢;obtain⟨o,h1,w,h2,h3,h4⟩:=h;exact⟨o,h1,w,Io hst h2,h3,YA (Cu hst ho).1 (zha h4)⟩
theorem QM(hW:yV C A W)(ho:Hw ν old oldA){κ:KT}{m:Tm->wA->dB}(hκ:SK C W J X0 kf Q κ m) :
  ∀(l:List zF) (st:lG) (tm:Tm) (HA:wA) (t:Tr sA) (X:Xt),gF C.base X0 kf ν X st tm HA t->lA C.base W J (fZ C all n old olds κ l st) t Q->oC C.base X0 Q (lI C (qD C A) all n oldA olds m l tm HA):=by
 intro l;induction l with
 | nil=>intro st tm HA t X hst h;exact hκ _ _ _ _ _ _ hst h
 | cons s l ih=>
  intro st tm HA t X hst h
  cases hg:lS all s with
  | true=>
   have h:lA C.base W J (Bool.rec (motive:=fun _=>T) _ (mJ (bV C all) (tC (Nh all old olds st s.again) fun es=>.heavy (Er C es) fun _=>eQ C all n old olds (fZ C all n old olds κ l) s.lights st)) (lS all s)) t Q:=h;rw[hg]at h;have h:lA C.base W J (mJ (bV C all) (tC (Nh all old olds st s.again) fun es=>.heavy (Er C es) fun _=>eQ C all n old olds (fZ C all n old olds κ l) s.lights st)) t Q:=h
   rw[mM]at h;obtain⟨h0,h⟩:=h;rw[wE]at h;obtain⟨es,h1,h⟩:=h;have h:=h HA.next hst.ov.nextT hst.ov.base;rw[cX]at h;obtain⟨⟨v,H'⟩,h2,h3⟩:=h;obtain⟨HA',h4,h5⟩:=PS _ _ _ _ _ hst.ov h2;have h6:eY C es HA=some HA':=by
    grind [Er,rA]
   rw[Jg hg];unfold Lk;rw[h0];show oC C.base X0 Q (ob (Gy all oldA olds tm s.again) fun es=>ob (eY C es HA) fun H'=>fH C H' all n oldA olds (fun tm=>lI C (qD C A) all n oldA olds m l tm H') s.lights tm);refine oC.ob (zbo hst ho h1) (oC.ob h6 ?_);exact Te ho (fun st' tm' hs hw=>ih _ _ _ _ _ hs hw) _ _ _ (hst.later h5 (sJ.refl _)) h3
  | false=>
  have h:lA C.base W J (Bool.rec (motive:=fun _=>T) (tC (uD all.toList (lL all s.heavy)) fun o=>tC (vT C all s.heavy o st.tm) fun w=>
   (fun cont:KT=>Bool.rec (motive:=fun _=>T) (kP n o.dst vE false st cont)
    (tH C [] o.dst o.op (iO st old (xF (lL all s.heavy) olds) o.op) (xY st old (xF (lL all s.heavy) olds) o.op) st.lo (kop C all n o (iO st old (xF (lL all s.heavy) olds) o.op) st cont) (klo C n o st cont)) w)
   (fun st'=>rV C all old olds st' (eQ C all n old olds (fZ C all n old olds κ l) s.lights st') s.again)) _ (lS all s)) t Q:=h
  rw[hg]at h;have h:lA C.base W J (tC (uD all.toList (lL all s.heavy)) fun o=>tC (vT C all s.heavy o st.tm) fun w=>
   (fun cont:KT=>Bool.rec (motive:=fun _=>T) (kP n o.dst vE false st cont)
    (tH C [] o.dst o.op (iO st old (xF (lL all s.heavy) olds) o.op) (xY st old (xF (lL all s.heavy) olds) o.op) st.lo (kop C all n o (iO st old (xF (lL all s.heavy) olds) o.op) st cont) (klo C n o st cont)) w)
   (fun st'=>rV C all old olds st' (eQ C all n old olds (fZ C all n old olds κ l) s.lights st') s.again)) t Q:=h
  rw[wE]at h;obtain⟨o,h0,h⟩:=h;rw[wE]at h;obtain⟨w,h1,h2⟩:=h;rw[Fc hg];refine oC.ob h0 (oC.ob (zbf hst h1) ?_);have cC:∀st' tm' HA' t' X' ν',ν'=ν->gF C.base X0 kf ν' X' st' tm' HA' t'->lA C.base W J (rV C all old olds st' (eQ C all n old olds (fZ C all n old olds κ l) s.lights st') s.again) t' Q →
    oC C.base X0 Q (wL C HA' all oldA olds tm' (fH C HA' all n oldA olds (fun tm=>lI C (qD C A) all n oldA olds m l tm HA') s.lights tm') s.again):=by
   intro st' tm' HA' t' X' ν' e hs hw;subst e;exact QU ho hs (fun hl=>Te ho (fun st2 tm2 hs2 hw2=>ih _ _ _ _ _ hs2 hw2) _ _ _ hs hl) _ hw
  cases w with
  | false=>
   simp only[ybq,if_false];obtain⟨st',h3,h4⟩:=hst.put h2
   grind
  | true=>
   simp only[if_true];exact DH (m:=fun tm' HA'=>wL C HA' all oldA olds tm' (fH C HA' all n oldA olds (fun tm=>lI C (qD C A) all n oldA olds m l tm HA') s.lights tm') s.again)
    hW (Cu hst ho).1 (Cu hst ho).2 hst (fun st' tm' HA' t' X' ν' hn hs _ hw=>cC _ _ _ _ _ _ (hn rfl) hs hw) h2
def QQ(hW:yV C A W){la:List Nat}{fn id:Nat}{d:Bool}{κ:KT}{m:Tm->wA->dB}(hκ:SK C W J X0 kf Q κ m):SK C W J X0 kf Q (CE C la fn n κ id all d) (Fo C (qD C A) fn n m id all d):=by
 intro st tm HA t X ν hst h
 cases d with
 | false=>exact zg3 hW hκ _ _ _ _ _ _ _ hst.cut h
 | true=>
  have h:lA C.base W J (tC (ob (C.plans.get fn) fun t=>t.get id) fun p=>mJ (tS all p) (eQ C all n st.cut p.olds (fZ C all n st.cut p.olds κ p.stages) p.first st.cut)) t Q:=h;simp only[wE,mM]at h;obtain⟨p,h1,h2,h3⟩:=h;show oC C.base X0 Q (ob (ob (C.plans.get fn) fun t=>t.get id) fun p=>mB (tS all p) (fH C HA all n tm.cut p.olds (fun tm'=>lI C (qD C A) all n tm.cut p.olds m p.stages tm' HA) p.first tm.cut))
  refine oC.ob h1 ?_;rw[h2];exact Te hst.cut.old (fun st' tm' hs hw=>QM hW hst.cut.old hκ _ _ _ _ _ _ hs hw) _ _ _ hst.cut h3
end
structure PtD where
 p:PI
 m:Tm->wA->dB
def uM(C:fA)(φ:pH)(fn n:Nat):kD->Kt->List PtD
 | .skip,_=>[]
 | .region _ _ _,_=>[]
 | .seq a b,κ=>uM C φ fn n a ⟨fD C φ fn n b κ,κ.exit,κ.ret⟩++uM C φ fn n b κ
 | .cond _ x y,κ=>uM C φ fn n x κ++uM C φ fn n y κ
 | .block id c,κ=>uM C φ fn n c ⟨κ.norm,fun i tm H=>Bool.rec (motive:=fun _=>dB) (κ.exit i tm H) (κ.norm tm H) (Nat.beq id i),κ.ret⟩
 | .loop p c,κ=>⟨p,fD C φ fn n (.loop p c) κ⟩::uM C φ fn n c ⟨fD C φ fn n (.loop p c) κ,κ.exit,κ.ret⟩
 | .exit _,_=>[]
 | .ret,_=>[]
 | .cut p c,κ=>⟨p,fD C φ fn n (.cut p c) κ⟩::uM C φ fn n c κ
 | .range i pl fo ps id ops c,_=>⟨⟨i,iD pl ps.toList,[]⟩,Rv C φ fn n ⟨i,pl,fo,ps,id,ops,c⟩⟩::uM C φ fn n c rdK
def Sj(base kf:Nat)(d:PtD)(vals:List zA)(t:Tr sA)(Q:wC):Prop:=∀X0 X HA tm ν,gF base X0 kf ν X (oV kf d.p vals) tm HA t->oC base X0 Q (d.m tm HA)
def JOk (base kf:Nat)(J:pI)(l:List PtD):Prop:=∀d∈l,∀vals t Q,J d.p.id vals t Q->Sj base kf d vals t Q
structure SKt (C:fA) (W J:pI) (X0:Xt) (kf:Nat) (Q:wC) (κ:KtT) (m:Kt):Prop where
 norm:SK C W J X0 kf Q κ.norm m.norm
 exit:∀i,SK C W J X0 kf Q (κ.exit i) (m.exit i)
 ret:SK C W J X0 kf Q κ.ret m.ret
theorem Vk{d:Nat}{l:List zA}{st:lG}:∀ {ll:List (Nat × Nat)} {b rest:List zA},Ek st ll=some b->(pV ll (b++rest)).get d=some l->st.lo.get d=some l:=by
 intro ll;induction ll with
 | nil=>grind [pV,Tr.get_leaf]
 | cons p ll ih=>
  intro b rest hb h;have hb:(ob (qK p.1 st.ad) fun a=>mB (Nat.beq a.1 p.1&&Nat.beq a.2 0) (ob (st.lo.get p.1) fun l=>mB (Nat.beq (kB l) p.2) (ob (Ek st ll) fun r=>some (iD l r))))=some b:=hb;simp only[rA,fB]at hb;obtain⟨a,_,_,l0,h2,h3,r,h4,h5⟩:=hb;cases h5;have h:((pV ll (xQ (iD l0 r++rest) p.2)).set p.1 (wY (iD l0 r++rest) p.2)).get d=some l:=h
  grind [bC,jD,zH,zU,sS,List.drop_left,Tr.get_set]
theorem zbv{i:Nat}{q:Nat × Nat}{st:lG}:∀ {ll:List (Nat × Nat)} {b:List zA},Ek st ll=some b->qK i (stAd ll)=some q->qK i st.ad=some q:=by
 intro ll;induction ll with
 | nil=>intro b _ h;cases h
 | cons p ll ih=>
  grind [Ek,rA,fB,bC,stAd,Hu]
theorem zbt{i:Nat}{v:zA}{st:lG}:∀ {pl:List Nat} {a rest:List zA},iG (fun i=>st.tm.get i) pl=some a->(oO pl (a++rest)).get i=some v->st.tm.get i=some v:=by
 intro pl;induction pl with
 | nil=>grind [oO,Tr.get_leaf]
 | cons j pl ih=>
  intro a rest ha h;rw[nN,rA]at ha;obtain⟨u,h1,ha⟩:=ha;rw[rA]at ha;obtain⟨r,h2,ha⟩:=ha;cases ha;have h:((oO pl (r++rest)).set j u).get i=some v:=h
  grind [Tr.get_set]
theorem Tm.get_kv{k i:Nat}{v:Tr zA}{u:zA}(h:Tm.get ⟨k,v,[]⟩ i=some u):i<k/\v.get i=some u:=by
 unfold Tm.get at h;rw[kJ]at h;split at h
 ·simp_all
 ·cases h
theorem PF{p:PI}{st:lG}{vals:List zA}(h:Ej p st=some vals):∃a b,vals=a++b/\iG (fun i=>st.tm.get i) p.pl=some a/\Ek st p.ll=some b/\a.length=p.pl.length:=by
 unfold Ej at h;simp only[rA]at h;obtain⟨a,h1,b,h2,h3⟩:=h;cases h3;refine⟨a,b,zH _ _,h1,h2,?_⟩;have:∀(l:List Nat) (r:List zA),iG (fun i=>st.tm.get i) l=some r->r.length=l.length:=by
  intro l;induction l with
  | nil=>intro r h;cases h;rfl
  | cons x l ih=>
   grind [nN,rA]
 grind
section
variable {W J:pI}{t:Tr sA}{X X0:Xt}{HA:wA}{C:fA}{A:Tr kD}{ν:Nat->Nat}{Q:wC}{kf n:Nat}{st:lG}{tm:Tm}
theorem gF.at(h:gF C.base X0 kf ν X st tm HA t){p:PI}{vals:List zA}(hv:Ej p st=some vals):gF C.base X0 kf ν X (oV kf p vals) tm HA t:=by
 obtain⟨a,b,rfl,h1,h2,h3⟩:=PF hv;have hd:xQ (a++b) (kB p.pl)=b:=by rw[zU,jD,<- h3,List.drop_left]
 refine⟨h.ov,h.le,rfl,h.kA,?_,?_,?_,?_⟩
 ·intro i v hi;exact h.tms i v (zbt h1 (Tm.get_kv hi).2)
 ·intro i q hi;exact h.ads i q (zbv h2 hi)
 ·intro d l hl;have hl:(pV p.ll (xQ (a++b) (kB p.pl))).get d=some l:=hl;rw[hd]at hl;have hb:(pV p.ll (b++[])).get d=some l:=by simp_all
  exact h.lo d l (Vk h2 hb)
 ·intro d d' l l' hl hl' he;have hl:(pV p.ll (xQ (a++b) (kB p.pl))).get d=some l:=hl;have hl':(pV p.ll (xQ (a++b) (kB p.pl))).get d'=some l':=hl';rw[hd]at hl hl';have hb:(pV p.ll (b++[])).get d=some l:=by simp_all
  have hb':(pV p.ll (b++[])).get d'=some l':=by simp_all
  exact h.inj d d' l l' (Vk h2 hb) (Vk h2 hb') he
theorem WL{tm:Tm}{i:Nat}{v:zA}(hv:tm.get i=some v):∀ {live:List Nat},i∈live->(Gm tm live).get i=some v:=by
 intro live;induction live with
 | nil=>simp_all
 | cons j live ih=>
  grind [Gm,Tr.get_set]
theorem zbs{i:Nat}{v:zA}:∀ {pl:List Nat} {vals:List zA},(oO pl vals).get i=some v->i∈pl:=by
 intro pl;induction pl with
 | nil=>grind [oO,Tr.get_leaf]
 | cons j pl ih=>
  intro vals h
  cases vals with
  | nil=>grind [oO,Tr.get_leaf]
  | cons u vals=>
   have h:((oO pl vals).set j u).get i=some v:=h
   grind [Tr.get_set]
theorem zbu{i:Nat}{q:Nat × Nat}:∀ {ll:List (Nat × Nat)},qK i (stAd ll)=some q->i∈(List.rec (motive:=fun _=>List Nat) [] (fun a _ r=>a.1::r) ll:List Nat):=by
 intro ll;induction ll with
 | nil=>intro h;cases h
 | cons p ll ih=>
  grind [stAd,Hu]
theorem gF.keep{p:PI}{vals:List zA}(hb:∀i,i∈p.kept->i<kf)(h:gF C.base X0 kf ν X (oV kf p vals) tm HA t):gF C.base X0 kf ν X (oV kf p vals) (Am.keep p.kept tm) HA t:=by
 have key:∀i v,i∈p.kept->tm.get i=some v->(Am.keep p.kept tm).get i=some v:=by
  intro i v hi hv;unfold Am.keep Tm.get;rw[kJ,yab (lC.2 (by rw[h.kA];grind))];exact WL hv hi
 refine⟨h.ov,h.le,rfl,h.kA,?_,?_,h.lo,h.inj⟩
 ·intro i v hi;refine key i v ?_ (h.tms i v hi);unfold PI.kept;rw[zH];exact ydc _ (zbs (Tm.get_kv hi).2)
 ·intro i q hi;refine key i _ ?_ (h.ads i q hi);unfold PI.kept;rw[zH];exact ycf _ (zbu hi)
def Yn{l:List PtD}(hJ:JOk C.base kf J l){p:PI}{m:Tm->wA->dB}(hm:(⟨p,m⟩:PtD)∈l):SK C W J X0 kf Q (Gn p) m:=by
 intro st tm HA t X ν hst h;unfold Gn at h;rw[wE]at h;obtain⟨vals,h1,h2⟩:=h;exact hJ _ hm vals t Q h2 _ _ _ _ _ (hst.at h1)
def ze5:SKt C W J X0 kf Q rdT rdK:=⟨fun _ tm HA t X _ hst h=>⟨_,t,HA,X,rfl,hst.ov,hst.le,h⟩,fun _ _ _ _ _ _ _ _ h=>h.elim,fun _ tm HA t X _ hst h=>⟨_,t,HA,X,rfl,hst.ov,hst.le,h⟩⟩
def Sf(C:fA)(A:Tr kD)(W:pI):Prop:=∀l args t Q,(∀X HA,Ov C.base t X HA->oC C.base X Q (Dq C A (yo+l) args HA))->W (yo+l) args t Q
def fM (X:Xt)(b:Nat)(y:sA):Xt:=fun c=>if c=b then some y else X c
theorem Kg{X:Xt}{b:Nat}{y:sA}(h:X b=none):sJ X (fM X b y):=by
 intro c z hc;grind [fM]
theorem Ov.under{base:Nat}(h:Ov base t X HA){b:Nat}{y:sA}(hb:t.get b=some y)(z:sA):Ov base (t.del b) (fM X b z) (Am.setBlk HA b z):=by
 refine⟨h.base,fun c hc=>?_,fun c u hc=>?_,fun c u hc=>?_⟩
 ·show(HA.t.set b z).get c=_;unfold fM at hc;split at hc
  ·cases hc
  ·rename_i e;rw[Tr.get_set,yaa e,Tr.get_del,yaa e];exact h.same c hc
 ·show(HA.t.set b z).get c=_/\_;unfold fM at hc;split at hc
  ·rename_i e;cases hc;subst e;exact⟨by rw[Tr.get_set,yab rfl],by rw[Tr.get_del,yab rfl],h.lt _ _ hb⟩
  ·rename_i e;obtain⟨g1,g2,g3⟩:=h.ext c u hc;exact⟨by grind [Tr.get_set],by grind [Tr.get_del],g3⟩
 ·rw[Tr.get_del]at hc;split at hc
  ·cases hc
  ·exact h.lt _ _ hc
theorem Ov.back{base:Nat}(h:Ov base t X HA){b:Nat}{y:sA}(hb:X b=some y)(z:sA):Ov base (t.set b z) (fun c=>if c=b then none else X c) (Am.setBlk HA b z):=by
 obtain⟨g1,g2,g3⟩:=h.ext b y hb;refine⟨h.base,fun c hc=>?_,fun c u hc=>?_,fun c u hc=>?_⟩
 ·show(HA.t.set b z).get c=_;rw[Tr.get_set,Tr.get_set];split
  ·rfl
  ·rename_i e;rw[yaa e]at hc;exact h.same c hc
 ·show(HA.t.set b z).get c=_/\_;split at hc
  ·cases hc
  ·rename_i e;obtain⟨g1,g2,g3⟩:=h.ext c u hc;exact⟨by grind [Tr.get_set],by grind [Tr.get_set],g3⟩
 ·rw[Tr.get_set]at hc;split at hc
  ·rename_i e;rw[e];exact g3
  ·exact h.lt _ _ hc
def Xw{H:wA}{l:Nat}{r:yO}(hl:256<=l)(h:H.t.get l=some (.loop r)):bJ H l=some r:=by
 unfold bJ;rw[h,pA,Nat.ble_eq_true_of_le hl];rfl
theorem zb6{base kf n:Nat}{st:lG}{tm:Tm}{i:Nat}{pl ps:List Nat}{vals args:List zA}{X:Xt}{HA:wA}{t:Tr sA}(ho:Ov base t X HA)(hk:st.tm.k=kf)(hkA:tm.k=kf)
  (ht:∀i v,st.tm.get i=some v->tm.get i=some v) (hv:ze3 pl st=some vals) (hok:nE (fun p=>Nat.blt p st.tm.k&&Nat.blt p n && !sI p pl) ps=true) (h1:ps.length<=1) (hl:args.length=ps.length) :
  ∃tm',pX n ps args tm=some tm'/\gF base X kf (fun i=>i) X (oV kf ⟨i,iD pl ps,[]⟩ (vals++args)) tm' HA t:=by
 have old:∀(pl:List Nat) (vals rest:List zA) j v,iG (fun i=>st.tm.get i) pl=some vals->(oO (pl++ps) (vals++rest)).get j=some v->(j∈pl/\tm.get j=some v)\/(oO ps rest).get j=some v:=by
  intro pl;induction pl with
  | nil=>intro vals rest j v h hj;cases h;simp_all
  | cons a pl ih=>
   intro vals rest j v h hj;rw[nN,rA]at h;obtain⟨u,g1,h⟩:=h;rw[rA]at h;obtain⟨us,g2,h⟩:=h;cases h;have hj:((oO (pl++ps) (us++rest)).set a u).get j=some v:=hj
   grind [Tr.get_set]
 cases ps with
 | nil=>
  cases args with
  | cons _ _=>cases hl
  | nil=>
   refine⟨tm,rfl,ho,sJ.refl _,rfl,hkA,fun j v hj=>?_,fun j p h=>(by cases h),fun d l h=>?_,fun d _ l _ h=>?_⟩
   ·have hj:=(Tm.get_kv hj).2;have hj:(oO (iD pl []) (vals++[])).get j=some v:=hj;rw[zH]at hj;rcases old pl vals [] j v hv hj with⟨_,h⟩ | h
    all_goals grind [oO,Tr.get_leaf]
   ·rw[show(oV kf ⟨i,iD pl [],[]⟩ (vals++[])).lo=.leaf from rfl,Tr.get_leaf]at h;cases h
   omega
 | cons p ps=>
  cases ps with
  | cons _ _=>simp at h1
  | nil=>
   cases args with
   | nil=>cases hl
   | cons a args=>
    cases args with
    | cons _ _=>simp at hl
    | nil=>
     have hp:(bif (Nat.blt p st.tm.k&&Nat.blt p n && !sI p pl)then nE (fun p=>Nat.blt p st.tm.k&&Nat.blt p n && !sI p pl) []else false)=true:=hok
     cases hx:(Nat.blt p st.tm.k&&Nat.blt p n && !sI p pl)with
     | false=>grind
     | true=>
      simp only[ybb,ycp]at hx;obtain⟨⟨x1,x2⟩,x3⟩:=hx;have x1:=lC.1 x1;have x2:=lC.1 x2;refine⟨putA n tm (some p) a,rfl,ho,sJ.refl _,rfl,by grind [Om],fun j v hj=>?_,fun j p h=>(by cases h),fun d l h=>?_,fun d _ l _ h=>?_⟩
      ·have hj:=(Tm.get_kv hj).2;have hj:(oO (iD pl [p]) (vals++[a])).get j=some v:=hj;rw[zH]at hj;rw[aJ];rcases old pl vals [a] j v hv hj with⟨hm,h⟩ | h
       all_goals grind [Ae,oO,Tr.get_set,Tr.get_leaf]
      ·rw[show(oV kf ⟨i,iD pl [p],[]⟩ (vals++[a])).lo=.leaf from rfl,Tr.get_leaf]at h;cases h
      omega
theorem TS(hW:yV C A W)(hY:Sf C A W){f:Nat}{κ:KtT}{m:Kt}(hκ:∀X0,SKt C W J X0 kf Q κ m){i:Nat}{pl:List Nat}{fo:Operand}{ps:Array Nat}{id:Nat}{ops:Array Oper}{c:kD}
  (hone:∃c0,A.get f=some c0/\Kc c0=some ⟨i,pl,fo,ps,id,ops,c⟩) (hJ:∀vals t Q,J i vals t Q->Sj C.base kf ⟨⟨i,iD pl ps.toList,[]⟩,Rv C (qD C A) f n ⟨i,pl,fo,ps,id,ops,c⟩⟩ vals t Q) :
  SK C W J X0 kf Q (Wu C n κ i pl fo ps.toList ops.toList c) (fP C (qD C A) f n m fo ps.toList (.region id ops false) (bF c)):=by
 intro st tm HA t X ν hst h;unfold Wu at h;rw[mM,wE]at h;obtain⟨hok,vals,hv,h⟩:=h;rw[wE]at h;obtain⟨fv,hf,h256,h⟩:=h;unfold FK at hok;simp only[ybb]at hok;obtain⟨⟨⟨hok1,hok2⟩,hok3⟩,hok4⟩:=hok;have hok2:ps.toList.length<=1:=by simp_all [jD]
 have hok4:eT c=[]:=by
  grind
 have ho:=hst.ov;have hbase:=ho.base;generalize hr:(⟨.ready,none,f,n,tm,ps.toList,.region id ops false,bF c,HA.next⟩:yO)=r at *;have htn:t.get (HA.next+1)=none:=by
  cases hx:t.get (HA.next+1)with
  | none=>rfl
  | some y=>exact absurd (ho.lt _ _ hx) (by omega)
 have hyield:∀args t1 Q1,args.length=kB ps.toList->t1.get (HA.next+1)=some (.loop r)->J i (vals++args) (t1.del (HA.next+1)) (fun v t2=>t2.get (HA.next+1)=none->∃b,v=.bool b/\Q1 v (t2.set (HA.next+1) (.loop (aT b r))))->W (yo+(HA.next+1)) args t1 Q1:=by
  intro args t1 Q1 hla ht1 hj;refine hY _ _ _ _ fun X1 HA1 ho1=>?_;rw[NK,zgl];show oC C.base X1 Q1 (Co C A (qD C A) (HA.next+1) args HA1);have hx1:=ho1.notX ht1;have hov:=ho1.under ht1 (.loop (Dr r));obtain⟨tm',hs1,hs2⟩:=zb6 (n:=n) (i:=i) hov hst.k hst.kA hst.tms hv hok1 hok2 (by rw[hla,jD]);obtain⟨v,t2,HA2,X2,e1,e2,e3,e4⟩:=hJ _ _ _ hj _ _ _ _ _ hs2;have hb2:X2 (HA.next+1)=some (.loop (Dr r)):=e3 _ _ (by unfold fM;rw[yab rfl])
  obtain⟨b,e4,e5⟩:=e4 (e2.ext _ _ hb2).2.1;subst e4;obtain⟨c0,hc0,hc1⟩:=hone;refine⟨.bool b,_,_,_,Fk.2 ⟨r,tm',c0,⟨i,pl,fo,ps,id,ops,c⟩,(.bool b,HA2),Dr r,b,Xw (by omega) (by rw[ho1.up ht1]),?_,?_,hc1,?_,?_,Xw (by omega) (e2.ext _ _ hb2).1,rfl,rfl⟩,e2.back hb2 _,?_,e5⟩
  ·grind
  ·grind
  ·rw[<- hr];exact⟨rfl,rfl,rfl,rfl,hok3,hok4⟩
  ·grind
  ·intro c y hc;have hne:c≠HA.next+1:=fun e=>by simp_all
   show(if c=HA.next+1 then none else X2 c)=some y;rw[yaa hne];exact e3 _ _ (Kg hx1 _ _ hc)
 have h:=h (HA.next+1) r htn (by omega) (by rw[<- hr]) (by rw[<- hr]) hyield;rw[cX]at h;obtain⟨⟨g,aq⟩,hra,hw⟩:=h;unfold Fu at hra;rw[rA]at hra;obtain⟨⟨qf,q1,q2⟩,hq,hra⟩:=hra
 cases qf with
 | yld l=>cases hra
 | func g'=>
  simp only[fB,ybb]at hra;obtain⟨⟨hg,hnp⟩,hra⟩:=hra;cases hra;have hp:C.prims.get g=none:=by
   unfold npC at hnp
   cases hx:C.prims.get g with
   | none=>rfl
   | some u=>rw[hx]at hnp;cases hnp
  have hXd:X HA.next=none:=ho.nextX;have ho1:Ov C.base t (fM X HA.next (.deferred (some []))) (newBlk HA (.deferred (some []))):=by
   refine⟨Nat.le_succ_of_le ho.base,fun b hb=>?_,fun b y hb=>?_,fun b y hb=>Nat.lt_succ_of_lt (ho.lt _ _ hb)⟩
   ·unfold fM at hb;split at hb
    ·cases hb
    ·rename_i e;show(HA.t.set HA.next _).get b=_;rw[Tr.get_set,yaa e];exact ho.same b hb
   ·unfold fM at hb;show(HA.t.set HA.next _).get b=_/\_/\b<HA.next+1;split at hb
    ·rename_i e;cases hb;subst e;exact⟨by rw[Tr.get_set,yab rfl],ho.nextT,Nat.lt_succ_self _⟩
    ·rename_i e;obtain⟨g1,g2,g3⟩:=ho.ext b y hb
     grind [Tr.get_set]
  have ho2:=ho1.newBlk (.loop r);obtain⟨v,t',HA2,X2,e1,e2,e3,e4⟩:=hW _ _ _ _ hw _ _ ho2;rw[Hf hg,hp]at e1;have e1:qD C A (.func g) (iD q1 (.func (.yld (HA.next+1)) [] []::q2)) (newBlk (newBlk HA (.deferred (some []))) (.loop r))=some (v,HA2):=e1;have goal:∀r' (κ':KT) (m':Tm->wA->dB),t'.get (HA.next+1)=some (.loop r')->(!Nat.beq (LoopState.tag r'.state) 1)=true->(∀tm H,rZ m r'.pending tm H=m' tm H)->(∀X0,SK C W J X0 kf Q κ' m')->lA C.base W J (κ' st) (t'.del (HA.next+1)) Q →
    oC C.base X0 Q (fP C (qD C A) f n m fo ps.toList (.region id ops false) (bF c) tm HA):=by
   intro r' κ' m' k1 k2 k3 k4 k5;have ho3:=e2.under k1 (.loop ⟨.exhausted,r'.pending,r'.fn,r'.n,r'.tm,r'.params,r'.assign,r'.body,r'.defers⟩);have hx2:=e2.notX k1;have hXX:sJ X (fM X2 (HA.next+1) (.loop ⟨.exhausted,r'.pending,r'.fn,r'.n,r'.tm,r'.params,r'.assign,r'.body,r'.defers⟩)):=((Kg hXd).trans e3).trans (Kg hx2);have hd3:(fM X2 (HA.next+1) (.loop ⟨.exhausted,r'.pending,r'.fn,r'.n,r'.tm,r'.params,r'.assign,r'.body,r'.defers⟩)) HA.next=some (.deferred (some [])):=by
    refine(Kg hx2) _ _ (e3 _ _ ?_);unfold fM;rw[yab rfl]
   have hX0d:X0 HA.next=none:=by
    cases hx:X0 HA.next with
    | none=>rfl
    | some y=>have:=hst.le _ _ hx;simp_all
   have hl:=hst.later ho3 hXX;have hl':gF C.base (fM X0 HA.next (.deferred (some []))) kf ν (fM X2 (HA.next+1) (.loop ⟨.exhausted,r'.pending,r'.fn,r'.n,r'.tm,r'.params,r'.assign,r'.body,r'.defers⟩)) st tm (endLoop HA2 (HA.next+1) r') (t'.del (HA.next+1)):=by
    refine⟨hl.ov,?_,hl.k,hl.kA,hl.tms,hl.ads,fun d l hd=>?_,hl.inj⟩
    ·intro b y hb;unfold fM at hb;split at hb
     ·simp_all
     ·exact hl.le _ _ hb
    ·obtain⟨g1,g2,g3⟩:=hl.lo d l hd
     grind [fM]
   obtain⟨w,t4,HA4,X4,f1,f2,f3,f4⟩:=k4 _ _ _ _ _ _ _ hl' k5;have hd4:X4 HA.next=some (.deferred (some [])):=f3 _ _ (by unfold fM;rw[yab rfl]);refine⟨w,t4,_,_,?_,f2.setX hd4 (.deferred none),?_,f4⟩
   ·unfold fP;rw[dE (Pj hst).1 hf,pA,hq,pA];show(mB (sH (C.prims.get g)) _)=_;rw[hp];show(ob (qD C A (.func g) _ (newBlk (newBlk HA (.deferred (some []))) (.loop ⟨.ready,none,f,n,tm,ps.toList,.region id ops false,bF c,HA.next⟩))) _)=_;rw[hr,e1,pA,Xw (by omega) (e2.up k1),pA,k2];show(ob (rZ m r'.pending tm _) _)=_;rw[k3];show(ob (m' tm (endLoop HA2 (HA.next+1) r')) _)=_
    rw[f1,pA];have:pW HA4 HA.next=some (some []):=by
     unfold pW;rw[(f2.ext _ _ hd4).1,pA,Nat.ble_eq_true_of_le (by omega:256<=HA.next)];rfl
    simp only[this,pA];rfl
   ·intro b y hb;have hne:b≠HA.next:=fun e=>by simp_all
    show(if b=HA.next then _ else X4 b)=some y;rw[yaa hne];exact f3 _ _ (Kg hX0d _ _ hb)
  rcases e4 with⟨k1,k2⟩ | ⟨k1,k2⟩
  ·exact goal r κ.norm m.norm k1 (by rw[<- hr];rfl) (fun _ _=>by rw[<- hr];rfl) (fun X0=>(hκ X0).norm) k2
  ·exact goal _ κ.ret m.ret k1 (by rw[<- hr];rfl) (fun _ _=>by rw[<- hr];rfl) (fun X0=>(hκ X0).ret) k2
def pQ (A:Tr kD)(f:Nat)(c:kD):Prop:=∀q∈eT c,∃c0,A.get f=some c0/\Kc c0=some q
theorem pQ.l{a b:List Ec}{P:Ec->Prop}(h:∀q∈iD a b,P q):(∀q∈a,P q)/\∀q∈b,P q:=by
 grind [zH]
def Jc(hW:yV C A W)(hY:Sf C A W){la:List Nat}{f:Nat}:∀(c:kD) (κ:KtT) (m:Kt),pQ A f c->(∀X0,SKt C W J X0 kf Q κ m)->JOk C.base kf J (uM C (qD C A) f n c m)->∀X0,SK C W J X0 kf Q (rO C la f n c κ) (fD C (qD C A) f n c m):=by
 intro c;induction c with
 | skip=>intro κ m _ hκ _ X0;exact(hκ X0).norm
 | region id ops d=>intro κ m _ hκ _ X0;exact QQ hW (hκ X0).norm
 | seq a b iha ihb=>
  intro κ m hR hκ hJ;exact iha ⟨rO C la f n b κ,κ.exit,κ.ret⟩ ⟨fD C (qD C A) f n b m,m.exit,m.ret⟩ (pQ.l hR).1 (fun X0=>⟨ihb κ m (pQ.l hR).2 hκ (fun d hd=>hJ d (ycf _ hd)) X0,(hκ X0).exit,(hκ X0).ret⟩) fun d hd=>hJ d (ydc _ hd)
 | cond x a b iha ihb=>
  intro κ m hR hκ hJ X0 st tm HA t X ν hst h;have ha:=iha κ m (pQ.l hR).1 hκ (fun d hd=>hJ d (ydc _ hd)) X0;have hb:=ihb κ m (pQ.l hR).2 hκ (fun d hd=>hJ d (ycf _ hd)) X0;have h:lA C.base W J (tC (ob (ev x (.now st.tm)) zA.asBool) fun b'=>bif Ag x st.lit then Bool.rec (motive:=fun _=>T) (rO C la f n b κ st) (rO C la f n a κ st) b' else .ite b' (rO C la f n a κ st) (rO C la f n b κ st)) t Q:=h
  rw[wE]at h;obtain⟨w,h1,h2⟩:=h;rw[rA]at h1;obtain⟨v,h3,h4⟩:=h1;show oC C.base X0 Q (ob (ob (ev x (.now tm)) zA.asBool) fun t=>Bool.rec (motive:=fun _=>dB) (fD C (qD C A) f n b m tm HA) (fD C (qD C A) f n a m tm HA) t);refine oC.ob (a:=w) (by rw[dE (Pj hst).1 h3];exact h4) ?_;have h2:if w=true then lA C.base W J (rO C la f n a κ st) t Q else lA C.base W J (rO C la f n b κ st) t Q:=by
   rw[sD]at h2;split at h2
   ·cases w<;>exact h2
   ·exact h2
  cases w with
  | true=>exact ha _ _ _ _ _ _ hst h2
  | false=>exact hb _ _ _ _ _ _ hst h2
 | block id c ih=>
  intro κ m hR hκ hJ;refine ih ⟨κ.norm,fun i st=>Bool.rec (motive:=fun _=>T) (κ.exit i st) (κ.norm st) (Nat.beq id i),κ.ret⟩ ⟨m.norm,fun i tm H=>Bool.rec (motive:=fun _=>dB) (m.exit i tm H) (m.norm tm H) (Nat.beq id i),m.ret⟩ hR (fun X0=>⟨(hκ X0).norm,fun i=>?_,(hκ X0).ret⟩) hJ;intro st tm HA t X ν hst h;have h:lA C.base W J (Bool.rec (motive:=fun _=>T) (κ.exit i st) (κ.norm st) (Nat.beq id i)) t Q:=h
  show oC C.base X0 Q (Bool.rec (motive:=fun _=>dB) (m.exit i tm HA) (m.norm tm HA) (Nat.beq id i))
  cases hb:Nat.beq id i with
  | true=>rw[hb]at h;exact(hκ X0).norm _ _ _ _ _ _ hst h
  | false=>rw[hb]at h;exact(hκ X0).exit i _ _ _ _ _ _ hst h
 | loop p c ih=>intro κ m _ hκ hJ X0;exact Yn hJ yby
 | exit id=>intro κ m _ hκ _ X0;exact(hκ X0).exit id
 | ret=>intro κ m _ hκ _ X0;exact(hκ X0).ret
 | cut p c ih=>intro κ m _ hκ hJ X0;exact Yn hJ yby
 | range i pl fo ps id ops c ih=>intro κ m hR hκ hJ X0;exact TS hW hY hκ (hR _ yby) fun vals t Q h=>hJ _ yby vals t Q h
def PtOk (C:fA)(W J:pI)(kf:Nat)(l:List PtT)(d:PtD):Prop:=∃q∈l,q.p=d.p/\∀vals t Q,lA C.base W J (q.tree vals) t Q->Sj C.base kf d vals t Q
def keptOk(kf:Nat):kD->Bool
 | .seq a b=>keptOk kf a&&keptOk kf b
 | .cond _ a b=>keptOk kf a&&keptOk kf b
 | .block _ c=>keptOk kf c
 | .loop p c=>p.kept.all (fun i=>Nat.blt i kf)&&keptOk kf c
 | .cut p c=>p.kept.all (fun i=>Nat.blt i kf)&&keptOk kf c
 | .range _ _ _ _ _ _ c=>keptOk kf c
 | _=>true
def UI(hW:yV C A W)(hY:Sf C A W){la:List Nat}{f:Nat}:∀(c:kD) (κ:KtT) (m:Kt),pQ A f c->keptOk kf c=true->(∀X0 Q,SKt C W J X0 kf Q κ m)->JOk C.base kf J (uM C (qD C A) f n c m)->∀d∈uM C (qD C A) f n c m,PtOk C W J kf (Ab C la f n kf c κ) d:=by
 have up:∀ {l l':List PtT} {d:PtD},PtOk C W J kf l d->(∀q∈l,q∈l')->PtOk C W J kf l' d:=fun⟨q,h1,h2⟩ hl=>⟨q,hl q h1,h2⟩
 intro c;induction c with
 | skip=>intro κ m _ _ _ _ d hd;cases hd
 | region id ops dr=>intro κ m _ _ _ _ d hd;cases hd
 | seq a b iha ihb=>
  intro κ m hR hk hκ hJ d hd;unfold keptOk at hk;rw[ybb]at hk;have e:Ab C la f n kf (.seq a b) κ=Ab C la f n kf a ⟨rO C la f n b κ,κ.exit,κ.ret⟩++Ab C la f n kf b κ:=zH _ _;rw[e];have hJa:JOk C.base kf J (uM C (qD C A) f n a ⟨fD C (qD C A) f n b m,m.exit,m.ret⟩):=fun d hd=>hJ d (ydc _ hd);have hJb:JOk C.base kf J (uM C (qD C A) f n b m):=fun d hd=>hJ d (ycf _ hd)
  rcases yaf.1 hd with hd | hd
  ·exact up (iha ⟨rO C la f n b κ,κ.exit,κ.ret⟩ ⟨fD C (qD C A) f n b m,m.exit,m.ret⟩ (pQ.l hR).1 hk.1 (fun X0 Q=>⟨Jc hW hY b κ m (pQ.l hR).2 (fun X0=>hκ X0 Q) hJb X0,(hκ X0 Q).exit,(hκ X0 Q).ret⟩) hJa d hd) fun q hq=>ydc _ hq
  ·exact up (ihb _ _ (pQ.l hR).2 hk.2 hκ hJb d hd) fun q hq=>ycf _ hq
 | cond x a b iha ihb=>
  intro κ m hR hk hκ hJ d hd;unfold keptOk at hk;rw[ybb]at hk;have e:Ab C la f n kf (.cond x a b) κ=Ab C la f n kf a κ++Ab C la f n kf b κ:=zH _ _;rw[e];rcases yaf.1 hd with hd | hd
  ·exact up (iha _ _ (pQ.l hR).1 hk.1 hκ (fun d hd=>hJ d (ydc _ hd)) d hd) fun q hq=>ydc _ hq
  ·exact up (ihb _ _ (pQ.l hR).2 hk.2 hκ (fun d hd=>hJ d (ycf _ hd)) d hd) fun q hq=>ycf _ hq
 | block id c ih=>
  intro κ m hR hk hκ hJ d hd;refine ih ⟨κ.norm,fun i st=>Bool.rec (motive:=fun _=>T) (κ.exit i st) (κ.norm st) (Nat.beq id i),κ.ret⟩ ⟨m.norm,fun i tm H=>Bool.rec (motive:=fun _=>dB) (m.exit i tm H) (m.norm tm H) (Nat.beq id i),m.ret⟩ hR hk (fun X0 Q=>⟨(hκ X0 Q).norm,fun i=>?_,(hκ X0 Q).ret⟩) hJ d hd;intro st tm HA t X ν hst h;have h:lA C.base W J (Bool.rec (motive:=fun _=>T) (κ.exit i st) (κ.norm st) (Nat.beq id i)) t Q:=h
  show oC C.base X0 Q (Bool.rec (motive:=fun _=>dB) (m.exit i tm HA) (m.norm tm HA) (Nat.beq id i))
  cases hb:Nat.beq id i with
  | true=>rw[hb]at h;exact(hκ X0 Q).norm _ _ _ _ _ _ hst h
  | false=>rw[hb]at h;exact(hκ X0 Q).exit i _ _ _ _ _ _ hst h
 | loop p c ih=>
  intro κ m hR hk hκ hJ d hd;unfold keptOk at hk;rw[ybb,ycb]at hk;have hJc:JOk C.base kf J (uM C (qD C A) f n c ⟨fD C (qD C A) f n (.loop p c) m,m.exit,m.ret⟩):=fun d hd=>hJ d (ybr _ hd);have hκ':∀X0 Q,SKt C W J X0 kf Q ⟨Gn p,κ.exit,κ.ret⟩ ⟨fD C (qD C A) f n (.loop p c) m,m.exit,m.ret⟩:=fun X0 Q=>⟨Yn hJ yby,(hκ X0 Q).exit,(hκ X0 Q).ret⟩;rcases ybs.1 hd with rfl | hd
  ·refine⟨_,yby,rfl,fun vals t Q hw X0 X HA tm ν hst=>?_⟩;show oC C.base X0 Q (fD C (qD C A) f n (.loop p c) m tm HA);rw[zdt];exact Jc hW hY c _ _ hR (fun X0=>hκ' X0 Q) hJc X0 _ _ _ _ _ _ (hst.keep fun i hi=>lC.1 (hk.1 i hi)) hw
  ·exact up (ih ⟨Gn p,κ.exit,κ.ret⟩ ⟨fD C (qD C A) f n (.loop p c) m,m.exit,m.ret⟩ hR hk.2 hκ' hJc d hd) fun q hq=>ybr _ hq
 | exit id=>intro κ m _ _ _ _ d hd;cases hd
 | ret=>intro κ m _ _ _ _ d hd;cases hd
 | cut p c ih=>
  intro κ m hR hk hκ hJ d hd;unfold keptOk at hk;rw[ybb,ycb]at hk;have hJc:JOk C.base kf J (uM C (qD C A) f n c m):=fun d hd=>hJ d (ybr _ hd);rcases ybs.1 hd with rfl | hd
  ·refine⟨_,yby,rfl,fun vals t Q hw X0 X HA tm ν hst=>?_⟩;exact Jc hW hY c _ _ hR (fun X0=>hκ X0 Q) hJc X0 _ _ _ _ _ _ (hst.keep fun i hi=>lC.1 (hk.1 i hi)) hw
  ·exact up (ih _ _ hR hk.2 hκ hJc d hd) fun q hq=>ybr _ hq
 | range i pl fo ps id ops c ih=>
  intro κ m hR hk hκ hJ d hd;have hR':pQ A f c:=fun q hq=>hR q (ybr _ hq);have hJc:JOk C.base kf J (uM C (qD C A) f n c rdK):=fun d hd=>hJ d (ybr _ hd);rcases ybs.1 hd with rfl | hd
  ·refine⟨_,yby,rfl,fun vals t Q hw X0 X HA tm ν hst=>?_⟩;exact Jc hW hY (.seq (.region id ops false) c) rdT rdK (fun q hq=>hR' q hq) (fun _=>ze5) (fun d hd=>hJc d hd) X0 _ _ _ _ _ _ hst hw
  ·exact up (ih rdT rdK hR' hk (fun _ _=>ze5) hJc d hd) fun q hq=>ybr _ hq
end
end
section
def Tr.mapT{α β:Type}(f:α->β)(t:Tr α):Tr β:=Tr.rec (motive:=fun _=>Tr β) .leaf (fun _ v _ l r=>.node l (match v with | some a=>some (f a) | none=>none) r) t
theorem Tr.get_mapT{α β:Type}(f:α->β):∀(t:Tr α) (n:Nat),(t.mapT f).get n=(t.get n).map f:=by
 intro t;induction t with
 | leaf=>intro n;rfl
 | node l v r ihl ihr=>
  intro n;show(Tr.node (l.mapT f) (match v with | some a=>some (f a) | none=>none) (r.mapT f)).get n=_
  grind [Tr.get_node]
def yP(F:Tr eF):Tr kD:=F.mapT eF.code
def fnB (f kf:Nat)(c:kD):Bool:=Nat.blt f yo&&(keptOk kf c&&(match eT c with | []=>true | [_]=>true | _=>false))
structure zO (C:fA) (F:Tr eF) (f:Nat) (fn:Func) (kf:Nat) (A:eF):Prop where
 isF:F.get f=some A
 isFn:C.fns.get f=some fn
 isK:C.ks.get f=some kf
 prim:sH (C.prims.get f)=true
 kept:fnB f kf A.code=true
 body:sH fn.body=false
theorem zO.lt{C:fA}{F:Tr eF}{f:Nat}{fn:Func}{kf:Nat}{A:eF}(h:zO C F f fn kf A):Nat.blt f yo=true:=by
 have:=h.kept;grind [fnB]
theorem zO.keptOk{C:fA}{F:Tr eF}{f:Nat}{fn:Func}{kf:Nat}{A:eF}(h:zO C F f fn kf A):keptOk kf A.code=true:=by
 have:=h.kept;grind [fnB]
def zO.code{C:fA}{F:Tr eF}{f:Nat}{fn:Func}{kf:Nat}{A:eF}(h:zO C F f fn kf A):(yP F).get f=some A.code:=by unfold yP;rw[Tr.get_mapT,h.isF];rfl
theorem zO.one{C:fA}{F:Tr eF}{f:Nat}{fn:Func}{kf:Nat}{A:eF}(h:zO C F f fn kf A):pQ (yP F) f A.code:=by
 have:=h.kept;unfold fnB at this;simp only[ybb]at this;intro q hq;refine⟨_,h.code,?_⟩
 grind [Kc]
def Wc (C:fA)(F:Tr eF):pI:=fun f args t Q=>∀X HA,Ov C.base t X HA->oC C.base X Q (Dq C (yP F) f args HA)
theorem Wc.mono{C:fA}{F:Tr eF}{f:Nat}{args:List zA}{t:Tr sA}{Q Q':wC}(h:Wc C F f args t Q)(k:∀v t',Q v t'->Q' v t'):Wc C F f args t Q':=fun X HA ho=>(h X HA ho).mono k
theorem Tr.bound{α:Type}(t:Tr α):∃n,∀b y,t.get b=some y->b<n:=by
 induction t with
 | leaf=>simp_all [Tr.get_leaf]
 | node l v r ihl ihr=>
  obtain⟨n,hn⟩:=ihl;obtain⟨m,hm⟩:=ihr;refine⟨2*n+2*m+3,fun b y h=>?_⟩
  grind [Tr.get_node]
def PV (C:fA)(F:Tr eF)(f:Nat)(args:List zA)(t:Tr sA)(v:zA):Prop:=Wc C F f args t fun v' t'=>v'=v/\t'=t
def PV.unique{C:fA}{F:Tr eF}{f:Nat}{args:List zA}{t:Tr sA}{v v':zA}(h:PV C F f args t v)(h':PV C F f args t v'):v=v':=by
 obtain⟨n,hn⟩:=Tr.bound t;have ho:Ov C.base t (fun _=>none) ⟨C.base+n,t⟩:=⟨Nat.le_add_right _ _,fun _ _=>rfl,fun _ _ h=>(by cases h),fun b y hb=>Nat.lt_of_lt_of_le (hn b y hb) (Nat.le_add_left _ _)⟩;obtain⟨u,t',HA',X',h1,_,_,h2,_⟩:=h _ _ ho;obtain⟨u',t'',HA'',X'',h3,_,_,h4,_⟩:=h' _ _ ho;rw[h1]at h3;cases h3;rw[<- h2,<- h4]
def vB (C:fA)(F:Tr eF)(f:Nat)(args:List zA)(t:Tr sA):Option zA:=@dite _ (∃v,PV C F f args t v) (Classical.propDecidable _) (fun h=>some h.choose) (fun _=>none)
theorem bB{C:fA}{F:Tr eF}{f:Nat}{args:List zA}{t:Tr sA}{v:zA}:vB C F f args t=some v ↔ PV C F f args t v:=by
 unfold vB;constructor
 ·intro h;by_cases hx:∃v,PV C F f args t v
  all_goals grind
 ·intro h;have hx:∃v,PV C F f args t v:=⟨v,h⟩;rw[dif_pos hx,PV.unique hx.choose_spec h]
def Wq (C:fA)(F:Tr eF)(pure:Nat->Bool):pI:=fun f args t R=>if (pure f&&Nat.blt f yo)=true then oE (vB C F f args t) fun v=>R v t else Wc C F f args t R
theorem Wq_ok{C:fA}{F:Tr eF}{pure:Nat->Bool}:yV C (yP F) (Wq C F pure):=by
 intro f args t R h X HA ho;unfold Wq at h;split at h
 ·rw[cX]at h;obtain⟨v,h1,h2⟩:=h;exact((bB.1 h1) X HA ho).mono fun v' t' hh=>by simp_all
 ·exact h X HA ho
theorem zgr{C:fA}{F:Tr eF}{pure:Nat->Bool}:Sf C (yP F) (Wq C F pure):=by
 intro l args t Q h;unfold Wq;have:Nat.blt (yo+l) yo=false:=Bool.eq_false_iff.2 fun e=>by grind [lC]
 rw[this,yay,yaa (by simp)];exact h
def Jq (C:fA)(F:Tr eF)(f:Nat):pI:=fun i vals t Q=>∀fn kf A,zO C F f fn kf A->∀d∈uM C (qD C (yP F)) f fn.ntmps A.code (sV C fn),d.p.id=i->Sj C.base kf d vals t Q
def Jq_ok{C:fA}{F:Tr eF}{f:Nat}{fn:Func}{kf:Nat}{A:eF}(h:zO C F f fn kf A):JOk C.base kf (Jq C F f) (uM C (qD C (yP F)) f fn.ntmps A.code (sV C fn)):=
 fun d hd _ _ _ hJ=>hJ fn kf A h d hd rfl
section
variable {W J:pI}{t:Tr sA}{X X0:Xt}{HA:wA}{C:fA}{A:Tr kD}{ν:Nat->Nat}{Q:wC}{kf n:Nat}{st:lG}{tm:Tm}
theorem zh0(hst:gF C.base X0 kf ν X st tm HA t):∀(l:List ResultVar) (K:List zA->T),lA C.base W J (Fm C st l K) t Q->∃vs,nX C HA tm l=some vs/\lA C.base W J (K vs) t Q:=by
 intro l;induction l with
 | nil=>intro K h;exact⟨[],rfl,h⟩
 | cons r l ih=>
  intro K h
  cases r with
  | tmp i=>
   have h:lA C.base W J (tC (st.tm.get i) fun v=>Fm C st l fun l=>K (v::l)) t Q:=h;rw[wE]at h;obtain⟨v,h1,h2⟩:=h;obtain⟨vs,h3,h4⟩:=ih _ h2;refine⟨v::vs,?_,h4⟩;show iG (bZ C HA tm) _=_;rw[nN];show ob (tm.get i) _=_;rw[hst.tms _ _ h1,pA];have h3:iG (bZ C HA tm) l=some vs:=h3;rw[h3];rfl
  | cell a ty=>
   have h:lA C.base W J (match qK a st.ad with
    | some p=>tC (st.lo.get p.1) fun m=>tC (C.tys.get ty) fun y=>mJ (Nat.ble (p.2+y.size) (kB m)) (tC (lO C ty m p.2) fun v=>Fm C st l fun l=>K (v::l))
    | none=>tC (st.tm.get a) fun a=>.light (fun m=>dA C ty ⟨0,m⟩ a) fun v=>Fm C st l fun l=>K (v::l)) t Q:=h
   have cC:∀ {u v:zA},tm.get a=some u->dA C ty HA u=some v->lA C.base W J (Fm C st l fun l=>K (v::l)) t Q->∃vs,nX C HA tm (.cell a ty::l)=some vs/\lA C.base W J (K vs) t Q:=by
    intro u v h1 h2 h3;obtain⟨vs,h4,h5⟩:=ih _ h3;refine⟨v::vs,?_,h5⟩;show iG (bZ C HA tm) _=_;rw[nN];have e:bZ C HA tm (.cell a ty)=some v:=by
     show(ob (ob (tm.get a) zA.asPtr) fun p=>ob (C.tys.get ty) fun ty=>ob (oD HA p.1) fun c=>xR ty c.1 p.2)=some v
     grind [dA,pA]
    have h4:iG (bZ C HA tm) l=some vs:=h4
    simp_all
   split at h
   ·rename_i p hp;simp only[wE,mM]at h;obtain⟨m,h1,y,h2,h3,v,h4,h5⟩:=h;exact cC (hst.ads _ _ hp) (HN hst.ov hst.lo h1 h2 h3 h4) h5
   ·simp only[wE,Ei]at h;obtain⟨u,h1,v,h2,h3⟩:=h;exact cC (hst.tms _ _ h1) (It hst.ov.le h2) h3
def MA{fn:Func}:SK C W J X0 kf Q (endT C fn) (endK C fn):=by
 intro st tm HA t X ν hst h;obtain⟨vs,h1,h2⟩:=zh0 hst _ _ h;unfold endK;exact oC.ob h1 ⟨_,t,HA,X,rfl,hst.ov,hst.le,h2⟩
def CG{fn:Func}:SKt C W J X0 kf Q (topT C fn) (sV C fn):=⟨MA,fun _ _ _ _ _ _ _ _ h=>h.elim,MA⟩
end
section
variable {C:fA}{F:Tr eF}{f:Nat}{fn:Func}{kf:Nat}{A:eF}{pure:Nat->Bool}{t:Tr sA}{Q:wC}
theorem zj7(h:zO C F f fn kf A){args:List zA}(hl:(Nat.ble (kB args) kf&&Nat.ble (kB args) fn.ntmps)=true)(hw:lA C.base (Wq C F pure) (Jq C F f) (entT C fn kf f A args) t Q):Wc C F f args t Q:=by
 intro X HA ho;have hA:=h.code;obtain⟨body,hb⟩:∃b,fn.body=some b:=by
  cases hx:fn.body with
  | none=>have:=h.body;rw[hx]at this;cases this
  | some b=>simp_all
 have he:kL C f args false=some ⟨[.code body],⟨kf,Tr.ofList args,[]⟩,⟨f,fn.ntmps,[],.run,false,none⟩⟩:=by
  unfold kL;rw[h.isFn,pA,hb,pA,h.isK,pA,hl];rfl
 have hp:C.prims.get f=none:=by
  cases hx:C.prims.get f with
  | none=>rfl
  | some g=>have:=h.prim;rw[hx]at this;cases this
 rw[Hf h.lt,hp];show oC C.base X Q (qD C (yP F) (.func f) args HA);rw[zgl];show oC C.base X Q (jS C (yP F) (qD C (yP F)) f args HA);unfold jS;refine oC.ob hA (oC.ob h.isFn (oC.ob he ?_));have hst:gF C.base X kf (fun i=>i) X ⟨⟨kf,Tr.ofList args,[]⟩,[],.leaf,[]⟩ ⟨kf,Tr.ofList args,[]⟩ HA t:=
  ⟨ho,sJ.refl _,rfl,rfl,fun _ _ h=>h,fun _ _ h=>(by cases h),fun d l h=>(by grind [Tr.get_leaf]),fun d _ l _ h=>(by omega)⟩
 exact Jc Wq_ok zgr A.code (topT C fn) (sV C fn) h.one (fun _=>CG) (Jq_ok h) _ _ _ _ _ _ _ hst hw
theorem Jq_of(h:zO C F f fn kf A){i:Nat}{vals:List zA}{l:List T}(hp:Jy (ptsT C fn kf f A) i vals=l)(hw:∀T∈l,lA C.base (Wq C F pure) (Jq C F f) T t Q):Jq C F f i vals t Q:=by
 intro fn' kf' A' h' d hd hi;have e1:=h.isFn;rw[h'.isFn]at e1;cases e1;have e2:=h.isK;rw[h'.isK]at e2;cases e2;have e3:=h.isF;rw[h'.isF]at e3;cases e3;obtain⟨q,h1,h2,h3⟩:=UI (W:=Wq C F pure) Wq_ok zgr A.code (topT C fn) (sV C fn) h.one h.keptOk (fun _ _=>CG) (Jq_ok h) d hd;refine h3 vals t Q (hw _ ?_);subst hp;have key:∀(l:List PtT),q∈l->q.tree vals∈Jy l i vals:=by
  intro l;induction l with
  | nil=>simp_all
  | cons p l ih=>
   grind [Jy,bC]
 exact key _ h1
def Jq_of1(h:zO C F f fn kf A){i:Nat}{vals:List zA}{T:T}(hp:Jy (ptsT C fn kf f A) i vals=[T])(hw:lA C.base (Wq C F pure) (Jq C F f) T t Q):Jq C F f i vals t Q:=
 Jq_of h hp fun T' hT=>by rw[ydd.1 hT];exact hw
theorem Jq.mono{i:Nat}{vals:List zA}{Q':wC}(h:Jq C F f i vals t Q)(k:∀v t',Q v t'->Q' v t'):Jq C F f i vals t Q':=
 fun fn kf A hf d hd hi X0 X HA tm ν hst=>(h fn kf A hf d hd hi X0 X HA tm ν hst).mono k
theorem Wc_pv{args:List zA}{v:zA}(h:vB C F f args t=some v)(hq:Q v t):Wc C F f args t Q:=(bB.1 h).mono fun _ _ hh=>by simp_all
theorem Oj{g:List zA->wA->Option zA}(hg:C.prims.get f=some (qN g)){args:List zA}{v:zA}(h:∀H,g args H=some v)(hf:Nat.blt f yo=true:=by rfl):vB C F f args t=some v:=by
 refine bB.2 fun X HA ho=>?_;rw[Hf hf,hg];exact⟨v,t,HA,X,by grind [qN,pA],ho,sJ.refl _,rfl,rfl⟩
theorem rN{args:List zA}{v:zA}(h:Wc C F f args t fun v' t'=>v'=v/\∀b y,t.get b=some y->t'.get b=some y):vB C F f args t=some v:=by
 refine bB.2 fun X HA ho=>?_;obtain⟨u,t',HA',X',h1,h2,h3,h4,h5⟩:=h X HA ho;refine⟨u,t,HA',fun b=>match t.get b with | some _=>none | none=>HA'.t.get b,h1,⟨h2.base,?_,?_,?_⟩,?_,h4,rfl⟩
 ·intro b hb
  cases hg:t.get b with
  | some y=>rw[h2.up (h5 b y hg)]
  | none=>simp_all
 ·intro b y hb
  cases hg:t.get b with
  | some y=>simp_all
  | none=>
   simp only[hg]at hb;refine⟨hb,rfl,?_⟩
   cases hx:X' b with
   | some z=>exact(h2.ext b z hx).2.2
   | none=>rw[h2.same b hx]at hb;exact h2.lt b y hb
 ·intro b y hb;exact h2.lt b y (h5 b y hb)
 ·intro b y hb;have hn:=(ho.ext b y hb).2.1;simp only[hn];exact(h2.ext b y (h3 b y hb)).1
end
theorem YW{P:Program}{C:fA}{F:Tr eF}{B N:Nat}{I:World->Prop}{μ:Mu}{w:World}(hS:rJ P C B N I)(hI:I w)(hA:Ee C (yP F)){f:Nat}(hp:C.prims.get f=none){args:List zA}{args':Array Value}{H:wA}{Q:wC}(hbase:C.base<=H.next)(hlt:∀b y,H.t.get b=some y->b<H.next)(hH:jB B N μ H w)(hl:iB μ args args'.toList)
  (h:Wc C F f args H.t Q) (hf:Nat.blt f yo=true:=by rfl):Calls P f args' w fun e w'=>∃v v' t' μ',e=.returned v'/\μ.lw μ'/\uA μ' v v'/\Q v t'/\Below N w w':=by
 obtain⟨v,t',HA',X',h1,h2,h3,h4⟩:=h (fun _=>none) H ⟨hbase,fun _ _=>rfl,fun _ _ h=>(by cases h),hlt⟩;rw[Hf hf,hp]at h1;intro base;obtain⟨e,w',b,⟨v',μ',g1,g2,g3,g4,g5⟩,g6⟩:=YU hS hI hA hH hl h1 base
 grind
end
section
def piOf (i:Nat)(l:List (Nat × PI)):Option PI:=List.rec (motive:=fun _=>Option PI) none (fun a _ g=>bif Nat.beq i a.1 then some a.2 else g) l
def cutP (p:Option PI)(c:kD):kD:=
 match p with
 | some p=>.cut p c
 | none=>c
def zif(p:Option PI)(c:kD):kD:=
 match p with
 | some p=>.loop p c
 | none=>.loop ⟨0,[],[]⟩ c
def rangeP(p:Option PI)(f:Operand)(ps:Array Nat)(a:Code)(c:kD):kD:=
 match a with
 | .region id ops _=>.range (match p with | some p=>p.id | none=>0) (match p with | some p=>p.pl | none=>[]) f ps id ops c
 | _=>.skip
def KE:Code->Bool
 | .region _ _ d => !d
 | _=>false
def sZ(rt lt:List (Nat × PI))(c:Code):Nat->kD:=
 Code.rec (motive:=fun _=>Nat->kD)
  (fun _=>.skip)
  (fun id ops d _=>cutP (piOf id rt) (.region id ops d))
  (fun _ _ ga gb k=>.seq (ga k) (gb k))
  (fun c _ _ gx gy k=>.cond c (gx k) (gy k))
  (fun id _ g _=>.block id (g id))
  (fun _ g k=>zif (piOf k lt) (g k))
  (fun f ps a _ _ gb k=>rangeP (piOf k lt) f ps a (gb k))
  (fun id _=>.exit id)
  (fun _ _ _=>.skip)
  (fun _ _=>.skip)
  (fun _ _=>.skip)
  (fun _=>.ret)
  (fun _ _=>.skip) c
def annot(rt lt:List (Nat × PI))(k:Nat)(c:Code):kD:=sZ rt lt c k
def wS(c:Code):Bool:=
 Code.rec (motive:=fun _=>Bool) true (fun _ _ _=>true) (fun _ _ a b=>bif a then b else false) (fun _ _ _ a b=>bif a then b else false) (fun _ _ a=>a) (fun _ a=>a)
  (fun _ _ a _ _ b=>bif KE a then b else false) (fun _=>true) (fun _ _=>false) (fun _=>false) (fun _=>false) true (fun _=>false) c
def XS(p:Option PI)(c:kD):bF (cutP p c)=bF c:=by cases p<;>rfl
def XR(p:Option PI)(c:kD):bF (zif p c)=.loop (bF c):=by cases p<;>rfl
def XT{rt lt:List (Nat × PI)}:∀(c:Code) (k:Nat),wS c=true->bF (sZ rt lt c k)=c:=by
 intro c;induction c with
 | skip=>intro k _;rfl
 | region id ops d=>intro k _;show bF (cutP _ _)=_;rw[XS];rfl
 | seq a b iha ihb=>
  intro k h;have h:(bif wS a then wS b else false)=true:=h;have ha:wS a=true:=by simp_all
  have hb:wS b=true:=by simp_all
  show Code.seq (bF (sZ rt lt a k)) (bF (sZ rt lt b k))=_;rw[iha k ha,ihb k hb]
 | cond c x y ihx ihy=>
  intro k h;have h:(bif wS x then wS y else false)=true:=h;have ha:wS x=true:=by simp_all
  have hb:wS y=true:=by simp_all
  show Code.cond c (bF (sZ rt lt x k)) (bF (sZ rt lt y k))=_;rw[ihx k ha,ihy k hb]
 | block id c ih=>intro k h;show Code.block id (bF (sZ rt lt c id))=_;rw[ih id h]
 | loop c ih=>intro k h;show bF (zif _ (sZ rt lt c k))=_;rw[XR,ih k h]
 | exit id=>intro k _;rfl
 | ret=>intro k _;rfl
 | rangeFunc f ps a b _ ihb=>
  intro k h;have h:(bif KE a then wS b else false)=true:=h
  cases a with
  | region id ops d=>
   cases d with
   | true=>cases h
   | false=>show Code.rangeFunc f ps (.region id ops false) (bF (sZ rt lt b k))=_;rw[ihb k h]
  | _=>cases h
 | scope c _=>intro k h;cases h
 | label l=>intro k h;cases h
 | goto l=>intro k h;cases h
 | refuse s=>intro k h;cases h
def Ez (l:List (Nat × eF)):Tr eF:=List.rec (motive:=fun _=>Tr eF) .leaf (fun p _ g=>g.set p.1 p.2) l
def zbn{l:List (Nat × eF)}{f:Nat}{A:eF}(h:(Ez l).get f=some A):(f,A)∈l:=by
 induction l with
 | nil=>grind [Ez,Tr.get_leaf]
 | cons p l ih=>
  grind [Ez,Tr.get_set]
def zgs(C:fA)(p:Nat × eF):Prop:=∃fn c,C.fns.get p.1=some fn/\fn.body=some c/\bF p.2.code=c
def bodyOk{C:fA}{f:Nat}{fn:Func}{c:Code}{rt lt:List (Nat × PI)}{la:List Nat}(h1:C.fns.get f=some fn)(h2:fn.body=some c)(h3:wS c=true):zgs C (f,⟨annot rt lt 0 c,la⟩):=⟨fn,c,h1,h2,XT c 0 h3⟩
def YO{C:fA}{l:List (Nat × eF)}(h:∀p∈l,zgs C p):Ee C (yP (Ez l)):=by
 intro f c hc;unfold yP at hc;rw[Tr.get_mapT]at hc
 cases hq:(Ez l).get f with
 | none=>simp_all
 | some A=>
  rw[hq]at hc;cases hc;obtain⟨fn,b,h1,h2,h3⟩:=h _ (zbn hq)
  simp_all
end
end Go.Am
namespace Go.Am
class kC where
 n:Nat
def Oy(a:List zA)(_:wA):Option zA:=match a with | []=>some (.bool true) | _=>none
def mU:List Nat->List Nat->Bool
 | [],_=>true
 | _::_,[]=>false
 | a::x,b::y=>bif Nat.beq a b then mU x y else false
def cutL (sub:List Nat):List Nat->Option (List Nat × List Nat)
 | []=>bif sub.isEmpty then some ([],[])else none
 | b::l=>bif mU sub (b::l)then some ([],xQ (b::l) (kB sub))else ob (cutL sub l) fun p=>some (b::p.1,p.2)
def pCut (a:List zA)(_:wA):Option zA:=match a with
 | [.str s,.str c]=>mB (Nat.blt (kB s) 4294967281) (match cutL c s with
  | some p=>some (.tup [.str p.1,.str p.2,.bool true])
  | none=>some (.tup [.str s,.str [],.bool false]))
 | _=>none
def mH(n:Int):List Nat:=(Lib.itoa n).map UInt8.toNat
def Ga(a:List zA)(_:wA):Option zA:=match a with
 | [.int .i64 n]=>mB (qC (-9223372036854775808) n&&lB n 9223372036854775808) (some (.str (mH n)))
 | _=>none
def Ka(a:List zA)(_:wA):Option zA:=match a with
 | [.int .u64 n,.int .i64 b]=>mB (qC 0 n&&lB n 18446744073709551616&&zB b 10) (some (.str (mH n)))
 | _=>none
end Go.Am
namespace Go.Am
open Go Go.Shelf Go.RowKit Go.Proofs
variable {P:Program}{ρ:Ren}
set_option maxHeartbeats 2000000 in
set_option maxRecDepth 100000 in
theorem XX(L:Lays.n169 P ρ)(X:Builder.Extra P ρ)(b g cap cells:Nat)(l:List UInt8)(w:World)(c1:w.cell? ⟨b,1,none⟩=some (.slice (some ⟨g,0,none⟩) l.length cap))(h0:l≠[])(hcap:l.length<=cap)
  (hsh:w.shape? g=some (ρ.t 5,cells)) (hc:l.length<=cells) (h63:l.length<=9223372036854775807) (hcell:∀j x,l[j]?=some x->w.cell? ((⟨g,0,none⟩:Addr).add j)=some (.int .u8 x.toNat)) :
  Calls P (ρ.f 169) #[.pointer (some ⟨b,0,none⟩)] w fun e w'=>e=.returned (.string ⟨l.toArray⟩)/\w'=w.drew.freeze ⟨g,0,none⟩ l.length:=by
 have hl0:l.length≠0:=by simp_all
 have c1:w.drew.cell? ⟨b,1,none⟩=some (.slice (some ⟨g,0,none⟩) l.length cap):=c1;have hSD:(Builtin.unsafeSliceData_ #[(ρ.t 37)] (ρ.t 127) #[.slice (some ⟨g,0,none⟩) l.length cap]).run P w.drew=.ok (.pointer (some ⟨g,0,none⟩)) w.drew:=
  Lib.run_unsafeSliceData_row _ _ _ _ _ _ (by omega)
 have hUS:(Builtin.unsafeString_ #[(ρ.t 127),(ρ.t 3)] (ρ.t 9) #[.pointer (some ⟨g,0,none⟩),.int .i64 l.length]).run P w.drew=.ok (.string ⟨l.toArray⟩) (w.drew.freeze ⟨g,0,none⟩ l.length):=
  Lib.run_unsafeString_row w.drew (ρ.t 127) (ρ.t 3) (ρ.t 9) (ρ.t 5) L.t127 X.cellsByte g cells hsh l h0 hc h63 hcell
 have mixed:=L.mixed;have t72:=L.t72;have a72:=L.a72;have z72:=L.z72;have v72:=L.v72;have u72:=run_underlying L.t72;have t70:=L.t70;have a70:=L.a70;have z70:=L.z70;have v70:=L.v70;have u70:=run_underlying L.t70;have t37:=L.t37;have a37:=L.a37;have z37:=L.z37;have v37:=L.v37;have u37:=run_underlying L.t37;have t127:=L.t127;have a127:=L.a127;have z127:=L.z127;have v127:=L.v127;have u127:=run_underlying L.t127
 have t3:=L.t3;have a3:=L.a3;have z3:=L.z3;have v3:=L.v3;have u3:=run_underlying L.t3;have t9:=L.t9;have a9:=L.a9;have z9:=L.z9;have v9:=L.v9;have u9:=run_underlying L.t9;have t5:=X.t5;have a5:=X.a5;have z5:=X.z5;have v5:=X.v5;have u5:=run_underlying X.t5
 go_enter L.f169,Body.n169_ntmps ρ
 go_wp2
 go_region_o
 all_goals (go_wp2;go_ret;simp_all)
end Go.Am
namespace Go.Am
open Go Go.Shelf Go.RowKit Go.Proofs
section
variable {P:Program}{ρ:Ren}{B N:Nat}{μ:Mu}{H:wA}{w:World}
theorem jB.scratch(hH:jB B N μ H w){g:Nat}(hg:N<=g)(hfree:∀a x j,H.t.get a=some x->μ a=some j->j.b≠g)(o':Obj):jB B N μ H (World.setBlk w g o'):=by
 have hsz:(World.setBlk w g o').heap.size=w.heap.size:=by simp[World.setBlk]
 refine⟨hH.base,hH.glob,hH.low,hH.next,by rw[hsz];exact hH.size,hH.fresh,fun a x i hx hi=>?_,fun a i ha hi=>by rw[hsz];exact hH.own a i ha hi,hH.inj,hH.pnd⟩;obtain⟨o,h1,h2⟩:=hH.blk a x i hx hi
 grind [Cl]
def Ko:List (Nat × Nat)->Nat->Nat->Bool
 | [],_,_=>false
 | p::r,t,n=>bif Nat.beq p.1 t&&Nat.ble p.2 n then true else Ko r t n
theorem HE:∀ {Ts:List (Nat × Nat)} {t n:Nat},Ko Ts t n=true->∃p∈Ts,p.1=t/\p.2<=n
 | [],_,_,h=>by cases h
 | p::r,t,n,h=>by
  unfold Ko at h;rw[sD]at h;split at h
  ·simp_all
  ·obtain⟨q,h1,h2⟩:=HE h
   grind
def Cr(base:Nat)(Ts:List (Nat × Nat))(args:List zA)(H:wA):Option (zA × wA):=
 match args with
 | [.ptr b 0]=>ob (oD H b) fun c=>ob (c.1.get 0) fun v=>match v with
  | .nilptr=>mB (!Nat.blt b base&&(match c.2.2 with | some (.ty t)=>Ko Ts t c.2.1 | _=>false)) (some (.tup [],setBlk H b (.cells (c.1.set 0 (.ptr b 0)) c.2.1 c.2.2)))
  | .ptr d o=>mB (Nat.beq d b&&Nat.beq o 0) (some (.tup [],H))
  | _=>none
 | _=>none
theorem UO{f:Nat}{Ts:List (Nat × Nat)}{base:Nat}(hbase:B<=base)
  (hfresh:∀p∈Ts,∀(b n:Nat) (w:World),w.cell? ⟨b,0,none⟩=some (.pointer none)->w.shape? b=some (p.1,n)->p.2<=n->w.frozen? ⟨b,0,none⟩=false->Calls P f #[.pointer (some ⟨b,0,none⟩)] w fun e w'=>e=.returned (.tuple #[])/\w'=w.setCell ⟨b,0,none⟩ (.pointer (some ⟨b,0,none⟩)))
  (hused:∀(b:Nat) (w:World),w.cell? ⟨b,0,none⟩=some (.pointer (some ⟨b,0,none⟩))->Calls P f #[.pointer (some ⟨b,0,none⟩)] w fun e w'=>e=.returned (.tuple #[])/\w'=w)
  (henter:∀(w:World) (a:Array Value),(callFunc f a).run P w=.ok (.enter f a) w) {args:List zA} {args':Array Value} {v:zA} {H':wA} (hH:jB B N μ H w) (hv:Cr base Ts args H=some (v,H')) (hl:iB μ args args'.toList) :
  (callFunc f args').run P w=.ok (.enter f args') w/\Calls P f args' w fun e w'=>∃v' μ',e=.returned v'/\μ.le μ'/\jB B N μ' H' w'/\Below N w w'/\uA μ' v v':=by
 refine⟨henter w args',?_⟩;unfold Cr at hv;split at hv
 case h_2=>cases hv
 rename_i b;rw[iB]at hl;obtain⟨u,r,h1,h2,h3⟩:=hl;rw[iB]at h3;subst h3;rw[uA]at h2;obtain⟨i,hi,rfl⟩:=h2;have ha:args' = #[.pointer (some ⟨i.b,0,none⟩)]:=by apply yax.1;rw[h1]
 subst ha;rw[rA]at hv;obtain⟨⟨c,n,lo⟩,hc,hv⟩:=hv;rw[rA]at hv;obtain⟨v0,h0,hv⟩:=hv;have hx:=Bf hc;obtain⟨o,g1,g2⟩:=hH.blk _ _ _ hx hi;have g2':=g2;obtain⟨cs,E,fr,rfl,g3,g4,g5,g6⟩:=g2;obtain⟨hn,u,hu,hr⟩:=g5 0 v0 h0;have g3:n<=cs.size:=g3;have hn:0<n:=hn;have hcell0:w.cell? ⟨i.b,0,none⟩=some u:=by grind [World.cell?]
 have hundef:uA μ (.tup []) (.tuple #[]):=by rw[uA];exact⟨#[],rfl,.nil⟩
 split at hv
 ·rw[uA]at hr;subst hr;simp only[fB,ybb,ycp]at hv;obtain⟨⟨hb,ht⟩,hv⟩:=hv;cases hv;have hown:B<=b:=by
   grind [lC]
  have hNb:=hH.own b i hown hi;have hfr:=g4.resolve_left (by simp_all);have hE:∃p∈Ts,p.1=E/\p.2<=n:=by
   grind [HE]
  obtain⟨p,hpT,hpE,hpn⟩:=hE;subst hpE;refine(hfresh p hpT i.b cs.size w hcell0 (by unfold World.shape?;rw[g1]) (Nat.le_trans hpn g3) ?_).mono ?_
  ·grind [World.frozen?]
  ·rintro e w' ⟨rfl,rfl⟩;rw[ED g1];refine⟨_,μ,rfl,μ.le_refl,hH.upd hx hi hown ?_,jW hNb.1,hundef⟩;refine⟨_,_,fr,rfl,by simp_all,by simp_all,fun j x hj=>?_,by simp_all⟩
   grind [Tr.get_set,uA]
 ·rename_i d o;simp only[fB,ybb,bC]at hv;obtain⟨⟨rfl,rfl⟩,hv⟩:=hv;cases hv;rw[uA]at hr;obtain⟨i',hi',rfl⟩:=hr;rw[hi]at hi';cases hi';refine(hused i.b w hcell0).mono ?_;rintro e w' ⟨rfl,rfl⟩;exact⟨_,μ,rfl,μ.le_refl,hH,Below.refl _ _,hundef⟩
 grind
theorem zcr{α β:Type}{f:α->Option β}:∀ {l:List α} {r:List β},iG f l=some r->r.length=l.length/\∀(t:Nat) k,r[t]?=some k->∃y,l[t]?=some y/\f y=some k:=by
 intro l;induction l with
 | nil=>grind [Cw]
 | cons a l ih=>
  grind [nN,rA]
theorem zec{k:Nat}(h:k<256):(UInt8.ofNat k).toNat=k:=by
 simp_all
def byteOf:zA->Option Nat
 | .int .u8 (.ofNat k)=>mB (Nat.blt k 256) (some k)
 | _=>none
theorem ZD{v:zA}{k:Nat}(h:byteOf v=some k):v=.int .u8 (k:Int)/\k<256:=by
 unfold byteOf at h;split at h
 all_goals grind [fB,lC]
def Fz(base U:Nat)(args:List zA)(H:wA):Option (zA × wA):=
 match args with
 | [.ptr b 0]=>ob (oD H b) fun c=>ob (c.1.get 1) fun v=>ob v.asSlice fun s=>ob (oD H s.1) fun d=>ob (d.1.many s.2.2.1 0) fun m=>ob (iG byteOf m) fun l=>
  mB (!Nat.blt s.1 base&&Nat.beq s.2.1 0&&Nat.blt 0 s.2.2.1&&Nat.ble s.2.2.1 s.2.2.2&&Nat.ble s.2.2.1 d.2.1&&Nat.blt s.2.2.1 1000000000&&(match d.2.2 with | some (.ty t)=>Nat.beq t U | _=>false)) (some (.str l,⟨H.next,H.t.del s.1⟩))
 | _=>none
theorem UN{f:Nat}(L:Lays.n169 P ρ)(X:Builder.Extra P ρ)(hf:ρ.f 169=f){base:Nat}(hbase:B<=base)
  (henter:∀(w:World) (a:Array Value),(callFunc f a).run P w=.ok (.enter f a) w) {args:List zA} {args':Array Value} {v:zA} {H':wA} (hH:jB B N μ H w) (hv:Fz base (ρ.t 5) args H=some (v,H')) (hl:iB μ args args'.toList) :
  (callFunc f args').run P w=.ok (.enter f args') w/\Calls P f args' w fun e w'=>∃v' μ',e=.returned v'/\μ.le μ'/\jB B N μ' H' w'/\Below N w w'/\uA μ' v v':=by
 refine⟨henter w args',?_⟩;subst hf;unfold Fz at hv;split at hv
 case h_2=>cases hv
 rename_i b;rw[iB]at hl;obtain⟨u,r,h1,h2,h3⟩:=hl;rw[iB]at h3;subst h3;rw[uA]at h2;obtain⟨i,hi,rfl⟩:=h2;have ha:args' = #[.pointer (some ⟨i.b,0,none⟩)]:=by apply yax.1;rw[h1]
 subst ha;simp only[rA,fB,ybb,ycp,Bg]at hv;obtain⟨⟨c,n,lo⟩,hc,v0,h0,⟨g,off,len,cap⟩,rfl,⟨d,m,lo2⟩,hd,ml,hm,l,hlm,⟨⟨⟨⟨⟨⟨q1,q2⟩,q3⟩,q4⟩,q5⟩,q6⟩,q7⟩,hv⟩:=hv;cases hv;have q2:off=0:=bC.1 q2;have q3:0<len:=lC.1 q3;have q4:len<=cap:=rF.1 q4;have q5:len<=m:=rF.1 q5;have q6:len<1000000000:=lC.1 q6;subst q2;have hx:=Bf hc;obtain⟨o,g1,cs,E,fr,rfl,g3,g4,g5,g6⟩:=hH.blk _ _ _ hx hi
 obtain⟨hn,u,hu,hr⟩:=g5 1 _ h0;rw[uA]at hr;rcases hr with⟨j,cap',hj,rfl,hcap,_,_⟩ | ⟨_,hz,_⟩
 case inr=>simp_all
 have hcap:cap<=cap':=hcap;have hx2:=Bf hd;obtain⟨o2,k1,cs2,E2,fr2,rfl,k3,k4,k5,k6⟩:=hH.blk _ _ _ hx2 hj;have k3:m<=cs2.size:=k3;have hE:E2=ρ.t 5:=by
  grind [bC]
 subst hE;have hown:B<=g:=by
  grind [lC]
 have hNb:=hH.own g j hown hj;obtain⟨m1,m2⟩:=Tr.many_some _ _ _ _ hm;obtain⟨hll,hla⟩:=zcr hlm
 let bs:List UInt8:=l.map UInt8.ofNat
 have hbl:bs.length=len:=by grind
 have hby:∀(t:Nat) k,l[t]?=some k->ml[t]?=some (.int .u8 (k:Int))/\k<256:=by
  grind [ZD]
 have hcell:∀t x,bs[t]?=some x->w.cell? ((⟨j.b,0,none⟩:Addr).add t)=some (.int .u8 x.toNat):=by
  intro t x ht;simp only[bs,ybu,yar]at ht;obtain⟨k,e1,rfl⟩:=ht;obtain⟨e2,e3⟩:=hby t k e1;have hg:=m2 t (by grind);rw[ybw,e2]at hg;obtain⟨_,y,e4,e5⟩:=k5 t _ hg;rw[uA]at e5;subst e5;rw[gW];unfold World.cell?;simp only[k1];simp only[ybw];show cs2[t]?=_;rw[e4,zec e3]
 have c1:w.cell? ⟨i.b,1,none⟩=some (.slice (some ⟨j.b,0,none⟩) bs.length cap'):=by
  grind [World.cell?]
 have hne:bs≠[]:=by grind
 refine(XX L X i.b j.b cap' cs2.size bs w c1 hne (by omega) (by unfold World.shape?;rw[k1]) (by omega) (by omega) hcell).mono ?_;rintro e w' ⟨rfl,rfl⟩;have hfz:∃o',w.drew.freeze ⟨j.b,0,none⟩ bs.length=World.setBlk w.drew j.b o':=by
  unfold World.freeze;rw[yaa (by omega)];refine⟨.cells cs2 (ρ.t 5) (if fr2.1 == fr2.2 then(0,0+bs.length)else(min fr2.1 0,max fr2.2 (0+bs.length))),?_⟩;unfold World.setBlk;congr 1;apply Array.ext_getElem?;intro k;rw[Array.getElem?_modify,ycs];have hk1:w.drew.heap[j.b]?=some (.cells cs2 (ρ.t 5) fr2):=k1
  grind
 obtain⟨o',ho'⟩:=hfz;rw[ho'];have hdrop:=hH.drew.drop g (fun x t e=>by have:=(hH.pnd _ _ _ e).1;simp_all);refine⟨_,μ,rfl,μ.le_refl,hdrop.scratch hNb.1 (fun a x k hax hak e=>?_) o',(Hl).trans (jW hNb.1),?_⟩
 ·have hax':(if a=g then none else H.t.get a)=some x:=by grind [Tr.get_del]
  split at hax'
  ·cases hax'
  ·rename_i hne;by_cases hab:B<=a
   ·exact hne (hH.inj a g x _ k j hax' hx2 hak hj hab hown e)
   ·have:=(hH.low a x k (by omega) hax' hak).1;omega
 ·rw[uA];refine⟨_,rfl,?_⟩;unfold kF;show bs.map UInt8.toNat=l;simp only[bs,List.map_map];have:∀k∈l,(UInt8.toNat ∘ UInt8.ofNat) k=k:=by
   grind [List.mem_iff_getElem?,zec]
  rw[List.map_congr_left this,List.map_id']
end
end Go.Am
set_option maxRecDepth 100000
namespace Go.Am
open Go Go.RowKit
def Lf(c:Nat):List Nat->Option Nat
 | []=>none
 | x::r=>bif Nat.beq x c then some 0 else ob (Lf c r) fun n=>some (n+1)
def zZ(sub:List Nat):List Nat->Bool
 | []=>sub.isEmpty
 | b::l=>bif mU sub (b::l)then true else zZ sub l
def Xi(a:List zA)(_:wA):Option zA:=match a with | [.str s,.int .u8 (.ofNat c)]=>mB (Nat.blt c 256) (some (.int .i64 (match Lf c s with | some n=>.ofNat n | none=>.negSucc 0))) | _=>none
def Gb(a:List zA)(_:wA):Option zA:=match a with | [.str s,.str c]=>mB (Nat.blt (kB s) 4294967281) (some (.bool (zZ c s))) | _=>none
def glob (g:Nat)(l:List zA)(t:Tr sA):Tr sA:=t.set g (.cells (Tr.ofList l) (kB l) none)
def cC:pF->Nat
 | .next _=>0
 | .done v _=>match v.asBool with
  | some true=>1
  | _=>2
 | .fail n=>100+n
def tX(C:fA)(f:Nat)(args:List zA)(H:wA):pF:=match kL C f args false with
 | some fr=>.next ⟨fr,[],H⟩
 | none=>.fail 0
theorem JY:∀(c s:List UInt8),mU (c.map UInt8.toNat) (s.map UInt8.toNat)=c.isPrefixOf s
 | [],_=>by simp[mU]
 | _::_,[]=>rfl
 | a::x,b::y=>by
  simp only[ycm,mU,sD,JY x y,List.isPrefixOf];grind [UInt8.toNat_inj,bC]
def MQ(c:List UInt8):∀s:List UInt8,zZ (c.map UInt8.toNat) (s.map UInt8.toNat)=Lib.contains s c
 | []=>by cases c<;>simp[zZ,Lib.contains,Lib.index]
 | b::l=>by
  have ih:=MQ c l
  grind [JY,zZ,Lib.contains,Lib.index]
def KI(c:UInt8):∀s:List UInt8,(match Lf c.toNat (s.map UInt8.toNat)with | some n=>Int.ofNat n | none=>.negSucc 0)=Lib.indexByte s c
 | []=>rfl
 | b::l=>by
  have ih:=KI c l;simp only[ycm,Lf,sD];rw[Lib.indexByte];by_cases h:b=c
  ·subst h;simp
  ·have:¬ Nat.beq b.toNat c.toNat=true:=fun e=>h (UInt8.toNat_inj.1 (bC.1 e));rw[yaa this];simp only[beq_iff_eq,h,if_false]
   cases hx:Lf c.toNat (l.map UInt8.toNat)with
   | none=>simp_all
   | some n=>
    grind [pA]
def Zs:lD->lD->Bool
 | .bool,.bool=>true
 | .int k,.int j=>lN k j
 | .string,.string=>true
 | .ptr a,.ptr b=>Nat.beq a b
 | .slice a,.slice b=>Nat.beq a b
 | .arr a c,.arr b d=>Nat.beq a b&&Nat.beq c d
 | .map a c,.map b d=>Nat.beq a b&&Nat.beq c d
 | .struct f,.struct g=>decide (f=g)
 | .func,.func=>true
 | .iface,.iface=>true
 | .other,.other=>true
 | _,_=>false
def zai{a b:lD}(h:Zs a b=true):a=b:=by
 cases a<;>cases b<;>simp[Zs,dK]at h ⊢<;>first | exact h | exact⟨h.1,h.2⟩
def eqTy (a b:eC):Bool:=Zs a.desc b.desc&&Nat.beq a.size b.size&&Nat.beq a.bytes b.bytes&&same.sames 10 a.zero b.zero&&bEq a.eqOk b.eqOk
def zjl{a b:eC}(h:eqTy a b=true):a=b:=by
 obtain⟨d,s,y,z,e⟩:=a;obtain⟨d',s',y',z',e'⟩:=b;simp only[eqTy,ybb,bC,dS,beq_iff_eq]at h;obtain⟨⟨⟨⟨h1,h2⟩,h3⟩,h4⟩,h5⟩:=h;rw[zai h1,h2,h3,Vv _ _ _ h4,h5]
def Dz {α:Type}(p:Nat->α->Bool):Tr α->(Nat->Nat)->Bool
 | .leaf,_=>true
 | .node l v r,f=>(match v with | some v=>p (f 0) v | none=>true)&&Dz p l (fun m=>f (2*m+1))&&Dz p r (fun m=>f (2*m+2))
def zj5{α:Type}{p:Nat->α->Bool}:∀(t:Tr α) (f:Nat->Nat),Dz p t f=true->∀(n:Nat) v,t.get n=some v->p (f n) v=true:=by
 intro t;induction t with
 | leaf=>grind [Tr.get_leaf]
 | node l x r ihl ihr=>
  intro f h n v hv;simp only[Dz,ybb]at h;grind [Tr.get_node]
def jM (l:List (List UInt8)):List Value:=l.map fun b=>.string ⟨b.toArray⟩
def Al (l:List Int):List Value:=l.map fun n=>.int .i64 n
def mu0:Mu:=⟨fun g=>if g<256 then some ⟨g,true,0,0,true⟩else none,fun _=>none⟩
def Ve{μ:Mu}:∀l:List (List UInt8),iB μ (l.map fun b=>zA.str (b.map UInt8.toNat)) (jM l)
 | []=>.nil
 | b::l=>.cons (by grind [uA,kF]) (Ve l)
def KF{μ:Mu}:∀l:List Int,iB μ (l.map fun n=>zA.int .i64 n) (Al l)
 | []=>.nil
 | b::l=>.cons (by rw[uA]) (KF l)
def Rp{μ:Mu}{g:Nat}{l:List zA}{vs:List Value}(h:iB μ l vs)(t:TypeId):oI μ ⟨g,true,0,0,true⟩ (.cells (Tr.ofList l) (kB l) none) (.cells vs.toArray t (0,0)):=h.rel_one rfl
def zjf{o:pF}(h:cC o=1):∃H,o=.done (.bool true) H:=by
 cases o with
 | next s=>cases h
 | fail n=>grind [cC]
 | done v H=>
  grind [cC,Bh]
end Go.Am
