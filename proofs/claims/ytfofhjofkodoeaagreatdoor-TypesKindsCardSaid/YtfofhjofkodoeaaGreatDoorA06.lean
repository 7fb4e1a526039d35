/- Trees: regions that draw, code, points; what a function's tree is worth. -/
import Derived.Lib.Bytealg
import Derived.Lib.Index
import Derived.Lib.IndexMore
import Derived.Lib.ItoaNum
import Derived.Shelf.Strings.Builder1
import Derived.Test.YtfofhjofkodoeaaGreatDoorA05
set_option linter.all false
noncomputable section
namespace Go.Am
open Go Go.RowKit
section
structure He (ν:Nat->Nat) (old:bG) (oldA:Tm):Prop where
 tms:∀i v,old.tm.get i=some v->oldA.get i=some v
 ads:∀i p,qK i old.ad=some p->oldA.get i=some (.ptr (ν p.1) p.2)
def eF.old{base:Nat}{X0 X:Xt}{kf:Nat}{ν:Nat->Nat}{st:bG}{tm:Tm}{HA:wA}{t:Tr qA}(h:eF base X0 kf ν X st tm HA t):He ν st tm:=⟨h.tms,h.ads⟩
def Tm.get_cut{tm:Tm}{i:Nat}:tm.cut.get i=if i<tm.k then tm.get i else none:=by
 unfold Tm.cut Tm.get;simp only[iJ];by_cases h:Nat.blt i tm.k=true
 ·rw[yab h,yab h,yab (pC.1 h)]
 ·rw[yaa h,yaa (fun e=>h (pC.2 e))];rfl
theorem zal{k i:Nat}:∀ {l:List (Nat × Nat × Nat)},qK i (aC.adCut k l)=if i<k then qK i l else none:=by
 intro l;induction l with
 | nil=>show none=_;split<;>rfl
 | cons a l ih=>
  grind [aC.adCut,pC,Hd]
section
variable {W J:kI}{t:Tr qA}{X X0:Xt}{HA:wA}{C:dA}{A:Tr cD}{ν:Nat->Nat}{Q:aB}{kf n:Nat}{st old:bG}{tm oldA:Tm}{all:Array Oper}{olds:List (Nat × List Nat)}
theorem eF.cut(h:eF C.base X0 kf ν X st tm HA t):eF C.base X0 kf ν X st.cut tm.cut HA t:=by
 refine⟨h.ov,h.le,h.k,h.kA,?_,?_,h.lo,h.inj⟩
 ·intro i v hi;have hi:st.tm.cut.get i=some v:=hi;rw[Tm.get_cut]at hi ⊢;split at hi
  ·rename_i e;rw[yab (by rw[h.kA,<- h.k];exact e)];exact h.tms i v hi
  grind
 ·intro i p hi;have hi:qK i (aC.adCut st.tm.k st.ad)=some p:=hi;rw[zal]at hi;rw[Tm.get_cut];split at hi
  ·rename_i e;rw[yab (by rw[h.kA,<- h.k];exact e)];exact h.ads i p hi
  grind
theorem Cb(h:eF C.base X0 kf ν X st tm HA t)(ho:He ν old oldA){os:List Nat}{op:Op}:fR (sO st old os op) (.mixed tm oldA os (pH op))/\Hk ν (xX st old os op) (.mixed tm oldA os (pH op)):=by
 constructor
 ·intro i v hi;have hi:(bif sH i (pH op)then Tm.get (bif sH i os then old.tm else st.tm) i else none)=some v:=hi;show(bif sH i (pH op)then Tm.get (bif sH i os then oldA else tm) i else none)=some v
  cases hm:sH i (pH op)with
  | false=>simp_all
  | true=>
   rw[hm]at hi;simp only[cond_true]at hi ⊢
   cases hq:sH i os with
   | true=>rw[hq]at hi;exact ho.tms i v hi
   | false=>rw[hq]at hi;exact h.tms i v hi
 ·intro i p hi;have hi:(bif sH i (pH op)then qK i (bif sH i os then old.ad else st.ad)else none)=some p:=hi;show(bif sH i (pH op)then Tm.get (bif sH i os then oldA else tm) i else none)=_
  cases hm:sH i (pH op)with
  | false=>simp_all
  | true=>
   rw[hm]at hi;simp only[cond_true]at hi ⊢
   cases hq:sH i os with
   | true=>rw[hq]at hi;exact ho.ads i p hi
   | false=>rw[hq]at hi;exact h.ads i p hi
theorem Sm(ho:He ν old oldA){κ:KT}{kd:Tm->iB}(hκ:∀st' tm',eF C.base X0 kf ν X st' tm' HA t->iA C.base W J (κ st') t Q->qC C.base X0 Q (kd tm')) :
  ∀(l:List Nat) (st:bG) (tm:Tm),eF C.base X0 kf ν X st tm HA t->iA C.base W J (lQ C all n old olds κ l st) t Q->qC C.base X0 Q (gH C HA all n oldA olds kd l tm):=by
 intro l;induction l with
 | nil=>exact hκ
 | cons i l ih=>
  intro st tm hst h;have h:iA C.base W J (uC (xD all.toList i) fun o=>uC (gF o.guard all st.tm) fun w=>Bool.rec (motive:=fun _=>T) (uP n o.dst xE false st (lQ C all n old olds κ l))
   (tL C o.op (sO st old (vF i olds) o.op) (xX st old (vF i olds) o.op) st.lo (kop C all n o (sO st old (vF i olds) o.op) st (lQ C all n old olds κ l))) w) t Q:=h
  rw[jE]at h;obtain⟨o,h0,h⟩:=h;rw[jE]at h;obtain⟨w,h1,h2⟩:=h;rw[Ph];refine qC.ob h0 (qC.ob (Hv hst h1) ?_)
  cases w with
  | false=>
   rw[yaa (by simp)];obtain⟨st',h3,h4⟩:=hst.put h2
   grind
  | true=>
   rw[yab rfl];refine Exists.elim (zgb (R:=fun v=>qC C.base X0 Q (fK C o.type v fun v=>gH C HA all n oldA olds kd l (putA n tm o.dst v))) (Cb hst ho).1 (Cb hst ho).2 hst.ov hst.lo h2 ?_ ?_ ?_) (fun v h=>qC.ob h.1 h.2)
   ·intro v hk;have hk:iA C.base W J (Il C o.type v fun v=>Ed (Pu all.toList o.dst all.toList) (Pc o.op (sO st old (vF i olds) o.op) st.lit) v fun v lt=>uP n o.dst v lt st (lQ C all n old olds κ l)) t Q:=hk;obtain⟨g1,g2⟩:=AW hk;obtain⟨lt',g3⟩:=Mo g2;obtain⟨st',g4,g5⟩:=hst.put g3
    grind [qC.norm]
   ·intro v hk;obtain⟨g1,g2⟩:=kM.1 hk;obtain⟨lt',g3⟩:=Mo g2;obtain⟨st',g4,g5⟩:=hst.put g3
    grind [qC.norm,Qh]
   ·intro d off hk;obtain⟨g1,g2⟩:=kM.1 hk;obtain⟨st',g4,g5⟩:=hst.putA g2
    grind [qC.norm,Yd]
theorem PQ(ho:He ν old oldA)(hst:eF C.base X0 kf ν X st tm HA t){k:T}{kd:iB}(hk:iA C.base W J k t Q->qC C.base X0 Q kd) :
  ∀(l:List Nat),iA C.base W J (eU C all old olds st k l) t Q->qC C.base X0 Q (rL C HA all oldA olds tm kd l):=by
 intro l;induction l with
 | nil=>exact hk
 | cons i l ih=>
  intro h;have h:iA C.base W J (uC (xD all.toList i) fun o=>uC o.dst fun d=>uC (gF o.guard all st.tm) fun w=>Bool.rec (motive:=fun _=>T) (eU C all old olds st k l)
   (uC (st.tm.get d) fun u=>jJ (Ge C o.type u) (tL C o.op (sO st old (vF i olds) o.op) (xX st old (vF i olds) o.op) st.lo ⟨fun v=>.ite (same 10 v u) (eU C all old olds st k l) .fail,fun v=>.ite (same 10 v u) (eU C all old olds st k l) .fail,fun _ _=>.fail⟩)) w) t Q:=h
  rw[jE]at h;obtain⟨o,h0,h⟩:=h;rw[jE]at h;obtain⟨d,h1,h⟩:=h;rw[jE]at h;obtain⟨w,h2,h⟩:=h;rw[Zk];refine qC.ob h0 (qC.ob h1 (qC.ob (Hv hst h2) ?_))
  cases w with
  | false=>simp_all
  | true=>
   rw[yab rfl];simp only[jE,kM]at h;obtain⟨u,h3,h4,h5⟩:=h;have fF:∀v,iA C.base W J (.ite (same 10 v u) (eU C all old olds st k l) .fail) t Q->qC C.base X0 Q (fK C o.type v fun v=>ob (tm.get d) fun u=>pB (same 10 v u) (rL C HA all oldA olds tm kd l)):=by
    intro v hv;have hv:if same 10 v u=true then iA C.base W J (eU C all old olds st k l) t Q else False:=hv;split at hv
    ·rename_i hs;refine qC.norm ?_ (qC.ob (hst.tms _ _ h3) ?_)
     ·grind [Em,Qh]
     ·rw[hs];exact ih hv
    simp_all
   obtain⟨v,h6,h7⟩:=zgb (R:=fun v=>qC C.base X0 Q (fK C o.type v fun v=>ob (tm.get d) fun u=>pB (same 10 v u) (rL C HA all oldA olds tm kd l))) (Cb hst ho).1 (Cb hst ho).2 hst.ov hst.lo h5 fF fF (fun _ _ h=>h.elim)
   simp_all
theorem zap(hst:eF C.base X0 kf ν X st tm HA t){h:Nat}{o:Oper}{w:Bool}(hw:cS C all h o st.tm=some w):cS C all h o tm=some w:=by
 grind [cS,mA,Hv]
theorem XS{e e':aC}(he:fR e e'){op:Op}{ef:xK}(h:yY op e=some ef):yY op e'=some ef:=by
 cases op<;>first | (cases h;done) | skip
 all_goals grind [yY,mA,dE]
theorem zgc{op:Op}{e:aC}{ae:lM}{ef:xK}(h:tEff op e ae=some ef):yY op e=some ef:=by
 cases op<;>first | exact h | skip
 grind [tEff]
def zay(hst:eF C.base X0 kf ν X st tm HA t)(ho:He ν old oldA){l:List Nat}{es:List xK}(h:Mq all old olds st l=some es):Gj all oldA olds tm l=some es:=by
 refine Pa l (fun i ef h=>?_) h;unfold iV;simp only[mA,jB]at h ⊢;obtain⟨o,h1,w,h2,h3,h4⟩:=h;exact⟨o,h1,w,Hv hst h2,h3,XS (Cb hst ho).1 (zgc h4)⟩
theorem PF(hW:mU C A W)(ho:He ν old oldA){κ:KT}{m:Tm->wA->iB}(hκ:SK C W J X0 kf Q κ m) :
  ∀(l:List xF) (st:bG) (tm:Tm) (HA:wA) (t:Tr qA) (X:Xt),eF C.base X0 kf ν X st tm HA t->iA C.base W J (eY C all n old olds κ l st) t Q->qC C.base X0 Q (eI C (oD C A) all n oldA olds m l tm HA):=by
 intro l;induction l with
 | nil=>intro st tm HA t X hst h;exact hκ _ _ _ _ _ _ hst h
 | cons s l ih=>
  intro st tm HA t X hst h
  cases hg:pS all s with
  | true=>
   have h:iA C.base W J (Bool.rec (motive:=fun _=>T) _ (jJ (sV C all) (uC (Mq all old olds st s.again) fun es=>.heavy (iU C es) fun _=>lQ C all n old olds (eY C all n old olds κ l) s.lights st)) (pS all s)) t Q:=h;rw[hg]at h;have h:iA C.base W J (jJ (sV C all) (uC (Mq all old olds st s.again) fun es=>.heavy (iU C es) fun _=>lQ C all n old olds (eY C all n old olds κ l) s.lights st)) t Q:=h
   rw[kM]at h;obtain⟨h0,h⟩:=h;rw[jE]at h;obtain⟨es,h1,h⟩:=h;have h:=h HA.next hst.ov.nextT hst.ov.base;rw[bW]at h;obtain⟨⟨v,H'⟩,h2,h3⟩:=h;obtain⟨HA',h4,h5⟩:=OM _ _ _ _ _ hst.ov h2;have h6:kV C es HA=some HA':=by
    grind [iU,mA]
   rw[Ip hg];unfold Ku;rw[h0];show qC C.base X0 Q (ob (Gj all oldA olds tm s.again) fun es=>ob (kV C es HA) fun H'=>gH C H' all n oldA olds (fun tm=>eI C (oD C A) all n oldA olds m l tm H') s.lights tm);refine qC.ob (zay hst ho h1) (qC.ob h6 ?_);exact Sm ho (fun st' tm' hs hw=>ih _ _ _ _ _ hs hw) _ _ _ (hst.later h5 (oJ.refl _)) h3
  | false=>
  have h:iA C.base W J (Bool.rec (motive:=fun _=>T) (uC (xD all.toList (jL all s.heavy)) fun o=>uC (cS C all s.heavy o st.tm) fun w=>
   (fun cont:KT=>Bool.rec (motive:=fun _=>T) (uP n o.dst xE false st cont)
    (tH C [] o.dst o.op (sO st old (vF (jL all s.heavy) olds) o.op) (xX st old (vF (jL all s.heavy) olds) o.op) st.lo (kop C all n o (sO st old (vF (jL all s.heavy) olds) o.op) st cont) (klo C n o st cont)) w)
   (fun st'=>eU C all old olds st' (lQ C all n old olds (eY C all n old olds κ l) s.lights st') s.again)) _ (pS all s)) t Q:=h
  rw[hg]at h;have h:iA C.base W J (uC (xD all.toList (jL all s.heavy)) fun o=>uC (cS C all s.heavy o st.tm) fun w=>
   (fun cont:KT=>Bool.rec (motive:=fun _=>T) (uP n o.dst xE false st cont)
    (tH C [] o.dst o.op (sO st old (vF (jL all s.heavy) olds) o.op) (xX st old (vF (jL all s.heavy) olds) o.op) st.lo (kop C all n o (sO st old (vF (jL all s.heavy) olds) o.op) st cont) (klo C n o st cont)) w)
   (fun st'=>eU C all old olds st' (lQ C all n old olds (eY C all n old olds κ l) s.lights st') s.again)) t Q:=h
  rw[jE]at h;obtain⟨o,h0,h⟩:=h;rw[jE]at h;obtain⟨w,h1,h2⟩:=h;rw[Eg hg];refine qC.ob h0 (qC.ob (zap hst h1) ?_);have fF:∀st' tm' HA' t' X' ν',ν'=ν->eF C.base X0 kf ν' X' st' tm' HA' t'->iA C.base W J (eU C all old olds st' (lQ C all n old olds (eY C all n old olds κ l) s.lights st') s.again) t' Q →
    qC C.base X0 Q (rL C HA' all oldA olds tm' (gH C HA' all n oldA olds (fun tm=>eI C (oD C A) all n oldA olds m l tm HA') s.lights tm') s.again):=by
   intro st' tm' HA' t' X' ν' e hs hw;subst e;exact PQ ho hs (fun hl=>Sm ho (fun st2 tm2 hs2 hw2=>ih _ _ _ _ _ hs2 hw2) _ _ _ hs hl) _ hw
  cases w with
  | false=>
   simp only[ybq,if_false];obtain⟨st',h3,h4⟩:=hst.put h2
   grind
  | true=>
   simp only[if_true];exact BS (m:=fun tm' HA'=>rL C HA' all oldA olds tm' (gH C HA' all n oldA olds (fun tm=>eI C (oD C A) all n oldA olds m l tm HA') s.lights tm') s.again)
    hW (Cb hst ho).1 (Cb hst ho).2 hst (fun st' tm' HA' t' X' ν' hn hs _ hw=>fF _ _ _ _ _ _ (hn rfl) hs hw) h2
def PM(hW:mU C A W){la:List Nat}{fn id:Nat}{d:Bool}{κ:KT}{m:Tm->wA->iB}(hκ:SK C W J X0 kf Q κ m):SK C W J X0 kf Q (AJ C la fn n κ id all d) (Et C (oD C A) fn n m id all d):=by
 intro st tm HA t X ν hst h
 cases d with
 | false=>exact zf6 hW hκ _ _ _ _ _ _ _ hst.cut h
 | true=>
  have h:iA C.base W J (uC (ob (C.plans.get fn) fun t=>t.get id) fun p=>jJ (vS all p) (lQ C all n st.cut p.olds (eY C all n st.cut p.olds κ p.stages) p.first st.cut)) t Q:=h;simp only[jE,kM]at h;obtain⟨p,h1,h2,h3⟩:=h;show qC C.base X0 Q (ob (ob (C.plans.get fn) fun t=>t.get id) fun p=>pB (vS all p) (gH C HA all n tm.cut p.olds (fun tm'=>eI C (oD C A) all n tm.cut p.olds m p.stages tm' HA) p.first tm.cut))
  refine qC.ob h1 ?_;rw[h2];exact Sm hst.cut.old (fun st' tm' hs hw=>PF hW hst.cut.old hκ _ _ _ _ _ _ hs hw) _ _ _ hst.cut h3
end
structure PtD where
 p:PI
 m:Tm->wA->iB
def rM(C:dA)(φ:nH)(fn n:Nat):cD->Kt->List PtD
 | .skip,_=>[]
 | .region _ _ _,_=>[]
 | .seq a b,κ=>rM C φ fn n a ⟨aD C φ fn n b κ,κ.exit,κ.ret⟩++rM C φ fn n b κ
 | .cond _ x y,κ=>rM C φ fn n x κ++rM C φ fn n y κ
 | .block id c,κ=>rM C φ fn n c ⟨κ.norm,fun i tm H=>Bool.rec (motive:=fun _=>iB) (κ.exit i tm H) (κ.norm tm H) (Nat.beq id i),κ.ret⟩
 | .loop p c,κ=>⟨p,aD C φ fn n (.loop p c) κ⟩::rM C φ fn n c ⟨aD C φ fn n (.loop p c) κ,κ.exit,κ.ret⟩
 | .exit _,_=>[]
 | .ret,_=>[]
 | .cut p c,κ=>⟨p,aD C φ fn n (.cut p c) κ⟩::rM C φ fn n c κ
 | .range i pl fo ps id ops c,_=>⟨⟨i,bD pl ps.toList,[]⟩,Rg C φ fn n ⟨i,pl,fo,ps,id,ops,c⟩⟩::rM C φ fn n c rdK
def Rs(base kf:Nat)(d:PtD)(vals:List zA)(t:Tr qA)(Q:aB):Prop:=∀X0 X HA tm ν,eF base X0 kf ν X (aU kf d.p vals) tm HA t->qC base X0 Q (d.m tm HA)
def JOk (base kf:Nat)(J:kI)(l:List PtD):Prop:=∀d∈l,∀vals t Q,J d.p.id vals t Q->Rs base kf d vals t Q
structure SKt (C:dA) (W J:kI) (X0:Xt) (kf:Nat) (Q:aB) (κ:KtT) (m:Kt):Prop where
 norm:SK C W J X0 kf Q κ.norm m.norm
 exit:∀i,SK C W J X0 kf Q (κ.exit i) (m.exit i)
 ret:SK C W J X0 kf Q κ.ret m.ret
theorem Ui{d:Nat}{l:List zA}{st:bG}:∀ {ll:List (Nat × Nat)} {b rest:List zA},Dq st ll=some b->(bU ll (b++rest)).get d=some l->st.lo.get d=some l:=by
 intro ll;induction ll with
 | nil=>grind [bU,Tr.get_leaf]
 | cons p ll ih=>
  intro b rest hb h;have hb:(ob (qK p.1 st.ad) fun a=>pB (Nat.beq a.1 p.1&&Nat.beq a.2 0) (ob (st.lo.get p.1) fun l=>pB (Nat.beq (oB l) p.2) (ob (Dq st ll) fun r=>some (bD l r))))=some b:=hb;simp only[mA,jB]at hb;obtain⟨a,_,_,l0,h2,h3,r,h4,h5⟩:=hb;cases h5;have h:((bU ll (fP (bD l0 r++rest) p.2)).set p.1 (wX (bD l0 r++rest) p.2)).get d=some l:=h
  grind [oC,pD,wH,oT,tS,List.drop_left,Tr.get_set]
theorem za6{i:Nat}{q:Nat × Nat}{st:bG}:∀ {ll:List (Nat × Nat)} {b:List zA},Dq st ll=some b->qK i (stAd ll)=some q->qK i st.ad=some q:=by
 intro ll;induction ll with
 | nil=>intro b _ h;cases h
 | cons p ll ih=>
  grind [Dq,mA,jB,oC,stAd,Hd]
theorem za4{i:Nat}{v:zA}{st:bG}:∀ {pl:List Nat} {a rest:List zA},fG (fun i=>st.tm.get i) pl=some a->(xO pl (a++rest)).get i=some v->st.tm.get i=some v:=by
 intro pl;induction pl with
 | nil=>grind [xO,Tr.get_leaf]
 | cons j pl ih=>
  intro a rest ha h;rw[dM,mA]at ha;obtain⟨u,h1,ha⟩:=ha;rw[mA]at ha;obtain⟨r,h2,ha⟩:=ha;cases ha;have h:((xO pl (r++rest)).set j u).get i=some v:=h
  grind [Tr.get_set]
theorem Tm.get_kv{k i:Nat}{v:Tr zA}{u:zA}(h:Tm.get ⟨k,v,[]⟩ i=some u):i<k/\v.get i=some u:=by
 unfold Tm.get at h;rw[iJ]at h;split at h
 ·simp_all
 ·cases h
theorem OA{p:PI}{st:bG}{vals:List zA}(h:Dp p st=some vals):∃a b,vals=a++b/\fG (fun i=>st.tm.get i) p.pl=some a/\Dq st p.ll=some b/\a.length=p.pl.length:=by
 unfold Dp at h;simp only[mA]at h;obtain⟨a,h1,b,h2,h3⟩:=h;cases h3;refine⟨a,b,wH _ _,h1,h2,?_⟩;have:∀(l:List Nat) (r:List zA),fG (fun i=>st.tm.get i) l=some r->r.length=l.length:=by
  intro l;induction l with
  | nil=>intro r h;cases h;rfl
  | cons x l ih=>
   grind [dM,mA]
 grind
section
variable {W J:kI}{t:Tr qA}{X X0:Xt}{HA:wA}{C:dA}{A:Tr cD}{ν:Nat->Nat}{Q:aB}{kf n:Nat}{st:bG}{tm:Tm}
theorem eF.at(h:eF C.base X0 kf ν X st tm HA t){p:PI}{vals:List zA}(hv:Dp p st=some vals):eF C.base X0 kf ν X (aU kf p vals) tm HA t:=by
 obtain⟨a,b,rfl,h1,h2,h3⟩:=OA hv;have hd:fP (a++b) (oB p.pl)=b:=by rw[oT,pD,<- h3,List.drop_left]
 refine⟨h.ov,h.le,rfl,h.kA,?_,?_,?_,?_⟩
 ·intro i v hi;exact h.tms i v (za4 h1 (Tm.get_kv hi).2)
 ·intro i q hi;exact h.ads i q (za6 h2 hi)
 ·intro d l hl;have hl:(bU p.ll (fP (a++b) (oB p.pl))).get d=some l:=hl;rw[hd]at hl;have hb:(bU p.ll (b++[])).get d=some l:=by simp_all
  exact h.lo d l (Ui h2 hb)
 ·intro d d' l l' hl hl' he;have hl:(bU p.ll (fP (a++b) (oB p.pl))).get d=some l:=hl;have hl':(bU p.ll (fP (a++b) (oB p.pl))).get d'=some l':=hl';rw[hd]at hl hl';have hb:(bU p.ll (b++[])).get d=some l:=by simp_all
  have hb':(bU p.ll (b++[])).get d'=some l':=by simp_all
  exact h.inj d d' l l' (Ui h2 hb) (Ui h2 hb') he
theorem VP{tm:Tm}{i:Nat}{v:zA}(hv:tm.get i=some v):∀ {live:List Nat},i∈live->(Fr tm live).get i=some v:=by
 intro live;induction live with
 | nil=>simp_all
 | cons j live ih=>
  grind [Fr,Tr.get_set]
theorem za3{i:Nat}{v:zA}:∀ {pl:List Nat} {vals:List zA},(xO pl vals).get i=some v->i∈pl:=by
 intro pl;induction pl with
 | nil=>grind [xO,Tr.get_leaf]
 | cons j pl ih=>
  intro vals h
  cases vals with
  | nil=>grind [xO,Tr.get_leaf]
  | cons u vals=>
   have h:((xO pl vals).set j u).get i=some v:=h
   grind [Tr.get_set]
theorem za5{i:Nat}{q:Nat × Nat}:∀ {ll:List (Nat × Nat)},qK i (stAd ll)=some q->i∈(List.rec (motive:=fun _=>List Nat) [] (fun a _ r=>a.1::r) ll:List Nat):=by
 intro ll;induction ll with
 | nil=>intro h;cases h
 | cons p ll ih=>
  grind [stAd,Hd]
theorem eF.keep{p:PI}{vals:List zA}(hb:∀i,i∈p.kept->i<kf)(h:eF C.base X0 kf ν X (aU kf p vals) tm HA t):eF C.base X0 kf ν X (aU kf p vals) (Am.keep p.kept tm) HA t:=by
 have key:∀i v,i∈p.kept->tm.get i=some v->(Am.keep p.kept tm).get i=some v:=by
  intro i v hi hv;unfold Am.keep Tm.get;rw[iJ,yab (pC.2 (by rw[h.kA];grind))];exact VP hv hi
 refine⟨h.ov,h.le,rfl,h.kA,?_,?_,h.lo,h.inj⟩
 ·intro i v hi;refine key i v ?_ (h.tms i v hi);unfold PI.kept;rw[wH];exact ydc _ (za3 (Tm.get_kv hi).2)
 ·intro i q hi;refine key i _ ?_ (h.ads i q hi);unfold PI.kept;rw[wH];exact ycf _ (za5 hi)
def Xb{l:List PtD}(hJ:JOk C.base kf J l){p:PI}{m:Tm->wA->iB}(hm:(⟨p,m⟩:PtD)∈l):SK C W J X0 kf Q (Fs p) m:=by
 intro st tm HA t X ν hst h;unfold Fs at h;rw[jE]at h;obtain⟨vals,h1,h2⟩:=h;exact hJ _ hm vals t Q h2 _ _ _ _ _ (hst.at h1)
def zd8:SKt C W J X0 kf Q rdT rdK:=⟨fun _ tm HA t X _ hst h=>⟨_,t,HA,X,rfl,hst.ov,hst.le,h⟩,fun _ _ _ _ _ _ _ _ h=>h.elim,fun _ tm HA t X _ hst h=>⟨_,t,HA,X,rfl,hst.ov,hst.le,h⟩⟩
def Rp(C:dA)(A:Tr cD)(W:kI):Prop:=∀l args t Q,(∀X HA,Ov C.base t X HA->qC C.base X Q (Cy C A (yo+l) args HA))->W (yo+l) args t Q
def fM (X:Xt)(b:Nat)(y:qA):Xt:=fun c=>if c=b then some y else X c
theorem Jp{X:Xt}{b:Nat}{y:qA}(h:X b=none):oJ X (fM X b y):=by
 intro c z hc;grind [fM]
theorem Ov.under{base:Nat}(h:Ov base t X HA){b:Nat}{y:qA}(hb:t.get b=some y)(z:qA):Ov base (t.del b) (fM X b z) (Am.setBlk HA b z):=by
 refine⟨h.base,fun c hc=>?_,fun c u hc=>?_,fun c u hc=>?_⟩
 ·show(HA.t.set b z).get c=_;unfold fM at hc;split at hc
  ·cases hc
  ·rename_i e;rw[Tr.get_set,yaa e,Tr.get_del,yaa e];exact h.same c hc
 ·show(HA.t.set b z).get c=_/\_;unfold fM at hc;split at hc
  ·rename_i e;cases hc;subst e;exact⟨by rw[Tr.get_set,yab rfl],by rw[Tr.get_del,yab rfl],h.lt _ _ hb⟩
  ·rename_i e;obtain⟨g1,g2,g3⟩:=h.ext c u hc;exact⟨by grind [Tr.get_set],by grind [Tr.get_del],g3⟩
 ·rw[Tr.get_del]at hc;split at hc
  ·cases hc
  ·exact h.lt _ _ hc
theorem Ov.back{base:Nat}(h:Ov base t X HA){b:Nat}{y:qA}(hb:X b=some y)(z:qA):Ov base (t.set b z) (fun c=>if c=b then none else X c) (Am.setBlk HA b z):=by
 obtain⟨g1,g2,g3⟩:=h.ext b y hb;refine⟨h.base,fun c hc=>?_,fun c u hc=>?_,fun c u hc=>?_⟩
 ·show(HA.t.set b z).get c=_;rw[Tr.get_set,Tr.get_set];split
  ·rfl
  ·rename_i e;rw[yaa e]at hc;exact h.same c hc
 ·show(HA.t.set b z).get c=_/\_;split at hc
  ·cases hc
  ·rename_i e;obtain⟨g1,g2,g3⟩:=h.ext c u hc;exact⟨by grind [Tr.get_set],by grind [Tr.get_set],g3⟩
 ·rw[Tr.get_set]at hc;split at hc
  ·rename_i e;rw[e];exact g3
  ·exact h.lt _ _ hc
def Wi{H:wA}{l:Nat}{r:bO}(hl:256<=l)(h:H.t.get l=some (.loop r)):aJ H l=some r:=by
 unfold aJ;rw[h,pA,Nat.ble_eq_true_of_le hl];rfl
theorem zbf{base kf n:Nat}{st:bG}{tm:Tm}{i:Nat}{pl ps:List Nat}{vals args:List zA}{X:Xt}{HA:wA}{t:Tr qA}(ho:Ov base t X HA)(hk:st.tm.k=kf)(hkA:tm.k=kf)
  (ht:∀i v,st.tm.get i=some v->tm.get i=some v) (hv:zd7 pl st=some vals) (hok:eE (fun p=>Nat.blt p st.tm.k&&Nat.blt p n && !sH p pl) ps=true) (h1:ps.length<=1) (hl:args.length=ps.length) :
  ∃tm',jW n ps args tm=some tm'/\eF base X kf (fun i=>i) X (aU kf ⟨i,bD pl ps,[]⟩ (vals++args)) tm' HA t:=by
 have old:∀(pl:List Nat) (vals rest:List zA) j v,fG (fun i=>st.tm.get i) pl=some vals->(xO (pl++ps) (vals++rest)).get j=some v->(j∈pl/\tm.get j=some v)\/(xO ps rest).get j=some v:=by
  intro pl;induction pl with
  | nil=>intro vals rest j v h hj;cases h;simp_all
  | cons a pl ih=>
   intro vals rest j v h hj;rw[dM,mA]at h;obtain⟨u,g1,h⟩:=h;rw[mA]at h;obtain⟨us,g2,h⟩:=h;cases h;have hj:((xO (pl++ps) (us++rest)).set a u).get j=some v:=hj
   grind [Tr.get_set]
 cases ps with
 | nil=>
  cases args with
  | cons _ _=>cases hl
  | nil=>
   refine⟨tm,rfl,ho,oJ.refl _,rfl,hkA,fun j v hj=>?_,fun j p h=>(by cases h),fun d l h=>?_,fun d _ l _ h=>?_⟩
   ·have hj:=(Tm.get_kv hj).2;have hj:(xO (bD pl []) (vals++[])).get j=some v:=hj;rw[wH]at hj;rcases old pl vals [] j v hv hj with⟨_,h⟩ | h
    all_goals grind [xO,Tr.get_leaf]
   ·rw[show(aU kf ⟨i,bD pl [],[]⟩ (vals++[])).lo=.leaf from rfl,Tr.get_leaf]at h;cases h
   omega
 | cons p ps=>
  cases ps with
  | cons _ _=>simp at h1
  | nil=>
   cases args with
   | nil=>cases hl
   | cons a args=>
    cases args with
    | cons _ _=>simp at hl
    | nil=>
     have hp:(bif (Nat.blt p st.tm.k&&Nat.blt p n && !sH p pl)then eE (fun p=>Nat.blt p st.tm.k&&Nat.blt p n && !sH p pl) []else false)=true:=hok
     cases hx:(Nat.blt p st.tm.k&&Nat.blt p n && !sH p pl)with
     | false=>grind
     | true=>
      simp only[ybb,ycp]at hx;obtain⟨⟨x1,x2⟩,x3⟩:=hx;have x1:=pC.1 x1;have x2:=pC.1 x2;refine⟨putA n tm (some p) a,rfl,ho,oJ.refl _,rfl,by grind [Nx],fun j v hj=>?_,fun j p h=>(by cases h),fun d l h=>?_,fun d _ l _ h=>?_⟩
      ·have hj:=(Tm.get_kv hj).2;have hj:(xO (bD pl [p]) (vals++[a])).get j=some v:=hj;rw[wH]at hj;rw[yK];rcases old pl vals [a] j v hv hj with⟨hm,h⟩ | h
       all_goals grind [tZ,xO,Tr.get_set,Tr.get_leaf]
      ·rw[show(aU kf ⟨i,bD pl [p],[]⟩ (vals++[a])).lo=.leaf from rfl,Tr.get_leaf]at h;cases h
      omega
theorem SP(hW:mU C A W)(hY:Rp C A W){f:Nat}{κ:KtT}{m:Kt}(hκ:∀X0,SKt C W J X0 kf Q κ m){i:Nat}{pl:List Nat}{fo:Operand}{ps:Array Nat}{id:Nat}{ops:Array Oper}{c:cD}
  (hone:∃c0,A.get f=some c0/\Jm c0=some ⟨i,pl,fo,ps,id,ops,c⟩) (hJ:∀vals t Q,J i vals t Q->Rs C.base kf ⟨⟨i,bD pl ps.toList,[]⟩,Rg C (oD C A) f n ⟨i,pl,fo,ps,id,ops,c⟩⟩ vals t Q) :
  SK C W J X0 kf Q (Vh C n κ i pl fo ps.toList ops.toList c) (nP C (oD C A) f n m fo ps.toList (.region id ops false) (xG c)):=by
 intro st tm HA t X ν hst h;unfold Vh at h;rw[kM,jE]at h;obtain⟨hok,vals,hv,h⟩:=h;rw[jE]at h;obtain⟨fv,hf,h256,h⟩:=h;unfold DZ at hok;simp only[ybb]at hok;obtain⟨⟨⟨hok1,hok2⟩,hok3⟩,hok4⟩:=hok;have hok2:ps.toList.length<=1:=by simp_all [pD]
 have hok4:vT c=[]:=by
  grind
 have ho:=hst.ov;have hbase:=ho.base;generalize hr:(⟨.ready,none,f,n,tm,ps.toList,.region id ops false,xG c,HA.next⟩:bO)=r at *;have htn:t.get (HA.next+1)=none:=by
  cases hx:t.get (HA.next+1)with
  | none=>rfl
  | some y=>exact absurd (ho.lt _ _ hx) (by omega)
 have hyield:∀args t1 Q1,args.length=oB ps.toList->t1.get (HA.next+1)=some (.loop r)->J i (vals++args) (t1.del (HA.next+1)) (fun v t2=>t2.get (HA.next+1)=none->∃b,v=.bool b/\Q1 v (t2.set (HA.next+1) (.loop (qX b r))))->W (yo+(HA.next+1)) args t1 Q1:=by
  intro args t1 Q1 hla ht1 hj;refine hY _ _ _ _ fun X1 HA1 ho1=>?_;rw[MG,zfl];show qC C.base X1 Q1 (Br C A (oD C A) (HA.next+1) args HA1);have hx1:=ho1.notX ht1;have hov:=ho1.under ht1 (.loop (Cz r));obtain⟨tm',hs1,hs2⟩:=zbf (n:=n) (i:=i) hov hst.k hst.kA hst.tms hv hok1 hok2 (by rw[hla,pD]);obtain⟨v,t2,HA2,X2,e1,e2,e3,e4⟩:=hJ _ _ _ hj _ _ _ _ _ hs2;have hb2:X2 (HA.next+1)=some (.loop (Cz r)):=e3 _ _ (by unfold fM;rw[yab rfl])
  obtain⟨b,e4,e5⟩:=e4 (e2.ext _ _ hb2).2.1;subst e4;obtain⟨c0,hc0,hc1⟩:=hone;refine⟨.bool b,_,_,_,Er.2 ⟨r,tm',c0,⟨i,pl,fo,ps,id,ops,c⟩,(.bool b,HA2),Cz r,b,Wi (by omega) (by rw[ho1.up ht1]),?_,?_,hc1,?_,?_,Wi (by omega) (e2.ext _ _ hb2).1,rfl,rfl⟩,e2.back hb2 _,?_,e5⟩
  ·grind
  ·grind
  ·rw[<- hr];exact⟨rfl,rfl,rfl,rfl,hok3,hok4⟩
  ·grind
  ·intro c y hc;have hne:c≠HA.next+1:=fun e=>by simp_all
   show(if c=HA.next+1 then none else X2 c)=some y;rw[yaa hne];exact e3 _ _ (Jp hx1 _ _ hc)
 have h:=h (HA.next+1) r htn (by omega) (by rw[<- hr]) (by rw[<- hr]) hyield;rw[bW]at h;obtain⟨⟨g,aq⟩,hra,hw⟩:=h;unfold Ns at hra;rw[mA]at hra;obtain⟨⟨qf,q1,q2⟩,hq,hra⟩:=hra
 cases qf with
 | yld l=>cases hra
 | func g'=>
  simp only[jB,ybb]at hra;obtain⟨⟨hg,hnp⟩,hra⟩:=hra;cases hra;have hp:C.prims.get g=none:=by
   unfold npC at hnp
   cases hx:C.prims.get g with
   | none=>rfl
   | some u=>rw[hx]at hnp;cases hnp
  have hXd:X HA.next=none:=ho.nextX;have ho1:Ov C.base t (fM X HA.next (.deferred (some []))) (newBlk HA (.deferred (some []))):=by
   refine⟨Nat.le_succ_of_le ho.base,fun b hb=>?_,fun b y hb=>?_,fun b y hb=>Nat.lt_succ_of_lt (ho.lt _ _ hb)⟩
   ·unfold fM at hb;split at hb
    ·cases hb
    ·rename_i e;show(HA.t.set HA.next _).get b=_;rw[Tr.get_set,yaa e];exact ho.same b hb
   ·unfold fM at hb;show(HA.t.set HA.next _).get b=_/\_/\b<HA.next+1;split at hb
    ·rename_i e;cases hb;subst e;exact⟨by rw[Tr.get_set,yab rfl],ho.nextT,Nat.lt_succ_self _⟩
    ·rename_i e;obtain⟨g1,g2,g3⟩:=ho.ext b y hb
     grind [Tr.get_set]
  have ho2:=ho1.newBlk (.loop r);obtain⟨v,t',HA2,X2,e1,e2,e3,e4⟩:=hW _ _ _ _ hw _ _ ho2;rw[Gr hg,hp]at e1;have e1:oD C A (.func g) (bD q1 (.func (.yld (HA.next+1)) [] []::q2)) (newBlk (newBlk HA (.deferred (some []))) (.loop r))=some (v,HA2):=e1;have goal:∀r' (κ':KT) (m':Tm->wA->iB),t'.get (HA.next+1)=some (.loop r')->(!Nat.beq (LoopState.tag r'.state) 1)=true->(∀tm H,nY m r'.pending tm H=m' tm H)->(∀X0,SK C W J X0 kf Q κ' m')->iA C.base W J (κ' st) (t'.del (HA.next+1)) Q →
    qC C.base X0 Q (nP C (oD C A) f n m fo ps.toList (.region id ops false) (xG c) tm HA):=by
   intro r' κ' m' k1 k2 k3 k4 k5;have ho3:=e2.under k1 (.loop ⟨.exhausted,r'.pending,r'.fn,r'.n,r'.tm,r'.params,r'.assign,r'.body,r'.defers⟩);have hx2:=e2.notX k1;have hXX:oJ X (fM X2 (HA.next+1) (.loop ⟨.exhausted,r'.pending,r'.fn,r'.n,r'.tm,r'.params,r'.assign,r'.body,r'.defers⟩)):=((Jp hXd).trans e3).trans (Jp hx2);have hd3:(fM X2 (HA.next+1) (.loop ⟨.exhausted,r'.pending,r'.fn,r'.n,r'.tm,r'.params,r'.assign,r'.body,r'.defers⟩)) HA.next=some (.deferred (some [])):=by
    refine(Jp hx2) _ _ (e3 _ _ ?_);unfold fM;rw[yab rfl]
   have hX0d:X0 HA.next=none:=by
    cases hx:X0 HA.next with
    | none=>rfl
    | some y=>have:=hst.le _ _ hx;simp_all
   have hl:=hst.later ho3 hXX;have hl':eF C.base (fM X0 HA.next (.deferred (some []))) kf ν (fM X2 (HA.next+1) (.loop ⟨.exhausted,r'.pending,r'.fn,r'.n,r'.tm,r'.params,r'.assign,r'.body,r'.defers⟩)) st tm (endLoop HA2 (HA.next+1) r') (t'.del (HA.next+1)):=by
    refine⟨hl.ov,?_,hl.k,hl.kA,hl.tms,hl.ads,fun d l hd=>?_,hl.inj⟩
    ·intro b y hb;unfold fM at hb;split at hb
     ·simp_all
     ·exact hl.le _ _ hb
    ·obtain⟨g1,g2,g3⟩:=hl.lo d l hd
     grind [fM]
   obtain⟨w,t4,HA4,X4,f1,f2,f3,f4⟩:=k4 _ _ _ _ _ _ _ hl' k5;have hd4:X4 HA.next=some (.deferred (some [])):=f3 _ _ (by unfold fM;rw[yab rfl]);refine⟨w,t4,_,_,?_,f2.setX hd4 (.deferred none),?_,f4⟩
   ·unfold nP;rw[dE (Ou hst).1 hf,pA,hq,pA];show(pB (oH (C.prims.get g)) _)=_;rw[hp];show(ob (oD C A (.func g) _ (newBlk (newBlk HA (.deferred (some []))) (.loop ⟨.ready,none,f,n,tm,ps.toList,.region id ops false,xG c,HA.next⟩))) _)=_;rw[hr,e1,pA,Wi (by omega) (e2.up k1),pA,k2];show(ob (nY m r'.pending tm _) _)=_;rw[k3];show(ob (m' tm (endLoop HA2 (HA.next+1) r')) _)=_
    rw[f1,pA];have:gV HA4 HA.next=some (some []):=by
     unfold gV;rw[(f2.ext _ _ hd4).1,pA,Nat.ble_eq_true_of_le (by omega:256<=HA.next)];rfl
    simp only[this,pA];rfl
   ·intro b y hb;have hne:b≠HA.next:=fun e=>by simp_all
    show(if b=HA.next then _ else X4 b)=some y;rw[yaa hne];exact f3 _ _ (Jp hX0d _ _ hb)
  rcases e4 with⟨k1,k2⟩ | ⟨k1,k2⟩
  ·exact goal r κ.norm m.norm k1 (by rw[<- hr];rfl) (fun _ _=>by rw[<- hr];rfl) (fun X0=>(hκ X0).norm) k2
  ·exact goal _ κ.ret m.ret k1 (by rw[<- hr];rfl) (fun _ _=>by rw[<- hr];rfl) (fun X0=>(hκ X0).ret) k2
def wQ (A:Tr cD)(f:Nat)(c:cD):Prop:=∀q∈vT c,∃c0,A.get f=some c0/\Jm c0=some q
theorem wQ.l{a b:List Df}{P:Df->Prop}(h:∀q∈bD a b,P q):(∀q∈a,P q)/\∀q∈b,P q:=by
 grind [wH]
def Ik(hW:mU C A W)(hY:Rp C A W){la:List Nat}{f:Nat}:∀(c:cD) (κ:KtT) (m:Kt),wQ A f c->(∀X0,SKt C W J X0 kf Q κ m)->JOk C.base kf J (rM C (oD C A) f n c m)->∀X0,SK C W J X0 kf Q (yO C la f n c κ) (aD C (oD C A) f n c m):=by
 intro c;induction c with
 | skip=>intro κ m _ hκ _ X0;exact(hκ X0).norm
 | region id ops d=>intro κ m _ hκ _ X0;exact PM hW (hκ X0).norm
 | seq a b iha ihb=>
  intro κ m hR hκ hJ;exact iha ⟨yO C la f n b κ,κ.exit,κ.ret⟩ ⟨aD C (oD C A) f n b m,m.exit,m.ret⟩ (wQ.l hR).1 (fun X0=>⟨ihb κ m (wQ.l hR).2 hκ (fun d hd=>hJ d (ycf _ hd)) X0,(hκ X0).exit,(hκ X0).ret⟩) fun d hd=>hJ d (ydc _ hd)
 | cond x a b iha ihb=>
  intro κ m hR hκ hJ X0 st tm HA t X ν hst h;have ha:=iha κ m (wQ.l hR).1 hκ (fun d hd=>hJ d (ydc _ hd)) X0;have hb:=ihb κ m (wQ.l hR).2 hκ (fun d hd=>hJ d (ycf _ hd)) X0;have h:iA C.base W J (uC (ob (ev x (.now st.tm)) zA.asBool) fun b'=>bif rZ x st.lit then Bool.rec (motive:=fun _=>T) (yO C la f n b κ st) (yO C la f n a κ st) b' else .ite b' (yO C la f n a κ st) (yO C la f n b κ st)) t Q:=h
  rw[jE]at h;obtain⟨w,h1,h2⟩:=h;rw[mA]at h1;obtain⟨v,h3,h4⟩:=h1;show qC C.base X0 Q (ob (ob (ev x (.now tm)) zA.asBool) fun t=>Bool.rec (motive:=fun _=>iB) (aD C (oD C A) f n b m tm HA) (aD C (oD C A) f n a m tm HA) t);refine qC.ob (a:=w) (by rw[dE (Ou hst).1 h3];exact h4) ?_;have h2:if w=true then iA C.base W J (yO C la f n a κ st) t Q else iA C.base W J (yO C la f n b κ st) t Q:=by
   rw[rD]at h2;split at h2
   ·cases w<;>exact h2
   ·exact h2
  cases w with
  | true=>exact ha _ _ _ _ _ _ hst h2
  | false=>exact hb _ _ _ _ _ _ hst h2
 | block id c ih=>
  intro κ m hR hκ hJ;refine ih ⟨κ.norm,fun i st=>Bool.rec (motive:=fun _=>T) (κ.exit i st) (κ.norm st) (Nat.beq id i),κ.ret⟩ ⟨m.norm,fun i tm H=>Bool.rec (motive:=fun _=>iB) (m.exit i tm H) (m.norm tm H) (Nat.beq id i),m.ret⟩ hR (fun X0=>⟨(hκ X0).norm,fun i=>?_,(hκ X0).ret⟩) hJ;intro st tm HA t X ν hst h;have h:iA C.base W J (Bool.rec (motive:=fun _=>T) (κ.exit i st) (κ.norm st) (Nat.beq id i)) t Q:=h
  show qC C.base X0 Q (Bool.rec (motive:=fun _=>iB) (m.exit i tm HA) (m.norm tm HA) (Nat.beq id i))
  cases hb:Nat.beq id i with
  | true=>rw[hb]at h;exact(hκ X0).norm _ _ _ _ _ _ hst h
  | false=>rw[hb]at h;exact(hκ X0).exit i _ _ _ _ _ _ hst h
 | loop p c ih=>intro κ m _ hκ hJ X0;exact Xb hJ yby
 | exit id=>intro κ m _ hκ _ X0;exact(hκ X0).exit id
 | ret=>intro κ m _ hκ _ X0;exact(hκ X0).ret
 | cut p c ih=>intro κ m _ hκ hJ X0;exact Xb hJ yby
 | range i pl fo ps id ops c ih=>intro κ m hR hκ hJ X0;exact SP hW hY hκ (hR _ yby) fun vals t Q h=>hJ _ yby vals t Q h
def PtOk (C:dA)(W J:kI)(kf:Nat)(l:List PtT)(d:PtD):Prop:=∃q∈l,q.p=d.p/\∀vals t Q,iA C.base W J (q.tree vals) t Q->Rs C.base kf d vals t Q
def keptOk(kf:Nat):cD->Bool
 | .seq a b=>keptOk kf a&&keptOk kf b
 | .cond _ a b=>keptOk kf a&&keptOk kf b
 | .block _ c=>keptOk kf c
 | .loop p c=>p.kept.all (fun i=>Nat.blt i kf)&&keptOk kf c
 | .cut p c=>p.kept.all (fun i=>Nat.blt i kf)&&keptOk kf c
 | .range _ _ _ _ _ _ c=>keptOk kf c
 | _=>true
def TH(hW:mU C A W)(hY:Rp C A W){la:List Nat}{f:Nat}:∀(c:cD) (κ:KtT) (m:Kt),wQ A f c->keptOk kf c=true->(∀X0 Q,SKt C W J X0 kf Q κ m)->JOk C.base kf J (rM C (oD C A) f n c m)->∀d∈rM C (oD C A) f n c m,PtOk C W J kf (xZ C la f n kf c κ) d:=by
 have up:∀ {l l':List PtT} {d:PtD},PtOk C W J kf l d->(∀q∈l,q∈l')->PtOk C W J kf l' d:=fun⟨q,h1,h2⟩ hl=>⟨q,hl q h1,h2⟩
 intro c;induction c with
 | skip=>intro κ m _ _ _ _ d hd;cases hd
 | region id ops dr=>intro κ m _ _ _ _ d hd;cases hd
 | seq a b iha ihb=>
  intro κ m hR hk hκ hJ d hd;unfold keptOk at hk;rw[ybb]at hk;have e:xZ C la f n kf (.seq a b) κ=xZ C la f n kf a ⟨yO C la f n b κ,κ.exit,κ.ret⟩++xZ C la f n kf b κ:=wH _ _;rw[e];have hJa:JOk C.base kf J (rM C (oD C A) f n a ⟨aD C (oD C A) f n b m,m.exit,m.ret⟩):=fun d hd=>hJ d (ydc _ hd);have hJb:JOk C.base kf J (rM C (oD C A) f n b m):=fun d hd=>hJ d (ycf _ hd)
  rcases yaf.1 hd with hd | hd
  ·exact up (iha ⟨yO C la f n b κ,κ.exit,κ.ret⟩ ⟨aD C (oD C A) f n b m,m.exit,m.ret⟩ (wQ.l hR).1 hk.1 (fun X0 Q=>⟨Ik hW hY b κ m (wQ.l hR).2 (fun X0=>hκ X0 Q) hJb X0,(hκ X0 Q).exit,(hκ X0 Q).ret⟩) hJa d hd) fun q hq=>ydc _ hq
  ·exact up (ihb _ _ (wQ.l hR).2 hk.2 hκ hJb d hd) fun q hq=>ycf _ hq
 | cond x a b iha ihb=>
  intro κ m hR hk hκ hJ d hd;unfold keptOk at hk;rw[ybb]at hk;have e:xZ C la f n kf (.cond x a b) κ=xZ C la f n kf a κ++xZ C la f n kf b κ:=wH _ _;rw[e];rcases yaf.1 hd with hd | hd
  ·exact up (iha _ _ (wQ.l hR).1 hk.1 hκ (fun d hd=>hJ d (ydc _ hd)) d hd) fun q hq=>ydc _ hq
  ·exact up (ihb _ _ (wQ.l hR).2 hk.2 hκ (fun d hd=>hJ d (ycf _ hd)) d hd) fun q hq=>ycf _ hq
 | block id c ih=>
  intro κ m hR hk hκ hJ d hd;refine ih ⟨κ.norm,fun i st=>Bool.rec (motive:=fun _=>T) (κ.exit i st) (κ.norm st) (Nat.beq id i),κ.ret⟩ ⟨m.norm,fun i tm H=>Bool.rec (motive:=fun _=>iB) (m.exit i tm H) (m.norm tm H) (Nat.beq id i),m.ret⟩ hR hk (fun X0 Q=>⟨(hκ X0 Q).norm,fun i=>?_,(hκ X0 Q).ret⟩) hJ d hd;intro st tm HA t X ν hst h;have h:iA C.base W J (Bool.rec (motive:=fun _=>T) (κ.exit i st) (κ.norm st) (Nat.beq id i)) t Q:=h
  show qC C.base X0 Q (Bool.rec (motive:=fun _=>iB) (m.exit i tm HA) (m.norm tm HA) (Nat.beq id i))
  cases hb:Nat.beq id i with
  | true=>rw[hb]at h;exact(hκ X0 Q).norm _ _ _ _ _ _ hst h
  | false=>rw[hb]at h;exact(hκ X0 Q).exit i _ _ _ _ _ _ hst h
 | loop p c ih=>
  intro κ m hR hk hκ hJ d hd;unfold keptOk at hk;rw[ybb,ycb]at hk;have hJc:JOk C.base kf J (rM C (oD C A) f n c ⟨aD C (oD C A) f n (.loop p c) m,m.exit,m.ret⟩):=fun d hd=>hJ d (ybr _ hd);have hκ':∀X0 Q,SKt C W J X0 kf Q ⟨Fs p,κ.exit,κ.ret⟩ ⟨aD C (oD C A) f n (.loop p c) m,m.exit,m.ret⟩:=fun X0 Q=>⟨Xb hJ yby,(hκ X0 Q).exit,(hκ X0 Q).ret⟩;rcases ybs.1 hd with rfl | hd
  ·refine⟨_,yby,rfl,fun vals t Q hw X0 X HA tm ν hst=>?_⟩;show qC C.base X0 Q (aD C (oD C A) f n (.loop p c) m tm HA);rw[zc5];exact Ik hW hY c _ _ hR (fun X0=>hκ' X0 Q) hJc X0 _ _ _ _ _ _ (hst.keep fun i hi=>pC.1 (hk.1 i hi)) hw
  ·exact up (ih ⟨Fs p,κ.exit,κ.ret⟩ ⟨aD C (oD C A) f n (.loop p c) m,m.exit,m.ret⟩ hR hk.2 hκ' hJc d hd) fun q hq=>ybr _ hq
 | exit id=>intro κ m _ _ _ _ d hd;cases hd
 | ret=>intro κ m _ _ _ _ d hd;cases hd
 | cut p c ih=>
  intro κ m hR hk hκ hJ d hd;unfold keptOk at hk;rw[ybb,ycb]at hk;have hJc:JOk C.base kf J (rM C (oD C A) f n c m):=fun d hd=>hJ d (ybr _ hd);rcases ybs.1 hd with rfl | hd
  ·refine⟨_,yby,rfl,fun vals t Q hw X0 X HA tm ν hst=>?_⟩;exact Ik hW hY c _ _ hR (fun X0=>hκ X0 Q) hJc X0 _ _ _ _ _ _ (hst.keep fun i hi=>pC.1 (hk.1 i hi)) hw
  ·exact up (ih _ _ hR hk.2 hκ hJc d hd) fun q hq=>ybr _ hq
 | range i pl fo ps id ops c ih=>
  intro κ m hR hk hκ hJ d hd;have hR':wQ A f c:=fun q hq=>hR q (ybr _ hq);have hJc:JOk C.base kf J (rM C (oD C A) f n c rdK):=fun d hd=>hJ d (ybr _ hd);rcases ybs.1 hd with rfl | hd
  ·refine⟨_,yby,rfl,fun vals t Q hw X0 X HA tm ν hst=>?_⟩;exact Ik hW hY (.seq (.region id ops false) c) rdT rdK (fun q hq=>hR' q hq) (fun _=>zd8) (fun d hd=>hJc d hd) X0 _ _ _ _ _ _ hst hw
  ·exact up (ih rdT rdK hR' hk (fun _ _=>zd8) hJc d hd) fun q hq=>ybr _ hq
end
end
section
def Tr.mapT{α β:Type}(f:α->β)(t:Tr α):Tr β:=Tr.rec (motive:=fun _=>Tr β) .leaf (fun _ v _ l r=>.node l (match v with | some a=>some (f a) | none=>none) r) t
theorem Tr.get_mapT{α β:Type}(f:α->β):∀(t:Tr α) (n:Nat),(t.mapT f).get n=(t.get n).map f:=by
 intro t;induction t with
 | leaf=>intro n;rfl
 | node l v r ihl ihr=>
  intro n;show(Tr.node (l.mapT f) (match v with | some a=>some (f a) | none=>none) (r.mapT f)).get n=_
  grind [Tr.get_node]
def jO(F:Tr cF):Tr cD:=F.mapT cF.code
def fnB (f kf:Nat)(c:cD):Bool:=Nat.blt f yo&&(keptOk kf c&&(match vT c with | []=>true | [_]=>true | _=>false))
structure cN (C:dA) (F:Tr cF) (f:Nat) (fn:Func) (kf:Nat) (A:cF):Prop where
 isF:F.get f=some A
 isFn:C.fns.get f=some fn
 isK:C.ks.get f=some kf
 prim:oH (C.prims.get f)=true
 kept:fnB f kf A.code=true
 body:oH fn.body=false
theorem cN.lt{C:dA}{F:Tr cF}{f:Nat}{fn:Func}{kf:Nat}{A:cF}(h:cN C F f fn kf A):Nat.blt f yo=true:=by
 have:=h.kept;grind [fnB]
theorem cN.keptOk{C:dA}{F:Tr cF}{f:Nat}{fn:Func}{kf:Nat}{A:cF}(h:cN C F f fn kf A):keptOk kf A.code=true:=by
 have:=h.kept;grind [fnB]
def cN.code{C:dA}{F:Tr cF}{f:Nat}{fn:Func}{kf:Nat}{A:cF}(h:cN C F f fn kf A):(jO F).get f=some A.code:=by unfold jO;rw[Tr.get_mapT,h.isF];rfl
theorem cN.one{C:dA}{F:Tr cF}{f:Nat}{fn:Func}{kf:Nat}{A:cF}(h:cN C F f fn kf A):wQ (jO F) f A.code:=by
 have:=h.kept;unfold fnB at this;simp only[ybb]at this;intro q hq;refine⟨_,h.code,?_⟩
 grind [Jm]
def Wc (C:dA)(F:Tr cF):kI:=fun f args t Q=>∀X HA,Ov C.base t X HA->qC C.base X Q (Cy C (jO F) f args HA)
theorem Wc.mono{C:dA}{F:Tr cF}{f:Nat}{args:List zA}{t:Tr qA}{Q Q':aB}(h:Wc C F f args t Q)(k:∀v t',Q v t'->Q' v t'):Wc C F f args t Q':=fun X HA ho=>(h X HA ho).mono k
theorem Tr.bound{α:Type}(t:Tr α):∃n,∀b y,t.get b=some y->b<n:=by
 induction t with
 | leaf=>simp_all [Tr.get_leaf]
 | node l v r ihl ihr=>
  obtain⟨n,hn⟩:=ihl;obtain⟨m,hm⟩:=ihr;refine⟨2*n+2*m+3,fun b y h=>?_⟩
  grind [Tr.get_node]
def PV (C:dA)(F:Tr cF)(f:Nat)(args:List zA)(t:Tr qA)(v:zA):Prop:=Wc C F f args t fun v' t'=>v'=v/\t'=t
def PV.unique{C:dA}{F:Tr cF}{f:Nat}{args:List zA}{t:Tr qA}{v v':zA}(h:PV C F f args t v)(h':PV C F f args t v'):v=v':=by
 obtain⟨n,hn⟩:=Tr.bound t;have ho:Ov C.base t (fun _=>none) ⟨C.base+n,t⟩:=⟨Nat.le_add_right _ _,fun _ _=>rfl,fun _ _ h=>(by cases h),fun b y hb=>Nat.lt_of_lt_of_le (hn b y hb) (Nat.le_add_left _ _)⟩;obtain⟨u,t',HA',X',h1,_,_,h2,_⟩:=h _ _ ho;obtain⟨u',t'',HA'',X'',h3,_,_,h4,_⟩:=h' _ _ ho;rw[h1]at h3;cases h3;rw[<- h2,<- h4]
def rB (C:dA)(F:Tr cF)(f:Nat)(args:List zA)(t:Tr qA):Option zA:=@dite _ (∃v,PV C F f args t v) (Classical.propDecidable _) (fun h=>some h.choose) (fun _=>none)
theorem dB{C:dA}{F:Tr cF}{f:Nat}{args:List zA}{t:Tr qA}{v:zA}:rB C F f args t=some v ↔ PV C F f args t v:=by
 unfold rB;constructor
 ·intro h;by_cases hx:∃v,PV C F f args t v
  all_goals grind
 ·intro h;have hx:∃v,PV C F f args t v:=⟨v,h⟩;rw[dif_pos hx,PV.unique hx.choose_spec h]
def Wq (C:dA)(F:Tr cF)(pure:Nat->Bool):kI:=fun f args t R=>if (pure f&&Nat.blt f yo)=true then oF (rB C F f args t) fun v=>R v t else Wc C F f args t R
theorem Wq_ok{C:dA}{F:Tr cF}{pure:Nat->Bool}:mU C (jO F) (Wq C F pure):=by
 intro f args t R h X HA ho;unfold Wq at h;split at h
 ·rw[bW]at h;obtain⟨v,h1,h2⟩:=h;exact((dB.1 h1) X HA ho).mono fun v' t' hh=>by simp_all
 ·exact h X HA ho
theorem zfu{C:dA}{F:Tr cF}{pure:Nat->Bool}:Rp C (jO F) (Wq C F pure):=by
 intro l args t Q h;unfold Wq;have:Nat.blt (yo+l) yo=false:=Bool.eq_false_iff.2 fun e=>by grind [pC]
 rw[this,yay,yaa (by simp)];exact h
def Jq (C:dA)(F:Tr cF)(f:Nat):kI:=fun i vals t Q=>∀fn kf A,cN C F f fn kf A->∀d∈rM C (oD C (jO F)) f fn.ntmps A.code (fU C fn),d.p.id=i->Rs C.base kf d vals t Q
def Jq_ok{C:dA}{F:Tr cF}{f:Nat}{fn:Func}{kf:Nat}{A:cF}(h:cN C F f fn kf A):JOk C.base kf (Jq C F f) (rM C (oD C (jO F)) f fn.ntmps A.code (fU C fn)):=
 fun d hd _ _ _ hJ=>hJ fn kf A h d hd rfl
section
variable {W J:kI}{t:Tr qA}{X X0:Xt}{HA:wA}{C:dA}{A:Tr cD}{ν:Nat->Nat}{Q:aB}{kf n:Nat}{st:bG}{tm:Tm}
theorem zgz(hst:eF C.base X0 kf ν X st tm HA t):∀(l:List ResultVar) (K:List zA->T),iA C.base W J (Es C st l K) t Q->∃vs,gW C HA tm l=some vs/\iA C.base W J (K vs) t Q:=by
 intro l;induction l with
 | nil=>intro K h;exact⟨[],rfl,h⟩
 | cons r l ih=>
  intro K h
  cases r with
  | tmp i=>
   have h:iA C.base W J (uC (st.tm.get i) fun v=>Es C st l fun l=>K (v::l)) t Q:=h;rw[jE]at h;obtain⟨v,h1,h2⟩:=h;obtain⟨vs,h3,h4⟩:=ih _ h2;refine⟨v::vs,?_,h4⟩;show fG (bY C HA tm) _=_;rw[dM];show ob (tm.get i) _=_;rw[hst.tms _ _ h1,pA];have h3:fG (bY C HA tm) l=some vs:=h3;rw[h3];rfl
  | cell a ty=>
   have h:iA C.base W J (match qK a st.ad with
    | some p=>uC (st.lo.get p.1) fun m=>uC (C.tys.get ty) fun y=>jJ (Nat.ble (p.2+y.size) (oB m)) (uC (vO C ty m p.2) fun v=>Es C st l fun l=>K (v::l))
    | none=>uC (st.tm.get a) fun a=>.light (fun m=>vC C ty ⟨0,m⟩ a) fun v=>Es C st l fun l=>K (v::l)) t Q:=h
   have fF:∀ {u v:zA},tm.get a=some u->vC C ty HA u=some v->iA C.base W J (Es C st l fun l=>K (v::l)) t Q->∃vs,gW C HA tm (.cell a ty::l)=some vs/\iA C.base W J (K vs) t Q:=by
    intro u v h1 h2 h3;obtain⟨vs,h4,h5⟩:=ih _ h3;refine⟨v::vs,?_,h5⟩;show fG (bY C HA tm) _=_;rw[dM];have e:bY C HA tm (.cell a ty)=some v:=by
     show(ob (ob (tm.get a) zA.asPtr) fun p=>ob (C.tys.get ty) fun ty=>ob (mD HA p.1) fun c=>zR ty c.1 p.2)=some v
     grind [vC,pA]
    have h4:fG (bY C HA tm) l=some vs:=h4
    simp_all
   split at h
   ·rename_i p hp;simp only[jE,kM]at h;obtain⟨m,h1,y,h2,h3,v,h4,h5⟩:=h;exact fF (hst.ads _ _ hp) (GK hst.ov hst.lo h1 h2 h3 h4) h5
   ·simp only[jE,Dm]at h;obtain⟨u,h1,v,h2,h3⟩:=h;exact fF (hst.tms _ _ h1) (Me hst.ov.le h2) h3
def KV{fn:Func}:SK C W J X0 kf Q (endT C fn) (Gi C fn):=by
 intro st tm HA t X ν hst h;obtain⟨vs,h1,h2⟩:=zgz hst _ _ h;unfold Gi;exact qC.ob h1 ⟨_,t,HA,X,rfl,hst.ov,hst.le,h2⟩
def AL{fn:Func}:SKt C W J X0 kf Q (topT C fn) (fU C fn):=⟨KV,fun _ _ _ _ _ _ _ _ h=>h.elim,KV⟩
end
section
variable {C:dA}{F:Tr cF}{f:Nat}{fn:Func}{kf:Nat}{A:cF}{pure:Nat->Bool}{t:Tr qA}{Q:aB}
theorem Aj(h:cN C F f fn kf A){args:List zA}(hl:(Nat.ble (oB args) kf&&Nat.ble (oB args) fn.ntmps)=true)(hw:iA C.base (Wq C F pure) (Jq C F f) (zY C fn kf f A args) t Q):Wc C F f args t Q:=by
 intro X HA ho;have hA:=h.code;obtain⟨body,hb⟩:∃b,fn.body=some b:=by
  cases hx:fn.body with
  | none=>have:=h.body;rw[hx]at this;cases this
  | some b=>simp_all
 have he:gL C f args false=some ⟨[.code body],⟨kf,Tr.ofList args,[]⟩,⟨f,fn.ntmps,[],.run,false,none⟩⟩:=by
  unfold gL;rw[h.isFn,pA,hb,pA,h.isK,pA,hl];rfl
 have hp:C.prims.get f=none:=by
  cases hx:C.prims.get f with
  | none=>rfl
  | some g=>have:=h.prim;rw[hx]at this;cases this
 rw[Gr h.lt,hp];show qC C.base X Q (oD C (jO F) (.func f) args HA);rw[zfl];show qC C.base X Q (nS C (jO F) (oD C (jO F)) f args HA);unfold nS;refine qC.ob hA (qC.ob h.isFn (qC.ob he ?_));have hst:eF C.base X kf (fun i=>i) X ⟨⟨kf,Tr.ofList args,[]⟩,[],.leaf,[]⟩ ⟨kf,Tr.ofList args,[]⟩ HA t:=
  ⟨ho,oJ.refl _,rfl,rfl,fun _ _ h=>h,fun _ _ h=>(by cases h),fun d l h=>(by grind [Tr.get_leaf]),fun d _ l _ h=>(by omega)⟩
 exact Ik Wq_ok zfu A.code (topT C fn) (fU C fn) h.one (fun _=>AL) (Jq_ok h) _ _ _ _ _ _ _ hst hw
theorem Jq_of(h:cN C F f fn kf A){i:Nat}{vals:List zA}{l:List T}(hp:Fdzx (ptsT C fn kf f A) i vals=l)(hw:∀T∈l,iA C.base (Wq C F pure) (Jq C F f) T t Q):Jq C F f i vals t Q:=by
 intro fn' kf' A' h' d hd hi;have e1:=h.isFn;rw[h'.isFn]at e1;cases e1;have e2:=h.isK;rw[h'.isK]at e2;cases e2;have e3:=h.isF;rw[h'.isF]at e3;cases e3;obtain⟨q,h1,h2,h3⟩:=TH (W:=Wq C F pure) Wq_ok zfu A.code (topT C fn) (fU C fn) h.one h.keptOk (fun _ _=>AL) (Jq_ok h) d hd;refine h3 vals t Q (hw _ ?_);subst hp;have key:∀(l:List PtT),q∈l->q.tree vals∈Fdzx l i vals:=by
  intro l;induction l with
  | nil=>simp_all
  | cons p l ih=>
   grind [Fdzx,oC]
 exact key _ h1
def zfv(h:cN C F f fn kf A){i:Nat}{vals:List zA}{T:T}(hp:Fdzx (ptsT C fn kf f A) i vals=[T])(hw:iA C.base (Wq C F pure) (Jq C F f) T t Q):Jq C F f i vals t Q:=
 Jq_of h hp fun T' hT=>by rw[ydd.1 hT];exact hw
theorem Jq.mono{i:Nat}{vals:List zA}{Q':aB}(h:Jq C F f i vals t Q)(k:∀v t',Q v t'->Q' v t'):Jq C F f i vals t Q':=
 fun fn kf A hf d hd hi X0 X HA tm ν hst=>(h fn kf A hf d hd hi X0 X HA tm ν hst).mono k
theorem Wc_pv{args:List zA}{v:zA}(h:rB C F f args t=some v)(hq:Q v t):Wc C F f args t Q:=(dB.1 h).mono fun _ _ hh=>by simp_all
theorem Nu{g:List zA->wA->Option zA}(hg:C.prims.get f=some (gM g)){args:List zA}{v:zA}(h:∀H,g args H=some v)(hf:Nat.blt f yo=true:=by rfl):rB C F f args t=some v:=by
 refine dB.2 fun X HA ho=>?_;rw[Gr hf,hg];exact⟨v,t,HA,X,by grind [gM,pA],ho,oJ.refl _,rfl,rfl⟩
theorem lL{args:List zA}{v:zA}(h:Wc C F f args t fun v' t'=>v'=v/\∀b y,t.get b=some y->t'.get b=some y):rB C F f args t=some v:=by
 refine dB.2 fun X HA ho=>?_;obtain⟨u,t',HA',X',h1,h2,h3,h4,h5⟩:=h X HA ho;refine⟨u,t,HA',fun b=>match t.get b with | some _=>none | none=>HA'.t.get b,h1,⟨h2.base,?_,?_,?_⟩,?_,h4,rfl⟩
 ·intro b hb
  cases hg:t.get b with
  | some y=>rw[h2.up (h5 b y hg)]
  | none=>simp_all
 ·intro b y hb
  cases hg:t.get b with
  | some y=>simp_all
  | none=>
   simp only[hg]at hb;refine⟨hb,rfl,?_⟩
   cases hx:X' b with
   | some z=>exact(h2.ext b z hx).2.2
   | none=>rw[h2.same b hx]at hb;exact h2.lt b y hb
 ·intro b y hb;exact h2.lt b y (h5 b y hb)
 ·intro b y hb;have hn:=(ho.ext b y hb).2.1;simp only[hn];exact(h2.ext b y (h3 b y hb)).1
end
theorem YW{P:Program}{C:dA}{F:Tr cF}{B N:Nat}{I:World->Prop}{μ:Mu}{w:World}(hS:lI P C B N I)(hI:I w)(hA:Dh C (jO F)){f:Nat}(hp:C.prims.get f=none){args:List zA}{args':Array Value}{H:wA}{Q:aB}(hbase:C.base<=H.next)(hlt:∀b y,H.t.get b=some y->b<H.next)(hH:mB B N μ H w)(hl:lB μ args args'.toList)
  (h:Wc C F f args H.t Q) (hf:Nat.blt f yo=true:=by rfl):Calls P f args' w fun e w'=>∃v v' t' μ',e=.returned v'/\μ.lw μ'/\vA μ' v v'/\Q v t'/\Below N w w':=by
 obtain⟨v,t',HA',X',h1,h2,h3,h4⟩:=h (fun _=>none) H ⟨hbase,fun _ _=>rfl,fun _ _ h=>(by cases h),hlt⟩;rw[Gr hf,hp]at h1;intro base;obtain⟨e,w',b,⟨v',μ',g1,g2,g3,g4,g5⟩,g6⟩:=YU hS hI hA hH hl h1 base
 grind
end
section
def piOf (i:Nat)(l:List (Nat × PI)):Option PI:=List.rec (motive:=fun _=>Option PI) none (fun a _ g=>bif Nat.beq i a.1 then some a.2 else g) l
def cutP (p:Option PI)(c:cD):cD:=
 match p with
 | some p=>.cut p c
 | none=>c
def zhf(p:Option PI)(c:cD):cD:=
 match p with
 | some p=>.loop p c
 | none=>.loop ⟨0,[],[]⟩ c
def rangeP(p:Option PI)(f:Operand)(ps:Array Nat)(a:Code)(c:cD):cD:=
 match a with
 | .region id ops _=>.range (match p with | some p=>p.id | none=>0) (match p with | some p=>p.pl | none=>[]) f ps id ops c
 | _=>.skip
def IW:Code->Bool
 | .region _ _ d => !d
 | _=>false
def oY(rt lt:List (Nat × PI))(c:Code):Nat->cD:=
 Code.rec (motive:=fun _=>Nat->cD)
  (fun _=>.skip)
  (fun id ops d _=>cutP (piOf id rt) (.region id ops d))
  (fun _ _ ga gb k=>.seq (ga k) (gb k))
  (fun c _ _ gx gy k=>.cond c (gx k) (gy k))
  (fun id _ g _=>.block id (g id))
  (fun _ g k=>zhf (piOf k lt) (g k))
  (fun f ps a _ _ gb k=>rangeP (piOf k lt) f ps a (gb k))
  (fun id _=>.exit id)
  (fun _ _ _=>.skip)
  (fun _ _=>.skip)
  (fun _ _=>.skip)
  (fun _=>.ret)
  (fun _ _=>.skip) c
def annot(rt lt:List (Nat × PI))(k:Nat)(c:Code):cD:=oY rt lt c k
def xS(c:Code):Bool:=
 Code.rec (motive:=fun _=>Bool) true (fun _ _ _=>true) (fun _ _ a b=>bif a then b else false) (fun _ _ _ a b=>bif a then b else false) (fun _ _ a=>a) (fun _ a=>a)
  (fun _ _ a _ _ b=>bif IW a then b else false) (fun _=>true) (fun _ _=>false) (fun _=>false) (fun _=>false) true (fun _=>false) c
def XE(p:Option PI)(c:cD):xG (cutP p c)=xG c:=by cases p<;>rfl
def XD(p:Option PI)(c:cD):xG (zhf p c)=.loop (xG c):=by cases p<;>rfl
def XF{rt lt:List (Nat × PI)}:∀(c:Code) (k:Nat),xS c=true->xG (oY rt lt c k)=c:=by
 intro c;induction c with
 | skip=>intro k _;rfl
 | region id ops d=>intro k _;show xG (cutP _ _)=_;rw[XE];rfl
 | seq a b iha ihb=>
  intro k h;have h:(bif xS a then xS b else false)=true:=h;have ha:xS a=true:=by simp_all
  have hb:xS b=true:=by simp_all
  show Code.seq (xG (oY rt lt a k)) (xG (oY rt lt b k))=_;rw[iha k ha,ihb k hb]
 | cond c x y ihx ihy=>
  intro k h;have h:(bif xS x then xS y else false)=true:=h;have ha:xS x=true:=by simp_all
  have hb:xS y=true:=by simp_all
  show Code.cond c (xG (oY rt lt x k)) (xG (oY rt lt y k))=_;rw[ihx k ha,ihy k hb]
 | block id c ih=>intro k h;show Code.block id (xG (oY rt lt c id))=_;rw[ih id h]
 | loop c ih=>intro k h;show xG (zhf _ (oY rt lt c k))=_;rw[XD,ih k h]
 | exit id=>intro k _;rfl
 | ret=>intro k _;rfl
 | rangeFunc f ps a b _ ihb=>
  intro k h;have h:(bif IW a then xS b else false)=true:=h
  cases a with
  | region id ops d=>
   cases d with
   | true=>cases h
   | false=>show Code.rangeFunc f ps (.region id ops false) (xG (oY rt lt b k))=_;rw[ihb k h]
  | _=>cases h
 | scope c _=>intro k h;cases h
 | label l=>intro k h;cases h
 | goto l=>intro k h;cases h
 | refuse s=>intro k h;cases h
def Ec (l:List (Nat × cF)):Tr cF:=List.rec (motive:=fun _=>Tr cF) .leaf (fun p _ g=>g.set p.1 p.2) l
def zax{l:List (Nat × cF)}{f:Nat}{A:cF}(h:(Ec l).get f=some A):(f,A)∈l:=by
 induction l with
 | nil=>grind [Ec,Tr.get_leaf]
 | cons p l ih=>
  grind [Ec,Tr.get_set]
def zfw(C:dA)(p:Nat × cF):Prop:=∃fn c,C.fns.get p.1=some fn/\fn.body=some c/\xG p.2.code=c
def bodyOk{C:dA}{f:Nat}{fn:Func}{c:Code}{rt lt:List (Nat × PI)}{la:List Nat}(h1:C.fns.get f=some fn)(h2:fn.body=some c)(h3:xS c=true):zfw C (f,⟨annot rt lt 0 c,la⟩):=⟨fn,c,h1,h2,XF c 0 h3⟩
def YN{C:dA}{l:List (Nat × cF)}(h:∀p∈l,zfw C p):Dh C (jO (Ec l)):=by
 intro f c hc;unfold jO at hc;rw[Tr.get_mapT]at hc
 cases hq:(Ec l).get f with
 | none=>simp_all
 | some A=>
  rw[hq]at hc;cases hc;obtain⟨fn,b,h1,h2,h3⟩:=h _ (zax hq)
  simp_all
end
end Go.Am
namespace Go.Am
class lC where
 n:Nat
def Oe(a:List zA)(_:wA):Option zA:=match a with | []=>some (.bool true) | _=>none
def bT:List Nat->List Nat->Bool
 | [],_=>true
 | _::_,[]=>false
 | a::x,b::y=>bif Nat.beq a b then bT x y else false
def cutL (sub:List Nat):List Nat->Option (List Nat × List Nat)
 | []=>bif sub.isEmpty then some ([],[])else none
 | b::l=>bif bT sub (b::l)then some ([],fP (b::l) (oB sub))else ob (cutL sub l) fun p=>some (b::p.1,p.2)
def pCut (a:List zA)(_:wA):Option zA:=match a with
 | [.str s,.str c]=>pB (Nat.blt (oB s) 4294967281) (match cutL c s with
  | some p=>some (.tup [.str p.1,.str p.2,.bool true])
  | none=>some (.tup [.str s,.str [],.bool false]))
 | _=>none
def kL(n:Int):List Nat:=(Lib.itoa n).map UInt8.toNat
def Ff(a:List zA)(_:wA):Option zA:=match a with
 | [.int .i64 n]=>pB (xC (-9223372036854775808) n&&kB n 9223372036854775808) (some (.str (kL n)))
 | _=>none
def Jl(a:List zA)(_:wA):Option zA:=match a with
 | [.int .u64 n,.int .i64 b]=>pB (xC 0 n&&kB n 18446744073709551616&&tA b 10) (some (.str (kL n)))
 | _=>none
end Go.Am
namespace Go.Am
open Go Go.Shelf Go.RowKit Go.Proofs
variable {P:Program}{ρ:Ren}
set_option maxHeartbeats 2000000 in
set_option maxRecDepth 100000 in
theorem XO(L:Lays.n169 P ρ)(X:Builder.Extra P ρ)(b g cap cells:Nat)(l:List UInt8)(w:World)(c1:w.cell? ⟨b,1,none⟩=some (.slice (some ⟨g,0,none⟩) l.length cap))(h0:l≠[])(hcap:l.length<=cap)
  (hsh:w.shape? g=some (ρ.t 5,cells)) (hc:l.length<=cells) (h63:l.length<=9223372036854775807) (hcell:∀j x,l[j]?=some x->w.cell? ((⟨g,0,none⟩:Addr).add j)=some (.int .u8 x.toNat)) :
  Calls P (ρ.f 169) #[.pointer (some ⟨b,0,none⟩)] w fun e w'=>e=.returned (.string ⟨l.toArray⟩)/\w'=w.drew.freeze ⟨g,0,none⟩ l.length:=by
 have hl0:l.length≠0:=by simp_all
 have c1:w.drew.cell? ⟨b,1,none⟩=some (.slice (some ⟨g,0,none⟩) l.length cap):=c1;have hSD:(Builtin.unsafeSliceData_ #[(ρ.t 37)] (ρ.t 127) #[.slice (some ⟨g,0,none⟩) l.length cap]).run P w.drew=.ok (.pointer (some ⟨g,0,none⟩)) w.drew:=
  Lib.run_unsafeSliceData_row _ _ _ _ _ _ (by omega)
 have hUS:(Builtin.unsafeString_ #[(ρ.t 127),(ρ.t 3)] (ρ.t 9) #[.pointer (some ⟨g,0,none⟩),.int .i64 l.length]).run P w.drew=.ok (.string ⟨l.toArray⟩) (w.drew.freeze ⟨g,0,none⟩ l.length):=
  Lib.run_unsafeString_row w.drew (ρ.t 127) (ρ.t 3) (ρ.t 9) (ρ.t 5) L.t127 X.cellsByte g cells hsh l h0 hc h63 hcell
 have mixed:=L.mixed;have t72:=L.t72;have a72:=L.a72;have z72:=L.z72;have v72:=L.v72;have u72:=run_underlying L.t72;have t70:=L.t70;have a70:=L.a70;have z70:=L.z70;have v70:=L.v70;have u70:=run_underlying L.t70;have t37:=L.t37;have a37:=L.a37;have z37:=L.z37;have v37:=L.v37;have u37:=run_underlying L.t37;have t127:=L.t127;have a127:=L.a127;have z127:=L.z127;have v127:=L.v127;have u127:=run_underlying L.t127
 have t3:=L.t3;have a3:=L.a3;have z3:=L.z3;have v3:=L.v3;have u3:=run_underlying L.t3;have t9:=L.t9;have a9:=L.a9;have z9:=L.z9;have v9:=L.v9;have u9:=run_underlying L.t9;have t5:=X.t5;have a5:=X.a5;have z5:=X.z5;have v5:=X.v5;have u5:=run_underlying X.t5
 go_enter L.f169,Body.n169_ntmps ρ
 go_wp2
 go_region_o
 all_goals (go_wp2;go_ret;simp_all)
end Go.Am
namespace Go.Am
open Go Go.Shelf Go.RowKit Go.Proofs
section
variable {P:Program}{ρ:Ren}{B N:Nat}{μ:Mu}{H:wA}{w:World}
theorem mB.scratch(hH:mB B N μ H w){g:Nat}(hg:N<=g)(hfree:∀a x j,H.t.get a=some x->μ a=some j->j.b≠g)(o':Obj):mB B N μ H (World.setBlk w g o'):=by
 have hsz:(World.setBlk w g o').heap.size=w.heap.size:=by simp[World.setBlk]
 refine⟨hH.base,hH.glob,hH.low,hH.next,by rw[hsz];exact hH.size,hH.fresh,fun a x i hx hi=>?_,fun a i ha hi=>by rw[hsz];exact hH.own a i ha hi,hH.inj,hH.pnd⟩;obtain⟨o,h1,h2⟩:=hH.blk a x i hx hi
 grind [Bp]
def Jx:List (Nat × Nat)->Nat->Nat->Bool
 | [],_,_=>false
 | p::r,t,n=>bif Nat.beq p.1 t&&Nat.ble p.2 n then true else Jx r t n
theorem FW:∀ {Ts:List (Nat × Nat)} {t n:Nat},Jx Ts t n=true->∃p∈Ts,p.1=t/\p.2<=n
 | [],_,_,h=>by cases h
 | p::r,t,n,h=>by
  unfold Jx at h;rw[rD]at h;split at h
  ·simp_all
  ·obtain⟨q,h1,h2⟩:=FW h
   grind
def Bw(base:Nat)(Ts:List (Nat × Nat))(args:List zA)(H:wA):Option (zA × wA):=
 match args with
 | [.ptr b 0]=>ob (mD H b) fun c=>ob (c.1.get 0) fun v=>match v with
  | .nilptr=>pB (!Nat.blt b base&&(match c.2.2 with | some (.ty t)=>Jx Ts t c.2.1 | _=>false)) (some (.tup [],setBlk H b (.cells (c.1.set 0 (.ptr b 0)) c.2.1 c.2.2)))
  | .ptr d o=>pB (Nat.beq d b&&Nat.beq o 0) (some (.tup [],H))
  | _=>none
 | _=>none
theorem TQ{f:Nat}{Ts:List (Nat × Nat)}{base:Nat}(hbase:B<=base)
  (hfresh:∀p∈Ts,∀(b n:Nat) (w:World),w.cell? ⟨b,0,none⟩=some (.pointer none)->w.shape? b=some (p.1,n)->p.2<=n->w.frozen? ⟨b,0,none⟩=false->Calls P f #[.pointer (some ⟨b,0,none⟩)] w fun e w'=>e=.returned (.tuple #[])/\w'=w.setCell ⟨b,0,none⟩ (.pointer (some ⟨b,0,none⟩)))
  (hused:∀(b:Nat) (w:World),w.cell? ⟨b,0,none⟩=some (.pointer (some ⟨b,0,none⟩))->Calls P f #[.pointer (some ⟨b,0,none⟩)] w fun e w'=>e=.returned (.tuple #[])/\w'=w)
  (henter:∀(w:World) (a:Array Value),(callFunc f a).run P w=.ok (.enter f a) w) {args:List zA} {args':Array Value} {v:zA} {H':wA} (hH:mB B N μ H w) (hv:Bw base Ts args H=some (v,H')) (hl:lB μ args args'.toList) :
  (callFunc f args').run P w=.ok (.enter f args') w/\Calls P f args' w fun e w'=>∃v' μ',e=.returned v'/\μ.le μ'/\mB B N μ' H' w'/\Below N w w'/\vA μ' v v':=by
 refine⟨henter w args',?_⟩;unfold Bw at hv;split at hv
 case h_2=>cases hv
 rename_i b;rw[lB]at hl;obtain⟨u,r,h1,h2,h3⟩:=hl;rw[lB]at h3;subst h3;rw[vA]at h2;obtain⟨i,hi,rfl⟩:=h2;have ha:args' = #[.pointer (some ⟨i.b,0,none⟩)]:=by apply yax.1;rw[h1]
 subst ha;rw[mA]at hv;obtain⟨⟨c,n,lo⟩,hc,hv⟩:=hv;rw[mA]at hv;obtain⟨v0,h0,hv⟩:=hv;have hx:=Ad hc;obtain⟨o,g1,g2⟩:=hH.blk _ _ _ hx hi;have g2':=g2;obtain⟨cs,E,fr,rfl,g3,g4,g5,g6⟩:=g2;obtain⟨hn,u,hu,hr⟩:=g5 0 v0 h0;have g3:n<=cs.size:=g3;have hn:0<n:=hn;have hcell0:w.cell? ⟨i.b,0,none⟩=some u:=by grind [World.cell?]
 have hundef:vA μ (.tup []) (.tuple #[]):=by rw[vA];exact⟨#[],rfl,.nil⟩
 split at hv
 ·rw[vA]at hr;subst hr;simp only[jB,ybb,ycp]at hv;obtain⟨⟨hb,ht⟩,hv⟩:=hv;cases hv;have hown:B<=b:=by
   grind [pC]
  have hNb:=hH.own b i hown hi;have hfr:=g4.resolve_left (by simp_all);have hE:∃p∈Ts,p.1=E/\p.2<=n:=by
   grind [FW]
  obtain⟨p,hpT,hpE,hpn⟩:=hE;subst hpE;refine(hfresh p hpT i.b cs.size w hcell0 (by unfold World.shape?;rw[g1]) (Nat.le_trans hpn g3) ?_).mono ?_
  ·grind [World.frozen?]
  ·rintro e w' ⟨rfl,rfl⟩;rw[CT g1];refine⟨_,μ,rfl,μ.le_refl,hH.upd hx hi hown ?_,cV hNb.1,hundef⟩;refine⟨_,_,fr,rfl,by simp_all,by simp_all,fun j x hj=>?_,by simp_all⟩
   grind [Tr.get_set,vA]
 ·rename_i d o;simp only[jB,ybb,oC]at hv;obtain⟨⟨rfl,rfl⟩,hv⟩:=hv;cases hv;rw[vA]at hr;obtain⟨i',hi',rfl⟩:=hr;rw[hi]at hi';cases hi';refine(hused i.b w hcell0).mono ?_;rintro e w' ⟨rfl,rfl⟩;exact⟨_,μ,rfl,μ.le_refl,hH,Below.refl _ _,hundef⟩
 grind
theorem zb6{α β:Type}{f:α->Option β}:∀ {l:List α} {r:List β},fG f l=some r->r.length=l.length/\∀(t:Nat) k,r[t]?=some k->∃y,l[t]?=some y/\f y=some k:=by
 intro l;induction l with
 | nil=>grind [Ce]
 | cons a l ih=>
  grind [dM,mA]
theorem zdm{k:Nat}(h:k<256):(UInt8.ofNat k).toNat=k:=by
 simp_all
def byteOf:zA->Option Nat
 | .int .u8 (.ofNat k)=>pB (Nat.blt k 256) (some k)
 | _=>none
theorem ZE{v:zA}{k:Nat}(h:byteOf v=some k):v=.int .u8 (k:Int)/\k<256:=by
 unfold byteOf at h;split at h
 all_goals grind [jB,pC]
def Fe(base U:Nat)(args:List zA)(H:wA):Option (zA × wA):=
 match args with
 | [.ptr b 0]=>ob (mD H b) fun c=>ob (c.1.get 1) fun v=>ob v.asSlice fun s=>ob (mD H s.1) fun d=>ob (d.1.many s.2.2.1 0) fun m=>ob (fG byteOf m) fun l=>
  pB (!Nat.blt s.1 base&&Nat.beq s.2.1 0&&Nat.blt 0 s.2.2.1&&Nat.ble s.2.2.1 s.2.2.2&&Nat.ble s.2.2.1 d.2.1&&Nat.blt s.2.2.1 1000000000&&(match d.2.2 with | some (.ty t)=>Nat.beq t U | _=>false)) (some (.str l,⟨H.next,H.t.del s.1⟩))
 | _=>none
theorem TP{f:Nat}(L:Lays.n169 P ρ)(X:Builder.Extra P ρ)(hf:ρ.f 169=f){base:Nat}(hbase:B<=base)
  (henter:∀(w:World) (a:Array Value),(callFunc f a).run P w=.ok (.enter f a) w) {args:List zA} {args':Array Value} {v:zA} {H':wA} (hH:mB B N μ H w) (hv:Fe base (ρ.t 5) args H=some (v,H')) (hl:lB μ args args'.toList) :
  (callFunc f args').run P w=.ok (.enter f args') w/\Calls P f args' w fun e w'=>∃v' μ',e=.returned v'/\μ.le μ'/\mB B N μ' H' w'/\Below N w w'/\vA μ' v v':=by
 refine⟨henter w args',?_⟩;subst hf;unfold Fe at hv;split at hv
 case h_2=>cases hv
 rename_i b;rw[lB]at hl;obtain⟨u,r,h1,h2,h3⟩:=hl;rw[lB]at h3;subst h3;rw[vA]at h2;obtain⟨i,hi,rfl⟩:=h2;have ha:args' = #[.pointer (some ⟨i.b,0,none⟩)]:=by apply yax.1;rw[h1]
 subst ha;simp only[mA,jB,ybb,ycp,Ae]at hv;obtain⟨⟨c,n,lo⟩,hc,v0,h0,⟨g,off,len,cap⟩,rfl,⟨d,m,lo2⟩,hd,ml,hm,l,hlm,⟨⟨⟨⟨⟨⟨q1,q2⟩,q3⟩,q4⟩,q5⟩,q6⟩,q7⟩,hv⟩:=hv;cases hv;have q2:off=0:=oC.1 q2;have q3:0<len:=pC.1 q3;have q4:len<=cap:=mE.1 q4;have q5:len<=m:=mE.1 q5;have q6:len<1000000000:=pC.1 q6;subst q2;have hx:=Ad hc;obtain⟨o,g1,cs,E,fr,rfl,g3,g4,g5,g6⟩:=hH.blk _ _ _ hx hi
 obtain⟨hn,u,hu,hr⟩:=g5 1 _ h0;rw[vA]at hr;rcases hr with⟨j,cap',hj,rfl,hcap,_,_⟩ | ⟨_,hz,_⟩
 case inr=>simp_all
 have hcap:cap<=cap':=hcap;have hx2:=Ad hd;obtain⟨o2,k1,cs2,E2,fr2,rfl,k3,k4,k5,k6⟩:=hH.blk _ _ _ hx2 hj;have k3:m<=cs2.size:=k3;have hE:E2=ρ.t 5:=by
  grind [oC]
 subst hE;have hown:B<=g:=by
  grind [pC]
 have hNb:=hH.own g j hown hj;obtain⟨m1,m2⟩:=Tr.many_some _ _ _ _ hm;obtain⟨hll,hla⟩:=zb6 hlm
 let bs:List UInt8:=l.map UInt8.ofNat
 have hbl:bs.length=len:=by grind
 have hby:∀(t:Nat) k,l[t]?=some k->ml[t]?=some (.int .u8 (k:Int))/\k<256:=by
  grind [ZE]
 have hcell:∀t x,bs[t]?=some x->w.cell? ((⟨j.b,0,none⟩:Addr).add t)=some (.int .u8 x.toNat):=by
  intro t x ht;simp only[bs,ybu,yar]at ht;obtain⟨k,e1,rfl⟩:=ht;obtain⟨e2,e3⟩:=hby t k e1;have hg:=m2 t (by grind);rw[ybw,e2]at hg;obtain⟨_,y,e4,e5⟩:=k5 t _ hg;rw[vA]at e5;subst e5;rw[yW];unfold World.cell?;simp only[k1];simp only[ybw];show cs2[t]?=_;rw[e4,zdm e3]
 have c1:w.cell? ⟨i.b,1,none⟩=some (.slice (some ⟨j.b,0,none⟩) bs.length cap'):=by
  grind [World.cell?]
 have hne:bs≠[]:=by grind
 refine(XO L X i.b j.b cap' cs2.size bs w c1 hne (by omega) (by unfold World.shape?;rw[k1]) (by omega) (by omega) hcell).mono ?_;rintro e w' ⟨rfl,rfl⟩;have hfz:∃o',w.drew.freeze ⟨j.b,0,none⟩ bs.length=World.setBlk w.drew j.b o':=by
  unfold World.freeze;rw[yaa (by omega)];refine⟨.cells cs2 (ρ.t 5) (if fr2.1 == fr2.2 then(0,0+bs.length)else(min fr2.1 0,max fr2.2 (0+bs.length))),?_⟩;unfold World.setBlk;congr 1;apply Array.ext_getElem?;intro k;rw[Array.getElem?_modify,ycs];have hk1:w.drew.heap[j.b]?=some (.cells cs2 (ρ.t 5) fr2):=k1
  grind
 obtain⟨o',ho'⟩:=hfz;rw[ho'];have hdrop:=hH.drew.drop g (fun x t e=>by have:=(hH.pnd _ _ _ e).1;simp_all);refine⟨_,μ,rfl,μ.le_refl,hdrop.scratch hNb.1 (fun a x k hax hak e=>?_) o',(Gx).trans (cV hNb.1),?_⟩
 ·have hax':(if a=g then none else H.t.get a)=some x:=by grind [Tr.get_del]
  split at hax'
  ·cases hax'
  ·rename_i hne;by_cases hab:B<=a
   ·exact hne (hH.inj a g x _ k j hax' hx2 hak hj hab hown e)
   ·have:=(hH.low a x k (by omega) hax' hak).1;omega
 ·rw[vA];refine⟨_,rfl,?_⟩;unfold iF;show bs.map UInt8.toNat=l;simp only[bs,List.map_map];have:∀k∈l,(UInt8.toNat ∘ UInt8.ofNat) k=k:=by
   grind [List.mem_iff_getElem?,zdm]
  rw[List.map_congr_left this,List.map_id']
end
end Go.Am
set_option maxRecDepth 100000
namespace Go.Am
open Go Go.RowKit
def Kp(c:Nat):List Nat->Option Nat
 | []=>none
 | x::r=>bif Nat.beq x c then some 0 else ob (Kp c r) fun n=>some (n+1)
def wY(sub:List Nat):List Nat->Bool
 | []=>sub.isEmpty
 | b::l=>bif bT sub (b::l)then true else wY sub l
def Vu(a:List zA)(_:wA):Option zA:=match a with | [.str s,.int .u8 (.ofNat c)]=>pB (Nat.blt c 256) (some (.int .i64 (match Kp c s with | some n=>.ofNat n | none=>.negSucc 0))) | _=>none
def Fg(a:List zA)(_:wA):Option zA:=match a with | [.str s,.str c]=>pB (Nat.blt (oB s) 4294967281) (some (.bool (wY c s))) | _=>none
def glob (g:Nat)(l:List zA)(t:Tr qA):Tr qA:=t.set g (.cells (Tr.ofList l) (oB l) none)
def fF:aE->Nat
 | .next _=>0
 | .done v _=>match v.asBool with
  | some true=>1
  | _=>2
 | .fail n=>100+n
def cU(C:dA)(f:Nat)(args:List zA)(H:wA):aE:=match gL C f args false with
 | some fr=>.next ⟨fr,[],H⟩
 | none=>.fail 0
theorem IS:∀(c s:List UInt8),bT (c.map UInt8.toNat) (s.map UInt8.toNat)=c.isPrefixOf s
 | [],_=>by simp[bT]
 | _::_,[]=>rfl
 | a::x,b::y=>by
  simp only[ycm,bT,rD,IS x y,List.isPrefixOf];grind [UInt8.toNat_inj,oC]
def LO(c:List UInt8):∀s:List UInt8,wY (c.map UInt8.toNat) (s.map UInt8.toNat)=Lib.contains s c
 | []=>by cases c<;>simp[wY,Lib.contains,Lib.index]
 | b::l=>by
  have ih:=LO c l
  grind [IS,wY,Lib.contains,Lib.index]
def IZ(c:UInt8):∀s:List UInt8,(match Kp c.toNat (s.map UInt8.toNat)with | some n=>Int.ofNat n | none=>.negSucc 0)=Lib.indexByte s c
 | []=>rfl
 | b::l=>by
  have ih:=IZ c l;simp only[ycm,Kp,rD];rw[Lib.indexByte];by_cases h:b=c
  ·subst h;simp
  ·have:¬ Nat.beq b.toNat c.toNat=true:=fun e=>h (UInt8.toNat_inj.1 (oC.1 e));rw[yaa this];simp only[beq_iff_eq,h,if_false]
   cases hx:Kp c.toNat (l.map UInt8.toNat)with
   | none=>simp_all
   | some n=>
    grind [pA]
def Yl:jD->jD->Bool
 | .bool,.bool=>true
 | .int k,.int j=>cM k j
 | .string,.string=>true
 | .ptr a,.ptr b=>Nat.beq a b
 | .slice a,.slice b=>Nat.beq a b
 | .arr a c,.arr b d=>Nat.beq a b&&Nat.beq c d
 | .map a c,.map b d=>Nat.beq a b&&Nat.beq c d
 | .struct f,.struct g=>decide (f=g)
 | .func,.func=>true
 | .iface,.iface=>true
 | .other,.other=>true
 | _,_=>false
def XH{a b:jD}(h:Yl a b=true):a=b:=by
 cases a<;>cases b<;>simp[Yl,sK]at h ⊢<;>first | exact h | exact⟨h.1,h.2⟩
def eqTy (a b:mC):Bool:=Yl a.desc b.desc&&Nat.beq a.size b.size&&Nat.beq a.bytes b.bytes&&same.sames 10 a.zero b.zero&&jH a.eqOk b.eqOk
theorem zit{a b:mC}(h:eqTy a b=true):a=b:=by
 obtain⟨d,s,y,z,e⟩:=a;obtain⟨d',s',y',z',e'⟩:=b;simp only[eqTy,ybb,oC,lR,beq_iff_eq]at h;obtain⟨⟨⟨⟨h1,h2⟩,h3⟩,h4⟩,h5⟩:=h;rw[XH h1,h2,h3,Un _ _ _ h4,h5]
def allT {α:Type}(p:Nat->α->Bool):Tr α->(Nat->Nat)->Bool
 | .leaf,_=>true
 | .node l v r,f=>(match v with | some v=>p (f 0) v | none=>true)&&allT p l (fun m=>f (2*m+1))&&allT p r (fun m=>f (2*m+2))
theorem zjd{α:Type}{p:Nat->α->Bool}:∀(t:Tr α) (f:Nat->Nat),allT p t f=true->∀(n:Nat) v,t.get n=some v->p (f n) v=true:=by
 intro t;induction t with
 | leaf=>grind [Tr.get_leaf]
 | node l x r ihl ihr=>
  intro f h n v hv;simp only[allT,ybb]at h;grind [Tr.get_node]
def oW (l:List (List UInt8)):List Value:=l.map fun b=>.string ⟨b.toArray⟩
def kZ (l:List Int):List Value:=l.map fun n=>.int .i64 n
def mu0:Mu:=⟨fun g=>if g<256 then some ⟨g,true,0,0,true⟩else none,fun _=>none⟩
def BP{μ:Mu}:∀l:List (List UInt8),lB μ (l.map fun b=>zA.str (b.map UInt8.toNat)) (oW l)
 | []=>.nil
 | b::l=>.cons (by grind [vA,iF]) (BP l)
def IX{μ:Mu}:∀l:List Int,lB μ (l.map fun n=>zA.int .i64 n) (kZ l)
 | []=>.nil
 | b::l=>.cons (by rw[vA]) (IX l)
theorem Yy{μ:Mu}{g:Nat}{l:List zA}{vs:List Value}(h:lB μ l vs)(t:TypeId):jI μ ⟨g,true,0,0,true⟩ (.cells (Tr.ofList l) (oB l) none) (.cells vs.toArray t (0,0)):=h.rel_one rfl
def zil{o:aE}(h:fF o=1):∃H,o=.done (.bool true) H:=by
 cases o with
 | next s=>cases h
 | fail n=>grind [fF]
 | done v H=>
  grind [fF,Af]
end Go.Am
