/- Trees: regions that draw, code, points; what a function's tree is worth. -/
import Derived.Lib.Bytealg
import Derived.Lib.Index
import Derived.Lib.IndexMore
import Derived.Lib.ItoaNum
import Derived.Shelf.Strings.Builder1
import Derived.Test.YtmmedgeabnpnhaaGreatDoorA05
set_option linter.all false
noncomputable section
namespace Go.Am
open Go Go.RowKit
section
structure Ef (ν:Nat->Nat) (old:dF) (oldA:Tm):Prop where
 tms:∀i v,old.tm.get i=some v->oldA.get i=some v
 ads:∀i p,uJ i old.ad=some p->oldA.get i=some (.ptr (ν p.1) p.2)
def zF.old{base:Nat}{X0 X:Xt}{kf:Nat}{ν:Nat->Nat}{st:dF}{tm:Tm}{HA:xA}{t:Tr sA}(h:zF base X0 kf ν X st tm HA t):Ef ν st tm:=⟨h.tms,h.ads⟩
def Tm.get_cut{tm:Tm}{i:Nat}:tm.cut.get i=if i<tm.k then tm.get i else none:=by
 unfold Tm.cut Tm.get;simp only[mI];by_cases h:Nat.blt i tm.k=true
 ·rw[yab h,yab h,yab (vC.1 h)]
 ·rw[yaa h,yaa (fun e=>h (vC.2 e))];rfl
theorem ZV{k i:Nat}:∀ {l:List (Nat × Nat × Nat)},uJ i (jC.adCut k l)=if i<k then uJ i l else none:=by
 intro l;induction l with
 | nil=>show none=_;split<;>rfl
 | cons a l ih=>
  grind [jC.adCut,vC,Dz]
section
variable {W J:oH}{t:Tr sA}{X X0:Xt}{HA:xA}{C:oA}{A:Tr xD}{ν:Nat->Nat}{Q:dB}{kf n:Nat}{st old:dF}{tm oldA:Tm}{all:Array Oper}{olds:List (Nat × List Nat)}
theorem zF.cut(h:zF C.base X0 kf ν X st tm HA t):zF C.base X0 kf ν X st.cut tm.cut HA t:=by
 refine⟨h.ov,h.le,h.k,h.kA,?_,?_,h.lo,h.inj⟩
 ·intro i v hi;have hi:st.tm.cut.get i=some v:=hi;rw[Tm.get_cut]at hi ⊢;split at hi
  ·rename_i e;rw[yab (by rw[h.kA,<- h.k];exact e)];exact h.tms i v hi
  grind
 ·intro i p hi;have hi:uJ i (jC.adCut st.tm.k st.ad)=some p:=hi;rw[ZV]at hi;rw[Tm.get_cut];split at hi
  ·rename_i e;rw[yab (by rw[h.kA,<- h.k];exact e)];exact h.ads i p hi
  grind
theorem hZ(h:zF C.base X0 kf ν X st tm HA t)(ho:Ef ν old oldA){os:List Nat}{op:Op}:eP (jM st old os op) (.mixed tm oldA os (sG op))/\Em ν (vV st old os op) (.mixed tm oldA os (sG op)):=by
 constructor
 ·intro i v hi;have hi:(bif qH i (sG op)then Tm.get (bif qH i os then old.tm else st.tm) i else none)=some v:=hi;show(bif qH i (sG op)then Tm.get (bif qH i os then oldA else tm) i else none)=some v
  cases hm:qH i (sG op)with
  | false=>simp_all
  | true=>
   rw[hm]at hi;simp only[cond_true]at hi ⊢
   cases hq:qH i os with
   | true=>rw[hq]at hi;exact ho.tms i v hi
   | false=>rw[hq]at hi;exact h.tms i v hi
 ·intro i p hi;have hi:(bif qH i (sG op)then uJ i (bif qH i os then old.ad else st.ad)else none)=some p:=hi;show(bif qH i (sG op)then Tm.get (bif qH i os then oldA else tm) i else none)=_
  cases hm:qH i (sG op)with
  | false=>simp_all
  | true=>
   rw[hm]at hi;simp only[cond_true]at hi ⊢
   cases hq:qH i os with
   | true=>rw[hq]at hi;exact ho.ads i p hi
   | false=>rw[hq]at hi;exact h.ads i p hi
theorem Ph(ho:Ef ν old oldA){κ:KT}{kd:Tm->kB}(hκ:∀st' tm',zF C.base X0 kf ν X st' tm' HA t->qA C.base W J (κ st') t Q->wC C.base X0 Q (kd tm')) :
  ∀(l:List Nat) (st:dF) (tm:Tm),zF C.base X0 kf ν X st tm HA t->qA C.base W J (dO C all n old olds κ l st) t Q->wC C.base X0 Q (jG C HA all n oldA olds kd l tm):=by
 intro l;induction l with
 | nil=>exact hκ
 | cons i l ih=>
  intro st tm hst h;have h:qA C.base W J (aB (fC all.toList i) fun o=>aB (cE o.guard all st.tm) fun w=>Bool.rec (motive:=fun _=>T) (lN n o.dst lD false st (dO C all n old olds κ l))
   (tL C o.op (jM st old (wE i olds) o.op) (vV st old (wE i olds) o.op) st.lo (kop C all n o (jM st old (wE i olds) o.op) st (dO C all n old olds κ l))) w) t Q:=h
  rw[mD]at h;obtain⟨o,h0,h⟩:=h;rw[mD]at h;obtain⟨w,h1,h2⟩:=h;rw[Lx];refine wC.ob h0 (wC.ob (Ew hst h1) ?_)
  cases w with
  | false=>
   rw[yaa (by simp)];obtain⟨st',h3,h4⟩:=hst.put h2
   grind
  | true=>
   rw[yab rfl];refine Exists.elim (Pl (R:=fun v=>wC C.base X0 Q (kJ C o.type v fun v=>jG C HA all n oldA olds kd l (putA n tm o.dst v))) (hZ hst ho).1 (hZ hst ho).2 hst.ov hst.lo h2 ?_ ?_ ?_) (fun v h=>wC.ob h.1 h.2)
   ·intro v hk;have hk:qA C.base W J (Fp C o.type v fun v=>Bt (Mi all.toList o.dst all.toList) (Ls o.op (jM st old (wE i olds) o.op) st.lit) v fun v lt=>lN n o.dst v lt st (dO C all n old olds κ l)) t Q:=hk;obtain⟨g1,g2⟩:=Yg hk;obtain⟨lt',g3⟩:=Jn g2;obtain⟨st',g4,g5⟩:=hst.put g3
    grind [wC.norm]
   ·intro v hk;obtain⟨g1,g2⟩:=sL.1 hk;obtain⟨lt',g3⟩:=Jn g2;obtain⟨st',g4,g5⟩:=hst.put g3
    grind [wC.norm,Mx]
   ·intro d off hk;obtain⟨g1,g2⟩:=sL.1 hk;obtain⟨st',g4,g5⟩:=hst.putA g2
    grind [wC.norm,Vd]
theorem NO(ho:Ef ν old oldA)(hst:zF C.base X0 kf ν X st tm HA t){k:T}{kd:kB}(hk:qA C.base W J k t Q->wC C.base X0 Q kd) :
  ∀(l:List Nat),qA C.base W J (dS C all old olds st k l) t Q->wC C.base X0 Q (wK C HA all oldA olds tm kd l):=by
 intro l;induction l with
 | nil=>exact hk
 | cons i l ih=>
  intro h;have h:qA C.base W J (aB (fC all.toList i) fun o=>aB o.dst fun d=>aB (cE o.guard all st.tm) fun w=>Bool.rec (motive:=fun _=>T) (dS C all old olds st k l)
   (aB (st.tm.get d) fun u=>nI (Db C o.type u) (tL C o.op (jM st old (wE i olds) o.op) (vV st old (wE i olds) o.op) st.lo ⟨fun v=>.ite (same 10 v u) (dS C all old olds st k l) .fail,fun v=>.ite (same 10 v u) (dS C all old olds st k l) .fail,fun _ _=>.fail⟩)) w) t Q:=h
  rw[mD]at h;obtain⟨o,h0,h⟩:=h;rw[mD]at h;obtain⟨d,h1,h⟩:=h;rw[mD]at h;obtain⟨w,h2,h⟩:=h;rw[Wk];refine wC.ob h0 (wC.ob h1 (wC.ob (Ew hst h2) ?_))
  cases w with
  | false=>simp_all
  | true=>
   rw[yab rfl];simp only[mD,sL]at h;obtain⟨u,h3,h4,h5⟩:=h;have uF:∀v,qA C.base W J (.ite (same 10 v u) (dS C all old olds st k l) .fail) t Q->wC C.base X0 Q (kJ C o.type v fun v=>ob (tm.get d) fun u=>xB (same 10 v u) (wK C HA all oldA olds tm kd l)):=by
    intro v hv;have hv:if same 10 v u=true then qA C.base W J (dS C all old olds st k l) t Q else False:=hv;split at hv
    ·rename_i hs;refine wC.norm ?_ (wC.ob (hst.tms _ _ h3) ?_)
     ·grind [Ro,Mx]
     ·rw[hs];exact ih hv
    simp_all
   obtain⟨v,h6,h7⟩:=Pl (R:=fun v=>wC C.base X0 Q (kJ C o.type v fun v=>ob (tm.get d) fun u=>xB (same 10 v u) (wK C HA all oldA olds tm kd l))) (hZ hst ho).1 (hZ hst ho).2 hst.ov hst.lo h5 uF uF (fun _ _ h=>h.elim)
   simp_all
theorem LO(hst:zF C.base X0 kf ν X st tm HA t){h:Nat}{o:Oper}{w:Bool}(hw:bQ C all h o st.tm=some w):bQ C all h o tm=some w:=by
 grind [bQ,uA,Ew]
theorem XI{e e':jC}(he:eP e e'){op:Op}{ef:tK}(h:yW op e=some ef):yW op e'=some ef:=by
 cases op<;>first | (cases h;done) | skip
 all_goals grind [yW,uA,eD]
theorem zc4{op:Op}{e:jC}{ae:vL}{ef:tK}(h:tEff op e ae=some ef):yW op e=some ef:=by
 cases op<;>first | exact h | skip
 grind [tEff]
def NR(hst:zF C.base X0 kf ν X st tm HA t)(ho:Ef ν old oldA){l:List Nat}{es:List tK}(h:Jp all old olds st l=some es):Df all oldA olds tm l=some es:=by
 refine Lp l (fun i ef h=>?_) h;unfold jT;simp only[uA,oB]at h ⊢;obtain⟨o,h1,w,h2,h3,h4⟩:=h;exact⟨o,h1,w,Ew hst h2,h3,XI (hZ hst ho).1 (zc4 h4)⟩
theorem NF(hW:mS C A W)(ho:Ef ν old oldA){κ:KT}{m:Tm->xA->kB}(hκ:SK C W J X0 kf Q κ m) :
  ∀(l:List aD) (st:dF) (tm:Tm) (HA:xA) (t:Tr sA) (X:Xt),zF C.base X0 kf ν X st tm HA t->qA C.base W J (eW C all n old olds κ l st) t Q->wC C.base X0 Q (lH C (dC C A) all n oldA olds m l tm HA):=by
 intro l;induction l with
 | nil=>intro st tm HA t X hst h;exact hκ _ _ _ _ _ _ hst h
 | cons s l ih=>
  intro st tm HA t X hst h
  cases hg:nQ all s with
  | true=>
   have h:qA C.base W J (Bool.rec (motive:=fun _=>T) _ (nI (uT C all) (aB (Jp all old olds st s.again) fun es=>.heavy (Bp C es) fun _=>dO C all n old olds (eW C all n old olds κ l) s.lights st)) (nQ all s)) t Q:=h;rw[hg]at h;have h:qA C.base W J (nI (uT C all) (aB (Jp all old olds st s.again) fun es=>.heavy (Bp C es) fun _=>dO C all n old olds (eW C all n old olds κ l) s.lights st)) t Q:=h
   rw[sL]at h;obtain⟨h0,h⟩:=h;rw[mD]at h;obtain⟨es,h1,h⟩:=h;have h:=h HA.next hst.ov.nextT hst.ov.base;rw[zV]at h;obtain⟨⟨v,H'⟩,h2,h3⟩:=h;obtain⟨HA',h4,h5⟩:=MG _ _ _ _ _ hst.ov h2;have h6:dV C es HA=some HA':=by
    grind [Bp,uA]
   rw[Fs hg];unfold Hr;rw[h0];show wC C.base X0 Q (ob (Df all oldA olds tm s.again) fun es=>ob (dV C es HA) fun H'=>jG C H' all n oldA olds (fun tm=>lH C (dC C A) all n oldA olds m l tm H') s.lights tm);refine wC.ob (NR hst ho h1) (wC.ob h6 ?_);exact Ph ho (fun st' tm' hs hw=>ih _ _ _ _ _ hs hw) _ _ _ (hst.later h5 (tI.refl _)) h3
  | false=>
  have h:qA C.base W J (Bool.rec (motive:=fun _=>T) (aB (fC all.toList (pK all s.heavy)) fun o=>aB (bQ C all s.heavy o st.tm) fun w=>
   (fun cont:KT=>Bool.rec (motive:=fun _=>T) (lN n o.dst lD false st cont)
    (tH C [] o.dst o.op (jM st old (wE (pK all s.heavy) olds) o.op) (vV st old (wE (pK all s.heavy) olds) o.op) st.lo (kop C all n o (jM st old (wE (pK all s.heavy) olds) o.op) st cont) (klo C n o st cont)) w)
   (fun st'=>dS C all old olds st' (dO C all n old olds (eW C all n old olds κ l) s.lights st') s.again)) _ (nQ all s)) t Q:=h
  rw[hg]at h;have h:qA C.base W J (aB (fC all.toList (pK all s.heavy)) fun o=>aB (bQ C all s.heavy o st.tm) fun w=>
   (fun cont:KT=>Bool.rec (motive:=fun _=>T) (lN n o.dst lD false st cont)
    (tH C [] o.dst o.op (jM st old (wE (pK all s.heavy) olds) o.op) (vV st old (wE (pK all s.heavy) olds) o.op) st.lo (kop C all n o (jM st old (wE (pK all s.heavy) olds) o.op) st cont) (klo C n o st cont)) w)
   (fun st'=>dS C all old olds st' (dO C all n old olds (eW C all n old olds κ l) s.lights st') s.again)) t Q:=h
  rw[mD]at h;obtain⟨o,h0,h⟩:=h;rw[mD]at h;obtain⟨w,h1,h2⟩:=h;rw[Bv hg];refine wC.ob h0 (wC.ob (LO hst h1) ?_);have uF:∀st' tm' HA' t' X' ν',ν'=ν->zF C.base X0 kf ν' X' st' tm' HA' t'->qA C.base W J (dS C all old olds st' (dO C all n old olds (eW C all n old olds κ l) s.lights st') s.again) t' Q →
    wC C.base X0 Q (wK C HA' all oldA olds tm' (jG C HA' all n oldA olds (fun tm=>lH C (dC C A) all n oldA olds m l tm HA') s.lights tm') s.again):=by
   intro st' tm' HA' t' X' ν' e hs hw;subst e;exact NO ho hs (fun hl=>Ph ho (fun st2 tm2 hs2 hw2=>ih _ _ _ _ _ hs2 hw2) _ _ _ hs hl) _ hw
  cases w with
  | false=>
   simp only[ybq,if_false];obtain⟨st',h3,h4⟩:=hst.put h2
   grind
  | true=>
   simp only[if_true];exact Zp (m:=fun tm' HA'=>wK C HA' all oldA olds tm' (jG C HA' all n oldA olds (fun tm=>lH C (dC C A) all n oldA olds m l tm HA') s.lights tm') s.again)
    hW (hZ hst ho).1 (hZ hst ho).2 hst (fun st' tm' HA' t' X' ν' hn hs _ hw=>uF _ _ _ _ _ _ (hn rfl) hs hw) h2
def NJ(hW:mS C A W){la:List Nat}{fn id:Nat}{d:Bool}{κ:KT}{m:Tm->xA->kB}(hκ:SK C W J X0 kf Q κ m):SK C W J X0 kf Q (Xs C la fn n κ id all d) (Cc C (dC C A) fn n m id all d):=by
 intro st tm HA t X ν hst h
 cases d with
 | false=>exact zc1 hW hκ _ _ _ _ _ _ _ hst.cut h
 | true=>
  have h:qA C.base W J (aB (ob (C.plans.get fn) fun t=>t.get id) fun p=>nI (vQ all p) (dO C all n st.cut p.olds (eW C all n st.cut p.olds κ p.stages) p.first st.cut)) t Q:=h;simp only[mD,sL]at h;obtain⟨p,h1,h2,h3⟩:=h;show wC C.base X0 Q (ob (ob (C.plans.get fn) fun t=>t.get id) fun p=>xB (vQ all p) (jG C HA all n tm.cut p.olds (fun tm'=>lH C (dC C A) all n tm.cut p.olds m p.stages tm' HA) p.first tm.cut))
  refine wC.ob h1 ?_;rw[h2];exact Ph hst.cut.old (fun st' tm' hs hw=>NF hW hst.cut.old hκ _ _ _ _ _ _ hs hw) _ _ _ hst.cut h3
end
structure PtD where
 p:PI
 m:Tm->xA->kB
def aK(C:oA)(φ:qG)(fn n:Nat):xD->Kt->List PtD
 | .skip,_=>[]
 | .region _ _ _,_=>[]
 | .seq a b,κ=>aK C φ fn n a ⟨tD C φ fn n b κ,κ.exit,κ.ret⟩++aK C φ fn n b κ
 | .cond _ x y,κ=>aK C φ fn n x κ++aK C φ fn n y κ
 | .block id c,κ=>aK C φ fn n c ⟨κ.norm,fun i tm H=>Bool.rec (motive:=fun _=>kB) (κ.exit i tm H) (κ.norm tm H) (Nat.beq id i),κ.ret⟩
 | .loop p c,κ=>⟨p,tD C φ fn n (.loop p c) κ⟩::aK C φ fn n c ⟨tD C φ fn n (.loop p c) κ,κ.exit,κ.ret⟩
 | .exit _,_=>[]
 | .ret,_=>[]
 | .cut p c,κ=>⟨p,tD C φ fn n (.cut p c) κ⟩::aK C φ fn n c κ
 | .range i pl fo ps id ops c,_=>⟨⟨i,uD pl ps.toList,[]⟩,Nr C φ fn n ⟨i,pl,fo,ps,id,ops,c⟩⟩::aK C φ fn n c tR
def Of(base kf:Nat)(d:PtD)(vals:List zA)(t:Tr sA)(Q:dB):Prop:=∀X0 X HA tm ν,zF base X0 kf ν X (aS kf d.p vals) tm HA t->wC base X0 Q (d.m tm HA)
def JOk (base kf:Nat)(J:oH)(l:List PtD):Prop:=∀d∈l,∀vals t Q,J d.p.id vals t Q->Of base kf d vals t Q
structure SKt (C:oA) (W J:oH) (X0:Xt) (kf:Nat) (Q:dB) (κ:KtT) (m:Kt):Prop where
 norm:SK C W J X0 kf Q κ.norm m.norm
 exit:∀i,SK C W J X0 kf Q (κ.exit i) (m.exit i)
 ret:SK C W J X0 kf Q κ.ret m.ret
theorem Rg{d:Nat}{l:List zA}{st:dF}:∀ {ll:List (Nat × Nat)} {b rest:List zA},Bj st ll=some b->(bS ll (b++rest)).get d=some l->st.lo.get d=some l:=by
 intro ll;induction ll with
 | nil=>grind [bS,Tr.get_leaf]
 | cons p ll ih=>
  intro b rest hb h;have hb:(ob (uJ p.1 st.ad) fun a=>xB (Nat.beq a.1 p.1&&Nat.beq a.2 0) (ob (st.lo.get p.1) fun l=>xB (Nat.beq (rB l) p.2) (ob (Bj st ll) fun r=>some (uD l r))))=some b:=hb;simp only[uA,oB]at hb;obtain⟨a,_,_,l0,h2,h3,r,h4,h5⟩:=hb;cases h5;have h:((bS ll (yO (uD l0 r++rest) p.2)).set p.1 (uV (uD l0 r++rest) p.2)).get d=some l:=h
  grind [oC,vD,wG,nR,sQ,List.drop_left,Tr.get_set]
theorem OQ{i:Nat}{q:Nat × Nat}{st:dF}:∀ {ll:List (Nat × Nat)} {b:List zA},Bj st ll=some b->uJ i (Ft ll)=some q->uJ i st.ad=some q:=by
 intro ll;induction ll with
 | nil=>intro b _ h;cases h
 | cons p ll ih=>
  grind [Bj,uA,oB,oC,Ft,Dz]
theorem OO{i:Nat}{v:zA}{st:dF}:∀ {pl:List Nat} {a rest:List zA},aF (fun i=>st.tm.get i) pl=some a->(nM pl (a++rest)).get i=some v->st.tm.get i=some v:=by
 intro pl;induction pl with
 | nil=>grind [nM,Tr.get_leaf]
 | cons j pl ih=>
  intro a rest ha h;rw[dL,uA]at ha;obtain⟨u,h1,ha⟩:=ha;rw[uA]at ha;obtain⟨r,h2,ha⟩:=ha;cases ha;have h:((nM pl (r++rest)).set j u).get i=some v:=h
  grind [Tr.get_set]
theorem Tm.get_kv{k i:Nat}{v:Tr zA}{u:zA}(h:Tm.get ⟨k,v,[]⟩ i=some u):i<k/\v.get i=some u:=by
 unfold Tm.get at h;rw[mI]at h;split at h
 ·simp_all
 ·cases h
theorem LS{p:PI}{st:dF}{vals:List zA}(h:Bi p st=some vals):∃a b,vals=a++b/\aF (fun i=>st.tm.get i) p.pl=some a/\Bj st p.ll=some b/\a.length=p.pl.length:=by
 unfold Bi at h;simp only[uA]at h;obtain⟨a,h1,b,h2,h3⟩:=h;cases h3;refine⟨a,b,wG _ _,h1,h2,?_⟩;have:∀(l:List Nat) (r:List zA),aF (fun i=>st.tm.get i) l=some r->r.length=l.length:=by
  intro l;induction l with
  | nil=>intro r h;cases h;rfl
  | cons x l ih=>
   grind [dL,uA]
 grind
section
variable {W J:oH}{t:Tr sA}{X X0:Xt}{HA:xA}{C:oA}{A:Tr xD}{ν:Nat->Nat}{Q:dB}{kf n:Nat}{st:dF}{tm:Tm}
theorem zF.at(h:zF C.base X0 kf ν X st tm HA t){p:PI}{vals:List zA}(hv:Bi p st=some vals):zF C.base X0 kf ν X (aS kf p vals) tm HA t:=by
 obtain⟨a,b,rfl,h1,h2,h3⟩:=LS hv;have hd:yO (a++b) (rB p.pl)=b:=by rw[nR,vD,<- h3,List.drop_left]
 refine⟨h.ov,h.le,rfl,h.kA,?_,?_,?_,?_⟩
 ·intro i v hi;exact h.tms i v (OO h1 (Tm.get_kv hi).2)
 ·intro i q hi;exact h.ads i q (OQ h2 hi)
 ·intro d l hl;have hl:(bS p.ll (yO (a++b) (rB p.pl))).get d=some l:=hl;rw[hd]at hl;have hb:(bS p.ll (b++[])).get d=some l:=by simp_all
  exact h.lo d l (Rg h2 hb)
 ·intro d d' l l' hl hl' he;have hl:(bS p.ll (yO (a++b) (rB p.pl))).get d=some l:=hl;have hl':(bS p.ll (yO (a++b) (rB p.pl))).get d'=some l':=hl';rw[hd]at hl hl';have hb:(bS p.ll (b++[])).get d=some l:=by simp_all
  have hb':(bS p.ll (b++[])).get d'=some l':=by simp_all
  exact h.inj d d' l l' (Rg h2 hb) (Rg h2 hb') he
theorem VF{tm:Tm}{i:Nat}{v:zA}(hv:tm.get i=some v):∀ {live:List Nat},i∈live->(Cq tm live).get i=some v:=by
 intro live;induction live with
 | nil=>simp_all
 | cons j live ih=>
  grind [Cq,Tr.get_set]
theorem ON{i:Nat}{v:zA}:∀ {pl:List Nat} {vals:List zA},(nM pl vals).get i=some v->i∈pl:=by
 intro pl;induction pl with
 | nil=>grind [nM,Tr.get_leaf]
 | cons j pl ih=>
  intro vals h
  cases vals with
  | nil=>grind [nM,Tr.get_leaf]
  | cons u vals=>
   have h:((nM pl vals).set j u).get i=some v:=h
   grind [Tr.get_set]
theorem OP{i:Nat}{q:Nat × Nat}:∀ {ll:List (Nat × Nat)},uJ i (Ft ll)=some q->i∈(List.rec (motive:=fun _=>List Nat) [] (fun a _ r=>a.1::r) ll:List Nat):=by
 intro ll;induction ll with
 | nil=>intro h;cases h
 | cons p ll ih=>
  grind [Ft,Dz]
theorem zF.keep{p:PI}{vals:List zA}(hb:∀i,i∈p.kept->i<kf)(h:zF C.base X0 kf ν X (aS kf p vals) tm HA t):zF C.base X0 kf ν X (aS kf p vals) (Am.keep p.kept tm) HA t:=by
 have key:∀i v,i∈p.kept->tm.get i=some v->(Am.keep p.kept tm).get i=some v:=by
  intro i v hi hv;unfold Am.keep Tm.get;rw[mI,yab (vC.2 (by rw[h.kA];grind))];exact VF hv hi
 refine⟨h.ov,h.le,rfl,h.kA,?_,?_,h.lo,h.inj⟩
 ·intro i v hi;refine key i v ?_ (h.tms i v hi);unfold PI.kept;rw[wG];exact ydc _ (ON (Tm.get_kv hi).2)
 ·intro i q hi;refine key i _ ?_ (h.ads i q hi);unfold PI.kept;rw[wG];exact ycf _ (OP hi)
def Ue{l:List PtD}(hJ:JOk C.base kf J l){p:PI}{m:Tm->xA->kB}(hm:(⟨p,m⟩:PtD)∈l):SK C W J X0 kf Q (Cr p) m:=by
 intro st tm HA t X ν hst h;unfold Cr at h;rw[mD]at h;obtain⟨vals,h1,h2⟩:=h;exact hJ _ hm vals t Q h2 _ _ _ _ _ (hst.at h1)
def BP:SKt C W J X0 kf Q rdT tR:=⟨fun _ tm HA t X _ hst h=>⟨_,t,HA,X,rfl,hst.ov,hst.le,h⟩,fun _ _ _ _ _ _ _ _ h=>h.elim,fun _ tm HA t X _ hst h=>⟨_,t,HA,X,rfl,hst.ov,hst.le,h⟩⟩
def Ob(C:oA)(A:Tr xD)(W:oH):Prop:=∀l args t Q,(∀X HA,Ov C.base t X HA->wC C.base X Q (Ao C A (yo+l) args HA))->W (yo+l) args t Q
def pL (X:Xt)(b:Nat)(y:sA):Xt:=fun c=>if c=b then some y else X c
theorem Gr{X:Xt}{b:Nat}{y:sA}(h:X b=none):tI X (pL X b y):=by
 intro c z hc;grind [pL]
theorem Ov.under{base:Nat}(h:Ov base t X HA){b:Nat}{y:sA}(hb:t.get b=some y)(z:sA):Ov base (t.del b) (pL X b z) (Am.setBlk HA b z):=by
 refine⟨h.base,fun c hc=>?_,fun c u hc=>?_,fun c u hc=>?_⟩
 ·show(HA.t.set b z).get c=_;unfold pL at hc;split at hc
  ·cases hc
  ·rename_i e;rw[Tr.get_set,yaa e,Tr.get_del,yaa e];exact h.same c hc
 ·show(HA.t.set b z).get c=_/\_;unfold pL at hc;split at hc
  ·rename_i e;cases hc;subst e;exact⟨by rw[Tr.get_set,yab rfl],by rw[Tr.get_del,yab rfl],h.lt _ _ hb⟩
  ·rename_i e;obtain⟨g1,g2,g3⟩:=h.ext c u hc;exact⟨by grind [Tr.get_set],by grind [Tr.get_del],g3⟩
 ·rw[Tr.get_del]at hc;split at hc
  ·cases hc
  ·exact h.lt _ _ hc
theorem Ov.back{base:Nat}(h:Ov base t X HA){b:Nat}{y:sA}(hb:X b=some y)(z:sA):Ov base (t.set b z) (fun c=>if c=b then none else X c) (Am.setBlk HA b z):=by
 obtain⟨g1,g2,g3⟩:=h.ext b y hb;refine⟨h.base,fun c hc=>?_,fun c u hc=>?_,fun c u hc=>?_⟩
 ·show(HA.t.set b z).get c=_;rw[Tr.get_set,Tr.get_set];split
  ·rfl
  ·rename_i e;rw[yaa e]at hc;exact h.same c hc
 ·show(HA.t.set b z).get c=_/\_;split at hc
  ·cases hc
  ·rename_i e;obtain⟨g1,g2,g3⟩:=h.ext c u hc;exact⟨by grind [Tr.get_set],by grind [Tr.get_set],g3⟩
 ·rw[Tr.get_set]at hc;split at hc
  ·rename_i e;rw[e];exact g3
  ·exact h.lt _ _ hc
def Tj{H:xA}{l:Nat}{r:rN}(hl:256<=l)(h:H.t.get l=some (.loop r)):cI H l=some r:=by
 unfold cI;rw[h,tA,Nat.ble_eq_true_of_le hl];rfl
theorem QF{base kf n:Nat}{st:dF}{tm:Tm}{i:Nat}{pl ps:List Nat}{vals args:List zA}{X:Xt}{HA:xA}{t:Tr sA}(ho:Ov base t X HA)(hk:st.tm.k=kf)(hkA:tm.k=kf)
  (ht:∀i v,st.tm.get i=some v->tm.get i=some v) (hv:Zv pl st=some vals) (hok:vF (fun p=>Nat.blt p st.tm.k&&Nat.blt p n && !qH p pl) ps=true) (h1:ps.length<=1) (hl:args.length=ps.length) :
  ∃tm',iU n ps args tm=some tm'/\zF base X kf (fun i=>i) X (aS kf ⟨i,uD pl ps,[]⟩ (vals++args)) tm' HA t:=by
 have old:∀(pl:List Nat) (vals rest:List zA) j v,aF (fun i=>st.tm.get i) pl=some vals->(nM (pl++ps) (vals++rest)).get j=some v->(j∈pl/\tm.get j=some v)\/(nM ps rest).get j=some v:=by
  intro pl;induction pl with
  | nil=>intro vals rest j v h hj;cases h;simp_all
  | cons a pl ih=>
   intro vals rest j v h hj;rw[dL,uA]at h;obtain⟨u,g1,h⟩:=h;rw[uA]at h;obtain⟨us,g2,h⟩:=h;cases h;have hj:((nM (pl++ps) (us++rest)).set a u).get j=some v:=hj
   grind [Tr.get_set]
 cases ps with
 | nil=>
  cases args with
  | cons _ _=>cases hl
  | nil=>
   refine⟨tm,rfl,ho,tI.refl _,rfl,hkA,fun j v hj=>?_,fun j p h=>(by cases h),fun d l h=>?_,fun d _ l _ h=>?_⟩
   ·have hj:=(Tm.get_kv hj).2;have hj:(nM (uD pl []) (vals++[])).get j=some v:=hj;rw[wG]at hj;rcases old pl vals [] j v hv hj with⟨_,h⟩ | h
    all_goals grind [nM,Tr.get_leaf]
   ·rw[show(aS kf ⟨i,uD pl [],[]⟩ (vals++[])).lo=.leaf from rfl,Tr.get_leaf]at h;cases h
   omega
 | cons p ps=>
  cases ps with
  | cons _ _=>simp at h1
  | nil=>
   cases args with
   | nil=>cases hl
   | cons a args=>
    cases args with
    | cons _ _=>simp at hl
    | nil=>
     have hp:(bif (Nat.blt p st.tm.k&&Nat.blt p n && !qH p pl)then vF (fun p=>Nat.blt p st.tm.k&&Nat.blt p n && !qH p pl) []else false)=true:=hok
     cases hx:(Nat.blt p st.tm.k&&Nat.blt p n && !qH p pl)with
     | false=>grind
     | true=>
      simp only[ybb,ycp]at hx;obtain⟨⟨x1,x2⟩,x3⟩:=hx;have x1:=vC.1 x1;have x2:=vC.1 x2;refine⟨putA n tm (some p) a,rfl,ho,tI.refl _,rfl,by grind [Kq],fun j v hj=>?_,fun j p h=>(by cases h),fun d l h=>?_,fun d _ l _ h=>?_⟩
      ·have hj:=(Tm.get_kv hj).2;have hj:(nM (uD pl [p]) (vals++[a])).get j=some v:=hj;rw[wG]at hj;rw[zJ];rcases old pl vals [a] j v hv hj with⟨hm,h⟩ | h
       all_goals grind [wX,nM,Tr.get_set,Tr.get_leaf]
      ·rw[show(aS kf ⟨i,uD pl [p],[]⟩ (vals++[a])).lo=.leaf from rfl,Tr.get_leaf]at h;cases h
      omega
theorem RQ(hW:mS C A W)(hY:Ob C A W){f:Nat}{κ:KtT}{m:Kt}(hκ:∀X0,SKt C W J X0 kf Q κ m){i:Nat}{pl:List Nat}{fo:Operand}{ps:Array Nat}{id:Nat}{ops:Array Oper}{c:xD}
  (hone:∃c0,A.get f=some c0/\Gp c0=some ⟨i,pl,fo,ps,id,ops,c⟩) (hJ:∀vals t Q,J i vals t Q->Of C.base kf ⟨⟨i,uD pl ps.toList,[]⟩,Nr C (dC C A) f n ⟨i,pl,fo,ps,id,ops,c⟩⟩ vals t Q) :
  SK C W J X0 kf Q (Sg C n κ i pl fo ps.toList ops.toList c) (gN C (dC C A) f n m fo ps.toList (.region id ops false) (tF c)):=by
 intro st tm HA t X ν hst h;unfold Sg at h;rw[sL,mD]at h;obtain⟨hok,vals,hv,h⟩:=h;rw[mD]at h;obtain⟨fv,hf,h256,h⟩:=h;unfold BV at hok;simp only[ybb]at hok;obtain⟨⟨⟨hok1,hok2⟩,hok3⟩,hok4⟩:=hok;have hok2:ps.toList.length<=1:=by simp_all [vD]
 have hok4:sR c=[]:=by
  grind
 have ho:=hst.ov;have hbase:=ho.base;generalize hr:(⟨.ready,none,f,n,tm,ps.toList,.region id ops false,tF c,HA.next⟩:rN)=r at *;have htn:t.get (HA.next+1)=none:=by
  cases hx:t.get (HA.next+1)with
  | none=>rfl
  | some y=>exact absurd (ho.lt _ _ hx) (by omega)
 have hyield:∀args t1 Q1,args.length=rB ps.toList->t1.get (HA.next+1)=some (.loop r)->J i (vals++args) (t1.del (HA.next+1)) (fun v t2=>t2.get (HA.next+1)=none->∃b,v=.bool b/\Q1 v (t2.set (HA.next+1) (.loop (qV b r))))->W (yo+(HA.next+1)) args t1 Q1:=by
  intro args t1 Q1 hla ht1 hj;refine hY _ _ _ _ fun X1 HA1 ho1=>?_;rw[JS,zcm];show wC C.base X1 Q1 (pZ C A (dC C A) (HA.next+1) args HA1);have hx1:=ho1.notX ht1;have hov:=ho1.under ht1 (.loop (Ap r));obtain⟨tm',hs1,hs2⟩:=QF (n:=n) (i:=i) hov hst.k hst.kA hst.tms hv hok1 hok2 (by rw[hla,vD]);obtain⟨v,t2,HA2,X2,e1,e2,e3,e4⟩:=hJ _ _ _ hj _ _ _ _ _ hs2;have hb2:X2 (HA.next+1)=some (.loop (Ap r)):=e3 _ _ (by unfold pL;rw[yab rfl])
  obtain⟨b,e4,e5⟩:=e4 (e2.ext _ _ hb2).2.1;subst e4;obtain⟨c0,hc0,hc1⟩:=hone;refine⟨.bool b,_,_,_,Ca.2 ⟨r,tm',c0,⟨i,pl,fo,ps,id,ops,c⟩,(.bool b,HA2),Ap r,b,Tj (by omega) (by rw[ho1.up ht1]),?_,?_,hc1,?_,?_,Tj (by omega) (e2.ext _ _ hb2).1,rfl,rfl⟩,e2.back hb2 _,?_,e5⟩
  ·grind
  ·grind
  ·rw[<- hr];exact⟨rfl,rfl,rfl,rfl,hok3,hok4⟩
  ·grind
  ·intro c y hc;have hne:c≠HA.next+1:=fun e=>by simp_all
   show(if c=HA.next+1 then none else X2 c)=some y;rw[yaa hne];exact e3 _ _ (Gr hx1 _ _ hc)
 have h:=h (HA.next+1) r htn (by omega) (by rw[<- hr]) (by rw[<- hr]) hyield;rw[zV]at h;obtain⟨⟨g,aq⟩,hra,hw⟩:=h;unfold Km at hra;rw[uA]at hra;obtain⟨⟨qf,q1,q2⟩,hq,hra⟩:=hra
 cases qf with
 | yld l=>cases hra
 | func g'=>
  simp only[oB,ybb]at hra;obtain⟨⟨hg,hnp⟩,hra⟩:=hra;cases hra;have hp:C.prims.get g=none:=by
   unfold npC at hnp
   cases hx:C.prims.get g with
   | none=>rfl
   | some u=>rw[hx]at hnp;cases hnp
  have hXd:X HA.next=none:=ho.nextX;have ho1:Ov C.base t (pL X HA.next (.deferred (some []))) (newBlk HA (.deferred (some []))):=by
   refine⟨Nat.le_succ_of_le ho.base,fun b hb=>?_,fun b y hb=>?_,fun b y hb=>Nat.lt_succ_of_lt (ho.lt _ _ hb)⟩
   ·unfold pL at hb;split at hb
    ·cases hb
    ·rename_i e;show(HA.t.set HA.next _).get b=_;rw[Tr.get_set,yaa e];exact ho.same b hb
   ·unfold pL at hb;show(HA.t.set HA.next _).get b=_/\_/\b<HA.next+1;split at hb
    ·rename_i e;cases hb;subst e;exact⟨by rw[Tr.get_set,yab rfl],ho.nextT,Nat.lt_succ_self _⟩
    ·rename_i e;obtain⟨g1,g2,g3⟩:=ho.ext b y hb
     grind [Tr.get_set]
  have ho2:=ho1.newBlk (.loop r);obtain⟨v,t',HA2,X2,e1,e2,e3,e4⟩:=hW _ _ _ _ hw _ _ ho2;rw[Dl hg,hp]at e1;have e1:dC C A (.func g) (uD q1 (.func (.yld (HA.next+1)) [] []::q2)) (newBlk (newBlk HA (.deferred (some []))) (.loop r))=some (v,HA2):=e1;have goal:∀r' (κ':KT) (m':Tm->xA->kB),t'.get (HA.next+1)=some (.loop r')->(!Nat.beq (LoopState.tag r'.state) 1)=true->(∀tm H,qW m r'.pending tm H=m' tm H)->(∀X0,SK C W J X0 kf Q κ' m')->qA C.base W J (κ' st) (t'.del (HA.next+1)) Q →
    wC C.base X0 Q (gN C (dC C A) f n m fo ps.toList (.region id ops false) (tF c) tm HA):=by
   intro r' κ' m' k1 k2 k3 k4 k5;have ho3:=e2.under k1 (.loop ⟨.exhausted,r'.pending,r'.fn,r'.n,r'.tm,r'.params,r'.assign,r'.body,r'.defers⟩);have hx2:=e2.notX k1;have hXX:tI X (pL X2 (HA.next+1) (.loop ⟨.exhausted,r'.pending,r'.fn,r'.n,r'.tm,r'.params,r'.assign,r'.body,r'.defers⟩)):=((Gr hXd).trans e3).trans (Gr hx2);have hd3:(pL X2 (HA.next+1) (.loop ⟨.exhausted,r'.pending,r'.fn,r'.n,r'.tm,r'.params,r'.assign,r'.body,r'.defers⟩)) HA.next=some (.deferred (some [])):=by
    refine(Gr hx2) _ _ (e3 _ _ ?_);unfold pL;rw[yab rfl]
   have hX0d:X0 HA.next=none:=by
    cases hx:X0 HA.next with
    | none=>rfl
    | some y=>have:=hst.le _ _ hx;simp_all
   have hl:=hst.later ho3 hXX;have hl':zF C.base (pL X0 HA.next (.deferred (some []))) kf ν (pL X2 (HA.next+1) (.loop ⟨.exhausted,r'.pending,r'.fn,r'.n,r'.tm,r'.params,r'.assign,r'.body,r'.defers⟩)) st tm (endLoop HA2 (HA.next+1) r') (t'.del (HA.next+1)):=by
    refine⟨hl.ov,?_,hl.k,hl.kA,hl.tms,hl.ads,fun d l hd=>?_,hl.inj⟩
    ·intro b y hb;unfold pL at hb;split at hb
     ·simp_all
     ·exact hl.le _ _ hb
    ·obtain⟨g1,g2,g3⟩:=hl.lo d l hd
     grind [pL]
   obtain⟨w,t4,HA4,X4,f1,f2,f3,f4⟩:=k4 _ _ _ _ _ _ _ hl' k5;have hd4:X4 HA.next=some (.deferred (some [])):=f3 _ _ (by unfold pL;rw[yab rfl]);refine⟨w,t4,_,_,?_,f2.setX hd4 (.deferred none),?_,f4⟩
   ·unfold gN;rw[eD (Lj hst).1 hf,tA,hq,tA];show(xB (rG (C.prims.get g)) _)=_;rw[hp];show(ob (dC C A (.func g) _ (newBlk (newBlk HA (.deferred (some []))) (.loop ⟨.ready,none,f,n,tm,ps.toList,.region id ops false,tF c,HA.next⟩))) _)=_;rw[hr,e1,tA,Tj (by omega) (e2.up k1),tA,k2];show(ob (qW m r'.pending tm _) _)=_;rw[k3];show(ob (m' tm (endLoop HA2 (HA.next+1) r')) _)=_
    rw[f1,tA];have:eT HA4 HA.next=some (some []):=by
     unfold eT;rw[(f2.ext _ _ hd4).1,tA,Nat.ble_eq_true_of_le (by omega:256<=HA.next)];rfl
    simp only[this,tA];rfl
   ·intro b y hb;have hne:b≠HA.next:=fun e=>by simp_all
    show(if b=HA.next then _ else X4 b)=some y;rw[yaa hne];exact f3 _ _ (Gr hX0d _ _ hb)
  rcases e4 with⟨k1,k2⟩ | ⟨k1,k2⟩
  ·exact goal r κ.norm m.norm k1 (by rw[<- hr];rfl) (fun _ _=>by rw[<- hr];rfl) (fun X0=>(hκ X0).norm) k2
  ·exact goal _ κ.ret m.ret k1 (by rw[<- hr];rfl) (fun _ _=>by rw[<- hr];rfl) (fun X0=>(hκ X0).ret) k2
def nO (A:Tr xD)(f:Nat)(c:xD):Prop:=∀q∈sR c,∃c0,A.get f=some c0/\Gp c0=some q
theorem nO.l{a b:List Ba}{P:Ba->Prop}(h:∀q∈uD a b,P q):(∀q∈a,P q)/\∀q∈b,P q:=by
 grind [wG]
def Fo(hW:mS C A W)(hY:Ob C A W){la:List Nat}{f:Nat}:∀(c:xD) (κ:KtT) (m:Kt),nO A f c->(∀X0,SKt C W J X0 kf Q κ m)->JOk C.base kf J (aK C (dC C A) f n c m)->∀X0,SK C W J X0 kf Q (oM C la f n c κ) (tD C (dC C A) f n c m):=by
 intro c;induction c with
 | skip=>intro κ m _ hκ _ X0;exact(hκ X0).norm
 | region id ops d=>intro κ m _ hκ _ X0;exact NJ hW (hκ X0).norm
 | seq a b iha ihb=>
  intro κ m hR hκ hJ;exact iha ⟨oM C la f n b κ,κ.exit,κ.ret⟩ ⟨tD C (dC C A) f n b m,m.exit,m.ret⟩ (nO.l hR).1 (fun X0=>⟨ihb κ m (nO.l hR).2 hκ (fun d hd=>hJ d (ycf _ hd)) X0,(hκ X0).exit,(hκ X0).ret⟩) fun d hd=>hJ d (ydc _ hd)
 | cond x a b iha ihb=>
  intro κ m hR hκ hJ X0 st tm HA t X ν hst h;have ha:=iha κ m (nO.l hR).1 hκ (fun d hd=>hJ d (ydc _ hd)) X0;have hb:=ihb κ m (nO.l hR).2 hκ (fun d hd=>hJ d (ycf _ hd)) X0;have h:qA C.base W J (aB (ob (ev x (.now st.tm)) zA.asBool) fun b'=>bif tX x st.lit then Bool.rec (motive:=fun _=>T) (oM C la f n b κ st) (oM C la f n a κ st) b' else .ite b' (oM C la f n a κ st) (oM C la f n b κ st)) t Q:=h
  rw[mD]at h;obtain⟨w,h1,h2⟩:=h;rw[uA]at h1;obtain⟨v,h3,h4⟩:=h1;show wC C.base X0 Q (ob (ob (ev x (.now tm)) zA.asBool) fun t=>Bool.rec (motive:=fun _=>kB) (tD C (dC C A) f n b m tm HA) (tD C (dC C A) f n a m tm HA) t);refine wC.ob (a:=w) (by rw[eD (Lj hst).1 h3];exact h4) ?_;have h2:if w=true then qA C.base W J (oM C la f n a κ st) t Q else qA C.base W J (oM C la f n b κ st) t Q:=by
   rw[eC]at h2;split at h2
   ·cases w<;>exact h2
   ·exact h2
  cases w with
  | true=>exact ha _ _ _ _ _ _ hst h2
  | false=>exact hb _ _ _ _ _ _ hst h2
 | block id c ih=>
  intro κ m hR hκ hJ;refine ih ⟨κ.norm,fun i st=>Bool.rec (motive:=fun _=>T) (κ.exit i st) (κ.norm st) (Nat.beq id i),κ.ret⟩ ⟨m.norm,fun i tm H=>Bool.rec (motive:=fun _=>kB) (m.exit i tm H) (m.norm tm H) (Nat.beq id i),m.ret⟩ hR (fun X0=>⟨(hκ X0).norm,fun i=>?_,(hκ X0).ret⟩) hJ;intro st tm HA t X ν hst h;have h:qA C.base W J (Bool.rec (motive:=fun _=>T) (κ.exit i st) (κ.norm st) (Nat.beq id i)) t Q:=h
  show wC C.base X0 Q (Bool.rec (motive:=fun _=>kB) (m.exit i tm HA) (m.norm tm HA) (Nat.beq id i))
  cases hb:Nat.beq id i with
  | true=>rw[hb]at h;exact(hκ X0).norm _ _ _ _ _ _ hst h
  | false=>rw[hb]at h;exact(hκ X0).exit i _ _ _ _ _ _ hst h
 | loop p c ih=>intro κ m _ hκ hJ X0;exact Ue hJ yby
 | exit id=>intro κ m _ hκ _ X0;exact(hκ X0).exit id
 | ret=>intro κ m _ hκ _ X0;exact(hκ X0).ret
 | cut p c ih=>intro κ m _ hκ hJ X0;exact Ue hJ yby
 | range i pl fo ps id ops c ih=>intro κ m hR hκ hJ X0;exact RQ hW hY hκ (hR _ yby) fun vals t Q h=>hJ _ yby vals t Q h
def PtOk (C:oA)(W J:oH)(kf:Nat)(l:List PtT)(d:PtD):Prop:=∃q∈l,q.p=d.p/\∀vals t Q,qA C.base W J (q.tree vals) t Q->Of C.base kf d vals t Q
def keptOk(kf:Nat):xD->Bool
 | .seq a b=>keptOk kf a&&keptOk kf b
 | .cond _ a b=>keptOk kf a&&keptOk kf b
 | .block _ c=>keptOk kf c
 | .loop p c=>p.kept.all (fun i=>Nat.blt i kf)&&keptOk kf c
 | .cut p c=>p.kept.all (fun i=>Nat.blt i kf)&&keptOk kf c
 | .range _ _ _ _ _ _ c=>keptOk kf c
 | _=>true
def SG(hW:mS C A W)(hY:Ob C A W){la:List Nat}{f:Nat}:∀(c:xD) (κ:KtT) (m:Kt),nO A f c->keptOk kf c=true->(∀X0 Q,SKt C W J X0 kf Q κ m)->JOk C.base kf J (aK C (dC C A) f n c m)->∀d∈aK C (dC C A) f n c m,PtOk C W J kf (yX C la f n kf c κ) d:=by
 have up:∀ {l l':List PtT} {d:PtD},PtOk C W J kf l d->(∀q∈l,q∈l')->PtOk C W J kf l' d:=fun⟨q,h1,h2⟩ hl=>⟨q,hl q h1,h2⟩
 intro c;induction c with
 | skip=>intro κ m _ _ _ _ d hd;cases hd
 | region id ops dr=>intro κ m _ _ _ _ d hd;cases hd
 | seq a b iha ihb=>
  intro κ m hR hk hκ hJ d hd;unfold keptOk at hk;rw[ybb]at hk;have e:yX C la f n kf (.seq a b) κ=yX C la f n kf a ⟨oM C la f n b κ,κ.exit,κ.ret⟩++yX C la f n kf b κ:=wG _ _;rw[e];have hJa:JOk C.base kf J (aK C (dC C A) f n a ⟨tD C (dC C A) f n b m,m.exit,m.ret⟩):=fun d hd=>hJ d (ydc _ hd);have hJb:JOk C.base kf J (aK C (dC C A) f n b m):=fun d hd=>hJ d (ycf _ hd)
  rcases yaf.1 hd with hd | hd
  ·exact up (iha ⟨oM C la f n b κ,κ.exit,κ.ret⟩ ⟨tD C (dC C A) f n b m,m.exit,m.ret⟩ (nO.l hR).1 hk.1 (fun X0 Q=>⟨Fo hW hY b κ m (nO.l hR).2 (fun X0=>hκ X0 Q) hJb X0,(hκ X0 Q).exit,(hκ X0 Q).ret⟩) hJa d hd) fun q hq=>ydc _ hq
  ·exact up (ihb _ _ (nO.l hR).2 hk.2 hκ hJb d hd) fun q hq=>ycf _ hq
 | cond x a b iha ihb=>
  intro κ m hR hk hκ hJ d hd;unfold keptOk at hk;rw[ybb]at hk;have e:yX C la f n kf (.cond x a b) κ=yX C la f n kf a κ++yX C la f n kf b κ:=wG _ _;rw[e];rcases yaf.1 hd with hd | hd
  ·exact up (iha _ _ (nO.l hR).1 hk.1 hκ (fun d hd=>hJ d (ydc _ hd)) d hd) fun q hq=>ydc _ hq
  ·exact up (ihb _ _ (nO.l hR).2 hk.2 hκ (fun d hd=>hJ d (ycf _ hd)) d hd) fun q hq=>ycf _ hq
 | block id c ih=>
  intro κ m hR hk hκ hJ d hd;refine ih ⟨κ.norm,fun i st=>Bool.rec (motive:=fun _=>T) (κ.exit i st) (κ.norm st) (Nat.beq id i),κ.ret⟩ ⟨m.norm,fun i tm H=>Bool.rec (motive:=fun _=>kB) (m.exit i tm H) (m.norm tm H) (Nat.beq id i),m.ret⟩ hR hk (fun X0 Q=>⟨(hκ X0 Q).norm,fun i=>?_,(hκ X0 Q).ret⟩) hJ d hd;intro st tm HA t X ν hst h;have h:qA C.base W J (Bool.rec (motive:=fun _=>T) (κ.exit i st) (κ.norm st) (Nat.beq id i)) t Q:=h
  show wC C.base X0 Q (Bool.rec (motive:=fun _=>kB) (m.exit i tm HA) (m.norm tm HA) (Nat.beq id i))
  cases hb:Nat.beq id i with
  | true=>rw[hb]at h;exact(hκ X0 Q).norm _ _ _ _ _ _ hst h
  | false=>rw[hb]at h;exact(hκ X0 Q).exit i _ _ _ _ _ _ hst h
 | loop p c ih=>
  intro κ m hR hk hκ hJ d hd;unfold keptOk at hk;rw[ybb,ycb]at hk;have hJc:JOk C.base kf J (aK C (dC C A) f n c ⟨tD C (dC C A) f n (.loop p c) m,m.exit,m.ret⟩):=fun d hd=>hJ d (ybr _ hd);have hκ':∀X0 Q,SKt C W J X0 kf Q ⟨Cr p,κ.exit,κ.ret⟩ ⟨tD C (dC C A) f n (.loop p c) m,m.exit,m.ret⟩:=fun X0 Q=>⟨Ue hJ yby,(hκ X0 Q).exit,(hκ X0 Q).ret⟩;rcases ybs.1 hd with rfl | hd
  ·refine⟨_,yby,rfl,fun vals t Q hw X0 X HA tm ν hst=>?_⟩;show wC C.base X0 Q (tD C (dC C A) f n (.loop p c) m tm HA);rw[za2];exact Fo hW hY c _ _ hR (fun X0=>hκ' X0 Q) hJc X0 _ _ _ _ _ _ (hst.keep fun i hi=>vC.1 (hk.1 i hi)) hw
  ·exact up (ih ⟨Cr p,κ.exit,κ.ret⟩ ⟨tD C (dC C A) f n (.loop p c) m,m.exit,m.ret⟩ hR hk.2 hκ' hJc d hd) fun q hq=>ybr _ hq
 | exit id=>intro κ m _ _ _ _ d hd;cases hd
 | ret=>intro κ m _ _ _ _ d hd;cases hd
 | cut p c ih=>
  intro κ m hR hk hκ hJ d hd;unfold keptOk at hk;rw[ybb,ycb]at hk;have hJc:JOk C.base kf J (aK C (dC C A) f n c m):=fun d hd=>hJ d (ybr _ hd);rcases ybs.1 hd with rfl | hd
  ·refine⟨_,yby,rfl,fun vals t Q hw X0 X HA tm ν hst=>?_⟩;exact Fo hW hY c _ _ hR (fun X0=>hκ X0 Q) hJc X0 _ _ _ _ _ _ (hst.keep fun i hi=>vC.1 (hk.1 i hi)) hw
  ·exact up (ih _ _ hR hk.2 hκ hJc d hd) fun q hq=>ybr _ hq
 | range i pl fo ps id ops c ih=>
  intro κ m hR hk hκ hJ d hd;have hR':nO A f c:=fun q hq=>hR q (ybr _ hq);have hJc:JOk C.base kf J (aK C (dC C A) f n c tR):=fun d hd=>hJ d (ybr _ hd);rcases ybs.1 hd with rfl | hd
  ·refine⟨_,yby,rfl,fun vals t Q hw X0 X HA tm ν hst=>?_⟩;exact Fo hW hY (.seq (.region id ops false) c) rdT tR (fun q hq=>hR' q hq) (fun _=>BP) (fun d hd=>hJc d hd) X0 _ _ _ _ _ _ hst hw
  ·exact up (ih rdT tR hR' hk (fun _ _=>BP) hJc d hd) fun q hq=>ybr _ hq
end
end
section
def Tr.mapT{α β:Type}(f:α->β)(t:Tr α):Tr β:=Tr.rec (motive:=fun _=>Tr β) .leaf (fun _ v _ l r=>.node l (match v with | some a=>some (f a) | none=>none) r) t
theorem Tr.get_mapT{α β:Type}(f:α->β):∀(t:Tr α) (n:Nat),(t.mapT f).get n=(t.get n).map f:=by
 intro t;induction t with
 | leaf=>intro n;rfl
 | node l v r ihl ihr=>
  intro n;show(Tr.node (l.mapT f) (match v with | some a=>some (f a) | none=>none) (r.mapT f)).get n=_
  grind [Tr.get_node]
def zN(F:Tr wF):Tr xD:=F.mapT wF.code
def fnB (f kf:Nat)(c:xD):Bool:=Nat.blt f yo&&(keptOk kf c&&(match sR c with | []=>true | [_]=>true | _=>false))
structure sM (C:oA) (F:Tr wF) (f:Nat) (fn:Func) (kf:Nat) (A:wF):Prop where
 isF:F.get f=some A
 isFn:C.fns.get f=some fn
 isK:C.ks.get f=some kf
 prim:rG (C.prims.get f)=true
 kept:fnB f kf A.code=true
 body:rG fn.body=false
theorem sM.lt{C:oA}{F:Tr wF}{f:Nat}{fn:Func}{kf:Nat}{A:wF}(h:sM C F f fn kf A):Nat.blt f yo=true:=by
 have:=h.kept;grind [fnB]
theorem sM.keptOk{C:oA}{F:Tr wF}{f:Nat}{fn:Func}{kf:Nat}{A:wF}(h:sM C F f fn kf A):keptOk kf A.code=true:=by
 have:=h.kept;grind [fnB]
def sM.code{C:oA}{F:Tr wF}{f:Nat}{fn:Func}{kf:Nat}{A:wF}(h:sM C F f fn kf A):(zN F).get f=some A.code:=by unfold zN;rw[Tr.get_mapT,h.isF];rfl
theorem sM.one{C:oA}{F:Tr wF}{f:Nat}{fn:Func}{kf:Nat}{A:wF}(h:sM C F f fn kf A):nO (zN F) f A.code:=by
 have:=h.kept;unfold fnB at this;simp only[ybb]at this;intro q hq;refine⟨_,h.code,?_⟩
 grind [Gp]
def Wc (C:oA)(F:Tr wF):oH:=fun f args t Q=>∀X HA,Ov C.base t X HA->wC C.base X Q (Ao C (zN F) f args HA)
theorem Wc.mono{C:oA}{F:Tr wF}{f:Nat}{args:List zA}{t:Tr sA}{Q Q':dB}(h:Wc C F f args t Q)(k:∀v t',Q v t'->Q' v t'):Wc C F f args t Q':=fun X HA ho=>(h X HA ho).mono k
theorem Tr.bound{α:Type}(t:Tr α):∃n,∀b y,t.get b=some y->b<n:=by
 induction t with
 | leaf=>simp_all [Tr.get_leaf]
 | node l v r ihl ihr=>
  obtain⟨n,hn⟩:=ihl;obtain⟨m,hm⟩:=ihr;refine⟨2*n+2*m+3,fun b y h=>?_⟩
  grind [Tr.get_node]
def PV (C:oA)(F:Tr wF)(f:Nat)(args:List zA)(t:Tr sA)(v:zA):Prop:=Wc C F f args t fun v' t'=>v'=v/\t'=t
def PV.unique{C:oA}{F:Tr wF}{f:Nat}{args:List zA}{t:Tr sA}{v v':zA}(h:PV C F f args t v)(h':PV C F f args t v'):v=v':=by
 obtain⟨n,hn⟩:=Tr.bound t;have ho:Ov C.base t (fun _=>none) ⟨C.base+n,t⟩:=⟨Nat.le_add_right _ _,fun _ _=>rfl,fun _ _ h=>(by cases h),fun b y hb=>Nat.lt_of_lt_of_le (hn b y hb) (Nat.le_add_left _ _)⟩;obtain⟨u,t',HA',X',h1,_,_,h2,_⟩:=h _ _ ho;obtain⟨u',t'',HA'',X'',h3,_,_,h4,_⟩:=h' _ _ ho;rw[h1]at h3;cases h3;rw[<- h2,<- h4]
def lB (C:oA)(F:Tr wF)(f:Nat)(args:List zA)(t:Tr sA):Option zA:=@dite _ (∃v,PV C F f args t v) (Classical.propDecidable _) (fun h=>some h.choose) (fun _=>none)
theorem bB{C:oA}{F:Tr wF}{f:Nat}{args:List zA}{t:Tr sA}{v:zA}:lB C F f args t=some v ↔ PV C F f args t v:=by
 unfold lB;constructor
 ·intro h;by_cases hx:∃v,PV C F f args t v
  all_goals grind
 ·intro h;have hx:∃v,PV C F f args t v:=⟨v,h⟩;rw[dif_pos hx,PV.unique hx.choose_spec h]
def Wq (C:oA)(F:Tr wF)(pure:Nat->Bool):oH:=fun f args t R=>if (pure f&&Nat.blt f yo)=true then oE (lB C F f args t) fun v=>R v t else Wc C F f args t R
theorem Wq_ok{C:oA}{F:Tr wF}{pure:Nat->Bool}:mS C (zN F) (Wq C F pure):=by
 intro f args t R h X HA ho;unfold Wq at h;split at h
 ·rw[zV]at h;obtain⟨v,h1,h2⟩:=h;exact((bB.1 h1) X HA ho).mono fun v' t' hh=>by simp_all
 ·exact h X HA ho
theorem zct{C:oA}{F:Tr wF}{pure:Nat->Bool}:Ob C (zN F) (Wq C F pure):=by
 intro l args t Q h;unfold Wq;have:Nat.blt (yo+l) yo=false:=Bool.eq_false_iff.2 fun e=>by grind [vC]
 rw[this,yay,yaa (by simp)];exact h
def Jq (C:oA)(F:Tr wF)(f:Nat):oH:=fun i vals t Q=>∀fn kf A,sM C F f fn kf A->∀d∈aK C (dC C (zN F)) f fn.ntmps A.code (fS C fn),d.p.id=i->Of C.base kf d vals t Q
def Jq_ok{C:oA}{F:Tr wF}{f:Nat}{fn:Func}{kf:Nat}{A:wF}(h:sM C F f fn kf A):JOk C.base kf (Jq C F f) (aK C (dC C (zN F)) f fn.ntmps A.code (fS C fn)):=
 fun d hd _ _ _ hJ=>hJ fn kf A h d hd rfl
section
variable {W J:oH}{t:Tr sA}{X X0:Xt}{HA:xA}{C:oA}{A:Tr xD}{ν:Nat->Nat}{Q:dB}{kf n:Nat}{st:dF}{tm:Tm}
theorem zc9(hst:zF C.base X0 kf ν X st tm HA t):∀(l:List ResultVar) (K:List zA->T),qA C.base W J (Cb C st l K) t Q->∃vs,fU C HA tm l=some vs/\qA C.base W J (K vs) t Q:=by
 intro l;induction l with
 | nil=>intro K h;exact⟨[],rfl,h⟩
 | cons r l ih=>
  intro K h
  cases r with
  | tmp i=>
   have h:qA C.base W J (aB (st.tm.get i) fun v=>Cb C st l fun l=>K (v::l)) t Q:=h;rw[mD]at h;obtain⟨v,h1,h2⟩:=h;obtain⟨vs,h3,h4⟩:=ih _ h2;refine⟨v::vs,?_,h4⟩;show aF (bW C HA tm) _=_;rw[dL];show ob (tm.get i) _=_;rw[hst.tms _ _ h1,tA];have h3:aF (bW C HA tm) l=some vs:=h3;rw[h3];rfl
  | cell a ty=>
   have h:qA C.base W J (match uJ a st.ad with
    | some p=>aB (st.lo.get p.1) fun m=>aB (C.tys.get ty) fun y=>nI (Nat.ble (p.2+y.size) (rB m)) (aB (mM C ty m p.2) fun v=>Cb C st l fun l=>K (v::l))
    | none=>aB (st.tm.get a) fun a=>.light (fun m=>aA C ty ⟨0,m⟩ a) fun v=>Cb C st l fun l=>K (v::l)) t Q:=h
   have uF:∀ {u v:zA},tm.get a=some u->aA C ty HA u=some v->qA C.base W J (Cb C st l fun l=>K (v::l)) t Q->∃vs,fU C HA tm (.cell a ty::l)=some vs/\qA C.base W J (K vs) t Q:=by
    intro u v h1 h2 h3;obtain⟨vs,h4,h5⟩:=ih _ h3;refine⟨v::vs,?_,h5⟩;show aF (bW C HA tm) _=_;rw[dL];have e:bW C HA tm (.cell a ty)=some v:=by
     show(ob (ob (tm.get a) zA.asPtr) fun p=>ob (C.tys.get ty) fun ty=>ob (aC HA p.1) fun c=>vP ty c.1 p.2)=some v
     grind [aA,tA]
    have h4:aF (bW C HA tm) l=some vs:=h4
    simp_all
   split at h
   ·rename_i p hp;simp only[mD,sL]at h;obtain⟨m,h1,y,h2,h3,v,h4,h5⟩:=h;exact uF (hst.ads _ _ hp) (EA hst.ov hst.lo h1 h2 h3 h4) h5
   ·simp only[mD,Bh]at h;obtain⟨u,h1,v,h2,h3⟩:=h;exact uF (hst.tms _ _ h1) (Jd hst.ov.le h2) h3
def IJ{fn:Func}:SK C W J X0 kf Q (endT C fn) (De C fn):=by
 intro st tm HA t X ν hst h;obtain⟨vs,h1,h2⟩:=zc9 hst _ _ h;unfold De;exact wC.ob h1 ⟨_,t,HA,X,rfl,hst.ov,hst.le,h2⟩
def Xv{fn:Func}:SKt C W J X0 kf Q (Fm C fn) (fS C fn):=⟨IJ,fun _ _ _ _ _ _ _ _ h=>h.elim,IJ⟩
end
section
variable {C:oA}{F:Tr wF}{f:Nat}{fn:Func}{kf:Nat}{A:wF}{pure:Nat->Bool}{t:Tr sA}{Q:dB}
theorem ze3(h:sM C F f fn kf A){args:List zA}(hl:(Nat.ble (rB args) kf&&Nat.ble (rB args) fn.ntmps)=true)(hw:qA C.base (Wq C F pure) (Jq C F f) (entT C fn kf f A args) t Q):Wc C F f args t Q:=by
 intro X HA ho;have hA:=h.code;obtain⟨body,hb⟩:∃b,fn.body=some b:=by
  cases hx:fn.body with
  | none=>have:=h.body;rw[hx]at this;cases this
  | some b=>simp_all
 have he:oK C f args false=some ⟨[.code body],⟨kf,Tr.ofList args,[]⟩,⟨f,fn.ntmps,[],.run,false,none⟩⟩:=by
  unfold oK;rw[h.isFn,tA,hb,tA,h.isK,tA,hl];rfl
 have hp:C.prims.get f=none:=by
  cases hx:C.prims.get f with
  | none=>rfl
  | some g=>have:=h.prim;rw[hx]at this;cases this
 rw[Dl h.lt,hp];show wC C.base X Q (dC C (zN F) (.func f) args HA);rw[zcm];show wC C.base X Q (lQ C (zN F) (dC C (zN F)) f args HA);unfold lQ;refine wC.ob hA (wC.ob h.isFn (wC.ob he ?_));have hst:zF C.base X kf (fun i=>i) X ⟨⟨kf,Tr.ofList args,[]⟩,[],.leaf,[]⟩ ⟨kf,Tr.ofList args,[]⟩ HA t:=
  ⟨ho,tI.refl _,rfl,rfl,fun _ _ h=>h,fun _ _ h=>(by cases h),fun d l h=>(by grind [Tr.get_leaf]),fun d _ l _ h=>(by omega)⟩
 exact Fo Wq_ok zct A.code (Fm C fn) (fS C fn) h.one (fun _=>Xv) (Jq_ok h) _ _ _ _ _ _ _ hst hw
theorem Jq_of(h:sM C F f fn kf A){i:Nat}{vals:List zA}{l:List T}(hp:Gk (ptsT C fn kf f A) i vals=l)(hw:∀T∈l,qA C.base (Wq C F pure) (Jq C F f) T t Q):Jq C F f i vals t Q:=by
 intro fn' kf' A' h' d hd hi;have e1:=h.isFn;rw[h'.isFn]at e1;cases e1;have e2:=h.isK;rw[h'.isK]at e2;cases e2;have e3:=h.isF;rw[h'.isF]at e3;cases e3;obtain⟨q,h1,h2,h3⟩:=SG (W:=Wq C F pure) Wq_ok zct A.code (Fm C fn) (fS C fn) h.one h.keptOk (fun _ _=>Xv) (Jq_ok h) d hd;refine h3 vals t Q (hw _ ?_);subst hp;have key:∀(l:List PtT),q∈l->q.tree vals∈Gk l i vals:=by
  intro l;induction l with
  | nil=>simp_all
  | cons p l ih=>
   grind [Gk,oC]
 exact key _ h1
def Jq_of1(h:sM C F f fn kf A){i:Nat}{vals:List zA}{T:T}(hp:Gk (ptsT C fn kf f A) i vals=[T])(hw:qA C.base (Wq C F pure) (Jq C F f) T t Q):Jq C F f i vals t Q:=
 Jq_of h hp fun T' hT=>by rw[ydd.1 hT];exact hw
theorem Jq.mono{i:Nat}{vals:List zA}{Q':dB}(h:Jq C F f i vals t Q)(k:∀v t',Q v t'->Q' v t'):Jq C F f i vals t Q':=
 fun fn kf A hf d hd hi X0 X HA tm ν hst=>(h fn kf A hf d hd hi X0 X HA tm ν hst).mono k
theorem Wc_pv{args:List zA}{v:zA}(h:lB C F f args t=some v)(hq:Q v t):Wc C F f args t Q:=(bB.1 h).mono fun _ _ hh=>by simp_all
theorem Ko{g:List zA->xA->Option zA}(hg:C.prims.get f=some (fL g)){args:List zA}{v:zA}(h:∀H,g args H=some v)(hf:Nat.blt f yo=true:=by rfl):lB C F f args t=some v:=by
 refine bB.2 fun X HA ho=>?_;rw[Dl hf,hg];exact⟨v,t,HA,X,by grind [fL,tA],ho,tI.refl _,rfl,rfl⟩
theorem fN{args:List zA}{v:zA}(h:Wc C F f args t fun v' t'=>v'=v/\∀b y,t.get b=some y->t'.get b=some y):lB C F f args t=some v:=by
 refine bB.2 fun X HA ho=>?_;obtain⟨u,t',HA',X',h1,h2,h3,h4,h5⟩:=h X HA ho;refine⟨u,t,HA',fun b=>match t.get b with | some _=>none | none=>HA'.t.get b,h1,⟨h2.base,?_,?_,?_⟩,?_,h4,rfl⟩
 ·intro b hb
  cases hg:t.get b with
  | some y=>rw[h2.up (h5 b y hg)]
  | none=>simp_all
 ·intro b y hb
  cases hg:t.get b with
  | some y=>simp_all
  | none=>
   simp only[hg]at hb;refine⟨hb,rfl,?_⟩
   cases hx:X' b with
   | some z=>exact(h2.ext b z hx).2.2
   | none=>rw[h2.same b hx]at hb;exact h2.lt b y hb
 ·intro b y hb;exact h2.lt b y (h5 b y hb)
 ·intro b y hb;have hn:=(ho.ext b y hb).2.1;simp only[hn];exact(h2.ext b y (h3 b y hb)).1
end
theorem YK{P:Program}{C:oA}{F:Tr wF}{B N:Nat}{I:World->Prop}{μ:Mu}{w:World}(hS:sI P C B N I)(hI:I w)(hA:Bc C (zN F)){f:Nat}(hp:C.prims.get f=none){args:List zA}{args':Array Value}{H:xA}{Q:dB}(hbase:C.base<=H.next)(hlt:∀b y,H.t.get b=some y->b<H.next)(hH:sB B N μ H w)(hl:pB μ args args'.toList)
  (h:Wc C F f args H.t Q) (hf:Nat.blt f yo=true:=by rfl):Calls P f args' w fun e w'=>∃v v' t' μ',e=.returned v'/\μ.lw μ'/\vA μ' v v'/\Q v t'/\Below N w w':=by
 obtain⟨v,t',HA',X',h1,h2,h3,h4⟩:=h (fun _=>none) H ⟨hbase,fun _ _=>rfl,fun _ _ h=>(by cases h),hlt⟩;rw[Dl hf,hp]at h1;intro base;obtain⟨e,w',b,⟨v',μ',g1,g2,g3,g4,g5⟩,g6⟩:=YI hS hI hA hH hl h1 base
 grind
end
section
def piOf (i:Nat)(l:List (Nat × PI)):Option PI:=List.rec (motive:=fun _=>Option PI) none (fun a _ g=>bif Nat.beq i a.1 then some a.2 else g) l
def cutP (p:Option PI)(c:xD):xD:=
 match p with
 | some p=>.cut p c
 | none=>c
def Ti(p:Option PI)(c:xD):xD:=
 match p with
 | some p=>.loop p c
 | none=>.loop ⟨0,[],[]⟩ c
def rangeP(p:Option PI)(f:Operand)(ps:Array Nat)(a:Code)(c:xD):xD:=
 match a with
 | .region id ops _=>.range (match p with | some p=>p.id | none=>0) (match p with | some p=>p.pl | none=>[]) f ps id ops c
 | _=>.skip
def GO:Code->Bool
 | .region _ _ d => !d
 | _=>false
def rW(rt lt:List (Nat × PI))(c:Code):Nat->xD:=
 Code.rec (motive:=fun _=>Nat->xD)
  (fun _=>.skip)
  (fun id ops d _=>cutP (piOf id rt) (.region id ops d))
  (fun _ _ ga gb k=>.seq (ga k) (gb k))
  (fun c _ _ gx gy k=>.cond c (gx k) (gy k))
  (fun id _ g _=>.block id (g id))
  (fun _ g k=>Ti (piOf k lt) (g k))
  (fun f ps a _ _ gb k=>rangeP (piOf k lt) f ps a (gb k))
  (fun id _=>.exit id)
  (fun _ _ _=>.skip)
  (fun _ _=>.skip)
  (fun _ _=>.skip)
  (fun _=>.ret)
  (fun _ _=>.skip) c
def annot(rt lt:List (Nat × PI))(k:Nat)(c:Code):xD:=rW rt lt c k
def xQ(c:Code):Bool:=
 Code.rec (motive:=fun _=>Bool) true (fun _ _ _=>true) (fun _ _ a b=>bif a then b else false) (fun _ _ _ a b=>bif a then b else false) (fun _ _ a=>a) (fun _ a=>a)
  (fun _ _ a _ _ b=>bif GO a then b else false) (fun _=>true) (fun _ _=>false) (fun _=>false) (fun _=>false) true (fun _=>false) c
def WT(p:Option PI)(c:xD):tF (cutP p c)=tF c:=by cases p<;>rfl
def WS(p:Option PI)(c:xD):tF (Ti p c)=.loop (tF c):=by cases p<;>rfl
def WU{rt lt:List (Nat × PI)}:∀(c:Code) (k:Nat),xQ c=true->tF (rW rt lt c k)=c:=by
 intro c;induction c with
 | skip=>intro k _;rfl
 | region id ops d=>intro k _;show tF (cutP _ _)=_;rw[WT];rfl
 | seq a b iha ihb=>
  intro k h;have h:(bif xQ a then xQ b else false)=true:=h;have ha:xQ a=true:=by simp_all
  have hb:xQ b=true:=by simp_all
  show Code.seq (tF (rW rt lt a k)) (tF (rW rt lt b k))=_;rw[iha k ha,ihb k hb]
 | cond c x y ihx ihy=>
  intro k h;have h:(bif xQ x then xQ y else false)=true:=h;have ha:xQ x=true:=by simp_all
  have hb:xQ y=true:=by simp_all
  show Code.cond c (tF (rW rt lt x k)) (tF (rW rt lt y k))=_;rw[ihx k ha,ihy k hb]
 | block id c ih=>intro k h;show Code.block id (tF (rW rt lt c id))=_;rw[ih id h]
 | loop c ih=>intro k h;show tF (Ti _ (rW rt lt c k))=_;rw[WS,ih k h]
 | exit id=>intro k _;rfl
 | ret=>intro k _;rfl
 | rangeFunc f ps a b _ ihb=>
  intro k h;have h:(bif GO a then xQ b else false)=true:=h
  cases a with
  | region id ops d=>
   cases d with
   | true=>cases h
   | false=>show Code.rangeFunc f ps (.region id ops false) (tF (rW rt lt b k))=_;rw[ihb k h]
  | _=>cases h
 | scope c _=>intro k h;cases h
 | label l=>intro k h;cases h
 | goto l=>intro k h;cases h
 | refuse s=>intro k h;cases h
def Bs (l:List (Nat × wF)):Tr wF:=List.rec (motive:=fun _=>Tr wF) .leaf (fun p _ g=>g.set p.1 p.2) l
def NQ{l:List (Nat × wF)}{f:Nat}{A:wF}(h:(Bs l).get f=some A):(f,A)∈l:=by
 induction l with
 | nil=>grind [Bs,Tr.get_leaf]
 | cons p l ih=>
  grind [Bs,Tr.get_set]
def zcu(C:oA)(p:Nat × wF):Prop:=∃fn c,C.fns.get p.1=some fn/\fn.body=some c/\tF p.2.code=c
def bodyOk{C:oA}{f:Nat}{fn:Func}{c:Code}{rt lt:List (Nat × PI)}{la:List Nat}(h1:C.fns.get f=some fn)(h2:fn.body=some c)(h3:xQ c=true):zcu C (f,⟨annot rt lt 0 c,la⟩):=⟨fn,c,h1,h2,WU c 0 h3⟩
def YC{C:oA}{l:List (Nat × wF)}(h:∀p∈l,zcu C p):Bc C (zN (Bs l)):=by
 intro f c hc;unfold zN at hc;rw[Tr.get_mapT]at hc
 cases hq:(Bs l).get f with
 | none=>simp_all
 | some A=>
  rw[hq]at hc;cases hc;obtain⟨fn,b,h1,h2,h3⟩:=h _ (NQ hq)
  simp_all
end
end Go.Am
namespace Go.Am
class sC where
 n:Nat
def Ky(a:List zA)(_:xA):Option zA:=match a with | []=>some (.bool true) | _=>none
def zS:List Nat->List Nat->Bool
 | [],_=>true
 | _::_,[]=>false
 | a::x,b::y=>bif Nat.beq a b then zS x y else false
def cutL (sub:List Nat):List Nat->Option (List Nat × List Nat)
 | []=>bif sub.isEmpty then some ([],[])else none
 | b::l=>bif zS sub (b::l)then some ([],yO (b::l) (rB sub))else ob (cutL sub l) fun p=>some (b::p.1,p.2)
def pCut (a:List zA)(_:xA):Option zA:=match a with
 | [.str s,.str c]=>xB (Nat.blt (rB s) 4294967281) (match cutL c s with
  | some p=>some (.tup [.str p.1,.str p.2,.bool true])
  | none=>some (.tup [.str s,.str [],.bool false]))
 | _=>none
def eJ(n:Int):List Nat:=(Lib.itoa n).map UInt8.toNat
def Cj(a:List zA)(_:xA):Option zA:=match a with
 | [.int .i64 n]=>xB (uC (-9223372036854775808) n&&iB n 9223372036854775808) (some (.str (eJ n)))
 | _=>none
def Gm(a:List zA)(_:xA):Option zA:=match a with
 | [.int .u64 n,.int .i64 b]=>xB (uC 0 n&&iB n 18446744073709551616&&iA b 10) (some (.str (eJ n)))
 | _=>none
end Go.Am
namespace Go.Am
open Go Go.Shelf Go.RowKit Go.Proofs
variable {P:Program}{ρ:Ren}
set_option maxHeartbeats 2000000 in
set_option maxRecDepth 100000 in
theorem XE(L:Lays.n169 P ρ)(X:Builder.Extra P ρ)(b g cap cells:Nat)(l:List UInt8)(w:World)(c1:w.cell? ⟨b,1,none⟩=some (.slice (some ⟨g,0,none⟩) l.length cap))(h0:l≠[])(hcap:l.length<=cap)
  (hsh:w.shape? g=some (ρ.t 5,cells)) (hc:l.length<=cells) (h63:l.length<=9223372036854775807) (hcell:∀j x,l[j]?=some x->w.cell? ((⟨g,0,none⟩:Addr).add j)=some (.int .u8 x.toNat)) :
  Calls P (ρ.f 169) #[.pointer (some ⟨b,0,none⟩)] w fun e w'=>e=.returned (.string ⟨l.toArray⟩)/\w'=w.drew.freeze ⟨g,0,none⟩ l.length:=by
 have hl0:l.length≠0:=by simp_all
 have c1:w.drew.cell? ⟨b,1,none⟩=some (.slice (some ⟨g,0,none⟩) l.length cap):=c1;have hSD:(Builtin.unsafeSliceData_ #[(ρ.t 37)] (ρ.t 127) #[.slice (some ⟨g,0,none⟩) l.length cap]).run P w.drew=.ok (.pointer (some ⟨g,0,none⟩)) w.drew:=
  Lib.run_unsafeSliceData_row _ _ _ _ _ _ (by omega)
 have hUS:(Builtin.unsafeString_ #[(ρ.t 127),(ρ.t 3)] (ρ.t 9) #[.pointer (some ⟨g,0,none⟩),.int .i64 l.length]).run P w.drew=.ok (.string ⟨l.toArray⟩) (w.drew.freeze ⟨g,0,none⟩ l.length):=
  Lib.run_unsafeString_row w.drew (ρ.t 127) (ρ.t 3) (ρ.t 9) (ρ.t 5) L.t127 X.cellsByte g cells hsh l h0 hc h63 hcell
 have mixed:=L.mixed;have t72:=L.t72;have a72:=L.a72;have z72:=L.z72;have v72:=L.v72;have u72:=run_underlying L.t72;have t70:=L.t70;have a70:=L.a70;have z70:=L.z70;have v70:=L.v70;have u70:=run_underlying L.t70;have t37:=L.t37;have a37:=L.a37;have z37:=L.z37;have v37:=L.v37;have u37:=run_underlying L.t37;have t127:=L.t127;have a127:=L.a127;have z127:=L.z127;have v127:=L.v127;have u127:=run_underlying L.t127
 have t3:=L.t3;have a3:=L.a3;have z3:=L.z3;have v3:=L.v3;have u3:=run_underlying L.t3;have t9:=L.t9;have a9:=L.a9;have z9:=L.z9;have v9:=L.v9;have u9:=run_underlying L.t9;have t5:=X.t5;have a5:=X.a5;have z5:=X.z5;have v5:=X.v5;have u5:=run_underlying X.t5
 go_enter L.f169,Body.n169_ntmps ρ
 go_wp2
 go_region_o
 all_goals (go_wp2;go_ret;simp_all)
end Go.Am
namespace Go.Am
open Go Go.Shelf Go.RowKit Go.Proofs
section
variable {P:Program}{ρ:Ren}{B N:Nat}{μ:Mu}{H:xA}{w:World}
theorem sB.scratch(hH:sB B N μ H w){g:Nat}(hg:N<=g)(hfree:∀a x j,H.t.get a=some x->μ a=some j->j.b≠g)(o':Obj):sB B N μ H (World.setBlk w g o'):=by
 have hsz:(World.setBlk w g o').heap.size=w.heap.size:=by simp[World.setBlk]
 refine⟨hH.base,hH.glob,hH.low,hH.next,by rw[hsz];exact hH.size,hH.fresh,fun a x i hx hi=>?_,fun a i ha hi=>by rw[hsz];exact hH.own a i ha hi,hH.inj,hH.pnd⟩;obtain⟨o,h1,h2⟩:=hH.blk a x i hx hi
 grind [sZ]
def Gz:List (Nat × Nat)->Nat->Nat->Bool
 | [],_,_=>false
 | p::r,t,n=>bif Nat.beq p.1 t&&Nat.ble p.2 n then true else Gz r t n
theorem DN:∀ {Ts:List (Nat × Nat)} {t n:Nat},Gz Ts t n=true->∃p∈Ts,p.1=t/\p.2<=n
 | [],_,_,h=>by cases h
 | p::r,t,n,h=>by
  unfold Gz at h;rw[eC]at h;split at h
  ·simp_all
  ·obtain⟨q,h1,h2⟩:=DN h
   grind
def mZ(base:Nat)(Ts:List (Nat × Nat))(args:List zA)(H:xA):Option (zA × xA):=
 match args with
 | [.ptr b 0]=>ob (aC H b) fun c=>ob (c.1.get 0) fun v=>match v with
  | .nilptr=>xB (!Nat.blt b base&&(match c.2.2 with | some (.ty t)=>Gz Ts t c.2.1 | _=>false)) (some (.tup [],setBlk H b (.cells (c.1.set 0 (.ptr b 0)) c.2.1 c.2.2)))
  | .ptr d o=>xB (Nat.beq d b&&Nat.beq o 0) (some (.tup [],H))
  | _=>none
 | _=>none
theorem SP{f:Nat}{Ts:List (Nat × Nat)}{base:Nat}(hbase:B<=base)
  (hfresh:∀p∈Ts,∀(b n:Nat) (w:World),w.cell? ⟨b,0,none⟩=some (.pointer none)->w.shape? b=some (p.1,n)->p.2<=n->w.frozen? ⟨b,0,none⟩=false->Calls P f #[.pointer (some ⟨b,0,none⟩)] w fun e w'=>e=.returned (.tuple #[])/\w'=w.setCell ⟨b,0,none⟩ (.pointer (some ⟨b,0,none⟩)))
  (hused:∀(b:Nat) (w:World),w.cell? ⟨b,0,none⟩=some (.pointer (some ⟨b,0,none⟩))->Calls P f #[.pointer (some ⟨b,0,none⟩)] w fun e w'=>e=.returned (.tuple #[])/\w'=w)
  (henter:∀(w:World) (a:Array Value),(callFunc f a).run P w=.ok (.enter f a) w) {args:List zA} {args':Array Value} {v:zA} {H':xA} (hH:sB B N μ H w) (hv:mZ base Ts args H=some (v,H')) (hl:pB μ args args'.toList) :
  (callFunc f args').run P w=.ok (.enter f args') w/\Calls P f args' w fun e w'=>∃v' μ',e=.returned v'/\μ.le μ'/\sB B N μ' H' w'/\Below N w w'/\vA μ' v v':=by
 refine⟨henter w args',?_⟩;unfold mZ at hv;split at hv
 case h_2=>cases hv
 rename_i b;rw[pB]at hl;obtain⟨u,r,h1,h2,h3⟩:=hl;rw[pB]at h3;subst h3;rw[vA]at h2;obtain⟨i,hi,rfl⟩:=h2;have ha:args' = #[.pointer (some ⟨i.b,0,none⟩)]:=by apply yax.1;rw[h1]
 subst ha;rw[uA]at hv;obtain⟨⟨c,n,lo⟩,hc,hv⟩:=hv;rw[uA]at hv;obtain⟨v0,h0,hv⟩:=hv;have hx:=bX hc;obtain⟨o,g1,g2⟩:=hH.blk _ _ _ hx hi;have g2':=g2;obtain⟨cs,E,fr,rfl,g3,g4,g5,g6⟩:=g2;obtain⟨hn,u,hu,hr⟩:=g5 0 v0 h0;have g3:n<=cs.size:=g3;have hn:0<n:=hn;have hcell0:w.cell? ⟨i.b,0,none⟩=some u:=by grind [World.cell?]
 have hundef:vA μ (.tup []) (.tuple #[]):=by rw[vA];exact⟨#[],rfl,.nil⟩
 split at hv
 ·rw[vA]at hr;subst hr;simp only[oB,ybb,ycp]at hv;obtain⟨⟨hb,ht⟩,hv⟩:=hv;cases hv;have hown:B<=b:=by
   grind [vC]
  have hNb:=hH.own b i hown hi;have hfr:=g4.resolve_left (by simp_all);have hE:∃p∈Ts,p.1=E/\p.2<=n:=by
   grind [DN]
  obtain⟨p,hpT,hpE,hpn⟩:=hE;subst hpE;refine(hfresh p hpT i.b cs.size w hcell0 (by unfold World.shape?;rw[g1]) (Nat.le_trans hpn g3) ?_).mono ?_
  ·grind [World.frozen?]
  ·rintro e w' ⟨rfl,rfl⟩;rw[AO g1];refine⟨_,μ,rfl,μ.le_refl,hH.upd hx hi hown ?_,zU hNb.1,hundef⟩;refine⟨_,_,fr,rfl,by simp_all,by simp_all,fun j x hj=>?_,by simp_all⟩
   grind [Tr.get_set,vA]
 ·rename_i d o;simp only[oB,ybb,oC]at hv;obtain⟨⟨rfl,rfl⟩,hv⟩:=hv;cases hv;rw[vA]at hr;obtain⟨i',hi',rfl⟩:=hr;rw[hi]at hi';cases hi';refine(hused i.b w hcell0).mono ?_;rintro e w' ⟨rfl,rfl⟩;exact⟨_,μ,rfl,μ.le_refl,hH,Below.refl _ _,hundef⟩
 grind
theorem UI{α β:Type}{f:α->Option β}:∀ {l:List α} {r:List β},aF f l=some r->r.length=l.length/\∀(t:Nat) k,r[t]?=some k->∃y,l[t]?=some y/\f y=some k:=by
 intro l;induction l with
 | nil=>grind [gZ]
 | cons a l ih=>
  grind [dL,uA]
theorem Xj{k:Nat}(h:k<256):(UInt8.ofNat k).toNat=k:=by
 simp_all
def byteOf:zA->Option Nat
 | .int .u8 (.ofNat k)=>xB (Nat.blt k 256) (some k)
 | _=>none
theorem YT{v:zA}{k:Nat}(h:byteOf v=some k):v=.int .u8 (k:Int)/\k<256:=by
 unfold byteOf at h;split at h
 all_goals grind [oB,vC]
def Ci(base U:Nat)(args:List zA)(H:xA):Option (zA × xA):=
 match args with
 | [.ptr b 0]=>ob (aC H b) fun c=>ob (c.1.get 1) fun v=>ob v.asSlice fun s=>ob (aC H s.1) fun d=>ob (d.1.many s.2.2.1 0) fun m=>ob (aF byteOf m) fun l=>
  xB (!Nat.blt s.1 base&&Nat.beq s.2.1 0&&Nat.blt 0 s.2.2.1&&Nat.ble s.2.2.1 s.2.2.2&&Nat.ble s.2.2.1 d.2.1&&Nat.blt s.2.2.1 1000000000&&(match d.2.2 with | some (.ty t)=>Nat.beq t U | _=>false)) (some (.str l,⟨H.next,H.t.del s.1⟩))
 | _=>none
theorem SO{f:Nat}(L:Lays.n169 P ρ)(X:Builder.Extra P ρ)(hf:ρ.f 169=f){base:Nat}(hbase:B<=base)
  (henter:∀(w:World) (a:Array Value),(callFunc f a).run P w=.ok (.enter f a) w) {args:List zA} {args':Array Value} {v:zA} {H':xA} (hH:sB B N μ H w) (hv:Ci base (ρ.t 5) args H=some (v,H')) (hl:pB μ args args'.toList) :
  (callFunc f args').run P w=.ok (.enter f args') w/\Calls P f args' w fun e w'=>∃v' μ',e=.returned v'/\μ.le μ'/\sB B N μ' H' w'/\Below N w w'/\vA μ' v v':=by
 refine⟨henter w args',?_⟩;subst hf;unfold Ci at hv;split at hv
 case h_2=>cases hv
 rename_i b;rw[pB]at hl;obtain⟨u,r,h1,h2,h3⟩:=hl;rw[pB]at h3;subst h3;rw[vA]at h2;obtain⟨i,hi,rfl⟩:=h2;have ha:args' = #[.pointer (some ⟨i.b,0,none⟩)]:=by apply yax.1;rw[h1]
 subst ha;simp only[uA,oB,ybb,ycp,aX]at hv;obtain⟨⟨c,n,lo⟩,hc,v0,h0,⟨g,off,len,cap⟩,rfl,⟨d,m,lo2⟩,hd,ml,hm,l,hlm,⟨⟨⟨⟨⟨⟨q1,q2⟩,q3⟩,q4⟩,q5⟩,q6⟩,q7⟩,hv⟩:=hv;cases hv;have q2:off=0:=oC.1 q2;have q3:0<len:=vC.1 q3;have q4:len<=cap:=rE.1 q4;have q5:len<=m:=rE.1 q5;have q6:len<1000000000:=vC.1 q6;subst q2;have hx:=bX hc;obtain⟨o,g1,cs,E,fr,rfl,g3,g4,g5,g6⟩:=hH.blk _ _ _ hx hi
 obtain⟨hn,u,hu,hr⟩:=g5 1 _ h0;rw[vA]at hr;rcases hr with⟨j,cap',hj,rfl,hcap,_,_⟩ | ⟨_,hz,_⟩
 case inr=>simp_all
 have hcap:cap<=cap':=hcap;have hx2:=bX hd;obtain⟨o2,k1,cs2,E2,fr2,rfl,k3,k4,k5,k6⟩:=hH.blk _ _ _ hx2 hj;have k3:m<=cs2.size:=k3;have hE:E2=ρ.t 5:=by
  grind [oC]
 subst hE;have hown:B<=g:=by
  grind [vC]
 have hNb:=hH.own g j hown hj;obtain⟨m1,m2⟩:=Tr.many_some _ _ _ _ hm;obtain⟨hll,hla⟩:=UI hlm
 let bs:List UInt8:=l.map UInt8.ofNat
 have hbl:bs.length=len:=by grind
 have hby:∀(t:Nat) k,l[t]?=some k->ml[t]?=some (.int .u8 (k:Int))/\k<256:=by
  grind [YT]
 have hcell:∀t x,bs[t]?=some x->w.cell? ((⟨j.b,0,none⟩:Addr).add t)=some (.int .u8 x.toNat):=by
  intro t x ht;simp only[bs,ybu,yar]at ht;obtain⟨k,e1,rfl⟩:=ht;obtain⟨e2,e3⟩:=hby t k e1;have hg:=m2 t (by grind);rw[ybw,e2]at hg;obtain⟨_,y,e4,e5⟩:=k5 t _ hg;rw[vA]at e5;subst e5;rw[wU];unfold World.cell?;simp only[k1];simp only[ybw];show cs2[t]?=_;rw[e4,Xj e3]
 have c1:w.cell? ⟨i.b,1,none⟩=some (.slice (some ⟨j.b,0,none⟩) bs.length cap'):=by
  grind [World.cell?]
 have hne:bs≠[]:=by grind
 refine(XE L X i.b j.b cap' cs2.size bs w c1 hne (by omega) (by unfold World.shape?;rw[k1]) (by omega) (by omega) hcell).mono ?_;rintro e w' ⟨rfl,rfl⟩;have hfz:∃o',w.drew.freeze ⟨j.b,0,none⟩ bs.length=World.setBlk w.drew j.b o':=by
  unfold World.freeze;rw[yaa (by omega)];refine⟨.cells cs2 (ρ.t 5) (if fr2.1 == fr2.2 then(0,0+bs.length)else(min fr2.1 0,max fr2.2 (0+bs.length))),?_⟩;unfold World.setBlk;congr 1;apply Array.ext_getElem?;intro k;rw[Array.getElem?_modify,ycs];have hk1:w.drew.heap[j.b]?=some (.cells cs2 (ρ.t 5) fr2):=k1
  grind
 obtain⟨o',ho'⟩:=hfz;rw[ho'];have hdrop:=hH.drew.drop g (fun x t e=>by have:=(hH.pnd _ _ _ e).1;simp_all);refine⟨_,μ,rfl,μ.le_refl,hdrop.scratch hNb.1 (fun a x k hax hak e=>?_) o',(Dv).trans (zU hNb.1),?_⟩
 ·have hax':(if a=g then none else H.t.get a)=some x:=by grind [Tr.get_del]
  split at hax'
  ·cases hax'
  ·rename_i hne;by_cases hab:B<=a
   ·exact hne (hH.inj a g x _ k j hax' hx2 hak hj hab hown e)
   ·have:=(hH.low a x k (by omega) hax' hak).1;omega
 ·rw[vA];refine⟨_,rfl,?_⟩;unfold fE;show bs.map UInt8.toNat=l;simp only[bs,List.map_map];have:∀k∈l,(UInt8.toNat ∘ UInt8.ofNat) k=k:=by
   grind [List.mem_iff_getElem?,Xj]
  rw[List.map_congr_left this,List.map_id']
end
end Go.Am
set_option maxRecDepth 100000
namespace Go.Am
open Go Go.RowKit
def Hl(c:Nat):List Nat->Option Nat
 | []=>none
 | x::r=>bif Nat.beq x c then some 0 else ob (Hl c r) fun n=>some (n+1)
def xW(sub:List Nat):List Nat->Bool
 | []=>sub.isEmpty
 | b::l=>bif zS sub (b::l)then true else xW sub l
def Su(a:List zA)(_:xA):Option zA:=match a with | [.str s,.int .u8 (.ofNat c)]=>xB (Nat.blt c 256) (some (.int .i64 (match Hl c s with | some n=>.ofNat n | none=>.negSucc 0))) | _=>none
def Ck(a:List zA)(_:xA):Option zA:=match a with | [.str s,.str c]=>xB (Nat.blt (rB s) 4294967281) (some (.bool (xW c s))) | _=>none
def glob (g:Nat)(l:List zA)(t:Tr sA):Tr sA:=t.set g (.cells (Tr.ofList l) (rB l) none)
def uF:pE->Nat
 | .next _=>0
 | .done v _=>match v.asBool with
  | some true=>1
  | _=>2
 | .fail n=>100+n
def kU(C:oA)(f:Nat)(args:List zA)(H:xA):pE:=match oK C f args false with
 | some fr=>.next ⟨fr,[],H⟩
 | none=>.fail 0
theorem GK:∀(c s:List UInt8),zS (c.map UInt8.toNat) (s.map UInt8.toNat)=c.isPrefixOf s
 | [],_=>by simp[zS]
 | _::_,[]=>rfl
 | a::x,b::y=>by
  simp only[ycm,zS,eC,GK x y,List.isPrefixOf];grind [UInt8.toNat_inj,oC]
def JA(c:List UInt8):∀s:List UInt8,xW (c.map UInt8.toNat) (s.map UInt8.toNat)=Lib.contains s c
 | []=>by cases c<;>simp[xW,Lib.contains,Lib.index]
 | b::l=>by
  have ih:=JA c l
  grind [GK,xW,Lib.contains,Lib.index]
def GS(c:UInt8):∀s:List UInt8,(match Hl c.toNat (s.map UInt8.toNat)with | some n=>Int.ofNat n | none=>.negSucc 0)=Lib.indexByte s c
 | []=>rfl
 | b::l=>by
  have ih:=GS c l;simp only[ycm,Hl,eC];rw[Lib.indexByte];by_cases h:b=c
  ·subst h;simp
  ·have:¬ Nat.beq b.toNat c.toNat=true:=fun e=>h (UInt8.toNat_inj.1 (oC.1 e));rw[yaa this];simp only[beq_iff_eq,h,if_false]
   cases hx:Hl c.toNat (l.map UInt8.toNat)with
   | none=>simp_all
   | some n=>
    grind [tA]
def Vk:sD->sD->Bool
 | .bool,.bool=>true
 | .int k,.int j=>bL k j
 | .string,.string=>true
 | .ptr a,.ptr b=>Nat.beq a b
 | .slice a,.slice b=>Nat.beq a b
 | .arr a c,.arr b d=>Nat.beq a b&&Nat.beq c d
 | .map a c,.map b d=>Nat.beq a b&&Nat.beq c d
 | .struct f,.struct g=>decide (f=g)
 | .func,.func=>true
 | .iface,.iface=>true
 | .other,.other=>true
 | _,_=>false
def WW{a b:sD}(h:Vk a b=true):a=b:=by
 cases a<;>cases b<;>simp[Vk,fJ]at h ⊢<;>first | exact h | exact⟨h.1,h.2⟩
def eqTy (a b:pC):Bool:=Vk a.desc b.desc&&Nat.beq a.size b.size&&Nat.beq a.bytes b.bytes&&same.sames 10 a.zero b.zero&&bEq a.eqOk b.eqOk
def zej{a b:pC}(h:eqTy a b=true):a=b:=by
 obtain⟨d,s,y,z,e⟩:=a;obtain⟨d',s',y',z',e'⟩:=b;simp only[eqTy,ybb,oC,yU,beq_iff_eq]at h;obtain⟨⟨⟨⟨h1,h2⟩,h3⟩,h4⟩,h5⟩:=h;rw[WW h1,h2,h3,Rn _ _ _ h4,h5]
def allT {α:Type}(p:Nat->α->Bool):Tr α->(Nat->Nat)->Bool
 | .leaf,_=>true
 | .node l v r,f=>(match v with | some v=>p (f 0) v | none=>true)&&allT p l (fun m=>f (2*m+1))&&allT p r (fun m=>f (2*m+2))
def ze1{α:Type}{p:Nat->α->Bool}:∀(t:Tr α) (f:Nat->Nat),allT p t f=true->∀(n:Nat) v,t.get n=some v->p (f n) v=true:=by
 intro t;induction t with
 | leaf=>grind [Tr.get_leaf]
 | node l x r ihl ihr=>
  intro f h n v hv;simp only[allT,ybb]at h;grind [Tr.get_node]
def qL (l:List (List UInt8)):List Value:=l.map fun b=>.string ⟨b.toArray⟩
def pX (l:List Int):List Value:=l.map fun n=>.int .i64 n
def mu0:Mu:=⟨fun g=>if g<256 then some ⟨g,true,0,0,true⟩else none,fun _=>none⟩
def Qz{μ:Mu}:∀l:List (List UInt8),pB μ (l.map fun b=>zA.str (b.map UInt8.toNat)) (qL l)
 | []=>.nil
 | b::l=>.cons (by grind [vA,fE]) (Qz l)
def GP{μ:Mu}:∀l:List Int,pB μ (l.map fun n=>zA.int .i64 n) (pX l)
 | []=>.nil
 | b::l=>.cons (by rw[vA]) (GP l)
def Nj{μ:Mu}{g:Nat}{l:List zA}{vs:List Value}(h:pB μ l vs)(t:TypeId):nH μ ⟨g,true,0,0,true⟩ (.cells (Tr.ofList l) (rB l) none) (.cells vs.toArray t (0,0)):=h.rel_one rfl
def zed{o:pE}(h:uF o=1):∃H,o=.done (.bool true) H:=by
 cases o with
 | next s=>cases h
 | fail n=>grind [uF]
 | done v H=>
  grind [uF,zY]
end Go.Am
