/- Plans without expressions. -/
import Derived.Test.YthibiocejpbmgaaGreatDoorA16
set_option linter.all false
noncomputable section
set_option maxRecDepth 100000
namespace Go.Proofs
open Go Go.Am
variable {i sz:Nat}{l:List D}{v vt x:zA}{Q:xC}
variable [tC]
variable {t tf:Tr qA}
def kI:vA:=.mk 0 [] ⟨0,⟨⟨false,[]⟩,⟨false,[]⟩⟩,0⟩ []
def fI(c:fC):fC:=⟨c.name,c.label,c.from_,c.to,c.known,c.off,kI,kI⟩
def Fg(p:rG):rG:=⟨p.name,p.defs,p.tables,p.clauses.map fI⟩
def el22:mK yA 22 65 3:=⟨⟨_,ty22,rfl,rfl⟩,⟨_,ty65,rfl,rfl,by decide,by decide⟩,fun y h=>by rw[ty65]at h;cases h;rfl⟩
def el23:mK yA 23 68 3:=⟨⟨_,ty23,rfl,rfl⟩,⟨_,ty68,rfl,rfl,by decide,by decide⟩,fun y h=>by rw[ty68]at h;cases h;rfl⟩
def el24:mK yA 24 50 24:=⟨⟨_,ty24,rfl,rfl⟩,⟨_,Co,rfl,rfl,by decide,by decide⟩,fun y h=>by rw[Co]at h;cases h;rfl⟩
def el66:mK yA 66 71 7:=⟨⟨_,ty66,rfl,rfl⟩,⟨_,ty71,rfl,rfl,by decide,by decide⟩,fun y h=>by rw[ty71]at h;cases h;rfl⟩
def Qm{T:Nat}  (hv:sA t sz l v)(h1:(zN .eql).f yA T (.tmp 3) (.const (.slice none 0 0)) .nilslice .nilslice=some (.bool true))(h2:∀b o n c,(zN .eql).f yA T (.tmp 3) (.const (.slice none 0 0)) (.slice b o n c) .nilslice=some (.bool false)):(zN .eql).f yA T (.tmp 3) (.const (.slice none 0 0)) v .nilslice=some (.bool (Nat.beq v.tag 5)):=by
 obtain⟨cl,h,_⟩:=hv;rcases h with⟨rfl,_⟩ | ⟨b,off,cap,rfl,_⟩
 ·exact h1
 ·exact h2 _ _ _ _
def zjl{L:List xD}   (hx:sA tf 3 l x)(h:Objs yA.base tf t L)(hl:l.length<1000000)(hQ:∀tf' t' v,iA tf tf'->Objs yA.base tf' t' (oS yA.base 3 l v::L)->Q v t'):Wc yA F 43 [x] t Q:=
 w43 (Sg el22 (Qm hx (by kernel_rfl) fun b o n c=>by kernel_rfl) hx h hl hQ)
def zed{L:List xD}   (hx:sA tf 3 l x)(h:Objs yA.base tf t L)(hl:l.length<1000000)(hQ:∀tf' t' v,iA tf tf'->Objs yA.base tf' t' (oS yA.base 3 l v::L)->Q v t'):Wc yA F 44 [x] t Q:=
 w44 (Sg el23 (Qm hx (by kernel_rfl) fun b o n c=>by kernel_rfl) hx h hl hQ)
def zec{L:List xD}   (hx:sA tf 7 l x)(h:Objs yA.base tf t L)(hl:l.length<1000000)(hQ:∀tf' t' v,iA tf tf'->Objs yA.base tf' t' (oS yA.base 7 l v::L)->Q v t'):Wc yA F 45 [x] t Q:=
 w45 (Sg el66 (Qm hx (by kernel_rfl) fun b o n c=>by kernel_rfl) hx h hl hQ)
def zeb{L:List xD}   (hx:sA tf 24 l x)(h:Objs yA.base tf t L)(hl:l.length<1000000)(hQ:∀tf' t' v,iA tf tf'->Objs yA.base tf' t' (oS yA.base 24 l v::L)->Q v t'):Wc yA F 47 [x] t Q:=
 w47 (Sg el24 (Qm hx (by kernel_rfl) fun b o n c=>by kernel_rfl) hx h hl hQ)
def qY{A B:List xD}   (h:Objs yA.base tf t (A++oS yA.base sz l v::B)):sA t sz l v:=zhx (h.ok (oS yA.base sz l v) (by simp)) h.tle
theorem DM{α:Type}{l:List α} {d:α}(h:l[i]?=some d):l.set i d=l:=by
 apply List.ext_getElem?
 grind
theorem zfi{x:vF}{u:zA}(hu:sA t 1 (wC x.f.n.limbs) u)(hv:sA t 1 (wC x.f.d.limbs) v):RD t x.d [.int .i64 x.a,.int .i64 x.b,.int .i64 x.known,.bool x.f.n.neg,u,.bool x.f.d.neg,v]:=by
 unfold vF.d;rw[yJ];refine⟨[[.int .i64 x.a],[.int .i64 x.b],[.int .i64 x.known],[.bool x.f.n.neg,u,.bool x.f.d.neg,v]],rfl,?_⟩
 grind [uF,bE,yQ,jU]
theorem GK{x:oE} (hv:sA t 7 (x.rows.map vF.d) v):RD t x.d [.str x.name,.bool x.two,v]:=by
 unfold oE.d;rw[yJ];refine⟨[[.str x.name],[.bool x.two],[v]],rfl,?_⟩
 grind [uF,bE,gV,oX,cL]
def zH:List zA:=[.int .u8 0,.str [],.int .u8 0,.bool false,.nilslice,.bool false,.nilslice,.int .i64 0,.nilslice]
def sS:RD t kI.d zH:=by
 unfold kI vA.d zH;rw[yJ];refine⟨[[.int .u8 0],[.str []],[.int .u8 0,.bool false,.nilslice,.bool false,.nilslice,.int .i64 0],[.nilslice]],rfl,?_⟩;rw[uF];refine⟨_,_,rfl,yQ.2 rfl,?_⟩;rw[uF];refine⟨_,_,rfl,gV.2 rfl,?_⟩;rw[uF];refine⟨_,_,rfl,mY (x:=⟨0,⟨⟨false,[]⟩,⟨false,[]⟩⟩,0⟩) kP kP,?_⟩;rw[uF];refine⟨_,_,rfl,?_,bE.2 rfl⟩;rw[cL];exact⟨.nilslice,rfl,kP⟩
theorem Lm{x:fC}{cs ds:List zA}(h1:RD t x.when_.d cs)(h2:RD t x.then_.d ds):RD t x.d ([.str x.name,.str x.label,.int .i64 x.from_,.int .i64 x.to,.int .i64 x.known,.bool x.off]++(cs++ds)):=by
 unfold fC.d;rw[yJ];refine⟨[[.str x.name],[.str x.label],[.int .i64 x.from_],[.int .i64 x.to],[.int .i64 x.known],[.bool x.off],cs,ds],by simp,?_⟩;simp only[uF,bE,gV,yQ,oX];grind
theorem SQ{r:vF}{two:Bool}(h:xT two r=true):r.f.n.limbs.length<400/\r.f.d.limbs.length<400:=by
 grind [xT,dN]
theorem BS{x:oE}(h:yW x=true):x.rows.length<=400/\∀r∈x.rows,r.f.n.limbs.length<400/\r.f.d.limbs.length<400:=by
 grind [yW,SQ]
section
variable {L:List xD}{p:rG}{a c:zA}
theorem zbc {x:oE}{vr:zA} (hx:p.tables[i]?=some x)(hv:yW x=true) :
  ∀(m j:Nat) (t tf:Tr qA),j+m=x.rows.length->Objs yA.base tf t (oS yA.base 7 (x.rows.map vF.d) vr::oS yA.base 3 (p.tables.map oE.d) vt::L) →
  (∀tf' t',iA tf tf'->Objs yA.base tf' t' (oS yA.base 3 (p.tables.map oE.d) vt::L)->jp 18 2 [vt,.int .i64 (p.tables.length:Int),.int .i64 ((i+1:Nat):Int),.str p.name,a,vt,c,.str [],.nilslice,.nilslice,.nilslice] t' Q)->i<1000000 →
  jp 18 6 [.int .i64 (i:Int),vr,vt,.int .i64 (p.tables.length:Int),.int .i64 (i:Int),vr,.int .i64 (x.rows.length:Int),.int .i64 (j:Int),.str p.name,a,vt,c,.str [],.nilslice,.nilslice,.nilslice] t Q:=by
 obtain⟨hr1,hr2⟩:=BS hv
 intro m;induction m with
 | zero=>
  intro j t tf hj h hQ hi;refine j18_6 ?_;simp only[uG,fB,kB,uZ,uY,uM2,zhg,tA,aB];rw[yaa (by omega)];obtain⟨tf1,k1,k2,k3⟩:=Objs.freezeS (A:=[]) h;have hix:(p.tables.map oE.d)[i]?=some x.d:=by simp_all
  obtain⟨q,g1,t1,g2,g3⟩:=Objs.storeS (A:=[]) (w:=vr) (o:=2) (S:=66) k2 hix Gl (d':=x.d) ty66 (by
   obtain⟨cl,hh,_⟩:=k3;rcases hh with⟨rfl,_⟩ | ⟨_,_,_,rfl,_⟩<;>rfl) (by
   obtain⟨cl,hh,_⟩:=k3;rcases hh with⟨rfl,_⟩ | ⟨_,_,_,rfl,_⟩ <;> (show 2+1<=3;decide)) (by
   have:=k3.one;obtain⟨cl,hh,_⟩:=k3;rcases hh with⟨rfl,_⟩ | ⟨_,_,_,rfl,_⟩<;>rfl) (fun cs hc hrd=>by
   obtain⟨w,rfl,_⟩:=Df hrd;have e:gK [.str x.name,.bool x.two,w] 2 vr.cells=[.str x.name,.bool x.two,vr]:=by
    obtain⟨cl,hh,_⟩:=k3;rcases hh with⟨rfl,_⟩ | ⟨_,_,_,rfl,_⟩<;>rfl
   grind [GK])
  rw[DM hix]at g3;have fa:qB yA 68 2 (.ptr q (0+i*3))=some (.ptr q (0+i*3+2)):=by
   unfold qB aS;rw[ty68,uA];rfl
  grind [xA,wrap_i64]
 | succ m ih=>
  intro j t tf hj h hQ hi;have hlt:j<x.rows.length:=by omega
  have hjr:x.rows[j]?=some x.rows[j]:=ybd hlt;have hsl:sA t 7 (x.rows.map vF.d) vr:=qY (A:=[]) h;obtain⟨b,off,u,w,g1,g2,gx,gy,g5⟩:=Pi hsl hlt;have hown:(oS yA.base 7 (x.rows.map vF.d) vr).ok tf t:=h.ok (oS yA.base 7 (x.rows.map vF.d) vr) (by simp);have hne:x.rows.map vF.d≠[]:=by intro e;simp_all
  obtain⟨nb,hvr,ho⟩:=Lh hne hown;obtain⟨cs,_,hrd,hat⟩:=ho.cells (i:=j) (d:=x.rows[j].d) (by simp[hjr]);obtain⟨u',w',rfl,hu',hw'⟩:=Dg hrd;have g1':aA yA 66 vr (.int .i64 (j:Int))=some (.ptr nb (0+j*7)):=by rw[hvr];exact rP Gk (by simp_all)
  rw[g1']at g1;have hEq:b=nb/\off=0+j*7:=by simp_all
  rw[hEq.1,hEq.2]at g2;have ld2:mA yA 71 ⟨0,t⟩ (.ptr nb (0+j*7))=some (.agg [.int .i64 x.rows[j].a,.int .i64 x.rows[j].b,.int .i64 x.rows[j].known,.bool x.rows[j].f.n.neg,u',.bool x.rows[j].f.d.neg,w']):=by
   have:=hat.load (C:=yA) (j:=0) ty71 rfl rfl (by simp)
   simp_all
  rw[ld2]at g2;have e3:u'=u/\w'=w:=by simp_all
  rw[e3.1]at hu';rw[e3.2]at hw';rw[e3.1,e3.2]at ld2;have hs:=hr2 _ (ycj hlt);refine j18_6 ?_;simp only[uG,fB,kB,uZ,uY,uM2,zhg,tA,aB];rw[yab (by omega),g1',xA,ld2,xA,g5,xA];simp only[cellsOf,mG,tG,zG,yaz,yba];have hone:zD zA.one [.int .i64 x.rows[j].a,.int .i64 x.rows[j].b,.int .i64 x.rows[j].known,.bool x.rows[j].f.n.neg,u,.bool x.rows[j].f.d.neg,w]=true:=by
   rw[cE];simp only[ycg,yck,gx.one,gy.one];rfl
  refine sB hone ?_;rw[yab trivial,q46];refine Ze (v:=⟨0,x.rows[j].f,0⟩) h (Vq (v:=⟨0,x.rows[j].f,0⟩) ⟨hs.1,hs.2⟩) hu' hw' fun tf1 t1 a' b' k1 k2 k3 k4=>?_;have hz:gG [(.int .u8 0),(.bool false),.nilslice,(.bool false),.nilslice,(.int .i64 0)] (.agg [.int .u8 ((0:Nat):Int),.bool x.rows[j].f.n.neg,a',.bool x.rows[j].f.d.neg,b',.int .i64 0])=some (cellsOf [.int .u8 ((0:Nat):Int),.bool x.rows[j].f.n.neg,a',.bool x.rows[j].f.d.neg,b',.int .i64 0]):=kN (by
   show(true&&(true&&(mH .nilslice a'&&(true&&(mH .nilslice b'&&true)))))=true
   grind [cM])
  rw[hz,xA];simp only[cellsOf,tG,zG,yaz,yba];have hix:(x.rows.map vF.d)[j]?=some x.rows[j].d:=by simp[hjr]
  obtain⟨q,f1,t2,f2,f3⟩:=Objs.storeS (A:=[]) (w:=.agg [.bool x.rows[j].f.n.neg,a',.bool x.rows[j].f.d.neg,b']) (o:=3) (S:=43) k2 hix Gk (d':=x.rows[j].d) ty43 rfl (by show 3+4<=7;decide) (by
   show zD zA.one [.bool x.rows[j].f.n.neg,a',.bool x.rows[j].f.d.neg,b']=true;rw[cE];simp only[ycg,yck,k3.one,k4.one];rfl) (fun cs hc hrd=>by
   obtain⟨u1,w1,rfl,_,_⟩:=Dg hrd;exact zfi k3 k4)
  rw[DM hix]at f3;have fa:qB yA 71 3 (.ptr nb (0+j*7))=some (.ptr nb (0+j*7+3)):=by
   unfold qB aS;rw[ty71,uA];rfl
  have eq:q=nb:=by simp_all
  rw[eq]at f2;rw[xA,fa,xA];intro n _ _;rw[f2,xA,wrap_i64 (by omega) (by omega),show(j:Int)+1=((j+1:Nat):Int) by omega];exact ih (j+1) t2 tf1 (by omega) f3 (fun tf' t' m1 m2=>hQ tf' t' (k1.trans m1) m2) hi
theorem ZE{vc:zA} (hn:p.clauses.length<1000000) :
  ∀(m i:Nat) (t tf:Tr qA),i+m=p.clauses.length->Objs yA.base tf t (oS yA.base 24 ((((p.clauses.take i).map fI)++p.clauses.drop i).map fC.d) vc::L) →
  (∀t',Objs yA.base tf t' (oS yA.base 24 ((p.clauses.map fI).map fC.d) vc::L)->Q (.agg [.str p.name,a,vt,vc]) t')->zA.one a=true->zA.one vt=true →
  jp 18 10 [.int .i64 (p.clauses.length:Int),.int .i64 (i:Int),.str p.name,a,vt,vc,.str [],.nilslice,.nilslice,.nilslice] t Q:=by
 intro m;induction m with
 | zero=>
  intro i t tf hi h hQ ha ht;refine zfz ?_;simp only[fB,kB,uZ,uY,Up,tA,aB];rw[yaa (by omega)];have hsl:sA t 24 _ vc:=qY (A:=[]) h;have hone:zD zA.one [.str p.name,a,vt,vc]=true:=by rw[cE];simp only[ycg,yck,ha,ht,hsl.one];rfl
  simp_all
 | succ m ih=>
  intro i t tf hi h hQ ha ht;have hlt:i<p.clauses.length:=by omega
  have hx:p.clauses[i]?=some p.clauses[i]:=ybd hlt;have hlen:((p.clauses.take i).map fI).length=i:=by grind
  have hget:((((p.clauses.take i).map fI)++p.clauses.drop i).map fC.d)[i]?=some p.clauses[i].d:=by
   grind
  have hsl:sA t 24 _ vc:=qY (A:=[]) h;refine zfz ?_;simp only[fB,kB,uZ,uY,Up,tA,aB];rw[yab (by omega),yab trivial,yab trivial];obtain⟨q,g1,t1,g2,g3⟩:=Objs.storeS (A:=[]) (w:=.agg zH) (o:=6) (S:=48) h hget Ae (d':=(⟨p.clauses[i].name,p.clauses[i].label,p.clauses[i].from_,p.clauses[i].to,p.clauses[i].known,p.clauses[i].off,kI,p.clauses[i].then_⟩:fC).d) jO rfl (by show 6+9<=24;decide) rfl (fun cs hc hrd=>by
   obtain⟨u1,u2,u3,w1,w2,w3,rfl,h1,h2⟩:=vY hrd;exact Lm (x:=⟨p.clauses[i].name,p.clauses[i].label,p.clauses[i].from_,p.clauses[i].to,p.clauses[i].known,p.clauses[i].off,kI,p.clauses[i].then_⟩) sS h2)
  have fa:qB yA 50 6 (.ptr q (0+i*24))=some (.ptr q (0+i*24+6)):=by
   unfold qB aS;rw[Co,uA];rfl
  rw[g1,xA,fa,xA];intro n _ _;rw[show(zA.agg [.int .u8 0,.str [],.int .u8 0,.bool false,.nilslice,.bool false,.nilslice,.int .i64 0,.nilslice])=.agg zH from rfl,g2,xA,yab hsl.same];have hget2:(((((p.clauses.take i).map fI)++p.clauses.drop i).map fC.d).set i (⟨p.clauses[i].name,p.clauses[i].label,p.clauses[i].from_,p.clauses[i].to,p.clauses[i].known,p.clauses[i].off,kI,p.clauses[i].then_⟩:fC).d)[i]?=some (⟨p.clauses[i].name,p.clauses[i].label,p.clauses[i].from_,p.clauses[i].to,p.clauses[i].known,p.clauses[i].off,kI,p.clauses[i].then_⟩:fC).d:=by
   rw[ycw,yab rfl,yab (by grind)]
  obtain⟨q2,f1,t2,f2,f3⟩:=Objs.storeS (A:=[]) (w:=.agg zH) (o:=15) (S:=48) g3 hget2 Ae (d':=(fI p.clauses[i]).d) jO rfl (by show 15+9<=24;decide) rfl (fun cs hc hrd=>by
   obtain⟨u1,u2,u3,w1,w2,w3,rfl,h1,h2⟩:=vY hrd;exact Lm (x:=fI p.clauses[i]) h1 sS)
  rw[List.set_set]at f3;have fb:qB yA 50 7 (.ptr q2 (0+i*24))=some (.ptr q2 (0+i*24+15)):=by
   unfold qB aS;rw[Co,uA];rfl
  rw[f1]at g1;cases g1;simp only[xA,fb];intro n2 _ _;rw[f2,xA,wrap_i64 (by omega) (by omega),show(i:Int)+1=((i+1:Nat):Int) by omega];have hset:((((p.clauses.take i).map fI)++p.clauses.drop i).map fC.d).set i (fI p.clauses[i]).d=(((p.clauses.take (i+1)).map fI)++p.clauses.drop (i+1)).map fC.d:=by
   grind [List.drop_eq_getElem_cons,Gp]
  grind
end
end Go.Proofs
namespace Go.Proofs
open Go Go.Am
section
variable {Q:xC}{cs:List zA}
variable [tC]
variable {t tf:Tr qA}
section
variable {L:List xD}{p:rG}{a c:zA}
theorem ZD{vt:zA} (hp:p.fit)(hb:fS p=true)(ha:zA.one a=true) :
  ∀(m i:Nat) (t tf:Tr qA),i+m=p.tables.length->Objs yA.base tf t (oS yA.base 3 (p.tables.map oE.d) vt::L)->sA tf 24 (p.clauses.map fC.d) c →
  (∀tf' t' vc,iA tf tf'->Objs yA.base tf' t' (oS yA.base 24 ((p.clauses.map fI).map fC.d) vc::oS yA.base 3 (p.tables.map oE.d) vt::L)->Q (.agg [.str p.name,a,vt,vc]) t') →
  jp 18 2 [vt,.int .i64 (p.tables.length:Int),.int .i64 (i:Int),.str p.name,a,vt,c,.str [],.nilslice,.nilslice,.nilslice] t Q:=by
 unfold fS at hb;simp only[ybb,decide_eq_true_eq]at hb;obtain⟨⟨⟨⟨hb1,hb2⟩,hb3⟩,hb4⟩,hb5⟩:=hb
 intro m;induction m with
 | zero=>
  intro i t tf hi h hc hQ;refine j18_2 ?_;simp only[uI,uG,fB,uZ,uM4,zhh,tA,aB];rw[yaa (by omega),q47];refine zeb hc h (by grind) fun tf1 t1 vc k1 k2=>?_;have hsl:sA t1 24 _ vc:=qY (A:=[]) k2;have hone:zD zA.one [vc]=true:=by rw[cE];simp only[ycg,yck,hsl.one];rfl
  rw[yab hone,hsl.len,xA,ybf,zB,xA];have hvt:sA t1 3 _ vt:=qY (A:=[oS yA.base 24 (p.clauses.map fC.d) vc]) k2;exact ZE (p:=p) (vt:=vt) (by omega) p.clauses.length 0 t1 tf1 (by omega) (by simp_all) (fun t' h'=>hQ tf1 t' vc k1 h') ha hvt.one
 | succ m ih=>
  intro i t tf hi h hc hQ;have hlt:i<p.tables.length:=by omega
  have hx:p.tables[i]?=some p.tables[i]:=ybd hlt;have hv:yW p.tables[i]=true:=ycb.1 hb5 _ (ycj hlt);have hr:=(BS hv).1;have hown:(oS yA.base 3 (p.tables.map oE.d) vt).ok tf t:=h.ok (oS yA.base 3 (p.tables.map oE.d) vt) (by simp);have hne:p.tables.map oE.d≠[]:=by intro e;simp_all
  obtain⟨nb,hvt,ho⟩:=Lh hne hown;obtain⟨cs,_,hrd,hat⟩:=ho.cells (i:=i) (d:=p.tables[i].d) (by simp[hx]);have hz:=tI hrd (oE.zs _);obtain⟨w,rfl,hw⟩:=Df hrd;have g1:aA yA 23 vt (.int .i64 (i:Int))=some (.ptr nb (0+i*3)):=by rw[hvt];exact rP Gl (by simp_all)
  have ld:mA yA 68 ⟨0,t⟩ (.ptr nb (0+i*3))=some (.agg [.str p.tables[i].name,.bool p.tables[i].two,w]):=by
   have:=hat.load (C:=yA) (j:=0) ty68 rfl rfl (by simp)
   simp_all
  have hone:zD zA.one [.str p.tables[i].name,.bool p.tables[i].two,w]=true:=by rw[cE];simp only[ycg,yck,hw.one];rfl
  refine j18_2 ?_;simp only[uI,uG,fB,uZ,uM4,zhh,tA,aB];rw[yab (by omega),g1,xA,ld,xA,hz,xA];simp only[cellsOf,gH,tG,zG,yaz,yba];refine sB hone ?_;rw[q45];refine zec hw h (by grind) fun tf1 t1 vr k1 k2=>?_;have hsl:sA t1 7 _ vr:=qY (A:=[]) k2;rw[hsl.len,xA,ybf,zB,xA];refine zbc (a:=a) (c:=c) hx hv p.tables[i].rows.length 0 t1 tf1 (by omega) k2 (fun tf2 t2 m1 m2=>?_) (by omega)
  exact ih (i+1) t2 tf2 (by omega) m2 (hc.mono (k1.trans m1)) fun tf3 t3 vc n1 n2=>hQ tf3 t3 vc (k1.trans (m1.trans n1)) n2
theorem zjq  (hp:p.fit)(hb:fS p=true)(hrd:RD tf p.d cs)(h:Objs yA.base tf t L)
  (hQ:∀tf' t' a' b' c',iA tf tf'->Objs yA.base tf' t' L->sA tf' 3 (p.defs.map eI.d) a'->sA tf' 3 (p.tables.map oE.d) b'->sA tf' 24 ((p.clauses.map fI).map fC.d) c'->Q (.agg [.str p.name,a',b',c']) t'):Wc yA F 18 [.agg cs] t Q:=by
 obtain⟨a,b,c,rfl,ha,hbb,hc⟩:=Aj hrd;have hb':=hb;unfold fS at hb';simp only[ybb,decide_eq_true_eq]at hb';obtain⟨⟨⟨⟨hb1,hb2⟩,hb3⟩,hb4⟩,hb5⟩:=hb';refine w18 ?_;simp only[uI,fB,uZ,t18,tA,q43];refine zjl ha h (by grind) fun tf1 t1 va k1 k2=>?_;obtain⟨tf2,m1,m2,m3⟩:=Objs.freezeS (A:=[]) k2;have hone:zD zA.one [va]=true:=by rw[cE];simp only[ycg,yck,m3.one];rfl
 rw[yab hone,q44];refine zed (hbb.mono (k1.trans m1)) m2 (by grind) fun tf3 t3 vt n1 n2=>?_;have hsl:sA t3 3 _ vt:=qY (A:=[]) n2;have hone2:zD zA.one [vt]=true:=by rw[cE];simp only[ycg,yck,hsl.one];rfl
 rw[yab hone2,hsl.len,xA,ybf,zB,xA];refine ZD hp hb m3.one p.tables.length 0 t3 tf3 (by omega) n2 (hc.mono (k1.trans (m1.trans n1))) fun tf4 t4 vc q1 q2=>?_;obtain⟨tf5,r1,r2,r3⟩:=Objs.freezeS (A:=[]) q2;obtain⟨tf6,s1,s2,s3⟩:=Objs.freezeS (A:=[]) r2;exact hQ tf6 t4 va vt vc (k1.trans (m1.trans (n1.trans (q1.trans (r1.trans s1))))) s2 (m3.mono (n1.trans (q1.trans (r1.trans s1)))) s3 (r3.mono s1)
end
def bN (r:TR)(s:oF):List xD:=
 [wD r.b none r.cells,jE r.m1 (mE 0 s.names),jE r.m2 (mE 0 (s.consts.map xB)),bB yA.base 1 (s.names.map D.str) r.vn,bB yA.base 6 (s.consts.map yB.d) r.vc,bB yA.base 1 s.ws r.vw,bB yA.base 1 s.ts r.vt]
structure TW (tf t:Tr qA) (r:TR) (s:oF):Prop where
 pl:r.pl.length=4
 os:Objs yA.base tf t (bN r s)
variable {r:TR}{s:oF}
def TW.cel(h:TW tf t r s):kC t r.b none r.cells:=h.os.ok (wD r.b none r.cells) (by simp[bN])
def TW.baseB(h:TW tf t r s):yA.base<=r.b/\tf.get r.b=none:=h.os.low r.b (by simp[bN,wD])
theorem BC{x:vA}  (h:TW tf t r s)(hx:x.fit)(hg:kM tf)(hrd:RD tf x.d cs)(hp:dE x<=200)(b2:s.names.length+dE x<300000)(b3:s.consts.length+dE x<300000)
  (hQ:∀tf' t' r' v,iA tf tf'->r'.b=r.b->r'.kp=r.kp->TW tf' t' r' (s.put (vC xB yC x s.nt 0).1 [])->sA tf' 3 ((vC xB yC x s.nt 0).2.map XIns.d) v->Q v t'):Wc yA F 19 [.ptr r.b 0,.agg cs] t Q:=by
 obtain⟨a,b,d,rfl,ha,hb,hd⟩:=iK hrd;refine w19 ?_;simp only[jC,uZ,uY,t19,tA];rw[bK,xA,Hy,xA];intro n _ _;have hlen:r.cells.length=11:=by simp[TR.cells,h.pl]
 obtain⟨t1,g1,g2,g3⟩:=h.cel.store1 (C:=yA) h.baseB.1 (j:=10) (v:=.nilslice) iR rfl rfl rfl (by omega);have es:r.cells.set 10 .nilslice=TR.cells ⟨r.b,r.pl,r.vn,r.vc,r.vw,r.vt,.nilslice,r.m1,r.m2⟩:=Al (k:=6) h.pl;rw[es]at g2;have o1:Objs yA.base tf t1 (bN ⟨r.b,r.pl,r.vn,r.vc,r.vw,r.vt,.nilslice,r.m1,r.m2⟩ s):=
  Objs.upd (A:=[]) (o:=wD r.b none r.cells) h.os (fun k k1 _=>g3 k (fun e=>k1 (by simp[wD,e]))) (fun k hk=>.inl hk) g2 (by simp[wD]) (h.os.tle.off h.baseB.2 g3)
 have o2:Objs yA.base tf t1 (dJ xB ⟨r.b,r.pl,r.vn,r.vc,r.vw,r.vt,.nilslice,r.m1,r.m2⟩ ⟨s.names,s.consts,s.ws,s.ts,[]⟩):=by
  have e:bN ⟨r.b,r.pl,r.vn,r.vc,r.vw,r.vt,.nilslice,r.m1,r.m2⟩ s=bN ⟨r.b,r.pl,r.vn,r.vc,r.vw,r.vt,.nilslice,r.m1,r.m2⟩ s++[]:=by simp
  rw[e]at o1;exact Objs.add (o':=bB yA.base 3 ([]:List D) .nilslice) o1 (fun _ _=>rfl) (fun k hk=>by simp[bB,pF]at hk) (.inl ⟨rfl,rfl⟩) (by simp[bB,pF]) o1.tle
 rw[g1,xA,q48];refine LD x (oC x a b d) t1 tf ⟨r.b,r.pl,r.vn,r.vc,r.vw,r.vt,.nilslice,r.m1,r.m2⟩ ⟨s.names,s.consts,s.ws,s.ts,[]⟩ _ hx hg hrd ⟨h.pl,o2⟩ (by grind) b2 b3 fun tf2 t2 r2 k1 k2 k3 k4=>?_;have hb2:r2.b=r.b:=k2;rw[xA,Hy,xA,<- hb2,k4.ldK,xA];have e3:dJ xB r2 (oF.put ⟨s.names,s.consts,s.ws,s.ts,[]⟩ (vC xB yC x s.nt 0).1 (vC xB yC x s.nt 0).2)=bN r2 (s.put (vC xB yC x s.nt 0).1 [])++bB yA.base 3 (((vC xB yC x s.nt 0).2).map XIns.d) r2.vk::[]:=by
  simp[dJ,bN,oF.put]
 have o4:Objs yA.base tf2 t2 (dJ xB r2 (oF.put ⟨s.names,s.consts,s.ws,s.ts,[]⟩ (vC xB yC x s.nt 0).1 (vC xB yC x s.nt 0).2)):=k4.os;rw[e3]at o4;obtain⟨tf3,m1,m2,m3⟩:=Objs.freezeL o4;rw[ycd]at m2;exact hQ tf3 t2 r2 r2.vk (k1.trans m1) hb2 (k3.trans rfl) ⟨k4.pl,m2⟩ m3
end
section
variable {n:Nat}{v x:zA}{l:List XIns}
variable [tC]
variable {t tf:Tr qA}{r:TR}{s:oF}
def kF(l:List XIns):D:=.sl 3 (l.map XIns.d)
theorem HC  {l:List D}(hv:sA tf 3 l v)(hn:t.get n=none):∃t',aE yA 31 1 [(0,v)] ⟨n,t⟩=some (.slice n 0 1 1,⟨n+1,t'⟩)/\iH t' 1 (.slice n 0 1 1) [[v]]/\iA t t'/\aC n t t':=
 gU (C:=yA) (T:=31) (el:=51) (sz:=1) (n:=1) (cl:=[[v]]) Cp rfl iR rfl rfl (by decide) (by
  obtain⟨cl,hh,_⟩:=hv;rcases hh with⟨rfl,_⟩ | ⟨_,_,_,rfl,_⟩<;>rfl) (fun k cs hk=>by
  grind) rfl hn
theorem TW.junk(h:TW tf t r s) {t':Tr qA}(hn:t.get n=none)(ho:aC n t t'):TW tf t' r s:=⟨h.pl,h.os.junk hn ho⟩
def TW.ldW(h:TW tf t r s):mA yA 31 ⟨0,t⟩ (.ptr r.b 6)=some r.vw:=h.cel.load1 Cp rfl (Dl (k:=2) h.pl)
def TW.ldT(h:TW tf t r s):mA yA 31 ⟨0,t⟩ (.ptr r.b 7)=some r.vt:=h.cel.load1 Cp rfl (Dl (k:=3) h.pl)
theorem pushW   (h:TW tf t r s)(hv:sA tf 3 (l.map XIns.d) v)(hx:iH t 1 x [[v]])(hl:s.ws.length<300000)(hn:t.get n=none)(hnb:yA.base<=n) :
  ∃v2 k t2,qD yA 31 31 r.vw x ⟨n,t⟩=some (v2,⟨k,t2⟩)/\∃t3,(∀m,cC yA 31 (.ptr r.b 6) v2 ⟨m,t2⟩=some (kD,⟨m,t3⟩))/\TW tf t3 ⟨r.b,r.pl,r.vn,r.vc,v2,r.vt,r.vk,r.m1,r.m2⟩ ⟨s.names,s.consts,s.ws++[kF l],s.ts,s.code⟩:=by
 have ln:Loose yA.base tf t 1 s.ws r.vw:=h.os.ok (bB yA.base 1 s.ws r.vw) (by simp[bN]);obtain⟨t2,c1,c2,c3,c4⟩:=Bk (C:=yA) el31 (m:=[kF l]) ln hx (by
  grind [uF,bE,kF,cL]) (by intro a ha;simp at ha;subst ha;exact hv.one) (by simp) (by grind) hn hnb h.os.tle
 have o3:Objs yA.base tf t2 ([wD r.b none r.cells,jE r.m1 (mE 0 s.names),jE r.m2 (mE 0 (s.consts.map xB)),bB yA.base 1 (s.names.map D.str) r.vn,bB yA.base 6 (s.consts.map yB.d) r.vc]++bB yA.base 1 (s.ws++[kF l]) (.slice n 0 (s.ws.length+[kF l].length) (s.ws.length+[kF l].length))::[bB yA.base 1 s.ts r.vt]):=by
  refine Objs.upd (o:=bB yA.base 1 s.ws r.vw) h.os (fun k k1 k2=>c4 k ?_ (fun e=>k1 (uO.2 e))) (fun k hk=>?_) c2 (by simp[bB,pF]) c3
  all_goals grind [bB,pF]
 have hlen:r.cells.length=11:=by simp[TR.cells,h.pl]
 have cel3:kC t2 r.b none r.cells:=o3.ok (wD r.b none r.cells) (by simp);obtain⟨t4,g1,g2,g3⟩:=cel3.store1 (C:=yA) h.baseB.1 (j:=6) (v:=.slice n 0 (s.ws.length+[kF l].length) (s.ws.length+[kF l].length)) Cp rfl rfl rfl (by omega);have es:r.cells.set 6 (.slice n 0 (s.ws.length+[kF l].length) (s.ws.length+[kF l].length))=TR.cells ⟨r.b,r.pl,r.vn,r.vc,.slice n 0 (s.ws.length+[kF l].length) (s.ws.length+[kF l].length),r.vt,r.vk,r.m1,r.m2⟩:=Al (k:=2) h.pl
 rw[es]at g2;refine⟨_,_,t2,c1,t4,g1,h.pl,?_⟩;exact Objs.upd (A:=[]) (o:=wD r.b none r.cells) o3 (fun k k1 _=>g3 k (fun e=>k1 (by simp[wD,e]))) (fun k hk=>.inl hk) g2 (by simp[wD]) (c3.off h.baseB.2 g3)
theorem pushT   (h:TW tf t r s)(hv:sA tf 3 (l.map XIns.d) v)(hx:iH t 1 x [[v]])(hl:s.ts.length<300000)(hn:t.get n=none)(hnb:yA.base<=n) :
  ∃v2 k t2,qD yA 31 31 r.vt x ⟨n,t⟩=some (v2,⟨k,t2⟩)/\∃t3,(∀m,cC yA 31 (.ptr r.b 7) v2 ⟨m,t2⟩=some (kD,⟨m,t3⟩))/\TW tf t3 ⟨r.b,r.pl,r.vn,r.vc,r.vw,v2,r.vk,r.m1,r.m2⟩ ⟨s.names,s.consts,s.ws,s.ts++[kF l],s.code⟩:=by
 have ln:Loose yA.base tf t 1 s.ts r.vt:=h.os.ok (bB yA.base 1 s.ts r.vt) (by simp[bN]);obtain⟨t2,c1,c2,c3,c4⟩:=Bk (C:=yA) el31 (m:=[kF l]) ln hx (by
  grind [uF,bE,kF,cL]) (by intro a ha;simp at ha;subst ha;exact hv.one) (by simp) (by grind) hn hnb h.os.tle
 have o3:Objs yA.base tf t2 ([wD r.b none r.cells,jE r.m1 (mE 0 s.names),jE r.m2 (mE 0 (s.consts.map xB)),bB yA.base 1 (s.names.map D.str) r.vn,bB yA.base 6 (s.consts.map yB.d) r.vc,bB yA.base 1 s.ws r.vw]++bB yA.base 1 (s.ts++[kF l]) (.slice n 0 (s.ts.length+[kF l].length) (s.ts.length+[kF l].length))::[]):=by
  refine Objs.upd (o:=bB yA.base 1 s.ts r.vt) h.os (fun k k1 k2=>c4 k ?_ (fun e=>k1 (uO.2 e))) (fun k hk=>?_) c2 (by simp[bB,pF]) c3
  all_goals grind [bB,pF]
 have hlen:r.cells.length=11:=by simp[TR.cells,h.pl]
 have cel3:kC t2 r.b none r.cells:=o3.ok (wD r.b none r.cells) (by simp);obtain⟨t4,g1,g2,g3⟩:=cel3.store1 (C:=yA) h.baseB.1 (j:=7) (v:=.slice n 0 (s.ts.length+[kF l].length) (s.ts.length+[kF l].length)) Cp rfl rfl rfl (by omega);have es:r.cells.set 7 (.slice n 0 (s.ts.length+[kF l].length) (s.ts.length+[kF l].length))=TR.cells ⟨r.b,r.pl,r.vn,r.vc,r.vw,.slice n 0 (s.ts.length+[kF l].length) (s.ts.length+[kF l].length),r.vk,r.m1,r.m2⟩:=Al (k:=3) h.pl
 rw[es]at g2;refine⟨_,_,t2,c1,t4,g1,h.pl,?_⟩;exact Objs.upd (A:=[]) (o:=wD r.b none r.cells) o3 (fun k k1 _=>g3 k (fun e=>k1 (by simp[wD,e]))) (fun k hk=>.inl hk) g2 (by simp[wD]) (c3.off h.baseB.2 g3)
def Dm:List fC->Nat
 | []=>0
 | c::l=>dE c.when_+dE c.then_+Dm l
def Ni:List zA:=[.str [],.nilslice,.nilslice,.nilslice,.nilslice,.nilslice,.nilslice,.nilslice]
theorem za6{cl:List fC}{c:zA}{Q:xC}(hn:cl.length<=400)(hfit:∀x∈cl,x.fit)(hb:∀x∈cl,xX x=true):∀(l:List fC) (i:Nat) (t tf:Tr qA) (r:TR) (s:oF),cl.drop i=l->TW tf t r s->kM tf->sA tf 24 (cl.map fC.d) c->s.names.length+Dm l<200000->s.consts.length+Dm l<200000->s.ws.length+l.length<200000->s.ts.length+l.length<200000 →
  (∀tf' t' r',iA tf tf'->r'.b=r.b->r'.pl=r.pl->TW tf' t' r' ⟨(mL xB yC l s.nt).1.names,(mL xB yC l s.nt).1.consts,s.ws++(mL xB yC l s.nt).2.map (fun p=>kF p.1),s.ts++(mL xB yC l s.nt).2.map (fun p=>kF p.2),s.code⟩->Q (.tup [.agg (r'.pl++[r'.vn,r'.vc,r'.vw,r'.vt]),.int .i64 0]) t') →
  (∃nm a b d,r.pl=[.str nm,a,b,d]/\zA.one a=true/\zA.one b=true/\zA.one d=true/\mH .nilslice a=true/\mH .nilslice b=true/\mH .nilslice d=true) →
  jp 6 2 [.ptr r.b 0,c,.int .i64 (cl.length:Int),.int .i64 (i:Int),.str [],.nilslice,.nilslice,.nilslice,.nilslice,.nilslice,.nilslice,.nilslice] t Q:=by
 intro l;induction l with
 | nil=>
  intro i t tf r s hl h hg hc b1 b2 b3 b4 hQ hpl;have:=Mn hl;refine j6_2 ?_;simp only[uG,fB,kB,jC,uZ,uY,uM3,uM8,uA8,t6_2,tA,aB];obtain⟨nm,a,b,d,epl,o1,o2,o3,f1,f2,f3⟩:=hpl;have ld:mA yA 33 ⟨0,t⟩ (.ptr r.b 0)=some (.agg (r.pl++[r.vn,r.vc,r.vw,r.vt])):=by
   have:=h.cel.at.load (C:=yA) (j:=0) ty33 rfl rfl (by simp[TR.cells,h.pl])
   simp_all [TR.cells]
  have ln:Loose yA.base tf t 1 (s.names.map D.str) r.vn:=h.os.ok (bB yA.base 1 (s.names.map D.str) r.vn) (by simp[bN]);have lc:Loose yA.base tf t 6 (s.consts.map yB.d) r.vc:=h.os.ok (bB yA.base 6 (s.consts.map yB.d) r.vc) (by simp[bN]);have lw:Loose yA.base tf t 1 s.ws r.vw:=h.os.ok (bB yA.base 1 s.ws r.vw) (by simp[bN]);have lt:Loose yA.base tf t 1 s.ts r.vt:=h.os.ok (bB yA.base 1 s.ts r.vt) (by simp[bN])
  have r1:=ln.read h.os.tle;have r2:=lc.read h.os.tle;have r3:=lw.read h.os.tle;have r4:=lt.read h.os.tle;rw[yaa (by omega),bK,xA,bT,xA,ld,xA];have hq:=hQ tf t r (iA.refl _) rfl rfl (by
   simp only[mL,List.map_nil,ycd];exact h)
  rw[epl]at hq ⊢;have hz:gG [(.str []),.nilslice,.nilslice,.nilslice,.nilslice,.nilslice,.nilslice,.nilslice] (.agg ([.str nm,a,b,d]++[r.vn,r.vc,r.vw,r.vt]))=some (cellsOf [.str nm,a,b,d,r.vn,r.vc,r.vw,r.vt]):=kN (by
   show(true&&(mH .nilslice a&&(mH .nilslice b&&(mH .nilslice d&&(mH .nilslice r.vn&&(mH .nilslice r.vc&&(mH .nilslice r.vw&&(mH .nilslice r.vt&&true))))))))=true
   grind [cM])
  rw[hz,xA];simp only[cellsOf,gH,zG,yaz,yba];have hone:zD zA.one [.str nm,a,b,d,r.vn,r.vc,r.vw,r.vt]=true:=by
   rw[cE];simp only[ycg,yck,o1,o2,o3,r1.one,r2.one,r3.one,r4.one];rfl
  simp_all
 | cons x l ih=>
  intro i t tf r s hl h hg hc b1 b2 b3 b4 hQ hpl;obtain⟨h1,h2,h3⟩:=Mo hl;have hx:=ycv h1;have hxf:=hfit x hx;have hxb:=hb x hx;unfold xX at hxb;rw[ybb]at hxb;have p1:=Gm hxb.1;have p2:=Gm hxb.2;unfold Dm at b1 b2;rw[ybn]at b3 b4;obtain⟨q,off,u1,u2,u3,w1,w2,w3,g1,g2,g3,g4,g5,g6⟩:=Zk hc h1;have g2:mA yA 50 ⟨0,t⟩ (.ptr q off)=some (.agg (gS x u1 u2 u3 w1 w2 w3)):=tQ (H:=⟨0,tf⟩) (fun _ _ k=>h.os.tle _ _ k) g2
  refine j6_2 ?_;simp only[uG,fB,kB,jC,uZ,uY,uM3,uM8,uA8,t6_2,tA,aB];unfold Nj at g3;rw[yab (by omega),g1,xA,g2,xA,g3,xA];unfold gS at g6;simp only[gS,cellsOf,mG,gH,tG,zG,yaz,yba];refine sB g6 ?_;rw[bK,xA,bT,xA,zgd,xA,h.ldW,xA,q19];have s1:=zT (key:=xB) (valid:=yC) x.when_ s.nt 0;refine BC (x:=x.when_) h hxf.2.2.2.2.2.1 hg g4 p1 (by omega) (by omega) fun tf1 t1 r1 v1 k1 k2 k3 k4 k5=>?_
  have kw:r1.vw=r.vw:=congrArg (fun z=>z.2.1) k3;have kt:r1.vt=r.vt:=congrArg (fun z=>z.2.2) k3;have kp:r1.pl=r.pl:=congrArg (fun z=>z.1) k3;have n1:(vC xB yC x.when_ s.nt 0).1.names.length<=s.names.length+dE x.when_:=s1.2.1;have n2:(vC xB yC x.when_ s.nt 0).1.consts.length<=s.consts.length+dE x.when_:=s1.2.2;rw[<- k2,k4.ldW,xA,kw,yab (by rw[<- kw];exact(k4.os.ok (bB yA.base 1 s.ws r1.vw) (by simp[bN,oF.put]):Loose yA.base tf1 t1 1 s.ws r1.vw).same)]
  intro m1 hm1 hm1b;obtain⟨t2,a1,a2,a3,a4⟩:=HC (t:=t1) k5 hm1;have j2:=k4.junk hm1 a4;rw[a1,xA,j2.ldW,xA,kw,yab (by rw[<- kw];exact(k4.os.ok (bB yA.base 1 s.ws r1.vw) (by simp[bN,oF.put]):Loose yA.base tf1 t1 1 s.ws r1.vw).same)];intro m2 hm2 hm2b;obtain⟨vw2,kk,t3,c1,t4,c2,c3⟩:=pushW j2 k5 a2 (by show s.ws.length<_;omega) hm2 hm2b;rw[kw]at c1;rw[c1,xA];simp only[bK,xA,bT,zgd,Yv];intro m3 _ _;rw[c2,xA];simp only[bK,xA,bT,Yv];have ld7:=c3.ldT
  rw[ld7,xA,q19];have s2:=zT (key:=xB) (valid:=yC) x.then_ (vC xB yC x.when_ s.nt 0).1 0;refine BC (r:=⟨r1.b,r1.pl,r1.vn,r1.vc,vw2,r1.vt,r1.vk,r1.m1,r1.m2⟩) (x:=x.then_) c3 hxf.2.2.2.2.2.2 (hg.mono k1) (RD.mono k1 _ _ g5) p2 (by show(vC xB yC x.when_ s.nt 0).1.names.length+_<_;omega) (by show(vC xB yC x.when_ s.nt 0).1.consts.length+_<_;omega) fun tf5 t5 r5 v5 d1 d2 d3 d4 d5=>?_
  have dw:r5.vw=vw2:=congrArg (fun z=>z.2.1) d3;have dt:r5.vt=r1.vt:=congrArg (fun z=>z.2.2) d3;have dp:r5.pl=r1.pl:=congrArg (fun z=>z.1) d3;have d2:r5.b=r1.b:=d2;have n3:(vC xB yC x.then_ (vC xB yC x.when_ s.nt 0).1 0).1.names.length<=(vC xB yC x.when_ s.nt 0).1.names.length+dE x.then_:=s2.2.1;have n4:(vC xB yC x.then_ (vC xB yC x.when_ s.nt 0).1 0).1.consts.length<=(vC xB yC x.when_ s.nt 0).1.consts.length+dE x.then_:=s2.2.2
  have Gq:same 10 r5.vt r5.vt=true:=(d4.os.ok (bB yA.base 1 s.ts r5.vt) (by simp[bN,oF.put]):Loose yA.base tf5 t5 1 s.ts r5.vt).same;rw[<- d2,d4.ldT,xA,<- dt,yab Gq];intro m5 hm5 hm5b;obtain⟨t6,e1,e2,e3,e4⟩:=HC (t:=t5) d5 hm5;have j6:=d4.junk hm5 e4;rw[e1,xA,j6.ldT,xA,yab Gq];intro m6 hm6 hm6b;obtain⟨vt2,kk2,t7,f1,t8,f2,f3⟩:=pushT j6 d5 e2 (by show s.ts.length<_;omega) hm6 hm6b
  rw[f1,xA];simp only[bK,xA,bT,Yv];intro m7 _ _;rw[f2,xA,wrap_i64 (by omega) (by omega),show(i:Int)+1=((i+1:Nat):Int) by omega];refine ih (i+1) t8 tf5 ⟨r5.b,r5.pl,r5.vn,r5.vc,r5.vw,vt2,r5.vk,r5.m1,r5.m2⟩ _ h2 f3 ((hg.mono k1).mono d1) (hc.mono (k1.trans d1)) (by show(vC xB yC x.then_ (vC xB yC x.when_ s.nt 0).1 0).1.names.length+_<_;omega) (by show(vC xB yC x.then_ (vC xB yC x.when_ s.nt 0).1 0).1.consts.length+_<_;omega) (by show(s.ws++[_]).length+_<_;grind) (by show(s.ts++[_]).length+_<_;grind) (fun tf9 t9 r9 z1 z2 z3 z4=>?_) (by
    simp_all)
  refine hQ tf9 t9 r9 (k1.trans (d1.trans z1)) (z2.trans (d2.trans k2)) (z3.trans (dp.trans kp)) ?_
  simp_all [mL,oF.put,oF.nt]
end
section
variable [tC]
variable {t tf:Tr qA}
theorem FI:∀(l:List fC),(∀x∈l,xX x=true)->Dm l<=400*l.length
 | [],_=>by simp[Dm]
 | x::l,h=>by
  have hx:=h x (by simp);unfold xX at hx;rw[ybb]at hx;have p1:=Gm hx.1;have p2:=Gm hx.2;have:=FI l fun y hy=>h y (by simp[hy])
  grind [Dm]
def FX(h:iA tf t):Objs yA.base tf t []:=⟨h,by simp,fun o ho=>(by cases ho),fun k hk=>(by simp at hk)⟩
def yF(p:rG):Nt × List (List XIns × List XIns):=mL xB yC p.clauses ⟨[],[]⟩
theorem YD{p:rG}{cs:List zA}{Q:xC}(hp:p.fit)(ht:iA tf t)(hg:kM tf)(hrd:RD tf p.d cs)
  (h0:fS p=false->Q (.tup [.agg Ni,.int .i64 2]) t)
  (h1:fS p=true->∀tf' t' a b c vn vc vw vt,iA tf tf'->iA tf' t'->sA tf' 3 (p.defs.map eI.d) a->sA tf' 3 (p.tables.map oE.d) b->sA tf' 24 ((p.clauses.map fI).map fC.d) c->sA tf' 1 ((yF p).1.names.map D.str) vn->sA tf' 6 ((yF p).1.consts.map yB.d) vc →
   sA tf' 1 ((yF p).2.map fun q=>kF q.1) vw->sA tf' 1 ((yF p).2.map fun q=>kF q.2) vt->Q (.tup [.agg [.str p.name,a,b,c,vn,vc,vw,vt],.int .i64 0]) t'):Wc yA F 6 [.agg cs] t Q:=by
 have hbd:=NM hp (RD.mono ht _ _ hrd);obtain⟨ca,cb,cc,rfl,ha,hb,hc⟩:=Aj hrd;refine w6 ?_;simp only[uI,uB,uG,fB,uZ,t6,tA,q7,hbd,xA,lE]
 cases hbp:fS p with
 | false=>
  simp only[ycl,if_true];exact h0 hbp
 | true=>
  have h1:=h1 hbp;simp only[Bool.not_true,ybq,if_false];rw[q18];refine zjq hp hbp hrd (FX ht) fun tf1 t1 a b c k1 k2 k3 k4 k5=>?_;have hz:gG [(.str []),.nilslice,.nilslice,.nilslice] (.agg [.str p.name,a,b,c])=some (cellsOf [.str p.name,a,b,c]):=kN (by
   show(true&&(mH .nilslice a&&(mH .nilslice b&&(mH .nilslice c&&true))))=true
   grind [cM])
  rw[hz,xA];simp only[cellsOf,gH,zG,yaz,yba,if_true];intro m1 hm1 hb1;have e1:Aa ⟨m1,t1⟩=some (.map m1,⟨m1+1,t1.set m1 (.map [])⟩):=rfl;have o1:Objs yA.base tf1 (t1.set m1 (.map [])) ([]++jE m1 (mE 0 [])::[]):=
   Objs.add (A:=[]) (B:=[]) (o':=jE m1 (mE 0 [])) k2 (fun k hk=>(jJ hm1 _).2 k (fun e=>hk (by simp[jE,e]))) (fun k hk=>by
    grind [jE]) (by show(t1.set m1 _).get m1=_;rw[Tr.get_set,yab rfl];rfl) (by simp[jE]) (k2.tle.trans (jJ hm1 _).1)
  rw[e1,xA];intro m2 hm2 hb2;have e2:Aa ⟨m2,t1.set m1 (.map [])⟩=some (.map m2,⟨m2+1,(t1.set m1 (.map [])).set m2 (.map [])⟩):=rfl;have o2:Objs yA.base tf1 ((t1.set m1 (.map [])).set m2 (.map [])) ([jE m1 (mE 0 [])]++jE m2 (mE 0 [])::[]):=
   Objs.add (A:=[jE m1 (mE 0 [])]) (B:=[]) (o':=jE m2 (mE 0 [])) o1 (fun k hk=>(jJ hm2 _).2 k (fun e=>hk (by simp[jE,e]))) (fun k hk=>by
    grind [jE]) (by show((t1.set m1 _).set m2 _).get m2=_;rw[Tr.get_set,yab rfl];rfl) (by simp[jE]) (o1.tle.trans (jJ hm2 _).1)
  rw[e2,xA];have hone2:zD zA.one [.map m1,.map m2]=true:=rfl;rw[yab hone2];intro nb hnb hbb;obtain⟨t3,f1,f2,f3,f4⟩:=NL (v:=.agg [.str p.name,a,b,c,.nilslice,.nilslice,.nilslice,.nilslice,.map m1,.map m2,.nilslice]) hnb;have o3:Objs yA.base tf1 t3 ([]++wD nb none [.str p.name,a,b,c,.nilslice,.nilslice,.nilslice,.nilslice,.map m1,.map m2,.nilslice]::[jE m1 (mE 0 []),jE m2 (mE 0 [])]):=
   Objs.add (A:=[]) (o':=wD nb none [.str p.name,a,b,c,.nilslice,.nilslice,.nilslice,.nilslice,.map m1,.map m2,.nilslice]) o2 (fun k hk=>f4 k (fun e=>hk (by simp[wD,e]))) (fun k hk=>by
    grind [wD]) f2 (by simp[wD]) (o2.tle.trans f3)
  have addL:∀ {A:List xD} {sz:Nat},Objs yA.base tf1 t3 A->Objs yA.base tf1 t3 (A++[bB yA.base sz [] .nilslice]):=fun {A sz} h=>by
   have h':Objs yA.base tf1 t3 (A++[]):=by simp_all
   exact Objs.add (o':=bB yA.base sz ([]:List D) .nilslice) h' (fun _ _=>rfl) (fun k hk=>by simp[bB,pF]at hk) (.inl ⟨rfl,rfl⟩) (by simp[bB,pF]) h'.tle
  have o4:TW tf1 t3 ⟨nb,[.str p.name,a,b,c],.nilslice,.nilslice,.nilslice,.nilslice,.nilslice,m1,m2⟩ ⟨[],[],[],[],[]⟩:=⟨rfl,addL (sz:=1) (addL (sz:=1) (addL (sz:=6) (addL (sz:=1) o3)))⟩;have hbp':=hbp;unfold fS at hbp';simp only[ybb,decide_eq_true_eq]at hbp';obtain⟨⟨⟨⟨hb1',hb2'⟩,hb3'⟩,hb4'⟩,hb5'⟩:=hbp';have hbc:∀x∈p.clauses,xX x=true:=fun x hx=>ycb.1 hb4' x hx;have hpc:=FI p.clauses hbc
  rw[f1,xA,hc.len,xA,ybf,zB,xA];refine za6 hb2' hp.clauses hbc p.clauses 0 t3 tf1 ⟨nb,[.str p.name,a,b,c],.nilslice,.nilslice,.nilslice,.nilslice,.nilslice,m1,m2⟩ ⟨[],[],[],[],[]⟩ (ycr) o4 (hg.mono k1) (hc.mono k1) (by grind) (by grind) (by grind) (by grind) (fun tf5 t5 r5 n1 n2 n3 n4=>?_) ⟨_,_,_,_,rfl,k3.one,k4.one,k5.one,cM k3,cM k4,cM k5⟩;have n3':r5.pl=[.str p.name,a,b,c]:=n3
  rw[n3'];have q4:Objs yA.base tf5 t5 ([wD r5.b none r5.cells,jE r5.m1 (mE 0 (yF p).1.names),jE r5.m2 (mE 0 ((yF p).1.consts.map xB))]++bB yA.base 1 ((yF p).1.names.map D.str) r5.vn::[bB yA.base 6 ((yF p).1.consts.map yB.d) r5.vc,bB yA.base 1 ((yF p).2.map fun q=>kF q.1) r5.vw,bB yA.base 1 ((yF p).2.map fun q=>kF q.2) r5.vt]):=n4.os
  obtain⟨tf6,x1,x2,x3⟩:=Objs.freezeL q4;obtain⟨tf7,y1,y2,y3⟩:=Objs.freezeL (A:=[wD r5.b none r5.cells,jE r5.m1 (mE 0 (yF p).1.names),jE r5.m2 (mE 0 ((yF p).1.consts.map xB))]) (B:=[bB yA.base 1 ((yF p).2.map fun q=>kF q.1) r5.vw,bB yA.base 1 ((yF p).2.map fun q=>kF q.2) r5.vt]) x2;obtain⟨tf8,z1,z2,z3⟩:=Objs.freezeL (A:=[wD r5.b none r5.cells,jE r5.m1 (mE 0 (yF p).1.names),jE r5.m2 (mE 0 ((yF p).1.consts.map xB))]) (B:=[bB yA.base 1 ((yF p).2.map fun q=>kF q.2) r5.vt]) y2
  obtain⟨tf9,w1,w2,w3⟩:=Objs.freezeL (A:=[wD r5.b none r5.cells,jE r5.m1 (mE 0 (yF p).1.names),jE r5.m2 (mE 0 ((yF p).1.consts.map xB))]) (B:=[]) z2;have T:iA tf1 tf9:=n1.trans (x1.trans (y1.trans (z1.trans w1)));exact h1 tf9 t5 a b c r5.vn r5.vc r5.vw r5.vt (k1.trans T) w2.tle (k3.mono T) (k4.mono T) (k5.mono T) (x3.mono (y1.trans (z1.trans w1))) (y3.mono (z1.trans w1)) (z3.mono w1) w3
end
end Go.Proofs
namespace Go.Am
section
variable {key:yB->List Nat}{valid:yB->Bool}
def plainI(i:XIns):Bool := !(i.op == 9) && !(i.op == 13)
def plainL(l:List XIns):Bool:=l.all plainI
end
end Go.Am
namespace Go.Proofs
open Go Go.Am
variable [tC]
variable {t tf:Tr qA}
structure ShortC (code:List XIns) (n:Nat):Prop where
 pos:1<=code.length
 four:code.length<=4*n
 most:code.length<=1000
 parts:n<1000000
 str:plainL code=true->code.length=n
 ops:∀i∈code,i.op<256
def MJ:∀(l:List fC) (s:Nt),(mL xB yC l s).2.length=l.length
 | [],s=>rfl
 | x::l,s=>by simp[mL,MJ l]
end Go.Proofs
namespace Go.Am
def rJ (op:Nat):Prop:=op=3\/op=4\/op=5\/op=6\/op=8
inductive qL:List XIns->Nat->Nat->Nat->Nat->Prop
 | nil {n c:Nat}:qL [] n c n c
 | const {i:XIns} {l:List XIns} {n c n' c' k:Nat}:i.op=1->i.a=(k:Int)->k<=c->qL l n (max c (k+1)) n' c'->qL (i::l) n c n' c'
 | name {i:XIns} {l:List XIns} {n c n' c' k:Nat}:rJ i.op->i.a=(k:Int)->k<=n->qL l (max n (k+1)) c n' c'->qL (i::l) n c n' c'
 | other {i:XIns} {l:List XIns} {n c n' c':Nat}:i.op≠1->¬ rJ i.op->qL l n c n' c'->qL (i::l) n c n' c'
theorem qL.append{l m:List XIns}{n c n1 c1 n2 c2:Nat}(h:qL l n c n1 c1)(k:qL m n1 c1 n2 c2):qL (l++m) n c n2 c2:=by
 induction h with
 | nil=>exact k
 | const h1 h2 h3 _ ih=>exact .const h1 h2 h3 (ih k)
 | name h1 h2 h3 _ ih=>exact .name h1 h2 h3 (ih k)
 | other h1 h2 _ ih=>exact .other h1 h2 (ih k)
theorem qL.mono{l:List XIns}{n c n1 c1:Nat}(h:qL l n c n1 c1):n<=n1/\c<=c1:=by
 induction h with
 | nil=>exact⟨ybk _,ybk _⟩
 | const _ _ _ _ ih=>exact⟨ih.1,by have:=ih.2;omega⟩
 | name _ _ _ _ ih=>exact⟨by have:=ih.1;omega,ih.2⟩
 | other _ _ _ ih=>exact ih
def IN{k:List Nat}{l:List (List Nat)}(h:k∈l):dK k l<l.length:=(ybc.1 (Rc h)).1
section
variable (key:yB->List Nat)(P:yB->Prop)
structure aJ (s:Nt):Prop where
 names:s.names.Nodup
 consts:(s.consts.map key).Nodup
 all:∀v∈s.consts,P v
end
section
variable {key:yB->List Nat}{valid:yB->Bool}{P:yB->Prop}
def GH{α:Type}{l:List α}{a:α}(h:l.Nodup)(ha:a∉l):(l++[a]).Nodup:=by
 rw[List.nodup_append];exact⟨h,by simp,fun x hx y hy e=>by simp at hy;subst hy;subst e;exact ha hx⟩
theorem Qn{s:Nt}{n:List Nat}(h:aJ key P s):aJ key P (s.name n)/\s.nameI n<=s.names.length/\(s.name n).names.length=max s.names.length (s.nameI n+1)/\(s.name n).consts=s.consts:=by
 unfold Nt.name Nt.nameI;by_cases hm:n∈s.names
 ·rw[yab hm];have:=IN hm;exact⟨h,by omega,by omega,rfl⟩
 ·rw[yaa hm,Ea hm];exact⟨⟨GH h.names hm,h.consts,h.all⟩,ybk _,by simp,rfl⟩
theorem Fa{s:Nt}{v:yB}(h:aJ key P s)(hv:P v):aJ key P (s.const key v)/\s.constI key v<=s.consts.length/\(s.const key v).consts.length=max s.consts.length (s.constI key v+1)/\(s.const key v).names=s.names:=by
 unfold Nt.const Nt.constI;by_cases hm:key v∈s.consts.map key
 ·rw[yab hm];have:=IN hm;rw[ybf]at this;exact⟨h,by omega,by omega,rfl⟩
 ·rw[yaa hm,Ea hm,ybf];refine⟨⟨h.names,by rw[List.map_append];exact GH h.consts hm,fun u hu=>?_⟩,ybk _,by simp,rfl⟩;rcases yaf.1 hu with hu | hu
  ·exact h.all u hu
  ·simp at hu;subst hu;exact hv
def mM (key:yB->List Nat)(P:yB->Prop)(f:sH):Prop:=∀s p,aJ key P s->aJ key P (f s p).1/\qL (f s p).2 s.names.length s.consts.length (f s p).1.names.length (f s p).1.consts.length
def Xd{f g:sH}{skip:Nat}{truth:Int}(hf:mM key P f)(hg:mM key P g)(hs:skip=10\/skip=11)(hv:P (eE truth)):mM key P (tK key f g skip truth):=by
 intro s p h;obtain⟨f1,f2⟩:=hf s p h;obtain⟨g1,g2⟩:=hg (f s p).1 (p+(f s p).2.length+1) f1;obtain⟨c1,c2,c3,c4⟩:=Fa (v:=eE truth) g1 hv;unfold tK;refine⟨c1,f2.append (.other (by show skip≠1;omega) (by show ¬ rJ skip;unfold rJ;omega) (g2.append (.other (by decide) (by unfold rJ;decide) (.other (by show(9:Nat)≠1;decide) (by show ¬ rJ 9;unfold rJ;decide) (.const rfl rfl c2 ?_)))))⟩
 show qL [] _ _ ((g (f s p).1 (p+(f s p).2.length+1)).1.const key (eE truth)).names.length ((g (f s p).1 (p+(f s p).2.length+1)).1.const key (eE truth)).consts.length;rw[c3,c4];exact .nil
def lt_if{f g h:sH}(hf:mM key P f)(hg:mM key P g)(hh:mM key P h):mM key P (eM f g h):=by
 intro s p hs;obtain⟨f1,f2⟩:=hf s p hs;obtain⟨g1,g2⟩:=hg (f s p).1 (p+(f s p).2.length+1) f1;obtain⟨h1,h2⟩:=hh (g (f s p).1 (p+(f s p).2.length+1)).1 (p+(f s p).2.length+1+(g (f s p).1 (p+(f s p).2.length+1)).2.length+1) g1;unfold eM;exact⟨h1,f2.append (.other (by show(10:Nat)≠1;decide) (by show ¬ rJ 10;unfold rJ;decide) (g2.append (.other (by show(9:Nat)≠1;decide) (by show ¬ rJ 9;unfold rJ;decide) h2)))⟩
def Lr:∀ {fs:List sH},(∀f∈fs,mM key P f)->mM key P (pD fs)
 | [],_=>fun s p h=>⟨h,.nil⟩
 | f::l,hf=>fun s p h=>by
  obtain⟨f1,f2⟩:=hf f (by simp) s p h;obtain⟨g1,g2⟩:=Lr (fs:=l) (fun g hg=>hf g (by simp[hg])) (f s p).1 (p+(f s p).2.length) f1;exact⟨g1,f2.append g2⟩
def zh2{op n:Nat}{name:List Nat}{v:yB}{s:Nt}(h:aJ key P s)(hv:op=1->P v):aJ key P (wE key op name v n s).1/\qL [(wE key op name v n s).2] s.names.length s.consts.length (wE key op name v n s).1.names.length (wE key op name v n s).1.consts.length:=by
 obtain⟨n1,n2,n3,n4⟩:=Qn (n:=name) h;unfold wE;split
 ·rename_i e;obtain⟨c1,c2,c3,c4⟩:=Fa h (hv e);refine⟨c1,.const rfl rfl c2 ?_⟩;show qL [] _ _ (s.const key v).names.length (s.const key v).consts.length;rw[c3,c4];exact .nil
 ·split
  ·exact⟨h,.other (by show(2:Nat)≠1;decide) (by show ¬ rJ 2;unfold rJ;decide) .nil⟩
  ·split
   ·rename_i e;refine⟨n1,.name (by show rJ op;unfold rJ;omega) rfl n2 ?_⟩;show qL [] _ _ (s.name name).names.length (s.name name).consts.length;rw[n3,n4];exact .nil
   ·split
    ·refine⟨n1,.name (by show rJ 6;unfold rJ;decide) rfl n2 ?_⟩;show qL [] _ _ (s.name name).names.length (s.name name).consts.length;rw[n3,n4];exact .nil
    ·split
     ·refine⟨n1,.name (by show rJ 8;unfold rJ;decide) rfl n2 ?_⟩;show qL [] _ _ (s.name name).names.length (s.name name).consts.length;rw[n3,n4];exact .nil
     ·split
      ·exact⟨h,.other (by show(7:Nat)≠1;decide) (by show ¬ rJ 7;unfold rJ;decide) .nil⟩
      ·exact⟨h,.other (by show(7:Nat)≠1;decide) (by show ¬ rJ 7;unfold rJ;decide) .nil⟩
section
variable (h0:P (eE 0))(h1:P (eE 1))(hP:∀v:yB,v.fit->valid v=true->P v)
include h0 h1 hP
def zcy{op:Nat}{name:List Nat}{v:yB}{fs:List sH}(hv:v.fit)(hf:∀f∈fs,mM key P f):mM key P (lH key valid op name v fs):=by
 intro s p h;unfold lH;by_cases hb:gI valid op v fs.length=false
 ·rw[yab hb];exact⟨h,.other (by decide) (by unfold rJ;decide) .nil⟩
 ·rw[yaa hb];have hb:gI valid op v fs.length=true:=by simpa using hb
  have hn:=hb;unfold gI at hn;simp only[ybb,decide_eq_true_eq]at hn;by_cases h15:op=15
  ·rw[yab h15]
   match fs,hf with
   | [],_=>exact⟨h,.nil⟩
   | [_],_=>exact⟨h,.nil⟩
   | f::g::_,hf=>exact Xd (hf f (by simp)) (hf g (by simp)) (.inl rfl) h0 s p h
  ·rw[yaa h15];by_cases h16:op=16
   ·rw[yab h16]
    match fs,hf with
    | [],_=>exact⟨h,.nil⟩
    | [_],_=>exact⟨h,.nil⟩
    | f::g::_,hf=>exact Xd (hf f (by simp)) (hf g (by simp)) (.inr rfl) h1 s p h
   ·rw[yaa h16];by_cases h18:op=18
    ·rw[yab h18]
     match fs,hf with
     | [],_=>exact⟨h,.nil⟩
     | [_],_=>exact⟨h,.nil⟩
     | [_,_],_=>exact⟨h,.nil⟩
     | f::g::k::_,hf=>exact lt_if (hf f (by simp)) (hf g (by simp)) (hf k (by simp)) s p h
    ·rw[yaa h18];obtain⟨q1,q2⟩:=Lr hf s p h;have hvP:op=1->P v:=fun e=>hP v hv (by
      have:=hn.1.1;rw[e]at this;simpa using this)
     obtain⟨o1,o2⟩:=zh2 (op:=op) (n:=fs.length) (name:=name) (v:=v) q1 hvP;exact⟨o1,q2.append o2⟩
mutual
def Gc:∀(x:vA),x.fit->mM key P (vC key valid x)
 | .mk op name v args,h=>by
  unfold vA.fit at h;unfold vC;exact zcy h0 h1 hP h.2.2.2.1 (Tv args h.2.2.2.2.2)
def Tv:∀(l:List vA),vA.fits l->∀f∈zE key valid l,mM key P f
 | [],_,f,hf=>by simp[zE]at hf
 | x::l,h,f,hf=>by
  unfold vA.fits at h;simp only[zE,ybs]at hf;rcases hf with rfl | hf
  ·exact Gc x h.1
  ·exact Tv l h.2 f hf
end
end
inductive Mz:List (List XIns × List XIns)->Nat->Nat->Nat->Nat->Prop
 | nil {n c:Nat}:Mz [] n c n c
 | cons {a b:List XIns} {l:List (List XIns × List XIns)} {n c n1 c1 n2 c2 n' c':Nat}:qL a n c n1 c1->qL b n1 c1 n2 c2->Mz l n2 c2 n' c'->Mz ((a,b)::l) n c n' c'
def zer(h0:P (eE 0))(h1:P (eE 1))(hP:∀v:yB,v.fit->valid v=true->P v):∀(l:List fC) (s:Nt),(∀x∈l,x.fit)->aJ key P s->aJ key P (mL key valid l s).1/\Mz (mL key valid l s).2 s.names.length s.consts.length (mL key valid l s).1.names.length (mL key valid l s).1.consts.length
 | [],s,_,h=>⟨h,.nil⟩
 | x::l,s,hf,h=>by
  have hx:=hf x (by simp);obtain⟨a1,a2⟩:=Gc h0 h1 hP x.when_ hx.2.2.2.2.2.1 s 0 h;obtain⟨b1,b2⟩:=Gc h0 h1 hP x.then_ hx.2.2.2.2.2.2 (vC key valid x.when_ s 0).1 0 a1;obtain⟨c1,c2⟩:=zer h0 h1 hP l _ (fun y hy=>hf y (by simp[hy])) b1;exact⟨c1,.cons a2 b2 c2⟩
end
end Go.Am
namespace Go.Proofs
open Go Go.Am
variable [tC]
variable {t tf:Tr qA}
def qV(v:yB):Prop:=yC v=true/\v.fit
theorem Gb{n:Int}(h0:0<=n)(h1:n<=1):qV (eE n):=by
 refine⟨?_,?_⟩
 ·unfold yC eE;rw[yaa (by simp_all),yab rfl];have:cZ ⟨⟨false,[]⟩,⟨false,[]⟩⟩=true:=by rfl
  simp_all
 ·exact⟨by show(1:Nat)<256;decide,⟨⟨by show 0<sE;decide,by show 0<sE;decide⟩,fun x hx=>(by cases hx),fun x hx=>(by cases hx)⟩,by show -9223372036854775808<=n;omega,by show n<9223372036854775808;omega⟩
def HD{p:rG}(hp:p.fit):aJ xB qV (yF p).1/\Mz (yF p).2 0 0 (yF p).1.names.length (yF p).1.consts.length:=
 zer (Gb (by decide) (by decide)) (Gb (by decide) (by decide)) (fun v h1 h2=>⟨h2,h1⟩) p.clauses ⟨[],[]⟩ hp.clauses ⟨by simp,by simp,fun v hv=>(by cases hv)⟩
theorem lG{a b:Int}(h:a≠b):¬ cA a b=true:=fun e=>h (qE.1 e)
section
variable {nm:List Nat}{a b c vn vc vw vt:zA}{Q:xC}
def Nx{l:List yB}{v:zA}(hv:sA t 6 (l.map yB.d) v){i:Nat}{x:yB}(hx:l[i]?=some x) :
  ∃p o u w,aA yA 30 v (.int .i64 (i:Int))=some (.ptr p o)/\mA yA 45 ⟨0,t⟩ (.ptr p o)=some (.agg [.int .u8 x.kind,.bool x.f.n.neg,u,.bool x.f.d.neg,w,.int .i64 x.i]) ∧
   gG [(.int .u8 0),(.bool false),.nilslice,(.bool false),.nilslice,(.int .i64 0)] (.agg [.int .u8 x.kind,.bool x.f.n.neg,u,.bool x.f.d.neg,w,.int .i64 x.i])=some (cellsOf [.int .u8 x.kind,.bool x.f.n.neg,u,.bool x.f.d.neg,w,.int .i64 x.i])/\sA t 1 (wC x.f.n.limbs) u/\sA t 1 (wC x.f.d.limbs) w:=by
 obtain⟨p,o,cs,g1,g2,_,_,g5⟩:=eD.at sl30 (by simp) hv (i:=i) (d:=x.d) (by simp[hx]);have hz:=tI g5 x.zs;obtain⟨u,w,rfl,h1,h2⟩:=Gy g5;exact⟨p,o,u,w,g1,g2,hz,h1,h2⟩
end
end Go.Proofs
namespace Go.Am
variable {d:List Nat}{T e i v:Nat}{x:XIns}
def Ma(a:Int):Bool:=(decide (7<=a)&&decide (a<=14))||decide (a=17)||decide (a=19)||decide (a=20)||(decide (24<=a)&&decide (a<=26))
def Hp(b:Int):Bool:=decide (21<=b)&&decide (b<=23)
def wF(nN nC:Nat)(x:XIns)(i len:Nat):Bool:=
 if x.op=1 then decide (0<=x.a)&&decide (x.a<nC)&&decide (x.b=0)
 else if x.op=3\/x.op=4\/x.op=5 then decide (0<=x.a)&&decide (x.a<nN)&&decide (x.b=0)
 else if x.op=6 then decide (0<=x.a)&&decide (x.a<nN)&&(decide (x.b=1)||decide (x.b=2))
 else if x.op=8 then decide (0<=x.a)&&decide (x.a<nN)&&Hp x.b
 else if x.op=7 then Ma x.a&&(decide (x.b=0)||decide (x.a=19))
 else if x.op=9\/x.op=10\/x.op=11 then decide ((i:Int)<x.a)&&decide (x.a<=len)&&decide (x.b=0)
 else if x.op=2\/x.op=12\/x.op=13 then decide (x.a=0)&&decide (x.b=0)
 else false
def cF(x:XIns):Int:=
 if x.op=6 then x.b else if x.op=7 then(gF (x.a%256).toNat).1 else if x.op=8 then(gF (x.b%256).toNat).1
 else if x.op=3\/x.op=4\/x.op=5\/x.op=10\/x.op=11\/x.op=12 then 1 else 0
def pN(x:XIns):Nat:=if x.op=9\/x.op=10\/x.op=11 then 0 else 1
def wO(d:List Nat)(k v:Nat):Option (List Nat):=match d[k]? with
 | some 0=>some (d.set k v)
 | some (w+1)=>if w+1=v then some d else none
 | none=>none
def rI(nN nC len:Nat)(x:XIns)(i:Nat)(d:List Nat):Option (List Nat):=match d[i]? with
 | some (e+1)=>
  if wF nN nC x i len=false then none
  else if (e:Int)-cF x<0\/64<(e:Int)-cF x+pN x then none
  else(if x.op=9\/x.op=10\/x.op=11 then wO d x.a.toNat (((e:Int)-cF x+pN x).toNat+1)else some d).bind fun d'=>
   if x.op=9 then some d' else wO d' (i+1) (((e:Int)-cF x+pN x).toNat+1)
 | _=>none
def xK(nN nC len:Nat):List XIns->Nat->List Nat->Option (List Nat)
 | [],_,d=>some d
 | x::l,i,d=>(rI nN nC len x i d).bind (xK nN nC len l (i+1))
def cX(nN nC:Nat)(code:List XIns):Bool:=
 decide (code.length<=1000)&&match xK nN nC code.length code 0 (1::List.replicate code.length 0)with
  | some d=>decide (d[code.length]?=some 2)
  | none=>false
section
variable {nN nC len:Nat}
theorem Cw:∀(l m:List XIns) (i:Nat) (d:List Nat),xK nN nC len (l++m) i d=(xK nN nC len l i d).bind (xK nN nC len m (i+l.length))
 | [],m,i,d=>rfl
 | x::l,m,i,d=>by
  show(rI nN nC len x i d).bind (xK nN nC len (l++m) (i+1))=((rI nN nC len x i d).bind (xK nN nC len l (i+1))).bind (xK nN nC len m (i+(x::l).length))
  cases rI nN nC len x i d with
  | none=>rfl
  | some d'=>
   show xK nN nC len (l++m) (i+1) d'=(xK nN nC len l (i+1) d').bind _;rw[Cw l m (i+1) d',show i+(x::l).length=i+1+l.length by simp;omega]
def Pl {k:Nat}(h:d[k]?=some 0\/d[k]?=some (v+1)):∃d',wO d k (v+1)=some d'/\d'.length=d.length/\d'[k]?=some (v+1)/\∀j,j≠k->d'[j]?=d[j]?:=by
 unfold wO;rcases h with h | h
 ·rw[h];have hk:=(ybc.1 h).1;exact⟨_,rfl,by simp,by rw[ycw,yab rfl,yab hk],fun j hj=>by rw[ycw,yaa (Ne.symm hj)]⟩
 ·rw[h];exact⟨d,yab rfl,rfl,h,fun _ _=>rfl⟩
def Oq   (hd:d[i]?=some (e+1))(hs:wF nN nC x i len=true)(hj:¬ (x.op=9\/x.op=10\/x.op=11))(hp:cF x+v=(e:Int)+1)(hpe:cF x<=e)(hv:v<=64)(hn:d[i+1]?=some 0\/d[i+1]?=some (v+1)) :
  ∃d',rI nN nC len x i d=some d'/\d'.length=d.length/\d'[i+1]?=some (v+1)/\∀j,j≠i+1->d'[j]?=d[j]?:=by
 obtain⟨d',h1,h2,h3,h4⟩:=Pl hn;refine⟨d',?_,h2,h3,h4⟩;unfold rI;have e1:pN x=1:=yaa hj;have e2:((e:Int)-cF x+(pN x:Nat)).toNat=v:=by rw[e1];omega
 rw[hd];simp only[];rw[yaa (by simp[hs]),yaa (by rw[e1];omega),yaa hj,e2];show(if x.op=9 then some d else wO d (i+1) (v+1))=some d';rw[yaa (fun h=>hj (.inl h)),h1]
def CJ   (hd:d[i]?=some (e+2))(hx:x.op=10\/x.op=11)(ha:x.a=(T:Int))(hb:x.b=0)(hi:i<T)(hT:T<=len)(he:e<=64)(ht:d[T]?=some 0\/d[T]?=some (e+1))(hne:T≠i+1)(hn:d[i+1]?=some 0\/d[i+1]?=some (e+1)) :
  ∃d',rI nN nC len x i d=some d'/\d'.length=d.length/\d'[i+1]?=some (e+1)/\d'[T]?=some (e+1)/\∀j,j≠i+1->j≠T->d'[j]?=d[j]?:=by
 obtain⟨d1,h1,h2,h3,h4⟩:=Pl ht;obtain⟨d',g1,g2,g3,g4⟩:=Pl (d:=d1) (k:=i+1) (v:=e) (by rw[h4 (i+1) (Ne.symm hne)];exact hn);refine⟨d',?_,g2.trans h2,g3,by rw[g4 T hne];exact h3,fun j h5 h6=>(g4 j h5).trans (h4 j h6)⟩;have hj:x.op=9\/x.op=10\/x.op=11:=by omega
 have e1:pN x=0:=yab hj;have e3:cF x=1:=by unfold cF;rw[yaa (by omega),yaa (by omega),yaa (by omega),yab (by omega)]
 have e2:(((e+1:Nat):Int)-cF x+(pN x:Nat)).toNat=e:=by rw[e1,e3];omega
 have hs:wF nN nC x i len=true:=by
  unfold wF;rw[yaa (by omega),yaa (by omega),yaa (by omega),yaa (by omega),yaa (by omega),yab hj,ha,hb];simp;omega
 unfold rI;rw[hd];simp only[];rw[yaa (by simp[hs]),yaa (by rw[e1,e3];omega),yab hj,e2,ha,show((T:Int)).toNat=T by omega,h1];show(if x.op=9 then some d1 else wO d1 (i+1) (e+1))=some d';rw[yaa (by omega),g1]
def CL  (hd:d[i]?=some (e+1))(hi:i<T)(hT:T<=len)(he:e<=64)(ht:d[T]?=some 0\/d[T]?=some (e+1)) :
  ∃d',rI nN nC len ⟨9,(T:Int),0⟩ i d=some d'/\d'.length=d.length/\d'[T]?=some (e+1)/\∀j,j≠T->d'[j]?=d[j]?:=by
 obtain⟨d',h1,h2,h3,h4⟩:=Pl ht;refine⟨d',?_,h2,h3,h4⟩;have hs:wF nN nC ⟨9,(T:Int),0⟩ i len=true:=by
  unfold wF;simp;omega
 unfold rI;rw[hd];simp only[];have e3:cF ⟨9,(T:Int),0⟩=0:=rfl;have e1:pN ⟨9,(T:Int),0⟩=0:=rfl;rw[yaa (by simp[hs]),e3,e1,yaa (by omega),yab (by simp),show((e:Int)-0+((0:Nat):Int)).toNat=e by omega,show((T:Int)).toNat=T by omega,h1];rfl
end
section
variable (key:yB->List Nat)
def vP (f:sH)(m:Nat):Prop:=mM key (fun _=>True) f/\∀(s:Nt) (p nN nC len:Nat) (d:List Nat) (e:Nat),aJ key (fun _=>True) s->1<=(f s p).2.length ∧
 ((f s p).1.names.length<=nN->(f s p).1.consts.length<=nC->p+(f s p).2.length<=len->d.length=len+1->d[p]?=some (e+1)->(∀k,p<k->k<p+(f s p).2.length->d[k]?=some 0)->(d[p+(f s p).2.length]?=some 0\/d[p+(f s p).2.length]?=some (e+2))->e+m<=64 →
  ∃d',xK nN nC len (f s p).2 p d=some d'/\d'.length=len+1/\d'[p+(f s p).2.length]?=some (e+2)/\∀k,p+(f s p).2.length<k->d'[k]?=d[k]?)
end
end Go.Am
namespace Go.Am
section
variable {key:yB->List Nat}{valid:yB->Bool}
theorem ME{s:Nt}{v:yB}{nN nC i len:Nat}(hs:aJ key (fun _=>True) s)(hc:(s.const key v).consts.length<=nC):wF nN nC ⟨1,s.constI key v,0⟩ i len=true:=by
 obtain⟨_,_,h3,_⟩:=Fa (P:=fun _=>True) (v:=v) hs trivial
 grind [wF]
theorem CV{f g:sH}{skip:Nat}{truth:Int}{m m' M:Nat}(hf:vP key f m)(hg:vP key g m')(hs:skip=10\/skip=11)(h1:m<=M)(h2:m'<=M)(h3:1<=M):vP key (tK key f g skip truth) M:=by
 refine⟨Xd hf.1 hg.1 hs trivial,fun s p nN nC len d e hN=>⟨by grind [tK],?_⟩⟩;obtain⟨f1,f2⟩:=hf.1 s p hN;have fl:=hf.2 s p nN nC len d e hN;generalize hA:f s p=A at f1 f2 fl;have hq:(tK key f g skip truth s p)=(((g A.1 (p+A.2.length+1)).1.const key (eE truth)),A.2++⟨skip,((p+A.2.length+1+(g A.1 (p+A.2.length+1)).2.length+2:Nat):Int),0⟩::((g A.1 (p+A.2.length+1)).2++[⟨12,0,0⟩,⟨9,((p+A.2.length+1+(g A.1 (p+A.2.length+1)).2.length+3:Nat):Int),0⟩,⟨1,(g A.1 (p+A.2.length+1)).1.constI key (eE truth),0⟩])):=by
  unfold tK;rw[hA]
 rw[hq];obtain⟨g1,g2⟩:=hg.1 A.1 (p+A.2.length+1) f1;have gl:=fun d=>hg.2 A.1 (p+A.2.length+1) nN nC len d e f1;generalize g A.1 (p+A.2.length+1)=B at g1 g2 gl;obtain⟨c1,c2,c3,c4⟩:=Fa (P:=fun _=>True) (v:=eE truth) g1 trivial;simp only[ybg,ybn,ybx];intro hn hc hlen hd hp hz hend hM;have hgm:=g2.mono;have hfp:=fl.1;have hgp:=(gl d).1;obtain⟨d1,k1,k2,k3,k4⟩:=fl.2 (by grind) (by omega) (by omega) hd hp (fun k a b=>hz k a (by omega)) (.inl (hz _ (by omega) (by omega))) (by omega)
 obtain⟨d2,l1,l2,l3,l4,l5⟩:=CJ (nN:=nN) (nC:=nC) (len:=len) (x:=⟨skip,((p+A.2.length+1+B.2.length+2:Nat):Int),0⟩) k3 hs rfl rfl (by omega) (by omega) (by omega) (.inl (by grind)) (by omega) (.inl (by grind));obtain⟨d3,m1,m2,m3,m4⟩:=(gl d2).2 (by simp_all) (by omega) (by omega) (by omega) l3 (fun k a b=>by grind) (.inl (by grind)) (by omega);have z:∀k,p+A.2.length+1+B.2.length<k->k≠p+A.2.length+1+B.2.length+2->d3[k]?=d[k]?:=fun k a b=>by rw[m4 k a,l5 k (by omega) b,k4 k (by omega)]
 obtain⟨d4,n1,n2,n3,n4⟩:=Oq (nN:=nN) (nC:=nC) (len:=len) (x:=⟨12,0,0⟩) (v:=e+1) m3 (by unfold wF;simp) (by simp) (by show(1:Int)+_=_;omega) (by show(1:Int)<=_;omega) (by omega) (.inl (by grind));have hE:d4[p+A.2.length+1+B.2.length+3]?=some 0\/d4[p+A.2.length+1+B.2.length+3]?=some (e+2):=by
  grind
 obtain⟨d5,o1,o2,o3,o4⟩:=CL (nN:=nN) (nC:=nC) (len:=len) (T:=p+A.2.length+1+B.2.length+3) n3 (by omega) (by omega) (by omega) hE;have hT:d5[p+A.2.length+1+B.2.length+1+1]?=some (e+1):=by
  grind
 obtain⟨d6,q1,q2,q3,q4⟩:=Oq (nN:=nN) (nC:=nC) (len:=len) (x:=⟨1,B.1.constI key (eE truth),0⟩) (v:=e+1) hT (ME g1 hc) (by simp) (by show(0:Int)+_=_;omega) (by show(0:Int)<=_;omega) (by omega) (.inr (by
  omega))
 refine⟨d6,?_,by omega,?_,fun k hk=>?_⟩
 ·rw[Cw,k1];show(rI nN nC len _ (p+A.2.length) d1).bind _=_;rw[l1];show xK nN nC len (B.2++_) (p+A.2.length+1) d2=_;rw[Cw,m1];show(rI nN nC len _ (p+A.2.length+1+B.2.length) d3).bind _=_;rw[n1];show(rI nN nC len _ (p+A.2.length+1+B.2.length+1) d4).bind _=_;rw[o1];show(rI nN nC len _ (p+A.2.length+1+B.2.length+1+1) d5).bind _=_;rw[q1];rfl
 ·grind
 grind
theorem snd_if{f g h:sH}{m m' m'' M:Nat}(hf:vP key f m)(hg:vP key g m')(hh:vP key h m'')(h1:m<=M)(h2:m'<=M)(h3:m''<=M)(h4:1<=M):vP key (eM f g h) M:=by
 refine⟨lt_if hf.1 hg.1 hh.1,fun s p nN nC len d e hN=>⟨by grind [eM],?_⟩⟩;obtain⟨f1,f2⟩:=hf.1 s p hN;have fl:=hf.2 s p nN nC len d e hN;generalize hA:f s p=A at f1 f2 fl;have hq:(eM f g h s p)=(((h (g A.1 (p+A.2.length+1)).1 (p+A.2.length+1+(g A.1 (p+A.2.length+1)).2.length+1)).1),A.2++⟨10,((p+A.2.length+1+(g A.1 (p+A.2.length+1)).2.length+1:Nat):Int),0⟩::((g A.1 (p+A.2.length+1)).2++⟨9,((p+A.2.length+1+(g A.1 (p+A.2.length+1)).2.length+1+(h (g A.1 (p+A.2.length+1)).1 (p+A.2.length+1+(g A.1 (p+A.2.length+1)).2.length+1)).2.length:Nat):Int),0⟩::(h (g A.1 (p+A.2.length+1)).1 (p+A.2.length+1+(g A.1 (p+A.2.length+1)).2.length+1)).2)):=by
  unfold eM;rw[hA]
 rw[hq];obtain⟨g1,g2⟩:=hg.1 A.1 (p+A.2.length+1) f1;have gl:=fun d=>hg.2 A.1 (p+A.2.length+1) nN nC len d e f1;generalize g A.1 (p+A.2.length+1)=B at g1 g2 gl;obtain⟨w1,w2⟩:=hh.1 B.1 (p+A.2.length+1+B.2.length+1) g1;have wl:=fun d=>hh.2 B.1 (p+A.2.length+1+B.2.length+1) nN nC len d e g1;generalize h B.1 (p+A.2.length+1+B.2.length+1)=W at w1 w2 wl;simp only[ybg,ybn];intro hn hc hlen hd hp hz hend hM;have hgm:=g2.mono
 have hwm:=w2.mono;have hfp:=fl.1;have hgp:=(gl d).1;have hwp:=(wl d).1;obtain⟨d1,k1,k2,k3,k4⟩:=fl.2 (by omega) (by omega) (by omega) hd hp (fun k a b=>hz k a (by omega)) (.inl (hz _ (by omega) (by omega))) (by omega);obtain⟨d2,l1,l2,l3,l4,l5⟩:=CJ (nN:=nN) (nC:=nC) (len:=len) (x:=⟨10,((p+A.2.length+1+B.2.length+1:Nat):Int),0⟩) k3 (.inl rfl) rfl rfl (by omega) (by omega) (by omega) (.inl (by grind)) (by omega) (.inl (by grind))
 obtain⟨d3,m1,m2,m3,m4⟩:=(gl d2).2 (by omega) (by omega) (by omega) (by omega) l3 (fun k a b=>by rw[l5 k (by omega) (by omega),k4 k (by omega)];grind) (.inl (by grind)) (by omega);have z:∀k,p+A.2.length+1+B.2.length<k->k≠p+A.2.length+1+B.2.length+1->d3[k]?=d[k]?:=fun k a b=>by rw[m4 k a,l5 k (by omega) b,k4 k (by omega)]
 have hE:d3[p+A.2.length+1+B.2.length+1+W.2.length]?=some 0\/d3[p+A.2.length+1+B.2.length+1+W.2.length]?=some (e+2):=by
  grind
 obtain⟨d5,o1,o2,o3,o4⟩:=CL (nN:=nN) (nC:=nC) (len:=len) (T:=p+A.2.length+1+B.2.length+1+W.2.length) m3 (by omega) (by omega) (by omega) hE;have hT:d5[p+A.2.length+1+B.2.length+1]?=some (e+1):=by
  grind
 obtain⟨d6,q1,q2,q3,q4⟩:=(wl d5).2 (by omega) (by omega) (by omega) (by omega) hT (fun k a b=>by rw[o4 k (by omega),z k (by omega) (by omega)];grind) (.inr o3) (by omega);refine⟨d6,?_,by omega,?_,fun k hk=>?_⟩
 ·rw[Cw,k1];show(rI nN nC len _ (p+A.2.length) d1).bind _=_;rw[l1];show xK nN nC len (B.2++_) (p+A.2.length+1) d2=_;rw[Cw,m1];show(rI nN nC len _ (p+A.2.length+1+B.2.length) d3).bind _=_
  simp_all
 ·grind
 ·rw[q4 k (by omega),o4 k (by omega),z k (by omega) (by omega)]
theorem CU{m:Nat}:∀ {fs:List sH},(∀f∈fs,vP key f m)->∀(s:Nt) (p nN nC len:Nat) (d:List Nat) (e:Nat),aJ key (fun _=>True) s->fs.length<=(pD fs s p).2.length ∧
  ((pD fs s p).1.names.length<=nN->(pD fs s p).1.consts.length<=nC->p+(pD fs s p).2.length<=len->d.length=len+1->d[p]?=some (e+1)->(∀k,p<k->k<=p+(pD fs s p).2.length->d[k]?=some 0)->e+fs.length+m<=65 →
   ∃d',xK nN nC len (pD fs s p).2 p d=some d'/\d'.length=len+1/\d'[p+(pD fs s p).2.length]?=some (e+fs.length+1)/\∀k,p+(pD fs s p).2.length<k->d'[k]?=d[k]?)
 | [],_,s,p,nN,nC,len,d,e,hN=>⟨ybk _,fun hn hc hlen hd hp hz hM=>⟨d,rfl,hd,by grind [pD],fun _ _=>rfl⟩⟩
 | f::l,hf,s,p,nN,nC,len,d,e,hN=>by
  have h0:=hf f (by simp);obtain⟨f1,f2⟩:=h0.1 s p hN;have fl:=h0.2 s p nN nC len d e hN;have gl:=fun d=>CU (fs:=l) (fun g hg=>hf g (by simp[hg])) (f s p).1 (p+(f s p).2.length) nN nC len d (e+1) f1;have gt:=(Lr (fs:=l) (fun g hg=>(hf g (by simp[hg])).1) (f s p).1 (p+(f s p).2.length) f1).2;have hq:pD (f::l) s p=((pD l (f s p).1 (p+(f s p).2.length)).1,(f s p).2++(pD l (f s p).1 (p+(f s p).2.length)).2):=rfl
  rw[hq];generalize f s p=A at f1 f2 fl gl gt;generalize pD l A.1 (p+A.2.length)=B at gl gt;simp only[ybg,ybn];have hgm:=gt.mono;have hfp:=fl.1;have hgp:=(gl d).1
  grind [Cw]
end
end Go.Am
namespace Go.Am
section
variable {key:yB->List Nat}{valid:yB->Bool}
theorem zcu{op n:Nat}{name:List Nat}{v:yB}{s:Nt}{nN nC i len:Nat}(hs:aJ key (fun _=>True) s)(h:gI valid op v n=true)(h15:op≠15)(h16:op≠16)(h18:op≠18)(hop:op<256)
  (hn:(wE key op name v n s).1.names.length<=nN) (hc:(wE key op name v n s).1.consts.length<=nC) :
  wF nN nC (wE key op name v n s).2 i len=true/\cF (wE key op name v n s).2=n/\¬ ((wE key op name v n s).2.op=9\/(wE key op name v n s).2.op=10\/(wE key op name v n s).2.op=11):=by
 obtain⟨_,_,nm,_⟩:=Qn (P:=fun _=>True) (n:=name) hs;unfold gI at h;simp only[ybb,decide_eq_true_eq]at h;obtain⟨⟨_,h1⟩,h2⟩:=h;unfold gF at h1 h2;unfold wE at hn hc ⊢;by_cases c1:op=1
 ·subst c1;simp at h1 h2;subst h2;rw[yab rfl]at hc ⊢;exact⟨ME hs hc,rfl,by simp⟩
 ·rw[yaa c1]at hn hc ⊢;by_cases c2:op=2
  ·subst c2;simp at h1 h2;subst h2;exact⟨rfl,rfl,by simp⟩
  ·rw[yaa c2]at hn hc ⊢;rw[yaa (by omega)]at h1 h2;by_cases c3:op=3\/op=4\/op=5
   ·rw[yab c3]at hn ⊢;have hn1:(n:Int)=1:=by
     rcases c3 with e | e | e<;>subst e<;>simp at h1 h2<;>omega
    refine⟨?_,?_,by grind⟩
    all_goals grind [wF,cF]
   ·rw[yaa c3]at hn hc ⊢;by_cases c6:op=6
    ·subst c6;simp at h1 h2;rw[yab rfl]at hn ⊢;have:(s.name name).names.length<=nN:=hn;refine⟨?_,rfl,by simp⟩
     grind [wF]
    ·rw[yaa c6]at hn hc ⊢;rw[yaa (by omega),yaa c6,yaa (by omega),yaa (by omega)]at h1 h2;by_cases c8:op=21\/op=22\/op=23
     ·rw[yab c8]at hn ⊢;rw[yaa (by omega)]at h1 h2;have:(s.name name).names.length<=nN:=hn;refine⟨?_,?_,by simp⟩
      ·grind [wF,Hp]
      ·rcases c8 with e | e | e<;>subst e<;>simp at h1 h2 <;> (grind [cF,gF])
     ·rw[yaa c8]at hn hc ⊢;by_cases c19:op=19
      ·rw[yab c19]
       grind [wF,Ma,cF,gF]
      ·rw[yaa c19];have hdo:(7<=op/\op<=14)\/op=17\/op=20\/(24<=op/\op<=26):=by
        grind
       refine⟨?_,?_,by simp⟩
       ·grind [wF,Ma]
       ·unfold cF;simp only[];rw[yaa (by omega),yab trivial,show(((op:Nat):Int)%256).toNat=op by omega]
        grind [gF]
theorem zjt(op:Nat):(gF op).2<=3:=by
 grind [gF]
mutual
def Eu:vA->Nat
 | .mk _ _ _ args=>1+Ev args
def Ev:List vA->Nat
 | []=>0
 | x::l=>max (Eu x) (Ev l)
end
theorem vP.mono{f:sH}{m M:Nat}(h:vP key f m)(hm:m<=M):vP key f M:=
 ⟨h.1,fun s p nN nC len d e hN=>⟨(h.2 s p nN nC len d e hN).1,fun a1 a2 a3 a4 a5 a6 a7 a8=>(h.2 s p nN nC len d e hN).2 a1 a2 a3 a4 a5 a6 a7 (by omega)⟩⟩
theorem zb6:vP key (fun s _=>(s,[⟨13,0,0⟩])) 1:=by
 refine⟨fun s p h=>⟨h,.other (by simp_all) (by grind [rJ]) .nil⟩,fun s p nN nC len d e hN=>⟨by simp,fun a1 a2 a3 a4 a5 a6 a7 a8=>?_⟩⟩;obtain⟨d',h1,h2,h3,h4⟩:=Oq (nN:=nN) (nC:=nC) (len:=len) (x:=⟨13,0,0⟩) (v:=e+1) a5 rfl (by simp) (by show(0:Int)+_=_;omega) (by show(0:Int)<=_;omega) (by omega) a7;refine⟨d',?_,by omega,h3,fun k hk=>h4 k (by grind)⟩;show(rI nN nC len _ p d).bind _=_;rw[h1];rfl
theorem snd_op{op:Nat}{name:List Nat}{v:yB}{fs:List sH}{m:Nat}(h:gI valid op v fs.length=true)(h15:op≠15)(h16:op≠16)(h18:op≠18)(hop:op<256)(hf:∀f∈fs,vP key f m)(hl:fs.length<=3) :
  vP key (fun s p=>((wE key op name v fs.length (pD fs s p).1).1,(pD fs s p).2++[(wE key op name v fs.length (pD fs s p).1).2])) (m+2):=by
 have hlt:=Lr (key:=key) (P:=fun _=>True) (fs:=fs) fun f hf'=>(hf f hf').1;refine⟨fun s p hN=>?_,fun s p nN nC len d e hN=>?_⟩
 ·obtain⟨q1,q2⟩:=hlt s p hN;obtain⟨o1,o2⟩:=zh2 (op:=op) (n:=fs.length) (name:=name) (v:=v) q1 (fun _=>trivial);exact⟨o1,q2.append o2⟩
 ·obtain⟨q1,q2⟩:=hlt s p hN;have sl:=CU hf s p nN nC len d e hN;dsimp only;generalize pD fs s p=A at q1 q2 sl;obtain⟨o1,o2⟩:=zh2 (op:=op) (n:=fs.length) (name:=name) (v:=v) q1 (fun _=>trivial);have om:=o2.mono;simp only[ybg,List.length_singleton];refine⟨by omega,fun a1 a2 a3 a4 a5 a6 a7 a8=>?_⟩;obtain⟨s1,s2,s3⟩:=zcu (name:=name) (i:=p+A.2.length) (len:=len) q1 h h15 h16 h18 hop a1 a2
  obtain⟨d1,k1,k2,k3,k4⟩:=sl.2 (by omega) (by omega) (by omega) a4 a5 (fun k x y=>a6 k x (by omega)) (by omega);obtain⟨d',g1,g2,g3,g4⟩:=Oq (nN:=nN) (nC:=nC) (len:=len) (v:=e+1) k3 s1 s3 (by omega) (by omega) (by omega) (by grind);refine⟨d',?_,by omega,g3,fun k hk=>by rw[g4 k (by omega),k4 k (by omega)]⟩;rw[Cw,k1];show(rI nN nC len _ (p+A.2.length) d1).bind _=_;rw[g1];rfl
mutual
theorem BD:∀(x:vA),x.fit->vP key (vC key valid x) (2*Eu x)
 | .mk op name v args,hx=>by
  unfold vA.fit at hx;have ih:=BE args hx.2.2.2.2.2;unfold vC Eu;by_cases h0:gI valid op v (zE key valid args).length=false
  ·have e:lH key valid op name v (zE key valid args)=fun s _=>(s,[⟨13,0,0⟩]):=by
    funext s p;unfold lH;rw[yab h0]
   rw[e];exact zb6.mono (by omega)
  ·have h0:gI valid op v (zE key valid args).length=true:=by simp_all
   have hl:(zE key valid args).length<=3:=by
    have:=h0;unfold gI at this;simp only[ybb,decide_eq_true_eq]at this;have h2:=this.2;have h3:=zjt op;omega
   have hn:=h0;unfold gI at hn;simp only[ybb,decide_eq_true_eq]at hn;by_cases h15:op=15
   ·subst h15;have:(zE key valid args).length=2:=by grind [gF]
    match hfs:zE key valid args,this with
    | [f,g],_=>
     rw[hfs]at ih h0;have e:lH key valid 15 name v [f,g]=tK key f g 10 0:=by
      funext s p;unfold lH;rw[yaa (by grind),yab rfl]
     rw[e];exact CV (ih f (by simp)) (ih g (by simp)) (.inl rfl) (by omega) (by omega) (by omega)
   ·by_cases h16:op=16
    ·subst h16;have:(zE key valid args).length=2:=by grind [gF]
     match hfs:zE key valid args,this with
     | [f,g],_=>
      rw[hfs]at ih h0;have e:lH key valid 16 name v [f,g]=tK key f g 11 1:=by
       funext s p;unfold lH;rw[yaa (by grind),yaa (by decide),yab rfl]
      rw[e];exact CV (ih f (by simp)) (ih g (by simp)) (.inr rfl) (by omega) (by omega) (by omega)
    ·by_cases h18:op=18
     ·subst h18;have:(zE key valid args).length=3:=by grind [gF]
      match hfs:zE key valid args,this with
      | [f,g,h],_=>
       rw[hfs]at ih h0;have e:lH key valid 18 name v [f,g,h]=eM f g h:=by
        funext s p;unfold lH;rw[yaa (by grind),yaa (by decide),yaa (by decide),yab rfl]
       rw[e];exact snd_if (ih f (by simp)) (ih g (by simp)) (ih h (by simp)) (by omega) (by omega) (by omega) (by omega)
     ·have e:lH key valid op name v (zE key valid args)=fun s p=>((wE key op name v (zE key valid args).length (pD (zE key valid args) s p).1).1,(pD (zE key valid args) s p).2++[(wE key op name v (zE key valid args).length (pD (zE key valid args) s p).1).2]):=by
       funext s p;unfold lH;rw[yaa (by grind),yaa h15,yaa h16,yaa h18]
      rw[e];exact(snd_op h0 h15 h16 h18 hx.1 ih hl).mono (by omega)
theorem BE:∀(l:List vA),vA.fits l->∀f∈zE key valid l,vP key f (2*Ev l)
 | [],_,f,hf=>by simp[zE]at hf
 | x::l,h,f,hf=>by
  unfold vA.fits at h;simp only[zE,ybs]at hf;unfold Ev;rcases hf with rfl | hf
  ·exact(BD x h.1).mono (by omega)
  ·exact(BE l h.2 f hf).mono (by omega)
end
theorem YH{x:vA}(hx:x.fit){s:Nt}{nN nC:Nat}(hN:aJ key (fun _=>True) s)(hn:(vC key valid x s 0).1.names.length<=nN)(hc:(vC key valid x s 0).1.consts.length<=nC)(hl:(vC key valid x s 0).2.length<=1000)(hd:2*Eu x<=64) :
  cX nN nC (vC key valid x s 0).2=true:=by
 obtain⟨h1,h2⟩:=(BD (key:=key) (valid:=valid) x hx).2 s 0 nN nC (vC key valid x s 0).2.length (1::List.replicate (vC key valid x s 0).2.length 0) 0 hN
 grind [cX]
end
end Go.Am
namespace Go.Proofs
open Go Go.Am
variable [tC]
variable {t tf:Tr qA}
theorem do_ok{a:Int}:iB yA F 94 [.int .i64 a] t=some (.bool (Ma a)):=by
 refine pC.2 (w94 ?_);simp only[uQ19,bA,tF,t94,tA,vG,qE];grind [Ma,yZ]
theorem zhj{a:Int}:iB yA F 95 [.int .i64 a] t=some (.bool (Hp a)):=by
 refine pC.2 (w95 ?_);simp only[bA,t95,tA,vG];grind [Hp,yZ]
theorem Hm{op:Nat}:iB yA F 60 [.int .u8 (op:Int)] t=some (.bool (decide (op=9\/op=10\/op=11))):=by
 refine pC.2 (w60 ?_);simp only[bA,t60,tA,vG];split
 all_goals refine⟨congrArg zA.bool (Bool.eq_iff_iff.2 ?_),by trivial⟩
 all_goals grind [yZ]
theorem Jy{v9 v10:Bool}{op:Nat}{a b:Int}{Q:xC}(h:Q (.bool (v9&&(if op=6 then(decide (b=1)||decide (b=2))else if op=8 then Hp b else v10))) t):jp 58 45 [.bool v9,.bool v10,.int .u8 (op:Int),.int .i64 a,.int .i64 b] t Q:=by
 have bD:∀ {x y:Bool},Q (.bool (x&&y)) t->jp 58 55 [.bool x,.bool y] t Q:=fun {x y} h=>by
  refine j58_55 ?_;simp only[bA,zez,tA];grind
 refine j58_45 ?_;simp only[uB,uZ,ze0,tA];by_cases h6:op=6
 ·grind [sO]
 ·rw[yaa h6]at h;refine sD (lG (by omega)) ?_;by_cases h8:op=8
  ·subst h8;simp only[if_true]at h;refine sB (by decide) ?_;rw[q95,zhj,xA,lE,xA];grind
  grind [lG]
section
variable {nm:List Nat}{a b c vn vc vw vt:zA}{names:List (List Nat)}{consts:List yB}
theorem RP(hn:sA t 1 (names.map D.str) vn)(hc:sA t 6 (consts.map yB.d) vc){x:XIns}{i len:Nat} :
  iB yA F 58 [.agg [.str nm,a,b,c,vn,vc,vw,vt],.agg [.int .u8 (x.op:Int),.int .i64 x.a,.int .i64 x.b],.int .i64 (i:Int),.int .i64 (len:Int)] t=some (.bool (wF names.length consts.length x i len)):=by
 obtain⟨op,xa,xb⟩:=x;have hnl:tB vn=some (.int .i64 (names.length:Int)):=by rw[hn.len,ybf]
 have hcl:tB vc=some (.int .i64 (consts.length:Int)):=by rw[hc.len,ybf]
 refine pC.2 (w58 ?_);simp only[uQ23,uQ4,uQ0,uQ12,uQ6,uQ21,uI,uB,bA,uZ,uY,t58,tA,hnl,hcl,q94,do_ok,xA,zB,lE];have idx:∀ {n op':Nat} {R:Bool},(op'=op)->((decide (0<=xa)&&decide (xa<n))&&(if op'=6 then(decide (xb=1)||decide (xb=2))else if op'=8 then Hp xb else decide (xb=0)))=R →
   (if eC 0 xa=true then jp 58 45 [.bool (jB xa (n:Int)),.bool (cA xb 0),.int .u8 (op':Int),.int .i64 xa,.int .i64 xb] t (fun v t'=>v=.bool R/\t'=t)else jp 58 45 [.bool false,.bool (cA xb 0),.int .u8 (op':Int),.int .i64 xa,.int .i64 xb] t (fun v t'=>v=.bool R/\t'=t)):=by
  grind [vG,Jy,zin,sO]
 have tgt:∀ {op':Nat} {R:Bool},op'≠6->op'≠8->(decide ((i:Int)<xa)&&decide (xa<=len)&&decide (xb=0))=R →
   (if jB (i:Int) xa=true then jp 58 45 [.bool (eC xa (len:Int)),.bool (cA xb 0),.int .u8 (op':Int),.int .i64 xa,.int .i64 xb] t (fun v t'=>v=.bool R/\t'=t)else jp 58 45 [.bool false,.bool (cA xb 0),.int .u8 (op':Int),.int .i64 xa,.int .i64 xb] t (fun v t'=>v=.bool R/\t'=t)):=by
  grind [aB,Jy,yZ,sO]
 have zero:∀ {op':Nat} {R:Bool},op'≠6->op'≠8->(decide (xa=0)&&decide (xb=0))=R →
   jp 58 45 [.bool (cA xa 0),.bool (cA xb 0),.int .u8 (op':Int),.int .i64 xa,.int .i64 xb] t (fun v t'=>v=.bool R/\t'=t):=by
  intro op' R h6 h8 hR;refine Jy ⟨?_,rfl⟩;rw[<- hR,yaa h6,yaa h8,sO,sO]
 by_cases h1:op=1
 ·subst h1;refine sB (by decide) (idx rfl ?_);unfold wF;simp
 refine sD (lG (by omega)) ?_;by_cases h3:op=3
 ·subst h3;refine sB (by decide) (sB (by decide) (idx rfl ?_));unfold wF;simp
 refine sD (lG (by omega)) ?_;by_cases h4:op=4
 ·subst h4;refine sB (by decide) (sB (by decide) (idx rfl ?_));unfold wF;simp
 refine sD (lG (by omega)) ?_;by_cases h5:op=5
 ·subst h5;refine sB (by decide) (sB (by decide) (idx rfl ?_));unfold wF;simp
 refine sD (lG (by omega)) ?_;by_cases h6:op=6
 ·subst h6;refine sB (by decide) (sB (by decide) (idx rfl ?_));unfold wF;simp
 refine sD (lG (by omega)) ?_;by_cases h8:op=8
 ·subst h8;refine sB (by decide) (idx rfl ?_);unfold wF;simp
 refine sD (lG (by omega)) ?_;by_cases h7:op=7
 ·subst h7;refine sB (by decide) ?_;by_cases hb0:xb=0
  ·refine sB (qE.2 hb0) (Jy ⟨?_,rfl⟩)
   grind [wF]
  ·refine sD (lG hb0) (Jy ⟨?_,rfl⟩)
   grind [sO,wF]
 refine sD (lG (by omega)) ?_;by_cases h9:op=9
 ·subst h9;refine sB (by decide) (sB (by decide) (tgt (by decide) (by decide) ?_));unfold wF;simp
 refine sD (lG (by omega)) ?_;by_cases h10:op=10
 ·subst h10;refine sB (by decide) (sB (by decide) (tgt (by decide) (by decide) ?_));unfold wF;simp
 refine sD (lG (by omega)) ?_;by_cases h11:op=11
 ·subst h11;refine sB (by decide) (tgt (by decide) (by decide) ?_);unfold wF;simp
 refine sD (lG (by omega)) ?_;by_cases h2:op=2
 ·subst h2;refine sB (by decide) (sB (by decide) (zero (by decide) (by decide) ?_));unfold wF;simp
 refine sD (lG (by omega)) ?_;by_cases h12:op=12
 ·subst h12;refine sB (by decide) (sB (by decide) (zero (by decide) (by decide) ?_));unfold wF;simp
 refine sD (lG (by omega)) ?_;by_cases h13:op=13
 ·subst h13;refine sB (by decide) (zero (by decide) (by decide) ?_);unfold wF;simp
 refine sD (lG (by omega)) ⟨congrArg zA.bool ?_,by trivial⟩;unfold wF;simp only[];rw[yaa h1,yaa (by omega),yaa h6,yaa h8,yaa h7,yaa (by omega),yaa (by omega)]
end
end Go.Proofs
namespace Go.Proofs
open Go Go.Am
section
variable [tC]
variable {t tf:Tr qA}
def Rp:List zA:=[.int .i64 0,.int .i64 0,.int .i64 0,.int .i64 1,.int .i64 1,.int .i64 1,.int .i64 0,.int .i64 0,.int .i64 0,.int .i64 0,.int .i64 1,.int .i64 1,.int .i64 1,.int .i64 0]
def Ed{l:List XIns}{v:zA}(hv:sA t 3 (l.map XIns.d) v){i:Nat}{x:XIns}(hx:l[i]?=some x) :
  ∃b off,aA yA 51 v (.int .i64 (i:Int))=some (.ptr b off)/\mA yA 61 ⟨0,t⟩ (.ptr b off)=some (.agg x.cells)/\qB yA 61 0 (.ptr b off)=some (.ptr b (off+0))/\qB yA 61 1 (.ptr b off)=some (.ptr b (off+1))/\qB yA 61 2 (.ptr b off)=some (.ptr b (off+2)) ∧
   mA yA 5 ⟨0,t⟩ (.ptr b (off+0))=some (.int .u8 x.op)/\mA yA 3 ⟨0,t⟩ (.ptr b (off+1))=some (.int .i64 x.a)/\mA yA 3 ⟨0,t⟩ (.ptr b (off+2))=some (.int .i64 x.b):=by
 obtain⟨b,off,cs,g1,g2,g3,_,g5⟩:=eD.at sl51 (by simp) hv (i:=i) (d:=x.d) (by simp[hx]);rw[Wb]at g5;subst g5;exact⟨b,off,g1,g2,by kernel_rfl,by kernel_rfl,by kernel_rfl,g3.load1 pP rfl rfl,g3.load1 zI rfl rfl,g3.load1 zI rfl rfl⟩
theorem zbp(n:Int):dA .u8 n=n%256:=by
 grind [sN,IntKind.wrap,IntKind.bits,IntKind.signed]
def Np(n:Int):dA .u8 n=(((n%256).toNat:Nat):Int):=by
 rw[zbp];omega
def CQ(hg:kM t){x:XIns}(hop:x.op<14):iB yA F 59 [.agg [.int .u8 (x.op:Int),.int .i64 x.a,.int .i64 x.b]] t=some (.tup [.int .i64 (cF x),.int .i64 (pN x:Nat)]):=by
 obtain⟨op,xa,xb⟩:=x;have hop:op<14:=hop;refine jQ (w59 ?_);simp only[uQ13,uQ14,uI,uX,uZ,uY,uQ13,uQ14,uI,uX,uZ,uY,t59,tA];refine sB (by trivial) ?_;intro n hn hnb;obtain⟨t1,a1,a2,a3,a4⟩:=sX (C:=yA) zgw hn;rw[a1,xA];intro n2 _ _;obtain⟨t2,b1,b2,b3⟩:=a2.store (C:=yA) hnb (j:=0) (v:=.agg Rp) zgw rfl (by show 0+14<=14;decide) rfl;have b1:=b1 n2;have b2:kC t2 n none Rp:=b2
 have ht2:iA t t2:=(iA.refl t).off hn (a4.trans b3);unfold Rp at b1;rw[b1,xA];have hg2:=hg.mono ht2;have args:∀ {k:Nat},k<256->iB yA F 96 [.int .u8 (k:Int)] t2=some (.tup [.int .i64 (gF k).1,.int .i64 (gF k).2]):=fun h=>NX h hg2;have bD:∀ {v:zA},v=.tup [.int .i64 (cF ⟨op,xa,xb⟩),.int .i64 (pN ⟨op,xa,xb⟩:Nat)]->(v=.tup [.int .i64 (cF ⟨op,xa,xb⟩),.int .i64 (pN ⟨op,xa,xb⟩:Nat)]/\∀b y,t.get b=some y->t2.get b=some y):=fun h=>⟨h,ht2⟩
 have ia:aA yA 167 (.ptr n 0) (.int .u8 (op:Int))=some (.ptr n (0+op*1)):=by
  unfold aA;have e1:(zA.int .u8 (op:Int)).asNat=some op:=rfl;rw[zgw,uA,e1,uA];simp only[zA.asSlice,zA.asPtr,uA,fD.asArr];rw[zI,uA,sC.2 (by omega)];rfl
 have ld:∀ {k:Int},Rp[op]?=some (.int .i64 k)->mA yA 3 ⟨0,t2⟩ (.ptr n (0+op*1))=some (.int .i64 k):=fun {k} h=>by
  rw[show 0+op*1=op by omega];exact b2.load1 zI rfl h
 by_cases h6:op=6
 ·subst h6;exact sB (by decide) (bD rfl)
 refine sD (lG (by omega)) ?_;by_cases h7:op=7
 ·subst h7;refine sB (by decide) ?_;rw[Np,q96,args (by omega),xA];simp only[gE,zA.asTup,uA,vE,yaz,yba,xA,zB];exact bD rfl
 refine sD (lG (by omega)) ?_;by_cases h8:op=8
 ·subst h8;refine sB (by decide) ?_;rw[Np,q96,args (by omega),xA];simp only[gE,zA.asTup,uA,vE,yaz,yba,xA,zB];exact bD rfl
 refine sD (lG (by omega)) ?_;by_cases h9:op=9
 ·subst h9;refine sB (by decide) (sB (by decide) ?_);rw[ia,xA,ld rfl,xA,zB,xA];exact bD rfl
 refine sD (lG (by omega)) ?_;by_cases h10:op=10
 ·subst h10;refine sB (by decide) (sB (by decide) ?_);rw[ia,xA,ld rfl,xA,zB,xA];exact bD rfl
 refine sD (lG (by omega)) ?_;by_cases h11:op=11
 ·subst h11;refine sB (by decide) ?_;rw[ia,xA,ld rfl,xA,zB,xA];exact bD rfl
 refine sD (lG (by omega)) ?_;have hcase:op=0\/op=1\/op=2\/op=3\/op=4\/op=5\/op=12\/op=13:=by omega
 rw[ia,xA];rcases hcase with e | e | e | e | e | e | e | e<;>subst e <;> (rw[ld rfl,xA,zB,xA];exact bD rfl)
end
section
variable {i len nC nN:Nat}{x:XIns}
variable [tC]
variable {t t0 tf:Tr qA}
theorem EP{d:List Nat}{nb box k v:Nat}{Q:xC}(hown:eF t nb .i64 d)(hcel:kC t box none [.slice nb 0 d.length d.length])(hnb:yA.base<=nb)(hne:box≠nb)(hk:k<d.length)(hv:v<1000000)
  (hS:∀d' t',wO d k (v+1)=some d'->aC nb t t'->eF t' nb .i64 d'->Q (.bool true) t') (hN:wO d k (v+1)=none->Q (.bool false) t):Wc yA F 57 [.int .i64 (k:Int),.int .i64 (v:Int),.ptr box 0] t Q:=by
 have l0:mA yA 123 ⟨0,t⟩ (.ptr box 0)=some (.slice nb 0 d.length d.length):=hcel.load1 xW rfl rfl;have ia:aA yA 123 (.slice nb 0 d.length d.length) (.int .i64 (k:Int))=some (.ptr nb (0+k*1)):=rP Kh hk;have e0:0+k*1=k:=by omega
 rw[e0]at ia;have hx:d[k]?=some d[k]:=ybd hk;have l1:=hown.load (C:=yA) hx zI rfl;have ev:dA .i64 ((v:Int)+1)=((v+1:Nat):Int):=by grind [wrap_i64]
 refine w57 ?_;simp only[uI,kB,uZ,t57,tA];rw[l0,xA,ia,xA,l1,xA,zB,xA,ev];by_cases h0:d[k]=0
 ·rw[h0];refine sB (by decide) ?_;rw[xA,ia,xA];intro n _ _;obtain⟨t',s1,s2,s3⟩:=hown.store (C:=yA) hnb hk (v+1) zI rfl;rw[s1 n,xA];have hc':kC t' box none [.slice nb 0 d.length d.length]:=hcel.off (s3 box hne);have l0':mA yA 123 ⟨0,t'⟩ (.ptr box 0)=some (.slice nb 0 d.length d.length):=hc'.load1 xW rfl rfl;have hx':(d.set k (v+1))[k]?=some (v+1):=by rw[ycw,yab rfl,yab hk]
  have l1':=s2.load (C:=yA) hx' zI rfl;refine j57_7 ?_;simp only[uI,uZ,uW,zha,tA];rw[l0',xA,ia,xA,l1',xA,zB,xA,ev,qE.2 rfl];refine hS _ t' ?_ s3 s2;unfold wO;rw[hx,h0]
 ·obtain⟨w,hw⟩:∃w,d[k]=w+1:=⟨d[k]-1,by omega⟩;refine sD (lG (by omega)) ?_;refine j57_7 ?_;simp only[uI,uZ,uW,zha,tA];grind [xA,zB,aC.refl,wO,sO]
theorem CS  (h:wF nN nC x i len=true):x.op<14:=by
 grind [wF]
theorem Ow  (h:wF nN nC x i len=true)(hj:x.op=9\/x.op=10\/x.op=11):(i:Int)<x.a/\x.a<=len:=by
 grind [wF]
theorem NZ(op:Nat):0<=(gF op).1:=by
 grind [gF]
theorem OA(op:Nat):(gF op).1<=3:=by
 grind [gF]
theorem FE  (h:wF nN nC x i len=true):0<=cF x/\cF x<=3:=by
 have h1:=NZ (x.a%256).toNat;have h2:=OA (x.a%256).toNat;have h3:=NZ (x.b%256).toNat;have h4:=OA (x.b%256).toNat;unfold cF;by_cases h6:x.op=6
 ·rw[yab h6];unfold wF at h;rw[yaa (by omega),yaa (by omega),yab h6]at h
  grind
 omega
def zhq(x:XIns):pN x<=1:=by unfold pN;split<;>omega
section
variable {nm:List Nat}{a b c vn vc vw vt v1:zA}{names:List (List Nat)}{consts:List yB}{code:List XIns}{nb box:Nat}
def Kf(len:Nat):Option (List Nat)->Bool
 | some d=>decide (d[len]?=some 2)
 | none=>false
theorem RO(hv:sA t0 3 (code.map XIns.d) v1)(hn:sA t0 1 (names.map D.str) vn)(hc:sA t0 6 (consts.map yB.d) vc)(hg:kM t0)(hlen:code.length<=1000)(hnb:yA.base<=nb)(hne:box≠nb)(hb0:t0.get nb=none) :
  ∀(l:List XIns) (i:Nat) (d:List Nat) (t:Tr qA),code.drop i=l->d.length=code.length+1->(∀x∈d,x<=66)->eF t nb .i64 d->kC t box none [.slice nb 0 (code.length+1) (code.length+1)]->iA t0 t →
   jp 25 2 [v1,.ptr box 0,.func (.func 57) [] [.ptr box 0],v1,.int .i64 (code.length:Int),.int .i64 (i:Int),.str nm,a,b,c,vn,vc,vw,vt] t (fun v t'=>v=.bool (Kf code.length (xK names.length consts.length code.length l i d))/\iA t0 t'):=by
 intro l;induction l with
 | nil=>
  intro i d t hd hdl hsm hown hcel hle;have hi:code.length<=i:=by
   simp_all
  have hk:code.length<d.length:=by omega
  have hx:d[code.length]?=some d[code.length]:=ybd hk;have l0:mA yA 123 ⟨0,t⟩ (.ptr box 0)=some (.slice nb 0 (code.length+1) (code.length+1)):=hcel.load1 xW rfl rfl;have ia:aA yA 123 (.slice nb 0 (code.length+1) (code.length+1)) (.int .i64 (code.length:Int))=some (.ptr nb (0+code.length*1)):=rP Kh (by omega);rw[show 0+code.length*1=code.length by omega]at ia;refine j25_2 ?_
  simp only[uI,uB,uG,kB,bA,uX,uZ,uY,uW,uA7,zhf,tA];refine sD (fun e=>absurd (aB.1 e) (by omega)) ?_;rw[l0,xA,(hv.mono hle).len,xA,ybf,zB,xA,ia,xA,hown.load hx zI rfl,xA,zB,xA];refine⟨congrArg zA.bool ?_,hle⟩;rw[sO];show _=decide (d[code.length]?=some 2)
  grind
 | cons x l ih=>
  intro i d t hd hdl hsm hown hcel hle;have hi:i<code.length:=by
   grind [List.drop_eq_nil_of_le]
  rw[ybl hi]at hd;injection hd with hd1 hd2;have hxc:code[i]?=some x:=by rw[ybd hi,hd1]
  obtain⟨q,off,g1,g2,_⟩:=Ed (hv.mono hle) hxc;have hk:i<d.length:=by omega
  have hx:d[i]?=some d[i]:=ybd hk;have hsmi:=hsm _ (ycj hk);have l0:mA yA 123 ⟨0,t⟩ (.ptr box 0)=some (.slice nb 0 (code.length+1) (code.length+1)):=hcel.load1 xW rfl rfl;have ia:aA yA 123 (.slice nb 0 (code.length+1) (code.length+1)) (.int .i64 (i:Int))=some (.ptr nb (0+i*1)):=rP Kh (by omega);rw[show 0+i*1=i by omega]at ia;have hz:gG [(.int .u8 0),(.int .i64 0),(.int .i64 0)] (.agg x.cells)=some (cellsOf x.cells):=kN rfl
  refine j25_2 ?_;simp only[uI,uB,uG,kB,bA,uX,uZ,uY,uW,uA7,zhf,tA];refine sB (aB.2 (by omega)) ?_;rw[g1,xA,g2,xA,hz,xA];simp only[XIns.cells,cellsOf,mG,yaz,yba];refine sB (by trivial) ?_;rw[l0,xA,ia,xA,hown.load hx zI rfl,xA,zB,xA];have hL:xK names.length consts.length code.length (x::l) i d=(rI names.length consts.length code.length x i d).bind (xK names.length consts.length code.length l (i+1)):=rfl
  rw[hL];by_cases h0:d[i]=0
  ·have hst:rI names.length consts.length code.length x i d=none:=by
    unfold rI;rw[hx,h0]
   rw[hst];exact sB (qE.2 (by omega)) ⟨rfl,hle⟩
  ·obtain⟨e,he⟩:∃e,d[i]=e+1:=⟨d[i]-1,by omega⟩;refine sD (lG (by omega)) ?_;have hsi:=RP (nm:=nm) (a:=a) (b:=b) (c:=c) (vw:=vw) (vt:=vt) (hn.mono hle) (hc.mono hle) (x:=x) (i:=i) (len:=code.length);rw[(hv.mono hle).len,xA,ybf,zB,xA,q58,hsi,xA,lE,xA];rw[he]at hx
   cases hs:wF names.length consts.length x i code.length with
   | false=>
    have hst:rI names.length consts.length code.length x i d=none:=by
     unfold rI;rw[hx];simp only[];rw[yab hs]
    rw[hst];exact sB (by simp) ⟨rfl,hle⟩
   | true=>
    refine sD (by simp) ?_;have hop:=CS hs;obtain⟨hp1,hp2⟩:=FE hs;have hpu:=zhq x;have hst111:=CQ (hg.mono hle) hop;rw[q59,hst111,xA];simp only[gE,zA.asTup,uA,vE,yaz,yba,xA,zB];have hx2:=hx;rw[l0,xA,ia,xA,hown.load (C:=yA) hx zI rfl,xA,zB,xA];have w1:dA .i64 (((e+1:Nat):Int)-1)=(e:Int):=by grind [wrap_i64]
    have w2:dA .i64 ((e:Int)-cF x)=(e:Int)-cF x:=wrap_i64 (by omega) (by omega);have w3:dA .i64 ((e:Int)-cF x+(pN x:Nat))=(e:Int)-cF x+(pN x:Nat):=wrap_i64 (by omega) (by omega);rw[w1,w2,w3];by_cases hneg:(e:Int)-cF x<0
    ·have hst:rI names.length consts.length code.length x i d=none:=by
      unfold rI;rw[hx];simp only[];rw[yaa (by simp[hs]),yab (.inl hneg)]
     rw[hst];exact sB (aB.2 hneg) ⟨rfl,hle⟩
    refine sD (fun h=>hneg (aB.1 h)) ?_;by_cases hbig:64<(e:Int)-cF x+(pN x:Nat)
    ·have hst:rI names.length consts.length code.length x i d=none:=by
      unfold rI;rw[hx];simp only[];rw[yaa (by simp[hs]),yab (.inr hbig)]
     rw[hst];exact sB (aB.2 hbig) ⟨rfl,hle⟩
    refine sD (fun h=>hbig (aB.1 h)) ?_;obtain⟨v,hv'⟩:∃v:Nat,(e:Int)-cF x+(pN x:Nat)=(v:Int):=⟨((e:Int)-cF x+(pN x:Nat)).toNat,by omega⟩;have hst:rI names.length consts.length code.length x i d=(if x.op=9\/x.op=10\/x.op=11 then wO d x.a.toNat (v+1)else some d).bind fun d'=>if x.op=9 then some d' else wO d' (i+1) (v+1):=by
     unfold rI;rw[hx];simp only[];rw[yaa (by simp[hs]),yaa (by omega),hv',show((v:Nat):Int).toNat=v by omega]
    rw[hst,hv',q60,Hm,xA,lE,xA];have f:∀p q,oM (.func (.func 57) [] [.ptr box 0]) [p,q]=some (57,[p,q,.ptr box 0]):=fun _ _=>rfl;have wi:dA .i64 ((i:Int)+1)=((i+1:Nat):Int):=by rw[wrap_i64 (by omega) (by omega)];omega
    have small:∀ {d d':List Nat} {k:Nat},(∀x∈d,x<=66)->wO d k (v+1)=some d'->(∀x∈d',x<=66)/\d'.length=d.length:=by
     intro d d' k hsm h;unfold wO at h
     cases hdk:d[k]? with
     | none=>rw[hdk]at h;cases h
     | some w=>
      rw[hdk]at h
      cases w with
      | zero=>
       cases h;refine⟨fun y hy=>?_,by simp⟩;rcases List.mem_or_eq_of_mem_set hy with hy | rfl
       ·exact hsm y hy
       ·omega
      | succ w=>
       simp only[]at h;split at h
       ·cases h;exact⟨hsm,rfl⟩
       ·cases h
    have second:∀(d1:List Nat) (t1:Tr qA),d1.length=code.length+1->(∀x∈d1,x<=66)->eF t1 nb .i64 d1->kC t1 box none [.slice nb 0 (code.length+1) (code.length+1)]->iA t0 t1 →
      (if (!cA (x.op:Int) 9)=true then nE (oM (.func (.func 57) [] [.ptr box 0]) [.int .i64 ((i+1:Nat):Int),.int .i64 (v:Int)]) (fun p=>Wq yA F iG p.1 p.2 t1 fun v' t'=>nE v'.asBool fun n=>if (!n)=true then(.bool false:zA)=.bool (Kf code.length ((if x.op=9 then some d1 else wO d1 (i+1) (v+1)).bind (xK names.length consts.length code.length l (i+1))))/\iA t0 t' else jp 25 2 [v1,.ptr box 0,.func (.func 57) [] [.ptr box 0],v1,.int .i64 (code.length:Int),.int .i64 ((i+1:Nat):Int),.str nm,a,b,c,vn,vc,vw,vt] t' (fun v' t'=>v'=.bool (Kf code.length ((if x.op=9 then some d1 else wO d1 (i+1) (v+1)).bind (xK names.length consts.length code.length l (i+1))))/\iA t0 t'))
      else jp 25 2 [v1,.ptr box 0,.func (.func 57) [] [.ptr box 0],v1,.int .i64 (code.length:Int),.int .i64 ((i+1:Nat):Int),.str nm,a,b,c,vn,vc,vw,vt] t1 (fun v' t'=>v'=.bool (Kf code.length ((if x.op=9 then some d1 else wO d1 (i+1) (v+1)).bind (xK names.length consts.length code.length l (i+1))))/\iA t0 t')):=by
     intro d1 t1 hdl1 hsm1 hown1 hcel1 hle1;by_cases h9:x.op=9
     ·rw[yab h9];refine sD (fun h=>absurd (show(x.op:Int)=9 by omega) (zL.1 h)) ?_;exact ih (i+1) d1 t1 hd2 hdl1 hsm1 hown1 hcel1 hle1
     ·rw[yaa h9];refine sB (zL.2 (by omega)) ?_;rw[f,xA];show Wq yA F iG 57 _ _ _;rw[q57];refine EP (v:=v) hown1 (by rw[hdl1];exact hcel1) hnb hne (by omega) (by omega) (fun d2 t2 hr ho hw=>?_) (fun hr=>?_)
      ·rw[lE,xA,hr];obtain⟨s1,s2⟩:=small hsm1 hr;exact sD (by simp) (ih (i+1) d2 t2 hd2 (by omega) s1 hw (hcel1.off (ho box hne)) (hle1.off hb0 ho))
      ·rw[lE,xA,hr];exact sB (by simp) ⟨rfl,hle1⟩
    by_cases hj:x.op=9\/x.op=10\/x.op=11
    ·rw[yab hj,decide_eq_true hj];refine sB (by trivial) ?_;obtain⟨hj1,hj2⟩:=Ow hs hj;obtain⟨T,hT⟩:∃T:Nat,x.a=(T:Int):=⟨x.a.toNat,by omega⟩;rw[hT,show((T:Nat):Int).toNat=T by omega,f,xA];show Wq yA F iG 57 _ _ _;rw[q57];refine EP (v:=v) hown (by rw[hdl];exact hcel) hnb hne (by omega) (by omega) (fun d1 t1 hr ho hw=>?_) (fun hr=>?_)
     ·rw[lE,xA,hr];obtain⟨s1,s2⟩:=small hsm hr;refine sD (by simp) ?_;rw[wi];exact second d1 t1 (by omega) s1 hw (hcel.off (ho box hne)) (hle.off hb0 ho)
     ·rw[lE,xA,hr];exact sB (by simp) ⟨rfl,hle⟩
    simp_all
def RQ(hv:sA t 3 (code.map XIns.d) v1)(hn:sA t 1 (names.map D.str) vn)(hc:sA t 6 (consts.map yB.d) vc)(hg:kM t)(hsz:code.length<1125899906842624) :
  iB yA F 25 [.agg [.str nm,a,b,c,vn,vc,vw,vt],v1] t=some (.bool (cX names.length consts.length code)):=by
 have hlen:tB v1=some (.int .i64 (code.length:Int)):=by rw[hv.len,ybf]
 refine jQ (w25 ?_);simp only[uI,kB,bA,uZ,t25,tA,hlen,xA,zB];unfold cX;by_cases hbig:1000<code.length
 ·rw[decide_eq_false (by omega),Bool.false_and];exact sB (aB.2 (by omega)) ⟨rfl,fun _ _ h=>h⟩
 ·rw[decide_eq_true (by omega),ycn];refine sD (fun h=>absurd (aB.1 h) (by omega)) ?_;rw[wrap_i64 (n:=(code.length:Int)+1) (by omega) (by omega),show(code.length:Int)+1=((code.length+1:Nat):Int) by omega];intro n hn1 hnb;obtain⟨t1,m1,m2,m3,m4⟩:=Dx (C:=yA) xW rfl zI rfl rfl (by decide) (n:=code.length+1) (by omega) hn1;rw[m1,xA];intro w hw hwb;obtain⟨t2,a1,a2,a3,a4⟩:=sX (C:=yA) xW hw
  have hwn:w≠n:=by
   intro e;subst e;obtain⟨cc,hcc,_⟩:=m2;rw[show(zA.slice w 0 (code.length+1) (code.length+1),(⟨w+1,t1⟩:pA)).2.t=t1 from rfl,hcc]at hw;cases hw
  rw[a1,xA];intro w2 _ _;obtain⟨t3,b1,b2,b3⟩:=a2.store1 (C:=yA) hwb (j:=0) (v:=.slice n 0 (code.length+1) (code.length+1)) xW rfl rfl rfl (by show 0<1;decide);have b2:kC t3 w none [.slice n 0 (code.length+1) (code.length+1)]:=b2;have b1:=b1 w2;rw[b1,xA];have o3:eF t3 n .i64 (List.replicate (code.length+1) 0):=(m2.tle a3).off (Ne.symm hwn) b3;have l0:mA yA 123 ⟨0,t3⟩ (.ptr w 0)=some (.slice n 0 (code.length+1) (code.length+1)):=b2.load1 xW rfl rfl
  have ia:aA yA 123 (.slice n 0 (code.length+1) (code.length+1)) (.int .i64 0)=some (.ptr n (0+0*1)):=rP Kh (i:=0) (by omega);rw[l0,xA,ia,xA];intro w3 _ _;obtain⟨t4,c1,c2,c3⟩:=o3.store (C:=yA) hnb (j:=0) (by simp) 1 zI rfl;have c1:=c1 w3;have c1':cC yA 3 (.ptr n (0+0*1)) (.int .i64 1) ⟨w3,t3⟩=some (kD,⟨w3,t4⟩):=c1;rw[c1',xA];have ht1:iA t t1:=m3
  have htw:t.get w=none:=by
   cases hq:t.get w with
   | none=>rfl
   | some y=>
    have:=m3 _ _ hq;have hw':t1.get w=none:=hw;rw[this]at hw';cases hw'
  have ht3:iA t t3:=(ht1.trans a3).off htw b3;have ht4:iA t t4:=ht3.off hn1 c3;have hset:(List.replicate (code.length+1) 0).set 0 1=1::List.replicate code.length 0:=by rw[List.replicate_succ];rfl
  rw[hset]at c2;refine Jq.mono (RO (nm:=nm) (a:=a) (b:=b) (c:=c) (vw:=vw) (vt:=vt) (nb:=n) (box:=w) hv hn hc hg (by omega) hnb hwn hn1 code 0 (1::List.replicate code.length 0) t4 rfl (by simp) (fun x hx=>?_) c2 (b2.off (c3 w hwn)) ht4) fun v u hh=>⟨hh.1.trans ?_,hh.2⟩
  ·rcases ybs.1 hx with rfl | hx
   ·omega
   ·have:=List.eq_of_mem_replicate hx;omega
  ·unfold Kf;cases xK names.length consts.length code.length code 0 (1::List.replicate code.length 0)<;>rfl
end
end
end Go.Proofs
namespace Go.Am
def Ja:rE:=⟨⟨false,[]⟩,⟨false,[]⟩⟩
def jH:yB:=⟨0,Ja,0⟩
section
variable (names:List (List Nat))(consts:List yB)(code:List XIns)(same:yB->yB->Bool)
def iF(x:XIns)(args:List vA):vA:=
 if x.op=1 then .mk 1 [] (consts.getD x.a.toNat jH) args
 else if x.op=3\/x.op=4\/x.op=5\/x.op=6 then .mk x.op (names.getD x.a.toNat []) jH args
 else if x.op=8 then .mk (x.b%256).toNat (names.getD x.a.toNat []) jH args
 else if x.op=7 then .mk (x.a%256).toNat [] ⟨0,Ja,x.b⟩ args
 else .mk 2 [] jH args
def yX(rd:Nat->Nat->Option vA)(first:vA)(at_ to:Nat):Option (vA × Nat):=
 match code[at_]? with
 | none=>none
 | some x=>
  if x.op=9 then none
  else if x.a<at_+2 then none
  else if (to:Int)<=x.a then none
  else match code[x.a.toNat-1]?,code[x.a.toNat-2]?,code[x.a.toNat]? with
   | some j,some k,some last=>
    if j.op≠9 then none
    else if (to:Int)<j.a then none
    else if k.op=12 then
     match rd (at_+1) (x.a.toNat-2)with
     | none=>none
     | some y=>if j.a=x.a+1/\last.op=1/\same (consts.getD last.a.toNat jH) (eE (if x.op=11 then 1 else 0))=true then some (.mk (if x.op=11 then 16 else 15) [] jH [first,y],j.a.toNat)else none
    else
     match rd (at_+1) (x.a.toNat-1)with
     | none=>none
     | some y=>if x.op≠10 then none else
      match rd x.a.toNat j.a.toNat with
      | none=>none
      | some z=>some (.mk 18 [] jH [first,y,z],j.a.toNat)
   | _,_,_=>none
def rT:Option (List vA)->Option vA
 | some [x]=>some x
 | _=>none
def iI:Nat->Nat->Nat->List vA->Option (List vA)
 | 0,_,_,_=>none
 | f+1,i,to,st=>
  if to<=i then some st
  else match code[i]? with
   | none=>none
   | some x=>
    if x.op=9\/x.op=10\/x.op=11 then
     match st.getLast? with
     | none=>none
     | some top=>
      match yX consts code same (fun a b=>rT (iI f a b [])) top i to with
      | none=>none
      | some (y,next)=>iI f next to (st.dropLast++[y])
    else if x.op=12\/(st.length:Int)<cF x then none
    else iI f (i+1) to (st.take (st.length-(cF x).toNat)++[iF names consts x (st.drop (st.length-(cF x).toNat))])
end
end Go.Am
namespace Go.Am
open Go Go.RowKit
variable {cl:List (List zA)}{T el i k n:Nat}{d:D}{agg:Bool}{x:zA}
section
variable {t tf:Tr qA}{C:fA}
def mJ (base:Nat)(tf t:Tr qA)(sz:Nat)(l:List D)(v:zA):Prop:=
 (v=.nilslice/\l=[])\/∃b cl c cap,v=.slice b 0 l.length cap/\l.length<=cap/\0<cap/\cap<400000/\base<=b/\tf.get b=none/\t.get b=some (.cells c (cap*sz) (some (.sz sz))) ∧
  (∀(i:Nat) cs,cl[i]?=some cs->cs.length=sz/\∀(j:Nat) a,cs[j]?=some a->c.get (i*sz+j)=some a)/\qC tf l cl
theorem qC.take'{l:List D}  (h:qC t l cl):qC t (l.take k) (cl.take k):=by
 have hl:=h.length;refine qC.mk (by rw[yda,yda,hl]) fun i d cs h1 h2=>?_;rw[ydf]at h1 h2;split at h1
 ·rename_i e;rw[yab e]at h2;obtain⟨cs',h3,h4⟩:=h.get h1
  simp_all
 grind
theorem qC.drop'{l:List D}  (h:qC t l cl):qC t (l.drop k) (cl.drop k):=by
 have hl:=h.length;refine qC.mk (by rw[ydj,ydj,hl]) fun i d cs h1 h2=>?_;rw[yde]at h1 h2;obtain⟨cs',h3,h4⟩:=h.get h1
 simp_all
theorem qC.app:∀ {l m:List D} {cl cm:List (List zA)},qC tf l cl->qC tf m cm->qC tf (l++m) (cl++cm):=by
 intro l;induction l with
 | nil=>grind [bE]
 | cons d l ih=>
  grind [uF]
variable {base sz:Nat}{l:List D}{v:zA}
theorem mJ.read(h:mJ base tf t sz l v)(ht:iA tf t):sA t sz l v:=by
 rcases h with⟨rfl,rfl⟩ | ⟨b,cl,c,cap,rfl,h0,_,_,_,_,h1,h2,h3⟩
 ·exact⟨[],.inl ⟨rfl,rfl⟩,bE.2 rfl⟩
 ·have hlen:=h3.length;refine⟨cl,.inr ⟨b,0,cap,by rw[hlen],by omega,⟨c,_,_,h1,.inr ⟨_,rfl,rfl⟩⟩,fun i cs hi=>⟨(h2 i cs hi).1,c,_,_,h1,fun j a hj=>?_⟩⟩,qC.mono ht _ _ h3⟩
  simp_all
theorem mJ.keep{t' tf':Tr qA}(h:mJ base tf t sz l v)(hf:iA tf tf')(hk:∀b,xI v b->t'.get b=t.get b/\tf'.get b=Option.none):mJ base tf' t' sz l v:=by
 rcases h with⟨rfl,rfl⟩ | ⟨b,cl,c,cap,rfl,g1,g2,g3,h0,h1,h2,h3,h4⟩
 ·exact .inl ⟨rfl,rfl⟩
 ·obtain⟨k1,k2⟩:=hk b (tO.2 rfl);exact .inr ⟨b,cl,c,cap,rfl,g1,g2,g3,h0,k2,by simp_all,h3,qC.mono hf _ _ h4⟩
theorem mJ.live(h:mJ base tf t sz l v){b:Nat}(hb:xI v b):∃y,t.get b=some y:=by
 rcases h with⟨rfl,rfl⟩ | ⟨c,cl,x,cap,rfl,_,_,_,h1,h2,h3,_⟩
 all_goals grind [Mc,tO]
def wK (base sz:Nat)(l:List D)(v:zA):xD where
 blks:=pF v
 ok:=fun tf t=>mJ base tf t sz l v
 keep:=fun h hf k=>h.keep hf fun b hb=>k b (uO.2 hb)
 live:=fun h k hk=>h.live (uO.1 hk)
theorem mJ.elem (hT:eD C T el sz true)(h:mJ base tf t sz l v)  (hi:l[i]?=some d) :
  ∃p o cs,aA C T v (.int .i64 (i:Int))=some (.ptr p o)/\mA C el ⟨0,t⟩ (.ptr p o)=some (.agg cs)/\RD tf d cs/\cs.length=sz:=by
 rcases h with⟨rfl,rfl⟩ | ⟨b,cl,c,cap,rfl,h0,hp,hc4,hbb,h1,h2,h3,h4⟩
 ·simp at hi
 ·have hlen:=h4.length;have hlt:i<l.length:=(ybc.1 hi).1;obtain⟨cs,g1,g2⟩:=h4.get hi;obtain⟨g3,g4⟩:=h3 i cs g1;refine⟨b,0+i*sz,cs,rP hT hlt,?_,g2,g3⟩;obtain⟨_,⟨z,hz1,hz2,hz3⟩⟩:=hT;have ha:At t b (0+i*sz) cs:=⟨c,_,_,h2,fun j a hj=>by simp_all⟩;have:=ha.load (j:=0) hz1 hz3 hz2 (by omega)
  grind
theorem XP{sz:Nat}{y:qA} (h:iH t sz (.slice n 0 k k) cl)(hy:t.get n=some y):iH (tf.set n y) sz (.slice n 0 k k) cl:=by
 rcases h with⟨h,_⟩ | ⟨b,off,cap,e,h1,⟨c,m,lo,h2,h3⟩,h4⟩
 ·cases h
 ·have eb:n=b:=by grind
  have eo:0=off:=by grind
  subst eb eo;refine .inr ⟨n,0,cap,e,h1,⟨c,m,lo,by rw[Tr.get_set,yab rfl,<- hy,h2],h3⟩,fun i cs hi=>?_⟩;obtain⟨k1,c',m',lo',k2,k3⟩:=h4 i cs hi;exact⟨k1,c',m',lo',by rw[Tr.get_set,yab rfl,<- hy,k2],k3⟩
theorem mJ.front  (hT:eD C T el sz agg)(h:mJ base tf t sz l v) (hk:k<=l.length) :
  ∃v',nF C T ⟨0,t⟩ v none (some (.int .i64 (k:Int)))=some v'/\mJ base tf t sz (l.take k) v'/\pF v'=pF v:=by
 obtain⟨⟨y,hy1,hy2⟩,⟨z,hz1,hz2,hz3⟩⟩:=hT;have hb:∀y,xU y (.int .i64 (k:Int))=vB (Nat.ble k y) (some k):=fun y=>rfl;rcases h with⟨rfl,rfl⟩ | ⟨b,cl,c,cap,rfl,h0,hp,hc4,hbb,h1,h2,h3,h4⟩
 ·have:k=0:=by simp_all
  subst this;refine⟨.nilslice,?_,.inl ⟨rfl,rfl⟩,rfl⟩;unfold nF;rw[hy1,uA];unfold aK;simp only[zA.asStr,zA.asSlice,zA.asPtr];rw[hy2,uA,hz1,uA];rfl
 ·refine⟨.slice b 0 k cap,?_,.inr ⟨b,cl.take k,c,cap,?_,?_,hp,hc4,hbb,h1,h2,fun i cs hi=>?_,h4.take'⟩,rfl⟩
  ·unfold nF;rw[hy1,uA];unfold aK;simp only[zA.asStr,zA.asSlice];rw[hy2,uA];unfold qN;rw[hz1,uA];unfold qO wX;simp only[hb];rw[show Nat.ble k cap=true from pE.2 (by omega)];simp only[mD,uA];have he2:kJ ⟨0,t⟩ b z.size cap 0 false=false:=by
    simp_all [kJ,rD,qA.asCells]
   have hf:jK ⟨0,t⟩ b z.size cap 0 false=true:=by
    simp_all [jK,rD,qA.asCells]
   rw[he2,yay,cond_false,show Nat.ble k cap=true from pE.2 (by omega),hf];simp only[Bool.and_self,mD];congr 1;cases hq:Nat.beq cap 0<;>simp
  all_goals grind
theorem mJ.back  (hT:eD C T el sz agg)(h:mJ base tf t sz l v)(hz0:∃c n,t.get 0=some (.cells c n none)) (hk:k<=l.length) :
  ∃v' cl',nF C T ⟨0,t⟩ v (some (.int .i64 (k:Int))) none=some v'/\iH t sz v' cl'/\qC tf (l.drop k) cl':=by
 obtain⟨⟨y,hy1,hy2⟩,⟨z,hz1,hz2,hz3⟩⟩:=hT;have hb:∀y,xU y (.int .i64 (k:Int))=vB (Nat.ble k y) (some k):=fun y=>rfl;rcases h with⟨rfl,rfl⟩ | ⟨b,cl,c,cap,rfl,h0,hp,hc4,hbb,h1,h2,h3,h4⟩
 ·have:k=0:=by simp_all
  subst this;refine⟨.nilslice,[],?_,.inl ⟨rfl,rfl⟩,by simp[qC]⟩;unfold nF;rw[hy1,uA];unfold aK;simp only[zA.asStr,zA.asSlice,zA.asPtr];rw[hy2,uA,hz1,uA];rfl
 ·have hlen:=h4.length;have pre:nF C T ⟨0,t⟩ (.slice b 0 l.length cap) (some (.int .i64 (k:Int))) none=(bif Nat.ble l.length cap&&Nat.ble k l.length&&kJ ⟨0,t⟩ b z.size cap k false then some (.slice 0 1 0 0)else vB (Nat.ble l.length cap&&jK ⟨0,t⟩ b z.size cap k false) (some (.slice b (bif Nat.beq cap k then 0 else 0+k*z.size) (l.length-k) (cap-k)))):=by
   unfold nF;rw[hy1,uA];unfold aK;simp only[zA.asStr,zA.asSlice];rw[hy2,uA];unfold qN;rw[hz1,uA];unfold qO wX;simp only[hb];rw[uA,show Nat.ble k l.length=true from pE.2 hk];simp only[mD,uA];rw[show Nat.ble k l.length=true from pE.2 hk]
  rw[pre,show Nat.ble l.length cap=true from pE.2 h0,show Nat.ble k l.length=true from pE.2 hk];by_cases hend:k=cap
  ·have he2:kJ ⟨0,t⟩ b z.size cap k false=true:=by
    grind [gC,kJ,rD,uA,qA.asCells,Lo.es_sz]
   rw[he2];obtain⟨cz,nz,hcz⟩:=hz0;refine⟨.slice 0 1 0 0,[],rfl,.inr ⟨0,1,0,rfl,ybk _,⟨cz,nz,none,hcz,.inl rfl⟩,fun i cs hi=>by simp at hi⟩,?_⟩
   grind [bE]
  ·have he2:kJ ⟨0,t⟩ b z.size cap k false=false:=by
    unfold kJ rD;rw[h2,uA];simp[qA.asCells];omega
   have hf:jK ⟨0,t⟩ b z.size cap k false=true:=by
    unfold jK rD;rw[h2,uA];have:Nat.beq cap k=false:=by
     grind [gC]
    simp_all [qA.asCells]
   have hq:Nat.beq cap k=false:=by
    grind [gC]
   rw[he2,hf,hq,cond_false,hz2];refine⟨_,cl.drop k,rfl,.inr ⟨b,0+k*sz,cap-k,by rw[ydj,hlen],by grind,⟨c,_,_,h2,.inr ⟨_,rfl,rfl⟩⟩,fun i cs hi=>?_⟩,h4.drop'⟩;rw[yde]at hi;obtain⟨g1,g2⟩:=h3 _ cs hi;refine⟨g1,c,_,_,h2,fun j a hj=>?_⟩
   grind
theorem mJ.push (hT:mK C T el sz)(h:mJ C.base tf t sz l v)  {cs:List zA}(hx:iH t sz x [cs])(hd:RD tf d cs)(hone:∀a∈cs,zA.one a=true)(hl:l.length<300000) (hn:t.get n=none)(hbase:C.base<=n)(ht:iA tf t) :
  ∃v' t' n',qD C T T v x ⟨n,t⟩=some (v',⟨n',t'⟩)/\mJ C.base tf t' sz (l++[d]) v'/\iA tf t'/\(∀c,¬ xI v c->¬ xI v' c->t'.get c=t.get c)/\(∀c,xI v' c->xI v c\/c=n):=by
 have asLoose:∀ {w:zA},Loose C.base tf t sz l w->w=v->(v=.nilslice\/∃b,v=.slice b 0 l.length l.length)->∃v' t' n',qD C T T v x ⟨n,t⟩=some (v',⟨n',t'⟩)/\mJ C.base tf t' sz (l++[d]) v'/\iA tf t'/\(∀c,¬ xI v c->¬ xI v' c->t'.get c=t.get c)/\(∀c,xI v' c->xI v c\/c=n):=by
  intro w hw e _;subst e;obtain⟨t',g1,g2,g3,g4⟩:=Bk (C:=C) hT hw hx (m:=[d]) (uF.2 ⟨cs,[],rfl,hd,bE.2 rfl⟩) (by simp_all) (by simp) (by grind) hn hbase ht;refine⟨_,t',_,g1,?_,g3,fun c k1 k2=>g4 c (fun e=>k2 (tO.2 e)) k1,fun c hc=>.inr (tO.1 hc)⟩;rcases g2 with⟨g2,_⟩ | ⟨b,cl,c,e,q1,q2,q3,q4,q5⟩
  ·cases g2
  ·have eb:n=b:=by grind
   subst eb;exact .inr ⟨_,cl,c,l.length+1,by simp,by simp,by omega,by omega,q1,q2,by simp_all,q4,q5⟩
 rcases h with⟨rfl,rfl⟩ | ⟨b,cl,c,cap,rfl,h0,hp,hc4,hbb,h1,h2,h3,h4⟩
 ·exact asLoose (w:=.nilslice) (.inl ⟨rfl,rfl⟩) rfl (.inl rfl)
 ·by_cases hfull:l.length=cap
  ·subst hfull;exact asLoose (w:=.slice b 0 l.length l.length) (.inr ⟨b,cl,c,rfl,hbb,h1,h2,h3,h4⟩) rfl (.inr ⟨b,rfl⟩)
  ·obtain⟨⟨y,hy1,hy2,hy3⟩,⟨z,hz1,hz2,hz3,hz4,hz5⟩,hnb⟩:=hT;have hcode:=NB.code hnb hz1;obtain⟨hf,hlen⟩:=hx.first (n:=n);have hcl:=h4.length;have hcs:cs.length=sz:=(hx.len 0 cs (by simp));have e1:List.flatten [cs]=cs:=by simp
   rw[e1]at hf;have hne:cs≠[]:=by
    grind
   have key:qD C T T (.slice b 0 l.length cap) x ⟨n,t⟩=some (.slice b 0 (l.length+1) cap,⟨n,t.set b (.cells (c.setMany cs (l.length*sz)) (cap*sz) (some (.sz sz)))⟩):=by
    unfold qD pR;rw[hy1,uA,uA,hy3];simp only[ycl,mD];rw[hy2,uA,hz1,uA,hlen,uA,hz2,hf,uA];simp only[zA.asSlice];have g1:Nat.ble (l.length+[cs].length) cap=true:=pE.2 (by grind);rw[g1,cond_true];unfold sV;obtain⟨a0,r0,hcs0⟩:∃a r,cs=a::r:=by
     cases cs with
     | nil=>simp_all
     | cons a r=>simp_all
    have g2:lJ C ⟨n,t⟩ b (0+l.length*z.size) cs=some (setBlk ⟨n,t⟩ b (.cells (c.setMany cs (l.length*sz)) (cap*sz) (some (.sz sz)))):=by
     unfold lJ;have q1:(!Nat.blt b C.base)=true:=by
      grind [sC]
     rw[q1,mD];unfold rD;rw[h2,uA];simp only[qA.asCells,uA];have q2:Nat.ble (0+l.length*z.size+wB cs) (cap*sz)=true:=pE.2 (by
      rw[oD,hcs,hz2];have:=ybi sz (show l.length+1<=cap by omega)
      grind)
     have q3:zD zA.one cs=true:=by grind [cE]
     rw[q2,q3,hz2,ybw];rfl
    rw[hcs0]at g2 ⊢;simp only[];rw[g2,uA];rfl
   refine⟨_,_,_,key,.inr ⟨b,cl++[cs],c.setMany cs (l.length*sz),cap,by simp,by grind,hp,hc4,hbb,h1,by rw[Tr.get_set,yab rfl],fun i cs' hi=>?_,qC.app h4 (uF.2 ⟨cs,[],rfl,hd,bE.2 rfl⟩)⟩,fun k u hk=>?_,fun k k1 k2=>?_,fun k hk=>.inl (tO.2 (tO.1 hk))⟩
   ·rw[List.getElem?_append]at hi;split at hi
    ·rename_i hlt;obtain⟨k1,k2⟩:=h3 i cs' hi;refine⟨k1,fun j a hj=>?_⟩;have hjl:j<sz:=by grind
     have:i*sz+j<l.length*sz:=by
      have:=ybi sz (show i+1<=l.length by omega)
      grind
     grind [Tr.get_setMany]
    grind [Tr.get_setMany]
   ·have h5:k≠b:=by grind
    rw[Tr.get_set,yaa h5];exact ht _ _ hk
   grind [Tr.get_set,tO]
theorem mJ.set{S:Nat} {y:lD}(hT:eD C T el sz agg)(hS:C.tys.get S=some y)(h:mJ C.base tf t sz l v) (hi:i<l.length){w:zA} (hw:w.cells.length=sz)(hy:y.size=sz)(hone:zD zA.one w.cells=true)(hd:RD tf d w.cells)(ht:iA tf t) :
  ∃p o t',aA C T v (.int .i64 (i:Int))=some (.ptr p o)/\(∀n,cC C S (.ptr p o) w ⟨n,t⟩=some (kD,⟨n,t'⟩))/\mJ C.base tf t' sz (l.set i d) v/\iA tf t'/\(∀c,¬ xI v c->t'.get c=t.get c):=by
 rcases h with⟨rfl,rfl⟩ | ⟨b,cl,c,cap,rfl,h0,hp,hc4,hbb,h1,h2,h3,h4⟩
 ·simp at hi
 ·have hcl:=h4.length;refine⟨b,0+i*sz,t.set b (.cells (c.setMany w.cells (i*sz)) (cap*sz) (some (.sz sz))),rP hT hi,fun n=>?_,.inr ⟨b,cl.set i w.cells,c.setMany w.cells (i*sz),cap,by simp,by simp_all,hp,hc4,hbb,h1,by rw[Tr.get_set,yab rfl],fun j cs hj=>?_,h4.set hd⟩,fun k u hk=>?_,fun k hk=>?_⟩
  ·unfold cC;rw[hS,uA];simp only[zA.asPtr,uA];have q0:Nat.beq (wB w.cells) y.size=true:=by grind [oD,gC]
   rw[q0,mD];unfold lJ;have q1:(!Nat.blt b C.base)=true:=by
    grind [sC]
   rw[q1,mD];unfold rD;rw[h2,uA];simp only[qA.asCells,uA];have q2:Nat.ble (0+i*sz+wB w.cells) (cap*sz)=true:=pE.2 (by
    rw[oD,hw];have:=ybi sz (show i+1<=cap by omega)
    grind)
   rw[q2,hone,ybw];rfl
  ·rw[ycw]at hj;split at hj
   ·grind [Tr.get_setMany]
   ·rename_i hne;obtain⟨k1,k2⟩:=h3 j cs hj;refine⟨k1,fun k a hk=>?_⟩;have hkl:k<sz:=by grind
    have:¬ (i*sz<=j*sz+k/\j*sz+k<i*sz+w.cells.length):=by
     rw[hw];rcases Nat.lt_or_gt_of_ne hne with hlt | hlt
     ·have:=ybi sz (show i+1<=j by omega)
      grind
     ·have:=ybi sz (show j+1<=i by omega)
      grind
    grind [Tr.get_setMany]
  ·have h5:k≠b:=by grind
   rw[Tr.get_set,yaa h5];exact ht _ _ hk
  grind [Tr.get_set,tO]
def ZN (hT:mK C T el sz) (hx:iH t sz x [])  : qD C T T .nilslice x ⟨n,t⟩=some (.nilslice,⟨n,t⟩):=by
 obtain⟨⟨y,hy1,hy2,hy3⟩,⟨z,hz1,hz2,hz3,hz4,hz5⟩,hnb⟩:=hT;have hcode:=NB.code hnb hz1;obtain⟨hf,hlen⟩:=hx.first (n:=n);unfold qD pR;rw[hy1,uA,uA,hy3];simp only[ycl,mD];rw[hy2,uA,hz1,uA,hlen,uA,hz2,hf,uA];rfl
end
end Go.Am
namespace Go.Proofs
open Go Go.Am
variable {b:Nat}
variable [tC]
variable {t tf:Tr qA}
theorem Ll{op:Nat}{name:List Nat}{v:yB}{args:List vA}{a b c:zA}(ha:sA t 1 (wC v.f.n.limbs) a)(hb:sA t 1 (wC v.f.d.limbs) b)(hc:sA t 9 (args.map vA.d) c):RD t (vA.mk op name v args).d (oC (.mk op name v args) a b c):=by
 unfold vA.d oC;rw[yJ,vA.ds_eq];refine⟨[[.int .u8 op],[.str name],[.int .u8 v.kind,.bool v.f.n.neg,a,.bool v.f.d.neg,b,.int .i64 v.i],[c]],rfl,?_⟩;rw[uF];refine⟨_,_,rfl,rfl,?_⟩;rw[uF];refine⟨_,_,rfl,rfl,?_⟩
 grind [uF,mY,cL,bE]
def Ep  : qB yA 86 0 (.ptr b 0)=some (.ptr b 0):=by kernel_rfl
def Ru  : qB yA 86 1 (.ptr b 0)=some (.ptr b 8):=by kernel_rfl
structure Rdr (tf:Tr qA) (rb:Nat) (names:List (List Nat)) (consts:List yB) (code:List XIns):Prop where
 box:∃nm a b c vn vc vw vt v1,kC tf rb none [.str nm,a,b,c,vn,vc,vw,vt,v1]/\sA tf 1 (names.map D.str) vn/\sA tf 6 (consts.map yB.d) vc/\sA tf 3 (code.map XIns.d) v1
 short:∀v∈consts,yB.mid v
 sound:∀i x,code[i]?=some x->wF names.length consts.length x i code.length=true
 len:code.length<=1000
 glob:kM tf
 zero:∃c n,tf.get 0=some (.cells c n none)
section
variable {rb:Nat}{names:List (List Nat)}{consts:List yB}{code:List XIns}{L:List xD}{Q:xC}
theorem kC.mono {lo:Option Lo}{cs:List zA}(h:kC tf b lo cs)(ht:iA tf t):kC t b lo cs:=by
 obtain⟨c,h1,h2⟩:=h;exact⟨c,ht _ _ h1,h2⟩
theorem Rdr.mono{tf':Tr qA}(h:Rdr tf rb names consts code)(ht:iA tf tf'):Rdr tf' rb names consts code:=by
 obtain⟨nm,a,b,c,vn,vc,vw,vt,v1,h1,h2,h3,h4⟩:=h.box;obtain⟨cz,nz,hz⟩:=h.zero;exact⟨⟨nm,a,b,c,vn,vc,vw,vt,v1,kC.mono h1 ht,h2.mono ht,h3.mono ht,h4.mono ht⟩,h.short,h.sound,h.len,h.glob.mono ht,⟨cz,nz,ht _ _ hz⟩⟩
theorem RZ(h:Rdr tf rb names consts code)(ho:Objs yA.base tf t L){i:Nat}{x:XIns}(hx:code[i]?=some x)(hj:¬ (x.op=9\/x.op=10\/x.op=11))(h12:x.op≠12)
  (hQ:∀tf' t' a b,iA tf tf'->Objs yA.base tf' t' L->sA tf' 1 (wC (iF names consts x []).v.f.n.limbs) a->sA tf' 1 (wC (iF names consts x []).v.f.d.limbs) b->Q (.agg (oC (iF names consts x []) a b .nilslice)) t') :
  Wc yA F 64 [.ptr rb 0,.agg [.int .u8 (x.op:Int),.int .i64 x.a,.int .i64 x.b]] t Q:=by
 obtain⟨nm,a,b,c,vn,vc,vw,vt,v1,h1,h2,h3,h4⟩:=h.box;have h1t:=kC.mono h1 ho.tle;have hs:=h.sound i x hx;have ldc:mA yA 30 ⟨0,t⟩ (.ptr rb 5)=some vc:=h1t.load1 Ab rfl rfl;have ldn:mA yA 29 ⟨0,t⟩ (.ptr rb 4)=some vn:=h1t.load1 Cq rfl rfl;obtain⟨op,xa,xb⟩:=x;have named:∀ {k:Nat},(0<=xa/\xa<(names.length:Int))->∃p o s,aA yA 29 vn (.int .i64 xa)=some (.ptr p o)/\mA yA 9 ⟨0,t⟩ (.ptr p o)=some (.str s)/\names.getD xa.toNat []=s:=by
  intro _ hr;obtain⟨j,rfl⟩:∃j:Nat,xa=(j:Int):=⟨xa.toNat,by omega⟩;have hj:j<names.length:=by omega
  obtain⟨p,o,cs,g1,g2,_,_,g5⟩:=eD.at sl29 (fun _=>rfl) (h2.mono ho.tle) (i:=j) (d:=.str names[j]) (by simp[hj]);rw[gV]at g5;subst g5;exact⟨p,o,names[j],g1,g2,by simp_all⟩
 have zn:∀ {tf:Tr qA},sA tf 1 (wC jH.f.n.limbs) .nilslice:=fun {tf}=>kP;refine w64 ?_;simp only[uS,uG,fB,jC,uZ,uY,uA6,t64,tA];rw[bK];by_cases e1:op=1
 ·subst e1;unfold wF at hs;simp only[if_true,ybb,decide_eq_true_eq]at hs;obtain⟨⟨hs1,hs2⟩,hs3⟩:=hs;obtain⟨j,rfl⟩:∃j:Nat,xa=(j:Int):=⟨xa.toNat,by omega⟩;have hjl:j<consts.length:=by omega
  have hcj:consts[j]?=some consts[j]:=ybd hjl;obtain⟨p,o,u,w,g1,g2,g3,g4,g5⟩:=Nx (h3.mono ho.tle) hcj;obtain⟨p',o',u',w',k1,k2,_,k4,k5⟩:=Nx h3 hcj;have e:p=p'/\o=o':=by simp_all
  obtain⟨rfl,rfl⟩:=e;have e2:=tQ (H:=⟨0,tf⟩) (HA:=⟨0,t⟩) (fun _ _ k=>ho.tle _ _ k) k2;rw[g2]at e2;have e3:u=u'/\w=w':=by simp_all
  obtain⟨rfl,rfl⟩:=e3;refine sB (by decide) ?_;rw[xA,Ep,xA,En,xA,ldc,xA,g1,xA,g2,xA,g3,xA];simp only[cellsOf,mG,tG,zG,gH,yaz,yba];rw[q46];refine Ze ho (h.short _ (ycj hjl)) k4 k5 fun tf' t' a' b' m1 m2 m3 m4=>?_;have hz:gG [(.int .u8 0),(.bool false),.nilslice,(.bool false),.nilslice,(.int .i64 0)] (.agg [.int .u8 consts[j].kind,.bool consts[j].f.n.neg,a',.bool consts[j].f.d.neg,b',.int .i64 consts[j].i])=some (cellsOf [.int .u8 consts[j].kind,.bool consts[j].f.n.neg,a',.bool consts[j].f.d.neg,b',.int .i64 consts[j].i]):=tI (mY m3 m4) (yB.zs _)
  rw[hz,xA];simp only[cellsOf,mG,tG,zG,gH,yaz,yba];have hone:zD zA.one [(.int .u8 1),(.str []),(.int .u8 consts[j].kind),(.bool consts[j].f.n.neg),a',(.bool consts[j].f.d.neg),b',(.int .i64 consts[j].i),.nilslice]=true:=by
   rw[cE];simp only[ycg,yck,m3.one,m4.one];rfl
  refine sB (by trivial) (sB hone ?_);have es:iF names consts ⟨1,(j:Int),xb⟩ []=.mk 1 [] consts[j] []:=by
   grind [iF]
  rw[es]at hQ;exact hQ tf' t' a' b' m1 m2 m3 m4
 refine sD (lG (by omega)) ?_;by_cases e3:op=3\/op=4\/op=5
 ·have hr:0<=xa/\xa<(names.length:Int):=by
   grind [wF]
  obtain⟨p,o,s,g1,g2,g3⟩:=named (k:=0) hr;have es:iF names consts ⟨op,xa,xb⟩ []=.mk op s jH []:=by
   unfold iF;simp only[];rw[yaa e1,yab (by omega),g3]
  rw[es]at hQ;have bD:=hQ tf t .nilslice .nilslice (iA.refl _) ho zn zn;rcases e3 with e3 | e3 | e3<;>subst e3
  ·refine sB (by decide) ?_;rw[xA,Ep,xA,Eo,xA,ldn,xA,g1,xA,g2,xA,rK,xA];exact sB (by trivial) (sB (by trivial) bD)
  ·refine sD (by decide) (sB (by decide) ?_);rw[xA,Ep,xA,Eo,xA,ldn,xA,g1,xA,g2,xA,rK,xA];exact sB (by trivial) (sB (by trivial) bD)
  ·refine sD (by decide) (sD (by decide) (sB (by decide) ?_));rw[xA,Ep,xA,Eo,xA,ldn,xA,g1,xA,g2,xA,rK,xA];exact sB (by trivial) (sB (by trivial) bD)
 refine sD (lG (by omega)) (sD (lG (by omega)) (sD (lG (by omega)) ?_));by_cases e6:op=6
 ·subst e6;have hr:0<=xa/\xa<(names.length:Int):=by
   grind [wF]
  obtain⟨p,o,s,g1,g2,g3⟩:=named (k:=0) hr;have es:iF names consts ⟨6,xa,xb⟩ []=.mk 6 s jH []:=by
   unfold iF;simp only[];rw[yaa e1,yab (by decide),g3]
  rw[es]at hQ;refine sB (by decide) ?_;rw[xA,Ep,xA,Eo,xA,ldn,xA,g1,xA,g2,xA,rK,xA];exact sB (by trivial) (sB (by trivial) (hQ tf t .nilslice .nilslice (iA.refl _) ho zn zn))
 refine sD (lG (by omega)) ?_;by_cases e8:op=8
 ·subst e8;have hr:0<=xa/\xa<(names.length:Int):=by
   grind [wF]
  obtain⟨p,o,s,g1,g2,g3⟩:=named (k:=0) hr;have es:iF names consts ⟨8,xa,xb⟩ []=.mk (xb%256).toNat s jH []:=by
   unfold iF;simp only[];rw[yaa e1,yaa (by omega),yab trivial,g3]
  rw[es]at hQ;refine sB (by decide) ?_;rw[xA,Ep,xA,Eo,xA,ldn,xA,g1,xA,g2,xA,rK,xA,Np];exact sB (by trivial) (sB (by trivial) (hQ tf t .nilslice .nilslice (iA.refl _) ho zn zn))
 refine sD (lG (by omega)) ?_;by_cases e7:op=7
 ·subst e7;have es:iF names consts ⟨7,xa,xb⟩ []=.mk (xa%256).toNat [] ⟨0,Ja,xb⟩ []:=by
   unfold iF;simp only[];rw[yaa e1,yaa (by omega),yaa e8,yab trivial]
  rw[es]at hQ;rw[Np];exact sB (by decide) (sB (by trivial) (sB (by trivial) (sB (by trivial) (hQ tf t .nilslice .nilslice (iA.refl _) ho kP kP))))
 have es:iF names consts ⟨op,xa,xb⟩ []=.mk 2 [] jH []:=by
  unfold iF;simp only[];rw[yaa e1,yaa (by omega),yaa e8,yaa e7]
 rw[es]at hQ;exact sD (lG (by omega)) (sB (by trivial) (sB (by trivial) (hQ tf t .nilslice .nilslice (iA.refl _) ho zn zn)))
end
end Go.Proofs
