/- Plans without expressions. -/
import Derived.Carry
import Derived.ChangeArms
import Derived.HandedShaped
import Derived.JoinedOf
import Derived.LaidMore
import Derived.OpenShut
import Derived.ProofKit
import Derived.Stop.Joined
import Derived.Test.YthmbkdkibhffbaaGreatDoorRows
import GoSem.ClaimJoined
import Derived.Test.YthmbkdkibhffbaaGreatDoorG15
set_option linter.all false
noncomputable section
set_option maxRecDepth 100000
namespace Go.Proofs
open Go Go.Am
variable [dC]
variable {t tf:Tr jA}
def mH:uA:=.mk 0 [] ⟨0,⟨⟨false,[]⟩,⟨false,[]⟩⟩,0⟩ []
def xM(c:jD):jD:=⟨c.name,c.label,c.from_,c.to,c.known,c.off,mH,mH⟩
theorem el22:zK yA 22 79 3:=⟨⟨_,ty22,rfl,rfl⟩,⟨_,ty79,rfl,rfl,by decide,by decide⟩⟩
theorem el23:zK yA 23 82 3:=⟨⟨_,ty23,rfl,rfl⟩,⟨_,ty82,rfl,rfl,by decide,by decide⟩⟩
theorem el24:zK yA 24 52 24:=⟨⟨_,ty24,rfl,rfl⟩,⟨_,ty52,rfl,rfl,by decide,by decide⟩⟩
theorem el80:zK yA 80 85 7:=⟨⟨_,ty80,rfl,rfl⟩,⟨_,ty85,rfl,rfl,by decide,by decide⟩⟩
theorem zop{T sz:Nat}{l:List D}{v:zA}(hv:oA t sz l v)(h1:(wL .eql).f yA T (.tmp 3) (.const (.slice none 0 0)) .nilslice .nilslice=some (.bool true))(h2:∀b o n c,(wL .eql).f yA T (.tmp 3) (.const (.slice none 0 0)) (.slice b o n c) .nilslice=some (.bool false)):(wL .eql).f yA T (.tmp 3) (.const (.slice none 0 0)) v .nilslice=some (.bool (Nat.beq v.tag 5)):=by
 obtain⟨cl,h,_⟩:=hv
 rcases h with⟨rfl,_⟩ | ⟨b,off,cap,rfl,_⟩
 ·exact h1
 ·exact h2 _ _ _ _
theorem z7c{L:List lD}{l:List D}{x:zA}{Q:cB}(hx:oA tf 3 l x)(h:Objs yA.base tf t L)(hl:l.length<1000000)(hQ:∀tf' t' v,cA tf tf'->Objs yA.base tf' t' (oS yA.base 3 l v::L)->Q v t'):Wc yA F 99 [x] t Q:=
 w99 _ (fY el22 (zop hx (by kernel_rfl) fun b o n c=>by kernel_rfl) hx h hl hQ)
theorem z1v{L:List lD}{l:List D}{x:zA}{Q:cB}(hx:oA tf 3 l x)(h:Objs yA.base tf t L)(hl:l.length<1000000)(hQ:∀tf' t' v,cA tf tf'->Objs yA.base tf' t' (oS yA.base 3 l v::L)->Q v t'):Wc yA F 100 [x] t Q:=
 w100 _ (fY el23 (zop hx (by kernel_rfl) fun b o n c=>by kernel_rfl) hx h hl hQ)
theorem z1u{L:List lD}{l:List D}{x:zA}{Q:cB}(hx:oA tf 7 l x)(h:Objs yA.base tf t L)(hl:l.length<1000000)(hQ:∀tf' t' v,cA tf tf'->Objs yA.base tf' t' (oS yA.base 7 l v::L)->Q v t'):Wc yA F 101 [x] t Q:=
 w101 _ (fY el80 (zop hx (by kernel_rfl) fun b o n c=>by kernel_rfl) hx h hl hQ)
theorem z1t{L:List lD}{l:List D}{x:zA}{Q:cB}(hx:oA tf 24 l x)(h:Objs yA.base tf t L)(hl:l.length<1000000)(hQ:∀tf' t' v,cA tf tf'->Objs yA.base tf' t' (oS yA.base 24 l v::L)->Q v t'):Wc yA F 103 [x] t Q:=
 w103 _ (fY el24 (zop hx (by kernel_rfl) fun b o n c=>by kernel_rfl) hx h hl hQ)
theorem zda{A B:List lD}{sz:Nat}{l:List D}{v:zA}(h:Objs yA.base tf t (A++oS yA.base sz l v::B)):oA t sz l v:=z5p (h.ok (oS yA.base sz l v) (by simp)) h.tle
theorem zn0{α:Type}{l:List α}{i:Nat}{d:α}(h:l[i]?=some d):l.set i d=l:=by
 apply List.ext_getElem?
 intro k;rw[ybx];split
 ·rename_i e;subst e
  rw[if_pos (yad.1 h).1];exact h.symm
 ·rfl
theorem mk_row{x:uF}{u v:zA}(hu:oA t 1 (jC x.f.n.limbs) u)(hv:oA t 1 (jC x.f.d.limbs) v):RD t x.d [.int .i64 x.a,.int .i64 x.b,.int .i64 x.known,.bool x.f.n.neg,u,.bool x.f.d.neg,v]:=by
 unfold uF.d;rw[kI];refine⟨[[.int .i64 x.a],[.int .i64 x.b],[.int .i64 x.known],[.bool x.f.n.neg,u,.bool x.f.d.neg,v]],rfl,?_⟩
 simp only[zE,oE,gL];exact⟨_,_,rfl,rfl,_,_,rfl,rfl,_,_,rfl,rfl,_,_,rfl,zl3 hu hv,rfl⟩
theorem z0i{x:vF}{v:zA}(hv:oA t 7 (x.rows.map uF.d) v):RD t x.d [.str x.name,.bool x.two,v]:=by
 unfold vF.d;rw[kI];refine⟨[[.str x.name],[.bool x.two],[v]],rfl,?_⟩
 simp only[zE,oE,zN,cQ,aJ];exact⟨_,_,rfl,rfl,_,_,rfl,rfl,_,_,rfl,⟨v,rfl,hv⟩,rfl⟩
def sG:List zA:=[.int .u8 0,.str [],.int .u8 0,.bool false,.nilslice,.bool false,.nilslice,.int .i64 0,.nilslice]
theorem pN:RD t mH.d sG:=by
 unfold mH uA.d sG;rw[kI];refine⟨[[.int .u8 0],[.str []],[.int .u8 0,.bool false,.nilslice,.bool false,.nilslice,.int .i64 0],[.nilslice]],rfl,?_⟩
 rw[zE];refine⟨_,_,rfl,gL.2 rfl,?_⟩
 rw[zE];refine⟨_,_,rfl,zN.2 rfl,?_⟩
 rw[zE];refine⟨_,_,rfl,zfm (x:=⟨0,⟨⟨false,[]⟩,⟨false,[]⟩⟩,0⟩) zM zM,?_⟩
 rw[zE];refine⟨_,_,rfl,?_,oE.2 rfl⟩
 rw[aJ];exact⟨.nilslice,rfl,zM⟩
theorem zde{x:jD}{cs ds:List zA}(h1:RD t x.when_.d cs)(h2:RD t x.then_.d ds):RD t x.d ([.str x.name,.str x.label,.int .i64 x.from_,.int .i64 x.to,.int .i64 x.known,.bool x.off]++(cs++ds)):=by
 unfold jD.d;rw[kI];refine⟨[[.str x.name],[.str x.label],[.int .i64 x.from_],[.int .i64 x.to],[.int .i64 x.known],[.bool x.off],cs,ds],by simp,?_⟩
 simp only[zE,oE,zN,gL,cQ];exact⟨_,_,rfl,rfl,_,_,rfl,rfl,_,_,rfl,rfl,_,_,rfl,rfl,_,_,rfl,rfl,_,_,rfl,rfl,_,_,rfl,h1,_,_,rfl,h2,rfl⟩
theorem zuh{r:uF}{two:Bool}(h:wO two r=true):r.f.n.limbs.length<400/\r.f.d.limbs.length<400:=by
 unfold wO at h;simp only[yac]at h;have h:=h.2
 unfold yR at h;simp only[yac,decide_eq_true_eq]at h;have h1:=h.1.1.1.1.1.1
 have h2:=h.1.1.1.1.1.2
 exact⟨by omega,by omega⟩
theorem znm{x:vF}(h:eP x=true):x.rows.length<=400/\∀r∈x.rows,r.f.n.limbs.length<400/\r.f.d.limbs.length<400:=by
 unfold eP at h;simp only[yac,decide_eq_true_eq,ybq,List.any_eq_false]at h;exact⟨h.1.1.2,fun r hr=>zuh (two:=x.two) (by have:=h.2 r hr;simpa using this)⟩
section
variable {L:List lD}{p:cH}{a c:zA}
theorem zx9{i:Nat}{x:vF}{vt vr:zA}{Q:cB}(hx:p.tables[i]?=some x)(hv:eP x=true) :
  ∀(m j:Nat) (t tf:Tr jA),j+m=x.rows.length->Objs yA.base tf t (oS yA.base 7 (x.rows.map uF.d) vr::oS yA.base 3 (p.tables.map vF.d) vt::L) →
  (∀tf' t',cA tf tf'->Objs yA.base tf' t' (oS yA.base 3 (p.tables.map vF.d) vt::L)->jp 51 2 [vt,.int .i64 (p.tables.length:Int),.int .i64 ((i+1:Nat):Int),.str p.name,a,vt,c,.str [],.nilslice,.nilslice,.nilslice] t' Q)->i<1000000 →
  jp 51 6 [.int .i64 (i:Int),vr,vt,.int .i64 (p.tables.length:Int),.int .i64 (i:Int),vr,.int .i64 (x.rows.length:Int),.int .i64 (j:Int),.str p.name,a,vt,c,.str [],.nilslice,.nilslice,.nilslice] t Q:=by
 obtain⟨hr1,hr2⟩:=znm hv
 intro m;induction m with
 | zero=>
  intro j t tf hj h hQ hi;refine j51_6 _ _ _ _ _ _ _ _ _ _ _ _ _ _ _ _ ?_
  simp only[z4v,pA,mB];rw[if_neg (by omega)]
  obtain⟨tf1,k1,k2,k3⟩:=Objs.freezeS (A:=[]) h
  have hix:(p.tables.map vF.d)[i]?=some x.d:=by rw[yav,hx];rfl
  obtain⟨q,g1,t1,g2,g3⟩:=Objs.storeS (A:=[]) (w:=vr) (o:=2) (S:=80) k2 hix sl23 (d':=x.d) ty80 (by
   obtain⟨cl,hh,_⟩:=k3
   rcases hh with⟨rfl,_⟩ | ⟨_,_,_,rfl,_⟩<;>rfl) (by
   obtain⟨cl,hh,_⟩:=k3
   rcases hh with⟨rfl,_⟩ | ⟨_,_,_,rfl,_⟩ <;> (show 2+1<=3;decide)) (by
   have:=k3.one
   obtain⟨cl,hh,_⟩:=k3
   rcases hh with⟨rfl,_⟩ | ⟨_,_,_,rfl,_⟩<;>rfl) (fun cs hc hrd=>by
   obtain⟨w,rfl,_⟩:=zbr hrd
   have e:zJ [.str x.name,.bool x.two,w] 2 vr.cells=[.str x.name,.bool x.two,vr]:=by
    obtain⟨cl,hh,_⟩:=k3
    rcases hh with⟨rfl,_⟩ | ⟨_,_,_,rfl,_⟩<;>rfl
   rw[e];exact z0i k3)
  rw[zn0 hix]at g3;have fa:pB yA 82 2 (.ptr q (0+i*3))=some (.ptr q (0+i*3+2)):=by
   unfold pB sS;rw[ty82,sA];rfl
  rw[g1,xA,fa,xA];intro n _ _;rw[g2,xA,fB (by omega) (by omega),show(i:Int)+1=((i+1:Nat):Int) by omega]
  exact hQ tf1 t1 k1 g3
 | succ m ih=>
  intro j t tf hj h hQ hi;have hlt:j<x.rows.length:=by omega
  have hjr:x.rows[j]?=some x.rows[j]:=yae hlt
  have hsl:oA t 7 (x.rows.map uF.d) vr:=zda (A:=[]) h
  obtain⟨b,off,u,w,g1,g2,gx,gy,g5⟩:=zn7 hsl hlt
  have hown:(oS yA.base 7 (x.rows.map uF.d) vr).ok tf t:=h.ok (oS yA.base 7 (x.rows.map uF.d) vr) (by simp)
  have hne:x.rows.map uF.d≠[]:=by intro e;have:=congrArg List.length e;simp at this;simp[this]at hlt
  obtain⟨nb,hvr,ho⟩:=zjb hne hown
  obtain⟨cs,_,hrd,hat⟩:=ho.cells (i:=j) (d:=x.rows[j].d) (by simp[hjr])
  obtain⟨u',w',rfl,hu',hw'⟩:=zod hrd
  have g1':zB yA 80 vr (.int .i64 (j:Int))=some (.ptr nb (0+j*7)):=by rw[hvr];exact dL sl80 (by simpa using hlt)
  rw[g1']at g1;have hEq:b=nb/\off=0+j*7:=by cases g1;exact⟨rfl,rfl⟩
  rw[hEq.1,hEq.2]at g2;have ld2:mA yA 85 ⟨0,t⟩ (.ptr nb (0+j*7))=some (.agg [.int .i64 x.rows[j].a,.int .i64 x.rows[j].b,.int .i64 x.rows[j].known,.bool x.rows[j].f.n.neg,u',.bool x.rows[j].f.d.neg,w']):=by
   have:=hat.load (C:=yA) (j:=0) ty85 rfl rfl (by simp)
   rw[yax];exact this
  rw[ld2]at g2;have e3:u'=u/\w'=w:=by cases g2;exact⟨rfl,rfl⟩
  rw[e3.1]at hu'
  rw[e3.2]at hw'
  rw[e3.1,e3.2]at ld2;have hs:=hr2 _ (ybk hlt)
  refine j51_6 _ _ _ _ _ _ _ _ _ _ _ _ _ _ _ _ ?_
  simp only[z4v,pA,mB];rw[if_pos (by omega),g1',xA,ld2,xA,g5,xA]
  simp only[cellsOf,yG,lF,sF,yaa,yab];have hone:bB zA.one [.int .i64 x.rows[j].a,.int .i64 x.rows[j].b,.int .i64 x.rows[j].known,.bool x.rows[j].f.n.neg,u,.bool x.rows[j].f.d.neg,w]=true:=by
   rw[oG];simp only[ybh,ybl,gx.one,gy.one];rfl
  refine xB hone ?_
  rw[if_pos trivial,q102];refine zmt (v:=⟨0,x.rows[j].f,0⟩) h (zit (v:=⟨0,x.rows[j].f,0⟩) ⟨hs.1,hs.2⟩) hu' hw' fun tf1 t1 a' b' k1 k2 k3 k4=>?_
  have hz:qG [(.int .u8 0),(.bool false),.nilslice,(.bool false),.nilslice,(.int .i64 0)] (.agg [.int .u8 ((0:Nat):Int),.bool x.rows[j].f.n.neg,a',.bool x.rows[j].f.d.neg,b',.int .i64 0])=some (cellsOf [.int .u8 ((0:Nat):Int),.bool x.rows[j].f.n.neg,a',.bool x.rows[j].f.d.neg,b',.int .i64 0]):=iL (by
   show(true&&(true&&(gG .nilslice a'&&(true&&(gG .nilslice b'&&true)))))=true
   rw[yI k3,yI k4];rfl)
  rw[hz,xA];simp only[cellsOf,lF,sF,yaa,yab];have hix:(x.rows.map uF.d)[j]?=some x.rows[j].d:=by simp[hjr]
  obtain⟨q,f1,t2,f2,f3⟩:=Objs.storeS (A:=[]) (w:=.agg [.bool x.rows[j].f.n.neg,a',.bool x.rows[j].f.d.neg,b']) (o:=3) (S:=45) k2 hix sl80 (d':=x.rows[j].d) ty45 rfl (by show 3+4<=7;decide) (by
   show bB zA.one [.bool x.rows[j].f.n.neg,a',.bool x.rows[j].f.d.neg,b']=true
   rw[oG];simp only[ybh,ybl,k3.one,k4.one];rfl) (fun cs hc hrd=>by
   obtain⟨u1,w1,rfl,_,_⟩:=zod hrd
   exact mk_row k3 k4)
  rw[zn0 hix]at f3;have fa:pB yA 85 3 (.ptr nb (0+j*7))=some (.ptr nb (0+j*7+3)):=by
   unfold pB sS;rw[ty85,sA];rfl
  have eq:q=nb:=by rw[g1']at f1;cases f1;rfl
  rw[eq]at f2;rw[xA,fa,xA];intro n _ _;rw[f2,xA,fB (by omega) (by omega),show(j:Int)+1=((j+1:Nat):Int) by omega]
  exact ih (j+1) t2 tf1 (by omega) f3 (fun tf' t' m1 m2=>hQ tf' t' (k1.trans m1) m2) hi
theorem zkj{vc vt:zA}{Q:cB}(hn:p.clauses.length<1000000) :
  ∀(m i:Nat) (t tf:Tr jA),i+m=p.clauses.length->Objs yA.base tf t (oS yA.base 24 ((((p.clauses.take i).map xM)++p.clauses.drop i).map jD.d) vc::L) →
  (∀t',Objs yA.base tf t' (oS yA.base 24 ((p.clauses.map xM).map jD.d) vc::L)->Q (.agg [.str p.name,a,vt,vc]) t')->zA.one a=true->zA.one vt=true →
  jp 51 10 [.int .i64 (p.clauses.length:Int),.int .i64 (i:Int),.str p.name,a,vt,vc,.str [],.nilslice,.nilslice,.nilslice] t Q:=by
 intro m;induction m with
 | zero=>
  intro i t tf hi h hQ ha ht;refine z29 _ _ _ _ _ _ _ _ _ _ ?_
  simp only[zs4,pA,mB];rw[if_neg (by omega)]
  have hsl:oA t 24 _ vc:=zda (A:=[]) h
  have hone:bB zA.one [.str p.name,a,vt,vc]=true:=by rw[oG];simp only[ybh,ybl,ha,ht,hsl.one];rfl
  rw[if_pos hone];rw[ybb (by omega),yau (by omega),ybe]at h
  exact hQ t h
 | succ m ih=>
  intro i t tf hi h hQ ha ht;have hlt:i<p.clauses.length:=by omega
  have hx:p.clauses[i]?=some p.clauses[i]:=yae hlt
  have hlen:((p.clauses.take i).map xM).length=i:=by simp;omega
  have hget:((((p.clauses.take i).map xM)++p.clauses.drop i).map jD.d)[i]?=some p.clauses[i].d:=by
   rw[yav,yaq (by omega),hlen,Nat.sub_self,ycf,ybu,hx];rfl
  have hsl:oA t 24 _ vc:=zda (A:=[]) h
  refine z29 _ _ _ _ _ _ _ _ _ _ ?_
  simp only[zs4,pA,mB];rw[if_pos (by omega),if_pos trivial,if_pos trivial]
  obtain⟨q,g1,t1,g2,g3⟩:=Objs.storeS (A:=[]) (w:=.agg sG) (o:=6) (S:=50) h hget sl24 (d':=(⟨p.clauses[i].name,p.clauses[i].label,p.clauses[i].from_,p.clauses[i].to,p.clauses[i].known,p.clauses[i].off,mH,p.clauses[i].then_⟩:jD).d) z2d rfl (by show 6+9<=24;decide) rfl (fun cs hc hrd=>by
   obtain⟨u1,u2,u3,w1,w2,w3,rfl,h1,h2⟩:=zc2 hrd
   exact zde (x:=⟨p.clauses[i].name,p.clauses[i].label,p.clauses[i].from_,p.clauses[i].to,p.clauses[i].known,p.clauses[i].off,mH,p.clauses[i].then_⟩) pN h2)
  have fa:pB yA 52 6 (.ptr q (0+i*24))=some (.ptr q (0+i*24+6)):=by
   unfold pB sS;rw[ty52,sA];rfl
  rw[g1,xA,fa,xA];intro n _ _;rw[show(zA.agg [.int .u8 0,.str [],.int .u8 0,.bool false,.nilslice,.bool false,.nilslice,.int .i64 0,.nilslice])=.agg sG from rfl,g2,xA,if_pos hsl.same]
  have hget2:(((((p.clauses.take i).map xM)++p.clauses.drop i).map jD.d).set i (⟨p.clauses[i].name,p.clauses[i].label,p.clauses[i].from_,p.clauses[i].to,p.clauses[i].known,p.clauses[i].off,mH,p.clauses[i].then_⟩:jD).d)[i]?=some (⟨p.clauses[i].name,p.clauses[i].label,p.clauses[i].from_,p.clauses[i].to,p.clauses[i].known,p.clauses[i].off,mH,p.clauses[i].then_⟩:jD).d:=by
   rw[ybx,if_pos rfl,if_pos (by simp;omega)]
  obtain⟨q2,f1,t2,f2,f3⟩:=Objs.storeS (A:=[]) (w:=.agg sG) (o:=15) (S:=50) g3 hget2 sl24 (d':=(xM p.clauses[i]).d) z2d rfl (by show 15+9<=24;decide) rfl (fun cs hc hrd=>by
   obtain⟨u1,u2,u3,w1,w2,w3,rfl,h1,h2⟩:=zc2 hrd
   exact zde (x:=xM p.clauses[i]) h1 pN)
  rw[List.set_set]at f3;have fb:pB yA 52 7 (.ptr q2 (0+i*24))=some (.ptr q2 (0+i*24+15)):=by
   unfold pB sS;rw[ty52,sA];rfl
  rw[f1]at g1
  cases g1
  simp only[xA,fb];intro n2 _ _;rw[f2,xA,fB (by omega) (by omega),show(i:Int)+1=((i+1:Nat):Int) by omega]
  have hset:((((p.clauses.take i).map xM)++p.clauses.drop i).map jD.d).set i (xM p.clauses[i]).d=(((p.clauses.take (i+1)).map xM)++p.clauses.drop (i+1)).map jD.d:=by
   have e1:p.clauses.drop i=p.clauses[i]::p.clauses.drop (i+1):=yam hlt
   have e2:p.clauses.take (i+1)=p.clauses.take i++[p.clauses[i]]:=by rw[ych,hx];rfl
   rw[e1,e2,List.map_append (f:=jD.d),ybn (f:=jD.d),zcw (by simp;omega),List.map_append (f:=xM)]
   simp only[List.map_append,ybn,List.map_nil,yba,List.singleton_append]
  rw[hset]at f3;exact ih (i+1) t2 tf (by omega) f3 hQ ha ht
end
end Go.Proofs
namespace Go.Proofs
open Go Go.Am
variable [dC]
variable {t tf:Tr jA}
section
variable {L:List lD}{p:cH}{a c:zA}
theorem zm1{vt:zA}{Q:cB}(hp:p.fit)(hb:dN p=true)(ha:zA.one a=true) :
  ∀(m i:Nat) (t tf:Tr jA),i+m=p.tables.length->Objs yA.base tf t (oS yA.base 3 (p.tables.map vF.d) vt::L)->oA tf 24 (p.clauses.map jD.d) c →
  (∀tf' t' vc,cA tf tf'->Objs yA.base tf' t' (oS yA.base 24 ((p.clauses.map xM).map jD.d) vc::oS yA.base 3 (p.tables.map vF.d) vt::L)->Q (.agg [.str p.name,a,vt,vc]) t') →
  jp 51 2 [vt,.int .i64 (p.tables.length:Int),.int .i64 (i:Int),.str p.name,a,vt,c,.str [],.nilslice,.nilslice,.nilslice] t Q:=by
 unfold dN at hb;simp only[yac,decide_eq_true_eq]at hb;obtain⟨⟨⟨⟨hb1,hb2⟩,hb3⟩,hb4⟩,hb5⟩:=hb
 intro m;induction m with
 | zero=>
  intro i t tf hi h hc hQ;refine j51_2 _ _ _ _ _ _ _ _ _ _ _ ?_
  simp only[z4w,pA,mB];rw[if_neg (by omega),q103]
  refine z1t hc h (by rw[yag];omega) fun tf1 t1 vc k1 k2=>?_
  have hsl:oA t1 24 _ vc:=zda (A:=[]) k2
  have hone:bB zA.one [vc]=true:=by rw[oG];simp only[ybh,ybl,hsl.one];rfl
  rw[if_pos hone,hsl.len,xA,yag,yB,xA];have hvt:oA t1 3 _ vt:=zda (A:=[oS yA.base 24 (p.clauses.map jD.d) vc]) k2
  exact zkj (p:=p) (vt:=vt) (by omega) p.clauses.length 0 t1 tf1 (by omega) (by simpa using k2) (fun t' h'=>hQ tf1 t' vc k1 h') ha hvt.one
 | succ m ih=>
  intro i t tf hi h hc hQ;have hlt:i<p.tables.length:=by omega
  have hx:p.tables[i]?=some p.tables[i]:=yae hlt
  have hv:eP p.tables[i]=true:=ybc.1 hb5 _ (ybk hlt)
  have hr:=(znm hv).1
  have hown:(oS yA.base 3 (p.tables.map vF.d) vt).ok tf t:=h.ok (oS yA.base 3 (p.tables.map vF.d) vt) (by simp)
  have hne:p.tables.map vF.d≠[]:=by intro e;have:=congrArg List.length e;simp at this;simp[this]at hlt
  obtain⟨nb,hvt,ho⟩:=zjb hne hown
  obtain⟨cs,_,hrd,hat⟩:=ho.cells (i:=i) (d:=p.tables[i].d) (by simp[hx])
  have hz:=jL hrd (vF.zs _)
  obtain⟨w,rfl,hw⟩:=zbr hrd
  have g1:zB yA 23 vt (.int .i64 (i:Int))=some (.ptr nb (0+i*3)):=by rw[hvt];exact dL sl23 (by simpa using hlt)
  have ld:mA yA 82 ⟨0,t⟩ (.ptr nb (0+i*3))=some (.agg [.str p.tables[i].name,.bool p.tables[i].two,w]):=by
   have:=hat.load (C:=yA) (j:=0) ty82 rfl rfl (by simp)
   rw[yax];exact this
  have hone:bB zA.one [.str p.tables[i].name,.bool p.tables[i].two,w]=true:=by rw[oG];simp only[ybh,ybl,hw.one];rfl
  refine j51_2 _ _ _ _ _ _ _ _ _ _ _ ?_
  simp only[z4w,pA,mB];rw[if_pos (by omega),g1,xA,ld,xA,hz,xA]
  simp only[cellsOf,dG,lF,sF,yaa,yab];refine xB hone ?_
  rw[q101];refine z1u hw h (by rw[yag];omega) fun tf1 t1 vr k1 k2=>?_
  have hsl:oA t1 7 _ vr:=zda (A:=[]) k2
  rw[hsl.len,xA,yag,yB,xA];refine zx9 (a:=a) (c:=c) hx hv p.tables[i].rows.length 0 t1 tf1 (by omega) k2 (fun tf2 t2 m1 m2=>?_) (by omega)
  exact ih (i+1) t2 tf2 (by omega) m2 (hc.mono (k1.trans m1)) fun tf3 t3 vc n1 n2=>hQ tf3 t3 vc (k1.trans (m1.trans n1)) n2
theorem z7h{cs:List zA}{Q:cB}(hp:p.fit)(hb:dN p=true)(hrd:RD tf p.d cs)(h:Objs yA.base tf t L)
  (hQ:∀tf' t' a' b' c',cA tf tf'->Objs yA.base tf' t' L->oA tf' 3 (p.defs.map dJ.d) a'->oA tf' 3 (p.tables.map vF.d) b'->oA tf' 24 ((p.clauses.map xM).map jD.d) c'->Q (.agg [.str p.name,a',b',c']) t'):Wc yA F 51 [.agg cs] t Q:=by
 obtain⟨a,b,c,rfl,ha,hbb,hc⟩:=oV hrd
 have hb':=hb
 unfold dN at hb';simp only[yac,decide_eq_true_eq]at hb'
 obtain⟨⟨⟨⟨hb1,hb2⟩,hb3⟩,hb4⟩,hb5⟩:=hb'
 refine w51 _ _ _ _ ?_
 simp only[t51,pA,q99];refine z7c ha h (by rw[yag];omega) fun tf1 t1 va k1 k2=>?_
 obtain⟨tf2,m1,m2,m3⟩:=Objs.freezeS (A:=[]) k2
 have hone:bB zA.one [va]=true:=by rw[oG];simp only[ybh,ybl,m3.one];rfl
 rw[if_pos hone,q100];refine z1v (hbb.mono (k1.trans m1)) m2 (by rw[yag];omega) fun tf3 t3 vt n1 n2=>?_
 have hsl:oA t3 3 _ vt:=zda (A:=[]) n2
 have hone2:bB zA.one [vt]=true:=by rw[oG];simp only[ybh,ybl,hsl.one];rfl
 rw[if_pos hone2,hsl.len,xA,yag,yB,xA];refine zm1 hp hb m3.one p.tables.length 0 t3 tf3 (by omega) n2 (hc.mono (k1.trans (m1.trans n1))) fun tf4 t4 vc q1 q2=>?_
 obtain⟨tf5,r1,r2,r3⟩:=Objs.freezeS (A:=[]) q2
 obtain⟨tf6,s1,s2,s3⟩:=Objs.freezeS (A:=[]) r2
 exact hQ tf6 t4 va vt vc (k1.trans (m1.trans (n1.trans (q1.trans (r1.trans s1))))) s2 (m3.mono (n1.trans (q1.trans (r1.trans s1)))) s3 (r3.mono s1)
end
def tsW (r:TR)(s:kE):List lD:=
 [dD r.b none r.cells,wE r.m1 (uE 0 s.names),wE r.m2 (uE 0 (s.consts.map dA)),aB yA.base 1 (s.names.map D.str) r.vn,aB yA.base 6 (s.consts.map aA.d) r.vc,aB yA.base 1 s.ws r.vw,aB yA.base 1 s.ts r.vt]
structure TW (tf t:Tr jA) (r:TR) (s:kE):Prop where
 pl:r.pl.length=4
 os:Objs yA.base tf t (tsW r s)
variable {r:TR}{s:kE}
theorem TW.cel(h:TW tf t r s):xD t r.b none r.cells:=h.os.ok (dD r.b none r.cells) (by simp[tsW])
theorem TW.baseB(h:TW tf t r s):yA.base<=r.b/\tf.get r.b=none:=h.os.low r.b (by simp[tsW,dD])
theorem fZ{x:uA}{cs:List zA}{Q:cB}(h:TW tf t r s)(hx:x.fit)(hg:sK tf)(hrd:RD tf x.d cs)(hp:cC x<=200)(b2:s.names.length+cC x<300000)(b3:s.consts.length+cC x<300000)
  (hQ:∀tf' t' r' v,cA tf tf'->r'.b=r.b->r'.kp=r.kp->TW tf' t' r' (s.put (vB dA rB x s.nt 0).1 [])->oA tf' 3 ((vB dA rB x s.nt 0).2.map XIns.d) v->Q v t'):Wc yA F 52 [.ptr r.b 0,.agg cs] t Q:=by
 obtain⟨a,b,d,rfl,ha,hb,hd⟩:=cK hrd
 refine w52 _ _ _ _ _ _ _ _ _ _ ?_
 simp only[t52,pA];rw[xJ,xA,za3,xA];intro n _ _;have hlen:r.cells.length=11:=by simp[TR.cells,h.pl]
 obtain⟨t1,g1,g2,g3⟩:=h.cel.store1 (C:=yA) h.baseB.1 (j:=10) (v:=.nilslice) zrw rfl rfl rfl (by omega)
 have es:r.cells.set 10 .nilslice=TR.cells ⟨r.b,r.pl,r.vn,r.vc,r.vw,r.vt,.nilslice,r.m1,r.m2⟩:=lS (k:=6) h.pl
 rw[es]at g2;have o1:Objs yA.base tf t1 (tsW ⟨r.b,r.pl,r.vn,r.vc,r.vw,r.vt,.nilslice,r.m1,r.m2⟩ s):=
  Objs.upd (A:=[]) (o:=dD r.b none r.cells) h.os (fun k k1 _=>g3 k (fun e=>k1 (by simp[dD,e]))) (fun k hk=>.inl hk) g2 (by simp[dD]) (h.os.tle.off h.baseB.2 g3)
 have o2:Objs yA.base tf t1 (tsL dA ⟨r.b,r.pl,r.vn,r.vc,r.vw,r.vt,.nilslice,r.m1,r.m2⟩ ⟨s.names,s.consts,s.ws,s.ts,[]⟩):=by
  have e:tsW ⟨r.b,r.pl,r.vn,r.vc,r.vw,r.vt,.nilslice,r.m1,r.m2⟩ s=tsW ⟨r.b,r.pl,r.vn,r.vc,r.vw,r.vt,.nilslice,r.m1,r.m2⟩ s++[]:=by simp
  rw[e]at o1;exact Objs.add (o':=aB yA.base 3 ([]:List D) .nilslice) o1 (fun _ _=>rfl) (fun k hk=>by simp[aB,lE]at hk) (.inl ⟨rfl,rfl⟩) (by simp[aB,lE]) o1.tle
 rw[g1,xA,z5d];refine zpc x (mC x a b d) t1 tf ⟨r.b,r.pl,r.vn,r.vc,r.vw,r.vt,.nilslice,r.m1,r.m2⟩ ⟨s.names,s.consts,s.ws,s.ts,[]⟩ _ hx hg hrd ⟨h.pl,o2⟩ (by show 0+4*cC x<_;omega) b2 b3 fun tf2 t2 r2 k1 k2 k3 k4=>?_
 have hb2:r2.b=r.b:=k2
 rw[xA,za3,xA,<- hb2,k4.ldK,xA];have e3:tsL dA r2 (kE.put ⟨s.names,s.consts,s.ws,s.ts,[]⟩ (vB dA rB x s.nt 0).1 (vB dA rB x s.nt 0).2)=tsW r2 (s.put (vB dA rB x s.nt 0).1 [])++aB yA.base 3 (((vB dA rB x s.nt 0).2).map XIns.d) r2.vk::[]:=by
  simp[tsL,tsW,kE.put]
 have o4:Objs yA.base tf2 t2 (tsL dA r2 (kE.put ⟨s.names,s.consts,s.ws,s.ts,[]⟩ (vB dA rB x s.nt 0).1 (vB dA rB x s.nt 0).2)):=k4.os
 rw[e3]at o4;obtain⟨tf3,m1,m2,m3⟩:=Objs.freezeL o4
 rw[ybe]at m2;exact hQ tf3 t2 r2 r2.vk (k1.trans m1) hb2 (k3.trans rfl) ⟨k4.pl,m2⟩ m3
end Go.Proofs
namespace Go.Proofs
open Go Go.Am
variable [dC]
variable {t tf:Tr jA}{r:TR}{s:kE}
def aD(l:List XIns):D:=.sl 3 (l.map XIns.d)
theorem zot{n:Nat}{v:zA}{l:List D}(hv:oA tf 3 l v)(hn:t.get n=none):∃t',oF yA 32 1 [(0,v)] ⟨n,t⟩=some (.slice n 0 1 1,⟨n+1,t'⟩)/\sH t' 1 (.slice n 0 1 1) [[v]]/\cA t t'/\kD n t t':=
 vP (C:=yA) (T:=32) (el:=37) (sz:=1) (n:=1) (cl:=[[v]]) z4k rfl zrw rfl rfl (by decide) (by
  obtain⟨cl,hh,_⟩:=hv
  rcases hh with⟨rfl,_⟩ | ⟨_,_,_,rfl,_⟩<;>rfl) (fun k cs hk=>by
  cases k with
  | zero=>simp at hk;subst hk;rfl
  | succ k=>simp at hk) rfl hn
theorem TW.junk(h:TW tf t r s){n:Nat}{t':Tr jA}(hn:t.get n=none)(ho:kD n t t'):TW tf t' r s:=⟨h.pl,h.os.junk hn ho⟩
theorem TW.ldW(h:TW tf t r s):mA yA 32 ⟨0,t⟩ (.ptr r.b 6)=some r.vw:=h.cel.load1 z4k rfl (zc3 (k:=2) h.pl)
theorem TW.ldT(h:TW tf t r s):mA yA 32 ⟨0,t⟩ (.ptr r.b 7)=some r.vt:=h.cel.load1 z4k rfl (zc3 (k:=3) h.pl)
theorem pushW{l:List XIns}{v x:zA}{n:Nat}(h:TW tf t r s)(hv:oA tf 3 (l.map XIns.d) v)(hx:sH t 1 x [[v]])(hl:s.ws.length<300000)(hn:t.get n=none)(hnb:yA.base<=n) :
  ∃v2 k t2,eE yA 32 32 r.vw x ⟨n,t⟩=some (v2,⟨k,t2⟩)/\∃t3,(∀m,xE yA 32 (.ptr r.b 6) v2 ⟨m,t2⟩=some (rE,⟨m,t3⟩))/\TW tf t3 ⟨r.b,r.pl,r.vn,r.vc,v2,r.vt,r.vk,r.m1,r.m2⟩ ⟨s.names,s.consts,s.ws++[aD l],s.ts,s.code⟩:=by
 have ln:Loose yA.base tf t 1 s.ws r.vw:=h.os.ok (aB yA.base 1 s.ws r.vw) (by simp[tsW])
 obtain⟨t2,c1,c2,c3,c4⟩:=fU (C:=yA) el32 (m:=[aD l]) ln hx (by
  rw[zE];refine⟨_,_,rfl,?_,oE.2 rfl⟩
  unfold aD;rw[aJ];exact⟨v,rfl,hv⟩) (by intro a ha;simp at ha;subst ha;exact hv.one) (by simp) (by simp;omega) hn hnb h.os.tle
 have o3:Objs yA.base tf t2 ([dD r.b none r.cells,wE r.m1 (uE 0 s.names),wE r.m2 (uE 0 (s.consts.map dA)),aB yA.base 1 (s.names.map D.str) r.vn,aB yA.base 6 (s.consts.map aA.d) r.vc]++aB yA.base 1 (s.ws++[aD l]) (.slice n 0 (s.ws.length+[aD l].length) (s.ws.length+[aD l].length))::[aB yA.base 1 s.ts r.vt]):=by
  refine Objs.upd (o:=aB yA.base 1 s.ws r.vw) h.os (fun k k1 k2=>c4 k ?_ (fun e=>k1 (pL.2 e))) (fun k hk=>?_) c2 (by simp[aB,lE]) c3
  ·intro e;subst e;exact k2 (by simp[aB,lE])
  ·have:k=n:=by simpa[aB,lE]using hk
   subst this;exact .inr ⟨hn,hnb⟩
 have hlen:r.cells.length=11:=by simp[TR.cells,h.pl]
 have cel3:xD t2 r.b none r.cells:=o3.ok (dD r.b none r.cells) (by simp)
 obtain⟨t4,g1,g2,g3⟩:=cel3.store1 (C:=yA) h.baseB.1 (j:=6) (v:=.slice n 0 (s.ws.length+[aD l].length) (s.ws.length+[aD l].length)) z4k rfl rfl rfl (by omega)
 have es:r.cells.set 6 (.slice n 0 (s.ws.length+[aD l].length) (s.ws.length+[aD l].length))=TR.cells ⟨r.b,r.pl,r.vn,r.vc,.slice n 0 (s.ws.length+[aD l].length) (s.ws.length+[aD l].length),r.vt,r.vk,r.m1,r.m2⟩:=lS (k:=2) h.pl
 rw[es]at g2;refine⟨_,_,t2,c1,t4,g1,h.pl,?_⟩
 exact Objs.upd (A:=[]) (o:=dD r.b none r.cells) o3 (fun k k1 _=>g3 k (fun e=>k1 (by simp[dD,e]))) (fun k hk=>.inl hk) g2 (by simp[dD]) (c3.off h.baseB.2 g3)
theorem pushT{l:List XIns}{v x:zA}{n:Nat}(h:TW tf t r s)(hv:oA tf 3 (l.map XIns.d) v)(hx:sH t 1 x [[v]])(hl:s.ts.length<300000)(hn:t.get n=none)(hnb:yA.base<=n) :
  ∃v2 k t2,eE yA 32 32 r.vt x ⟨n,t⟩=some (v2,⟨k,t2⟩)/\∃t3,(∀m,xE yA 32 (.ptr r.b 7) v2 ⟨m,t2⟩=some (rE,⟨m,t3⟩))/\TW tf t3 ⟨r.b,r.pl,r.vn,r.vc,r.vw,v2,r.vk,r.m1,r.m2⟩ ⟨s.names,s.consts,s.ws,s.ts++[aD l],s.code⟩:=by
 have ln:Loose yA.base tf t 1 s.ts r.vt:=h.os.ok (aB yA.base 1 s.ts r.vt) (by simp[tsW])
 obtain⟨t2,c1,c2,c3,c4⟩:=fU (C:=yA) el32 (m:=[aD l]) ln hx (by
  rw[zE];refine⟨_,_,rfl,?_,oE.2 rfl⟩
  unfold aD;rw[aJ];exact⟨v,rfl,hv⟩) (by intro a ha;simp at ha;subst ha;exact hv.one) (by simp) (by simp;omega) hn hnb h.os.tle
 have o3:Objs yA.base tf t2 ([dD r.b none r.cells,wE r.m1 (uE 0 s.names),wE r.m2 (uE 0 (s.consts.map dA)),aB yA.base 1 (s.names.map D.str) r.vn,aB yA.base 6 (s.consts.map aA.d) r.vc,aB yA.base 1 s.ws r.vw]++aB yA.base 1 (s.ts++[aD l]) (.slice n 0 (s.ts.length+[aD l].length) (s.ts.length+[aD l].length))::[]):=by
  refine Objs.upd (o:=aB yA.base 1 s.ts r.vt) h.os (fun k k1 k2=>c4 k ?_ (fun e=>k1 (pL.2 e))) (fun k hk=>?_) c2 (by simp[aB,lE]) c3
  ·intro e;subst e;exact k2 (by simp[aB,lE])
  ·have:k=n:=by simpa[aB,lE]using hk
   subst this;exact .inr ⟨hn,hnb⟩
 have hlen:r.cells.length=11:=by simp[TR.cells,h.pl]
 have cel3:xD t2 r.b none r.cells:=o3.ok (dD r.b none r.cells) (by simp)
 obtain⟨t4,g1,g2,g3⟩:=cel3.store1 (C:=yA) h.baseB.1 (j:=7) (v:=.slice n 0 (s.ts.length+[aD l].length) (s.ts.length+[aD l].length)) z4k rfl rfl rfl (by omega)
 have es:r.cells.set 7 (.slice n 0 (s.ts.length+[aD l].length) (s.ts.length+[aD l].length))=TR.cells ⟨r.b,r.pl,r.vn,r.vc,r.vw,.slice n 0 (s.ts.length+[aD l].length) (s.ts.length+[aD l].length),r.vk,r.m1,r.m2⟩:=lS (k:=3) h.pl
 rw[es]at g2;refine⟨_,_,t2,c1,t4,g1,h.pl,?_⟩
 exact Objs.upd (A:=[]) (o:=dD r.b none r.cells) o3 (fun k k1 _=>g3 k (fun e=>k1 (by simp[dD,e]))) (fun k hk=>.inl hk) g2 (by simp[dD]) (c3.off h.baseB.2 g3)
def zc4:List jD->Nat
 | []=>0
 | c::l=>cC c.when_+cC c.then_+zc4 l
def zyx:List zA:=[.str [],.nilslice,.nilslice,.nilslice,.nilslice,.nilslice,.nilslice,.nilslice]
theorem zxw{cl:List jD}{c:zA}{Q:cB}(hn:cl.length<=400)(hfit:∀x∈cl,x.fit)(hb:∀x∈cl,iR x=true):∀(l:List jD) (i:Nat) (t tf:Tr jA) (r:TR) (s:kE),cl.drop i=l->TW tf t r s->sK tf->oA tf 24 (cl.map jD.d) c->s.names.length+zc4 l<200000->s.consts.length+zc4 l<200000->s.ws.length+l.length<200000->s.ts.length+l.length<200000 →
  (∀tf' t' r',cA tf tf'->r'.b=r.b->r'.pl=r.pl->TW tf' t' r' ⟨(trC dA rB l s.nt).1.names,(trC dA rB l s.nt).1.consts,s.ws++(trC dA rB l s.nt).2.map (fun p=>aD p.1),s.ts++(trC dA rB l s.nt).2.map (fun p=>aD p.2),s.code⟩->Q (.tup [.agg (r'.pl++[r'.vn,r'.vc,r'.vw,r'.vt]),.int .i64 0]) t') →
  (∃nm a b d,r.pl=[.str nm,a,b,d]/\zA.one a=true/\zA.one b=true/\zA.one d=true/\gG .nilslice a=true/\gG .nilslice b=true/\gG .nilslice d=true) →
  jp 22 2 [.ptr r.b 0,c,.int .i64 (cl.length:Int),.int .i64 (i:Int),.str [],.nilslice,.nilslice,.nilslice,.nilslice,.nilslice,.nilslice,.nilslice] t Q:=by
 intro l;induction l with
 | nil=>
  intro i t tf r s hl h hg hc b1 b2 b3 b4 hQ hpl;have:=lU hl
  refine j22_2 _ _ _ _ _ _ _ _ _ _ _ _ ?_
  simp only[z43,pA,mB];obtain⟨nm,a,b,d,epl,o1,o2,o3,f1,f2,f3⟩:=hpl
  have ld:mA yA 34 ⟨0,t⟩ (.ptr r.b 0)=some (.agg (r.pl++[r.vn,r.vc,r.vw,r.vt])):=by
   have:=h.cel.at.load (C:=yA) (j:=0) ty34 rfl rfl (by simp[TR.cells,h.pl])
   rw[yax]at this;rw[this,epl];unfold TR.cells;rw[epl];rfl
  have ln:Loose yA.base tf t 1 (s.names.map D.str) r.vn:=h.os.ok (aB yA.base 1 (s.names.map D.str) r.vn) (by simp[tsW])
  have lc:Loose yA.base tf t 6 (s.consts.map aA.d) r.vc:=h.os.ok (aB yA.base 6 (s.consts.map aA.d) r.vc) (by simp[tsW])
  have lw:Loose yA.base tf t 1 s.ws r.vw:=h.os.ok (aB yA.base 1 s.ws r.vw) (by simp[tsW])
  have lt:Loose yA.base tf t 1 s.ts r.vt:=h.os.ok (aB yA.base 1 s.ts r.vt) (by simp[tsW])
  have r1:=ln.read h.os.tle
  have r2:=lc.read h.os.tle
  have r3:=lw.read h.os.tle
  have r4:=lt.read h.os.tle
  rw[if_neg (by omega),xJ,xA,nO,xA,ld,xA]
  have hq:=hQ tf t r (cA.refl _) rfl rfl (by
   simp only[trC,List.map_nil,ybe];exact h)
  rw[epl]at hq ⊢
  have hz:qG [(.str []),.nilslice,.nilslice,.nilslice,.nilslice,.nilslice,.nilslice,.nilslice] (.agg ([.str nm,a,b,d]++[r.vn,r.vc,r.vw,r.vt]))=some (cellsOf [.str nm,a,b,d,r.vn,r.vc,r.vw,r.vt]):=iL (by
   show(true&&(gG .nilslice a&&(gG .nilslice b&&(gG .nilslice d&&(gG .nilslice r.vn&&(gG .nilslice r.vc&&(gG .nilslice r.vw&&(gG .nilslice r.vt&&true))))))))=true
   rw[f1,f2,f3,yI r1,yI r2,yI r3,yI r4];rfl)
  rw[hz,xA];simp only[cellsOf,dG,sF,yaa,yab];have hone:bB zA.one [.str nm,a,b,d,r.vn,r.vc,r.vw,r.vt]=true:=by
   rw[oG];simp only[ybh,ybl,o1,o2,o3,r1.one,r2.one,r3.one,r4.one];rfl
  exact xB hone hq
 | cons x l ih=>
  intro i t tf r s hl h hg hc b1 b2 b3 b4 hQ hpl;obtain⟨h1,h2,h3⟩:=kU hl
  have hx:=ybw h1
  have hxf:=hfit x hx
  have hxb:=hb x hx
  unfold iR at hxb;rw[yac]at hxb;have p1:=aX hxb.1
  have p2:=aX hxb.2
  unfold zc4 at b1 b2;rw[yao]at b3 b4;obtain⟨q,off,u1,u2,u3,w1,w2,w3,g1,g2,g3,g4,g5,g6⟩:=zd0 hc h1
  have g2:mA yA 52 ⟨0,t⟩ (.ptr q off)=some (.agg (gN x u1 u2 u3 w1 w2 w3)):=wN (H:=⟨0,tf⟩) (fun _ _ k=>h.os.tle _ _ k) g2
  refine j22_2 _ _ _ _ _ _ _ _ _ _ _ _ ?_
  simp only[z43,pA,mB];unfold zf9 at g3;rw[if_pos (by omega),g1,xA,g2,xA,g3,xA]
  unfold gN at g6;simp only[gN,cellsOf,yG,dG,lF,sF,yaa,yab];refine xB g6 ?_
  rw[xJ,xA,nO,xA,z30,xA,h.ldW,xA,q52];have s1:=aP (key:=dA) (valid:=rB) x.when_ s.nt 0
  refine fZ (x:=x.when_) h hxf.2.2.2.2.2.1 hg g4 p1 (by omega) (by omega) fun tf1 t1 r1 v1 k1 k2 k3 k4 k5=>?_
  have kw:r1.vw=r.vw:=congrArg (fun z=>z.2.1) k3
  have kt:r1.vt=r.vt:=congrArg (fun z=>z.2.2) k3
  have kp:r1.pl=r.pl:=congrArg (fun z=>z.1) k3
  have n1:(vB dA rB x.when_ s.nt 0).1.names.length<=s.names.length+cC x.when_:=s1.2.1
  have n2:(vB dA rB x.when_ s.nt 0).1.consts.length<=s.consts.length+cC x.when_:=s1.2.2
  rw[<- k2,k4.ldW,xA,kw,if_pos (by rw[<- kw];exact(k4.os.ok (aB yA.base 1 s.ws r1.vw) (by simp[tsW,kE.put]):Loose yA.base tf1 t1 1 s.ws r1.vw).same)]
  intro m1 hm1 hm1b;obtain⟨t2,a1,a2,a3,a4⟩:=zot (t:=t1) k5 hm1
  have j2:=k4.junk hm1 a4
  rw[a1,xA,j2.ldW,xA,kw,if_pos (by rw[<- kw];exact(k4.os.ok (aB yA.base 1 s.ws r1.vw) (by simp[tsW,kE.put]):Loose yA.base tf1 t1 1 s.ws r1.vw).same)]
  intro m2 hm2 hm2b;obtain⟨vw2,kk,t3,c1,t4,c2,c3⟩:=pushW j2 k5 a2 (by show s.ws.length<_;omega) hm2 hm2b
  rw[kw]at c1;rw[c1,xA];simp only[xJ,xA,nO,z30,zxb];intro m3 _ _;rw[c2,xA];simp only[xJ,xA,nO,zxb];have ld7:=c3.ldT
  rw[ld7,xA,q52];have s2:=aP (key:=dA) (valid:=rB) x.then_ (vB dA rB x.when_ s.nt 0).1 0
  refine fZ (r:=⟨r1.b,r1.pl,r1.vn,r1.vc,vw2,r1.vt,r1.vk,r1.m1,r1.m2⟩) (x:=x.then_) c3 hxf.2.2.2.2.2.2 (hg.mono k1) (RD.mono k1 _ _ g5) p2 (by show(vB dA rB x.when_ s.nt 0).1.names.length+_<_;omega) (by show(vB dA rB x.when_ s.nt 0).1.consts.length+_<_;omega) fun tf5 t5 r5 v5 d1 d2 d3 d4 d5=>?_
  have dw:r5.vw=vw2:=congrArg (fun z=>z.2.1) d3
  have dt:r5.vt=r1.vt:=congrArg (fun z=>z.2.2) d3
  have dp:r5.pl=r1.pl:=congrArg (fun z=>z.1) d3
  have d2:r5.b=r1.b:=d2
  have n3:(vB dA rB x.then_ (vB dA rB x.when_ s.nt 0).1 0).1.names.length<=(vB dA rB x.when_ s.nt 0).1.names.length+cC x.then_:=s2.2.1
  have n4:(vB dA rB x.then_ (vB dA rB x.when_ s.nt 0).1 0).1.consts.length<=(vB dA rB x.when_ s.nt 0).1.consts.length+cC x.then_:=s2.2.2
  have sameT:same 10 r5.vt r5.vt=true:=(d4.os.ok (aB yA.base 1 s.ts r5.vt) (by simp[tsW,kE.put]):Loose yA.base tf5 t5 1 s.ts r5.vt).same
  rw[<- d2,d4.ldT,xA,<- dt,if_pos sameT];intro m5 hm5 hm5b;obtain⟨t6,e1,e2,e3,e4⟩:=zot (t:=t5) d5 hm5
  have j6:=d4.junk hm5 e4
  rw[e1,xA,j6.ldT,xA,if_pos sameT];intro m6 hm6 hm6b;obtain⟨vt2,kk2,t7,f1,t8,f2,f3⟩:=pushT j6 d5 e2 (by show s.ts.length<_;omega) hm6 hm6b
  rw[f1,xA];simp only[xJ,xA,nO,zxb];intro m7 _ _;rw[f2,xA,fB (by omega) (by omega),show(i:Int)+1=((i+1:Nat):Int) by omega]
  refine ih (i+1) t8 tf5 ⟨r5.b,r5.pl,r5.vn,r5.vc,r5.vw,vt2,r5.vk,r5.m1,r5.m2⟩ _ h2 f3 ((hg.mono k1).mono d1) (hc.mono (k1.trans d1)) (by show(vB dA rB x.then_ (vB dA rB x.when_ s.nt 0).1 0).1.names.length+_<_;omega) (by show(vB dA rB x.then_ (vB dA rB x.when_ s.nt 0).1 0).1.consts.length+_<_;omega) (by show(s.ws++[_]).length+_<_;simp;omega) (by show(s.ts++[_]).length+_<_;simp;omega) (fun tf9 t9 r9 z1 z2 z3 z4=>?_) (by
    obtain⟨nm,a,b,d,epl,rest⟩:=hpl
    exact⟨nm,a,b,d,(dp.trans kp).trans epl,rest⟩)
  refine hQ tf9 t9 r9 (k1.trans (d1.trans z1)) (z2.trans (d2.trans k2)) (z3.trans (dp.trans kp)) ?_
  have e:(⟨(trC dA rB (x::l) s.nt).1.names,(trC dA rB (x::l) s.nt).1.consts,s.ws++(trC dA rB (x::l) s.nt).2.map (fun p=>aD p.1),s.ts++(trC dA rB (x::l) s.nt).2.map (fun p=>aD p.2),s.code⟩:kE) =
    ⟨(trC dA rB l (vB dA rB x.then_ (vB dA rB x.when_ s.nt 0).1 0).1).1.names,(trC dA rB l (vB dA rB x.then_ (vB dA rB x.when_ s.nt 0).1 0).1).1.consts,s.ws++[aD (vB dA rB x.when_ s.nt 0).2]++(trC dA rB l (vB dA rB x.then_ (vB dA rB x.when_ s.nt 0).1 0).1).2.map (fun p=>aD p.1),s.ts++[aD (vB dA rB x.then_ (vB dA rB x.when_ s.nt 0).1 0).2]++(trC dA rB l (vB dA rB x.then_ (vB dA rB x.when_ s.nt 0).1 0).1).2.map (fun p=>aD p.2),s.code⟩:=by
   simp[trC]
  rw[e];have z4:=z4
  simp only[kE.put,kE.nt,ybe]at z4;exact z4
end Go.Proofs
namespace Go.Proofs
open Go Go.Am
variable [dC]
variable {t tf:Tr jA}
theorem zi7:∀(l:List jD),(∀x∈l,iR x=true)->zc4 l<=400*l.length
 | [],_=>by simp[zc4]
 | x::l,h=>by
  have hx:=h x (by simp)
  unfold iR at hx;rw[yac]at hx;have p1:=aX hx.1
  have p2:=aX hx.2
  have:=zi7 l fun y hy=>h y (by simp[hy])
  unfold zc4;rw[yao];omega
theorem zon(h:cA tf t):Objs yA.base tf t []:=⟨h,by simp,fun o ho=>(by cases ho),fun k hk=>(by simp at hk)⟩
def tI(p:cH):Nt × List (List XIns × List XIns):=trC dA rB p.clauses ⟨[],[]⟩
theorem zri{p:cH}{cs:List zA}{Q:cB}(hp:p.fit)(ht:cA tf t)(hg:sK tf)(hrd:RD tf p.d cs)
  (h0:dN p=false->Q (.tup [.agg zyx,.int .i64 2]) t)
  (h1:dN p=true->∀tf' t' a b c vn vc vw vt,cA tf tf'->cA tf' t'->oA tf' 3 (p.defs.map dJ.d) a->oA tf' 3 (p.tables.map vF.d) b->oA tf' 24 ((p.clauses.map xM).map jD.d) c->oA tf' 1 ((tI p).1.names.map D.str) vn->oA tf' 6 ((tI p).1.consts.map aA.d) vc →
   oA tf' 1 ((tI p).2.map fun q=>aD q.1) vw->oA tf' 1 ((tI p).2.map fun q=>aD q.2) vt->Q (.tup [.agg [.str p.name,a,b,c,vn,vc,vw,vt],.int .i64 0]) t'):Wc yA F 22 [.agg cs] t Q:=by
 have hbd:=zrn hp (RD.mono ht _ _ hrd)
 obtain⟨ca,cb,cc,rfl,ha,hb,hc⟩:=oV hrd
 refine w22 _ _ _ _ ?_
 simp only[t22,pA,q33,hbd,xA,mD]
 cases hbp:dN p with
 | false=>
  simp only[ybm,if_true];exact h0 hbp
 | true=>
  have h1:=h1 hbp
  simp only[Bool.not_true,yar,if_false];rw[q51];refine z7h hp hbp hrd (zon ht) fun tf1 t1 a b c k1 k2 k3 k4 k5=>?_
  have hz:qG [(.str []),.nilslice,.nilslice,.nilslice] (.agg [.str p.name,a,b,c])=some (cellsOf [.str p.name,a,b,c]):=iL (by
   show(true&&(gG .nilslice a&&(gG .nilslice b&&(gG .nilslice c&&true))))=true
   rw[yI k3,yI k4,yI k5];rfl)
  rw[hz,xA];simp only[cellsOf,dG,sF,yaa,yab,if_true];intro m1 hm1 hb1;have e1:aU ⟨m1,t1⟩=some (.map m1,⟨m1+1,t1.set m1 (.map [])⟩):=rfl
  have o1:Objs yA.base tf1 (t1.set m1 (.map [])) ([]++wE m1 (uE 0 [])::[]):=
   Objs.add (A:=[]) (B:=[]) (o':=wE m1 (uE 0 [])) k2 (fun k hk=>(sJ hm1 _).2 k (fun e=>hk (by simp[wE,e]))) (fun k hk=>by
    have:k=m1:=by simpa[wE]using hk
    subst this;exact⟨hm1,hb1⟩) (by show(t1.set m1 _).get m1=_;rw[Tr.get_set,if_pos rfl];rfl) (by simp[wE]) (k2.tle.trans (sJ hm1 _).1)
  rw[e1,xA];intro m2 hm2 hb2;have e2:aU ⟨m2,t1.set m1 (.map [])⟩=some (.map m2,⟨m2+1,(t1.set m1 (.map [])).set m2 (.map [])⟩):=rfl
  have o2:Objs yA.base tf1 ((t1.set m1 (.map [])).set m2 (.map [])) ([wE m1 (uE 0 [])]++wE m2 (uE 0 [])::[]):=
   Objs.add (A:=[wE m1 (uE 0 [])]) (B:=[]) (o':=wE m2 (uE 0 [])) o1 (fun k hk=>(sJ hm2 _).2 k (fun e=>hk (by simp[wE,e]))) (fun k hk=>by
    have:k=m2:=by simpa[wE]using hk
    subst this;exact⟨hm2,hb2⟩) (by show((t1.set m1 _).set m2 _).get m2=_;rw[Tr.get_set,if_pos rfl];rfl) (by simp[wE]) (o1.tle.trans (sJ hm2 _).1)
  rw[e2,xA];have hone2:bB zA.one [.map m1,.map m2]=true:=rfl
  rw[if_pos hone2];intro nb hnb hbb;obtain⟨t3,f1,f2,f3,f4⟩:=zx3 (v:=.agg [.str p.name,a,b,c,.nilslice,.nilslice,.nilslice,.nilslice,.map m1,.map m2,.nilslice]) hnb
  have o3:Objs yA.base tf1 t3 ([]++dD nb none [.str p.name,a,b,c,.nilslice,.nilslice,.nilslice,.nilslice,.map m1,.map m2,.nilslice]::[wE m1 (uE 0 []),wE m2 (uE 0 [])]):=
   Objs.add (A:=[]) (o':=dD nb none [.str p.name,a,b,c,.nilslice,.nilslice,.nilslice,.nilslice,.map m1,.map m2,.nilslice]) o2 (fun k hk=>f4 k (fun e=>hk (by simp[dD,e]))) (fun k hk=>by
    have:k=nb:=by simpa[dD]using hk
    subst this;exact⟨hnb,hbb⟩) f2 (by simp[dD]) (o2.tle.trans f3)
  have addL:∀ {A:List lD} {sz:Nat},Objs yA.base tf1 t3 A->Objs yA.base tf1 t3 (A++[aB yA.base sz [] .nilslice]):=fun {A sz} h=>by
   have h':Objs yA.base tf1 t3 (A++[]):=by rw[ybe];exact h
   exact Objs.add (o':=aB yA.base sz ([]:List D) .nilslice) h' (fun _ _=>rfl) (fun k hk=>by simp[aB,lE]at hk) (.inl ⟨rfl,rfl⟩) (by simp[aB,lE]) h'.tle
  have o4:TW tf1 t3 ⟨nb,[.str p.name,a,b,c],.nilslice,.nilslice,.nilslice,.nilslice,.nilslice,m1,m2⟩ ⟨[],[],[],[],[]⟩:=⟨rfl,addL (sz:=1) (addL (sz:=1) (addL (sz:=6) (addL (sz:=1) o3)))⟩
  have hbp':=hbp
  unfold dN at hbp';simp only[yac,decide_eq_true_eq]at hbp'
  obtain⟨⟨⟨⟨hb1',hb2'⟩,hb3'⟩,hb4'⟩,hb5'⟩:=hbp'
  have hbc:∀x∈p.clauses,iR x=true:=fun x hx=>ybc.1 hb4' x hx
  have hpc:=zi7 p.clauses hbc
  rw[f1,xA,hc.len,xA,yag,yB,xA];refine zxw hb2' hp.clauses hbc p.clauses 0 t3 tf1 ⟨nb,[.str p.name,a,b,c],.nilslice,.nilslice,.nilslice,.nilslice,.nilslice,m1,m2⟩ ⟨[],[],[],[],[]⟩ (ybs) o4 (hg.mono k1) (hc.mono k1) (by simp;omega) (by simp;omega) (by simp;omega) (by simp;omega) (fun tf5 t5 r5 n1 n2 n3 n4=>?_) ⟨_,_,_,_,rfl,k3.one,k4.one,k5.one,yI k3,yI k4,yI k5⟩
  have n3':r5.pl=[.str p.name,a,b,c]:=n3
  rw[n3'];have q4:Objs yA.base tf5 t5 ([dD r5.b none r5.cells,wE r5.m1 (uE 0 (tI p).1.names),wE r5.m2 (uE 0 ((tI p).1.consts.map dA))]++aB yA.base 1 ((tI p).1.names.map D.str) r5.vn::[aB yA.base 6 ((tI p).1.consts.map aA.d) r5.vc,aB yA.base 1 ((tI p).2.map fun q=>aD q.1) r5.vw,aB yA.base 1 ((tI p).2.map fun q=>aD q.2) r5.vt]):=n4.os
  obtain⟨tf6,x1,x2,x3⟩:=Objs.freezeL q4
  obtain⟨tf7,y1,y2,y3⟩:=Objs.freezeL (A:=[dD r5.b none r5.cells,wE r5.m1 (uE 0 (tI p).1.names),wE r5.m2 (uE 0 ((tI p).1.consts.map dA))]) (B:=[aB yA.base 1 ((tI p).2.map fun q=>aD q.1) r5.vw,aB yA.base 1 ((tI p).2.map fun q=>aD q.2) r5.vt]) x2
  obtain⟨tf8,z1,z2,z3⟩:=Objs.freezeL (A:=[dD r5.b none r5.cells,wE r5.m1 (uE 0 (tI p).1.names),wE r5.m2 (uE 0 ((tI p).1.consts.map dA))]) (B:=[aB yA.base 1 ((tI p).2.map fun q=>aD q.2) r5.vt]) y2
  obtain⟨tf9,w1,w2,w3⟩:=Objs.freezeL (A:=[dD r5.b none r5.cells,wE r5.m1 (uE 0 (tI p).1.names),wE r5.m2 (uE 0 ((tI p).1.consts.map dA))]) (B:=[]) z2
  have T:cA tf1 tf9:=n1.trans (x1.trans (y1.trans (z1.trans w1)))
  exact h1 tf9 t5 a b c r5.vn r5.vc r5.vw r5.vt (k1.trans T) w2.tle (k3.mono T) (k4.mono T) (k5.mono T) (x3.mono (y1.trans (z1.trans w1))) (y3.mono (z1.trans w1)) (z3.mono w1) w3
end Go.Proofs
namespace Go.Proofs
open Go Go.Am
variable [dC]
variable {t tf:Tr jA}
theorem rQ{l:List XIns}{v:zA}(hv:oA t 3 (l.map XIns.d) v){i:Nat}{x:XIns}(hx:l[i]?=some x) :
  ∃b off,zB yA 37 v (.int .i64 (i:Int))=some (.ptr b off)/\mA yA 54 ⟨0,t⟩ (.ptr b off)=some (.agg x.cells)/\pB yA 54 0 (.ptr b off)=some (.ptr b (off+0))/\pB yA 54 1 (.ptr b off)=some (.ptr b (off+1))/\pB yA 54 2 (.ptr b off)=some (.ptr b (off+2)) ∧
   mA yA 5 ⟨0,t⟩ (.ptr b (off+0))=some (.int .u8 x.op)/\mA yA 3 ⟨0,t⟩ (.ptr b (off+1))=some (.int .i64 x.a)/\mA yA 3 ⟨0,t⟩ (.ptr b (off+2))=some (.int .i64 x.b):=by
 obtain⟨b,off,cs,g1,g2,g3,_,g5⟩:=jE.at sl37 (by simp) hv (i:=i) (d:=x.d) (by simp[hx])
 rw[zoe]at g5;subst g5;exact⟨b,off,g1,g2,by kernel_rfl,by kernel_rfl,by kernel_rfl,g3.load1 ty5 rfl rfl,g3.load1 ty3 rfl rfl,g3.load1 ty3 rfl rfl⟩
theorem zyy(n:Int):vA .u8 n=n%256:=by
 rw[qK];simp only[IntKind.wrap,IntKind.bits,IntKind.signed];simp
end Go.Proofs
namespace Go.Proofs
open Go Go.Am
variable [dC]
variable {t tf:Tr jA}
theorem z7a{l:List (List XIns)}{v:zA}(hv:oA tf 1 (l.map aD) v)(ht:cA tf t){i:Nat}{x:List XIns}(hx:l[i]?=some x) :
  ∃b off u,zB yA 32 v (.int .i64 (i:Int))=some (.ptr b off)/\mA yA 37 ⟨0,t⟩ (.ptr b off)=some u/\oA tf 3 (x.map XIns.d) u:=by
 obtain⟨b,off,cs,g1,g2,g3,_,g5⟩:=jE.at sl32 (fun _=>rfl) hv (i:=i) (d:=aD x) (by simp[hx])
 unfold aD at g5;rw[aJ]at g5;obtain⟨u,rfl,hu⟩:=g5
 exact⟨b,off,u,g1,wN (H:=⟨0,tf⟩) (fun _ _ k=>ht _ _ k) g2,hu⟩
theorem z1z:rD yA F 14 [] t=some (.bool true):=zgw (g:=z5g) (by kernel_rfl) fun _=>rfl
end Go.Proofs
namespace Go.Am
open Go Go.RowKit
def zg3{α:Type}(f:Nat->Option α):Nat->Tr α
 | 0=>.leaf
 | n+1=>match f n with
  | some v=>(zg3 f n).set n v
  | none=>zg3 f n
theorem nQ{α:Type}(f:Nat->Option α):∀(n a:Nat),(zg3 f n).get a=if a<n then f a else none:=by
 intro n;induction n with
 | zero=>intro a;rw[if_neg (by omega)];exact Tr.get_leaf _
 | succ n ih=>
  intro a;unfold zg3
  cases hf:f n with
  | some v=>
   simp only[];rw[Tr.get_set,ih];by_cases h:a=n
   ·subst h;rw[if_pos rfl,if_pos (by omega),hf]
   ·rw[if_neg h]
    by_cases h2:a<n
    ·rw[if_pos h2,if_pos (by omega)]
    ·rw[if_neg h2,if_neg (by omega)]
  | none=>
   simp only[];rw[ih];by_cases h:a=n
   ·subst h;rw[if_neg (by omega),if_pos (by omega),hf]
   ·by_cases h2:a<n
    ·rw[if_pos h2,if_pos (by omega)]
    ·rw[if_neg h2,if_neg (by omega)]
def zr0 (N:Nat):Value->Option zA
 | .bool b=>some (.bool b)
 | .int k n=>some (.int k n)
 | .string s=>some (.str (tE s))
 | .slice none 0 0=>some .nilslice
 | .slice (some _) 0 0=>some (.slice 0 0 0 0)
 | .slice (some ⟨b,off,none⟩) len cap=>if b<N then some (.slice (256+b) off len cap)else none
 | _=>none
def absB (N:Nat):Obj->Option jA
 | .cells cs _ _=>some (.cells (zg3 (fun j=>(cs[j]?).bind (zr0 N)) cs.size) cs.size none)
 | _=>none
def rI (w:World):Tr jA:=zg3 (fun a=>if a<256 then(w.heap[a]?).bind (absB w.heap.size)else(w.heap[a-256]?).bind (absB w.heap.size)) (256+w.heap.size)
def muW (w:World):Mu:=⟨fun a=>if a<256 then some ⟨a,true,0,0,true⟩else if a<256+w.heap.size then some ⟨a-256,true,0,0,true⟩else none,fun _=>none⟩
section
variable {w:World}
theorem zpr{v:Value}{a:zA}(h:zr0 w.heap.size v=some a):rA (muW w) a v:=by
 unfold zr0 at h;split at h
 ·cases h;rw[rA]
 ·cases h;rw[rA]
 ·cases h;rw[rA];exact⟨_,rfl,rfl⟩
 ·cases h;rw[rA]
 ·cases h;rw[rA];exact .inr ⟨rfl,rfl,rfl,_,_,rfl,.inl ⟨rfl,rfl⟩⟩
 ·split at h
  ·rename_i hb
   cases h;rename_i b off len cap _;rw[rA];refine .inl ⟨⟨b,true,0,0,true⟩,cap,?_,rfl,yal _,fun _=>rfl,fun h=>by cases h⟩
   show(if 256+b<256 then some (⟨256+b,true,0,0,true⟩:BI)else if 256+b<256+w.heap.size then some ⟨256+b-256,true,0,0,true⟩else none)=_
   rw[if_neg (by omega),if_pos (by omega),show 256+b-256=b by omega]
  ·cases h
 ·cases h
theorem zpt{o:Obj}{x:jA}(h:absB w.heap.size o=some x)(b:Nat):iH (muW w) ⟨b,true,0,0,true⟩ x o/\x.asLoop=none/\x.asDeferred=none:=by
 cases o<;>first | (cases h;done) | skip
 rename_i cs elem fr
 cases h;refine⟨⟨cs,elem,fr,rfl,yal _,.inl rfl,fun j v hv=>?_,rfl⟩,rfl,rfl⟩
 rw[nQ]at hv;split at hv
 case isFalse=>cases hv
 rename_i hj
 cases hc:cs[j]? with
 | none=>rw[hc]at hv;cases hv
 | some u=>
  rw[hc]at hv;exact⟨hj,u,rfl,zpr hv⟩
theorem hrelW:oB (256+w.heap.size) w.heap.size (muW w) ⟨256+w.heap.size,rI w⟩ w:=by
 have hget:∀a x,(rI w).get a=some x->∃b o,b<w.heap.size/\w.heap[b]?=some o/\absB w.heap.size o=some x/\a<256+w.heap.size/\b=(if a<256 then a else a-256):=by
  intro a x hx;unfold rI at hx;rw[nQ]at hx;split at hx
  case isFalse=>cases hx
  rename_i hlt;split at hx
  ·rename_i h
   cases ho:w.heap[a]? with
   | none=>rw[ho]at hx;cases hx
   | some o=>rw[ho]at hx;exact⟨a,o,(yaf.1 ho).1,ho,hx,hlt,by rw[if_pos h]⟩
  ·rename_i h
   cases ho:w.heap[a-256]? with
   | none=>rw[ho]at hx;cases hx
   | some o=>rw[ho]at hx;exact⟨a-256,o,(yaf.1 ho).1,ho,hx,hlt,by rw[if_neg h]⟩
 have hmu:∀a,(muW w) a=if a<256 then some ⟨a,true,0,0,true⟩else if a<256+w.heap.size then some ⟨a-256,true,0,0,true⟩else none:=fun _=>rfl
 have big:∀a,256+w.heap.size<=a->(muW w) a=none:=fun a h=>by rw[hmu,if_neg (by omega),if_neg (by omega)]
 have same:∀a x i,(rI w).get a=some x->(muW w) a=some i->∃o,w.heap[i.b]?=some o/\i.b<w.heap.size/\absB w.heap.size o=some x/\i=⟨i.b,true,0,0,true⟩:=by
  intro a x i hx hi;obtain⟨b,o,h1,h2,h3,h4,h5⟩:=hget a x hx
  rw[hmu]at hi;split at hi
  ·rename_i h
   cases hi;rw[if_pos h]at h5;subst h5;exact⟨o,h2,h1,h3,rfl⟩
  ·rename_i h
   rw[if_neg h]at h5;have hi:=ybj hi
   have hb:i.b=b:=by rw[<- hi,h5]
   refine⟨o,by rw[hb];exact h2,by rw[hb];exact h1,h3,by rw[<- hi]⟩
 refine⟨by omega,fun g hg=>by rw[hmu,if_pos hg],fun a x i _ hx hi=>?_,yal _,yal _,fun a ha=>⟨big a ha,?_⟩,fun a x i hx hi=>?_,fun a i ha hi=>?_,fun a b x y i j hx _ hi _ ha _ _=>?_,fun a x t h=>by cases h⟩
 ·obtain⟨o,_,h2,h3,_⟩:=same a x i hx hi
  exact⟨h2,(zpt h3 0).2⟩
 ·show(rI w).get a=none
  unfold rI;have ha:256+w.heap.size<=a:=ha
  rw[nQ,if_neg (by omega)]
 ·obtain⟨o,h1,_,h3,h4⟩:=same a x i hx hi
  exact⟨o,h1,by rw[h4];exact(zpt h3 _).1⟩
 ·rw[big a ha]at hi;cases hi
 ·rw[big a ha]at hi;cases hi
end
end Go.Am
namespace Go.Am
open Go Go.RowKit
def uG(P:Program):Nat->TypeId->D->Prop
 | 0,_,_=>False
 | f+1,t,x=>match P.underlying t with
  | some .bool=>∃b,x=.bool b
  | some (.int k)=>∃n,x=.int k n/\(Lit.int k n).wf=true
  | some .string=>∃l:List Nat,x=.str l/\l.length<=reachBytes/\∀c∈l,c<256
  | some (.slice e)=>∃l:List D,x=.sl (P.cellsOf e) l/\l.length*P.bytesOf e<=reachBytes/\∀y∈l,uG P f e y
  | some (.struct fs)=>∃l:List D,x=.st l/\zD (fun fd y=>uG P f fd.type y) fs.toList l
  | _=>False
def zp8(P:Program):Nat->List Field->Nat->Bool
 | off,[],n=>off == n
 | off,f::fs,n=>f.offset == off&&zp8 P (off+P.cellsOf f.type) fs n
structure Plain (P:Program) (S:TypeId->Prop):Prop where
 part:∀t,S t->match P.underlying t with
  | some .bool=>True
  | some (.int _)=>True
  | some .string=>True
  | some (.slice e)=>S e/\0<P.cellsOf e
  | some (.struct fs)=>(∀f∈fs.toList,S f.type)/\zp8 P 0 fs.toList (P.cellsOf t)=true
  | _=>False
def av (N:Nat)(v:Value):zA:=(zr0 N v).getD .nilptr
def Has (N:Nat)(cs:List Value):Prop:=∀v∈cs,zr0 N v=some (av N v)
theorem zd1{α:Type}{Q:Nat->α->Prop}:∀(n:Nat),(∀i,i<n->∃p,Q i p)->∃l:List α,l.length=n/\∀i p,l[i]?=some p->Q i p:=by
 intro n;induction n with
 | zero=>intro _;exact⟨[],rfl,fun i p h=>by simp at h⟩
 | succ n ih=>
  intro h;obtain⟨l,hl,hq⟩:=ih fun i hi=>h i (by omega)
  obtain⟨p,hp⟩:=h n (by omega)
  refine⟨l++[p],by simp[hl],fun i q hq'=>?_⟩
  by_cases hi:i<n
  ·rw[ybp (by omega)]at hq';exact hq i q hq'
  ·rw[yaq (by omega)]at hq'
   have:i-l.length=0:=by
    cases hz:i-l.length with
    | zero=>rfl
    | succ m=>rw[hz]at hq';simp at hq'
   rw[this]at hq'
   simp at hq'
   subst hq'
   have:i=n:=by omega
   subst this;exact hp
section
variable {H:Type}{enc:TypeId × Value->H}{P:Program}{w:World}
theorem hZ{p:Nat->Bool}:∀ {ts:List TypeId} {ds:List (DataW H)},(DataW.weightsEach P ts ds).all p=true->∀ {i:Nat} {t:TypeId} {d:DataW H},ts[i]?=some t->ds[i]?=some d->(DataW.weights P t d).all p=true
 | [],_,_,i,_,_,h1,_=>by simp at h1
 | _::_,[],_,i,_,_,_,h2=>by simp at h2
 | t::ts,d::ds,h,i,u,e,h1,h2=>by
  rw[DataW.weightsEach,ycj,yac]at h
  cases i with
  | zero=>simp at h1 h2;subst h1 h2;exact h.1
  | succ i=>exact hZ h.2 (by simpa using h1) (by simpa using h2)
theorem gZ{p:Nat->Bool}{e:TypeId}:∀ {ds:List (DataW H)},(DataW.weightsAll P e ds).all p=true->∀ {i:Nat} {d:DataW H},ds[i]?=some d->(DataW.weights P e d).all p=true
 | [],_,i,_,h2=>by simp at h2
 | d::ds,h,i,x,h2=>by
  rw[DataW.weightsAll,ycj,yac]at h
  cases i with
  | zero=>simp at h2;subst h2;exact h.1
  | succ i=>exact gZ h.2 (by simpa using h2)
theorem zpn{a:Addr}{n:Nat}{cs:List Value}(h:w.cells? 0 a n=some cs):cs.length=n/\(0<n->a.spot=none/\∃c t fr,w.heap[a.block]?=some (.cells c t fr)/\∀j,j<n->c[a.off+j]?=cs[j]?):=by
 unfold World.cells? at h
 rw[if_pos (Nat.zero_le _)]at h
 have hl:=mapM_some_length h
 have hg:=mapM_some_get h
 simp only[List.length_range]at hl;refine⟨hl,fun hn=>?_⟩
 have key:∀j,j<n->w.cell? (a.add j)=cs[j]?:=fun j hj=>hg j j (by simp[hj])
 have h0:=key 0 hn
 have hs0:∃v,cs[0]?=some v:=⟨cs[0]'(by omega),yae (by omega)⟩
 obtain⟨v0,hv0⟩:=hs0
 rw[hv0]at h0;have e0:a.add 0=a:=by simp[Addr.add]
 rw[e0]at h0;unfold World.cell? at h0
 cases hb:w.heap[a.block]? with
 | none=>rw[hb]at h0;cases h0
 | some o=>
  rw[hb]at h0
  cases o with
  | cells c t fr=>
   simp only[]at h0;split at h0
   ·cases h0
   ·rename_i hsp
    refine⟨by simpa using hsp,c,t,fr,rfl,fun j hj=>?_⟩
    have:=key j hj
    unfold World.cell? at this
    by_cases hj0:j=0
    ·subst hj0;rw[hv0,ybu];exact h0
    ·have eb:(a.add j).block=a.block:=by unfold Addr.add;rw[if_neg hj0]
     have eo:(a.add j).off=a.off+j:=by unfold Addr.add;rw[if_neg hj0]
     have es:(a.add j).spot=none:=by unfold Addr.add;rw[if_neg hj0]
     rw[eb,hb]at this;simp only[es,eo,Option.isSome_none,yar,if_false]at this;exact this
  | _=>cases h0
theorem zps{b:Nat}{c:Array Value}{t:TypeId}{fr:Nat × Nat}(h:w.heap[b]?=some (.cells c t fr)) :
  (rI w).get (256+b)=some (.cells (zg3 (fun j=>(c[j]?).bind (zr0 w.heap.size)) c.size) c.size none):=by
 have hb:=(yaf.1 h).1
 unfold rI;rw[nQ,if_pos (by omega),if_neg (by omega),show 256+b-256=b by omega,h]
 rfl
theorem at_old{b off n:Nat}{c:Array Value}{t:TypeId}{fr:Nat × Nat}{cs:List Value}(h:w.heap[b]?=some (.cells c t fr))(hl:cs.length=n)(hc:∀j,j<n->c[off+j]?=cs[j]?)(hs:Has w.heap.size cs) :
  At (rI w) (256+b) off (cs.map (av w.heap.size)):=by
 refine⟨_,_,_,zps h,fun j a ha=>?_⟩
 rw[yav]at ha
 cases hj:cs[j]? with
 | none=>rw[hj]at ha;cases ha
 | some v=>
  rw[hj]at ha;have hlt:j<n:=by rw[<- hl];exact(yad.1 hj).1
  have h1:=hc j hlt
  rw[hj]at h1;have hsz:off+j<c.size:=(yaf.1 h1).1
  rw[nQ,if_pos hsz,h1];have ha:av w.heap.size v=a:=by simpa using ha
  rw[<- ha];exact hs v (ybw hj)
theorem zci{cs:List Value}:∀ {fs:List Field} {off:Nat},zp8 P off fs cs.length=true->(fs.map fun f=>(cs.drop f.offset).take (P.cellsOf f.type)).flatten=cs.drop off
 | [],off,h=>by simp[zp8]at h;subst h;simp
 | f::fs,off,h=>by
  rw[zp8,yac]at h;obtain⟨h1,h2⟩:=h
  have h1:f.offset=off:=by simpa using h1
  rw[ybn,List.flatten_cons,zci h2,h1,<- List.drop_drop,List.take_append_drop]
theorem zyq{α β:Type}{R:α->β->Prop}:∀ {l:List α} {m:List β},m.length=l.length->(∀(i:Nat) a b,l[i]?=some a->m[i]?=some b->R a b)->zD R l m
 | [],[],_,_=>.nil
 | [],_::_,h,_=>by simp at h
 | _::_,[],h,_=>by simp at h
 | a::l,b::m,h,k=>.cons (k 0 a b (by simp) (by simp)) (zyq (by simpa using h) fun i a b h1 h2=>k (i+1) a b (by simpa using h1) (by simpa using h2))
theorem z5b{S:TypeId->Prop}(hP:Plain P S)(h0:∃c n lo,(rI w).get 0=some (.cells c n lo)) :
  ∀(fuel:Nat) (t:TypeId) (cs:List Value) (x:DataW H × List MemPlace),S t->DataW.trod enc P w 0 (fun _=>true) true fuel t cs=some x->(DataW.weights P t x.1).all (· <= reachBytes)=true →
   Has w.heap.size cs/\∃d,RD (rI w) d (cs.map (av w.heap.size))/\uG P fuel t d:=by
 intro fuel;induction fuel with
 | zero=>intro t cs x _ h;simp[DataW.trod]at h
 | succ n ih=>
  intro t cs x hS h hw;have hp:=hP.part t hS
  have one:∀ {v:Value} {a:zA},zr0 w.heap.size v=some a->Has w.heap.size [v]/\av w.heap.size v=a:=by
   intro v a hv;have:av w.heap.size v=a:=by unfold av;rw[hv];rfl
   refine⟨fun u hu=>?_,this⟩
   simp at hu;subst hu;rw[hv,this]
  cases hu:P.underlying t with
  | none=>rw[hu]at hp;exact hp.elim
  | some dt=>
  cases dt with
  | bool=>
   obtain⟨b,rfl,rfl⟩:=DataW.trod_bool hu h
   obtain⟨h1,h2⟩:=one (v:=.bool b) (a:=.bool b) rfl
   exact⟨h1,.bool b,by rw[cQ];simp[h2],by unfold uG;rw[hu];exact⟨b,rfl⟩⟩
  | int k=>
   obtain⟨m,rfl,rfl,hwf⟩:=DataW.trod_int hu h
   obtain⟨h1,h2⟩:=one (v:=.int k m) (a:=.int k m) rfl
   exact⟨h1,.int k m,by rw[gL];simp[h2],by unfold uG;rw[hu];exact⟨m,rfl,hwf⟩⟩
  | string=>
   obtain⟨s,rfl,rfl,_⟩:=DataW.trod_string hu h
   obtain⟨h1,h2⟩:=one (v:=.string s) (a:=.str (tE s)) rfl
   refine⟨h1,.str (tE s),by rw[zN];simp[h2],?_⟩
   unfold uG;rw[hu];simp only[DataW.weights,ybh,ybl,Bool.and_true,decide_eq_true_eq]at hw;refine⟨_,rfl,by unfold tE;simpa using hw,fun c hc=>?_⟩
   unfold tE at hc;simp only[List.mem_map]at hc;obtain⟨u,_,rfl⟩:=hc
   exact UInt8.toNat_lt u
  | slice e=>
   rw[hu]at hp;obtain⟨hSe,hpos⟩:=hp
   rcases DataW.trod_slice hu h with⟨rfl,rfl⟩ | ⟨a,len,cap,sH,rest,m,hm,rfl,rfl,_,hlc,_,hel,hE,hR,_⟩
   ·obtain⟨h1,h2⟩:=one (v:=.slice none 0 0) (a:=.nilslice) rfl
    refine⟨h1,.sl (P.cellsOf e) [],by rw[aJ];exact⟨_,by simp[h2],[],.inl ⟨rfl,rfl⟩,by rw[kC]⟩,?_⟩
    unfold uG;rw[hu];exact⟨[],rfl,by simp,fun y hy=>by simp at hy⟩
   ·obtain rfl:n=m:=by omega
    simp only[DataW.weights,hu,ybh,yac,ycj,decide_eq_true_eq,yag]at hw;obtain⟨hsz,hwe,hwr⟩:=hw
    by_cases hcap:cap=0
    ·subst hcap
     obtain rfl:len=0:=by omega
     obtain⟨h1,h2⟩:=one (v:=.slice (some a) 0 0) (a:=.slice 0 0 0 0) (by cases a;rfl)
     refine⟨h1,.sl (P.cellsOf e) [],?_,?_⟩
     ·rw[aJ,ybn,List.map_nil,h2]
      refine⟨_,rfl,[],.inr ⟨0,0,0,rfl,yal _,?_,fun i cs hi=>by simp at hi⟩,by rw[kC]⟩
      obtain⟨c,k,lo,hc⟩:=h0
      have:=hc
      unfold rI at this;rw[nQ]at this;split at this
      case isFalse=>cases this
      rw[if_pos (by omega)]at this
      cases ho:w.heap[0]? with
      | none=>rw[ho]at this;cases this
      | some o=>
       rw[ho]at this
       cases o with
       | cells c' t' fr'=>
        simp only[Option.bind_some,absB]at this
        cases this
        exact⟨_,_,_,hc,.inl rfl⟩
       | _=>cases this
     ·unfold uG
      rw[hu];exact⟨[],rfl,by simp,fun y hy=>by simp at hy⟩
    ·have hr:=(hR rfl).1
     have hRr:=(hR rfl).2
     have hel1:∀i,i<len->∃p:List Value × D,w.cells? 0 (a.add (i*P.cellsOf e)) (P.cellsOf e)=some p.1/\Has w.heap.size p.1/\RD (rI w) p.2 (p.1.map (av w.heap.size))/\uG P n e p.2:=by
      intro i hi;have:=hE i hi
      obtain⟨y,hy⟩:∃y,sH[i]?=some y:=⟨sH[i]'(by omega),yae (by omega)⟩
      rw[hy]at this;simp only[Option.bind_eq_some_iff]at this;obtain⟨c1,hc1,hy1⟩:=this
      obtain⟨g1,d,g2,g3⟩:=ih e c1 y hSe hy1 (gZ hwe (i:=i) (by simp[hy]))
      exact⟨(c1,d),hc1,g1,g2,g3⟩
     obtain⟨l,hl,hq⟩:=zd1 len hel1
     have hfirst:∃c1,w.cells? 0 a (P.cellsOf e)=some c1:=by
      by_cases hlen:len=0
      ·have:=hRr 0 (by omega)
       obtain⟨y,hy⟩:∃y,rest[0]?=some y:=⟨rest[0]'(by omega),yae (by omega)⟩
       rw[hy]at this;simp only[Option.bind_eq_some_iff]at this;obtain⟨c1,hc1,_⟩:=this
       exact⟨c1,by simpa[hlen,Addr.add]using hc1⟩
      ·obtain⟨p,hp,_⟩:=hel1 0 (by omega)
       exact⟨p.1,by simpa[Addr.add]using hp⟩
     obtain⟨c1,hc1⟩:=hfirst
     obtain⟨hspot,c,ct,fr,hblk,_⟩:=(zpn hc1).2 hpos
     have hb:a.block<w.heap.size:=(yaf.1 hblk).1
     have hav:zr0 w.heap.size (.slice (some a) len cap)=some (.slice (256+a.block) a.off len cap):=by
      obtain⟨bb,oo,ss⟩:=a
      simp only at hspot hb
      subst hspot
      cases cap with
      | zero=>exact absurd rfl hcap
      | succ cap=>unfold zr0;simp only[];rw[if_pos hb]
     obtain⟨h1,h2⟩:=one hav
     refine⟨h1,.sl (P.cellsOf e) (l.map (·.2)),?_,?_⟩
     ·rw[aJ]
      refine⟨_,by rw[ybn,List.map_nil,h2],l.map (fun p=>p.1.map (av w.heap.size)),.inr ⟨256+a.block,a.off,cap,by rw[yag,hl],by rw[yag,hl];exact hlc,⟨_,_,_,zps hblk,.inl rfl⟩,fun i cs hi=>?_⟩,?_⟩
      ·rw[yav]at hi
       cases hli:l[i]? with
       | none=>rw[hli]at hi;cases hi
       | some p=>
        rw[hli]at hi;obtain rfl:p.1.map (av w.heap.size)=cs:=by simpa using hi
        obtain⟨k1,k2,k3,k4⟩:=hq i p hli
        obtain⟨m1,m2⟩:=zpn k1
        obtain⟨_,c',ct',fr',hb',hcc⟩:=m2 hpos
        have eb:(a.add (i*P.cellsOf e)).block=a.block:=by unfold Addr.add;split<;>rfl
        have eo:(a.add (i*P.cellsOf e)).off=a.off+i*P.cellsOf e:=by unfold Addr.add;split<;>simp_all
        rw[eb]at hb'
        rw[hblk]at hb'
        cases hb'
        rw[eo]at hcc;exact⟨by rw[yag];exact m1,at_old hblk m1 hcc k2⟩
      ·refine kC.mk (by simp) fun i d cs' h1 h2=>?_
       rw[yav]at h1 h2
       cases hli:l[i]? with
       | none=>rw[hli]at h1;cases h1
       | some p=>
        rw[hli]at h1 h2;obtain rfl:p.2=d:=by simpa using h1
        obtain rfl:p.1.map (av w.heap.size)=cs':=by simpa using h2
        exact(hq i p hli).2.2.1
     ·unfold uG
      rw[hu];refine⟨_,rfl,?_,fun y hy=>?_⟩
      ·rw[yag,hl,<- hel]
       exact Nat.le_trans (yaj _ (Nat.le_add_right _ _)) hsz
      ·obtain⟨p,hp,rfl⟩:=List.mem_map.1 hy
       obtain⟨i,hi⟩:=List.mem_iff_getElem?.1 hp
       exact(hq i p hi).2.2.2
  | struct fs=>
   rw[hu]at hp;obtain⟨hf,ht⟩:=hp
   obtain⟨xs,m,hm,rfl,hlen,hxs,hel⟩:=DataW.trod_struct hu h
   obtain rfl:n=m:=by omega
   simp only[DataW.weights,hu]at hw;have hel1:∀i,i<fs.toList.length->∃p:D,∀f,fs.toList[i]?=some f->Has w.heap.size ((cs.drop f.offset).take (P.cellsOf f.type))/\RD (rI w) p (((cs.drop f.offset).take (P.cellsOf f.type)).map (av w.heap.size))/\uG P n f.type p:=by
    intro i hi;have hi':i<fs.size:=by simpa using hi
    obtain⟨f,hfi⟩:∃f,fs.toList[i]?=some f:=⟨fs.toList[i],yae hi⟩
    have:=hel i f (by simpa using hfi)
    obtain⟨y,hy⟩:∃y,xs[i]?=some y:=⟨xs[i]'(by omega),yae (by omega)⟩
    rw[hy]at this;obtain⟨g1,d,g2,g3⟩:=ih f.type _ y (hf f (ybw hfi)) this (hZ hw (i:=i) (by rw[yav,hfi];rfl) (by rw[yav,hy];rfl))
    refine⟨d,fun f' hf'=>?_⟩
    rw[hfi]at hf'
    cases hf'
    exact⟨g1,g2,g3⟩
   obtain⟨l,hl,hq⟩:=zd1 fs.toList.length hel1
   have hfl:=zci (cs:=cs) (P:=P) (fs:=fs.toList) (off:=0) (by rw[hlen];exact ht)
   rw[ybs]at hfl;refine⟨fun v hv=>?_,.st l,?_,?_⟩
   ·rw[<- hfl]at hv
    obtain⟨part,hpart,hv⟩:=List.mem_flatten.1 hv
    obtain⟨f,hfm,rfl⟩:=List.mem_map.1 hpart
    obtain⟨i,hi⟩:=List.mem_iff_getElem?.1 hfm
    have hi':i<fs.toList.length:=(yad.1 hi).1
    exact(hq i (l[i]'(by omega)) (yae (by omega)) f hi).1 v hv
   ·rw[kI]
    refine⟨fs.toList.map (fun f=>((cs.drop f.offset).take (P.cellsOf f.type)).map (av w.heap.size)),?_,kC.mk (by simp[hl]) fun i d cs' h1 h2=>?_⟩
    ·conv=>lhs;rw[<- hfl]
     rw[List.map_flatten,List.map_map];rfl
    ·rw[yav]at h2
     cases hfi:fs.toList[i]? with
     | none=>rw[hfi]at h2;cases h2
     | some f=>
      rw[hfi]at h2;obtain rfl:=ybj h2
      exact(hq i d h1 f hfi).2.1
   ·unfold uG
    rw[hu];exact⟨l,rfl,zyq hl fun i f d h1 h2=>(hq i d h2 f h1).2.2⟩
  | _=>rw[hu]at hp;exact hp.elim
end
end Go.Am
namespace Go.Am
open Go Go.RowKit
structure zpv (P:Program) where
 (b i u8 u16 s limbs whole frac val expr exprs row rows table tables dfn dfns clause clauses plan:TypeId)
 hb:P.underlying b=some .bool
 hi:P.underlying i=some (.int .i64)
 hu8:P.underlying u8=some (.int .u8)
 hu16:P.underlying u16=some (.int .u16)
 hs:P.underlying s=some .string
 hlimbs:P.underlying limbs=some (.slice u16)
 hexprs:P.underlying exprs=some (.slice expr)
 hrows:P.underlying rows=some (.slice row)
 htables:P.underlying tables=some (.slice table)
 hdfns:P.underlying dfns=some (.slice dfn)
 hclauses:P.underlying clauses=some (.slice clause)
 hwhole:∃fs,P.underlying whole=some (.struct fs)/\fs.toList.map (·.type)=[b,limbs]
 hfrac:∃fs,P.underlying frac=some (.struct fs)/\fs.toList.map (·.type)=[whole,whole]
 hval:∃fs,P.underlying val=some (.struct fs)/\fs.toList.map (·.type)=[u8,frac,i]
 hexpr:∃fs,P.underlying expr=some (.struct fs)/\fs.toList.map (·.type)=[u8,s,val,exprs]
 hrow:∃fs,P.underlying row=some (.struct fs)/\fs.toList.map (·.type)=[i,i,i,frac]
 htable:∃fs,P.underlying table=some (.struct fs)/\fs.toList.map (·.type)=[s,b,rows]
 hdfn:∃fs,P.underlying dfn=some (.struct fs)/\fs.toList.map (·.type)=[s,u8,b]
 hclause:∃fs,P.underlying clause=some (.struct fs)/\fs.toList.map (·.type)=[s,s,i,i,i,b,expr,expr]
 hplan:∃fs,P.underlying plan=some (.struct fs)/\fs.toList.map (·.type)=[s,dfns,tables,clauses]
 cu16:P.cellsOf u16=1
 cexpr:P.cellsOf expr=9
 crow:P.cellsOf row=7
 ctable:P.cellsOf table=3
 cdfn:P.cellsOf dfn=3
 cclause:P.cellsOf clause=24
 bytes:1<=P.bytesOf u16/\1<=P.bytesOf expr/\1<=P.bytesOf row/\1<=P.bytesOf table/\1<=P.bytesOf dfn/\1<=P.bytesOf clause
section
variable {P:Program}{f:Nat}{t:TypeId}{x:D}
theorem uW(h:uG P f t x):∃g,f=g+1:=by
 cases f with
 | zero=>exact h.elim
 | succ g=>exact⟨g,rfl⟩
theorem iX(ht:P.underlying t=some .bool)(h:uG P f t x):∃b,x=.bool b:=by
 obtain⟨g,rfl⟩:=uW h
 unfold uG at h;rw[ht]at h;exact h
theorem zcg{k:IntKind}(ht:P.underlying t=some (.int k))(h:uG P f t x):∃n,x=.int k n/\(Lit.int k n).wf=true:=by
 obtain⟨g,rfl⟩:=uW h
 unfold uG at h;rw[ht]at h;exact h
theorem xR(ht:P.underlying t=some (.int .i64))(h:uG P f t x):∃n,x=.int .i64 n/\i64 n:=by
 obtain⟨n,rfl,hn⟩:=zcg ht h
 simp only[Lit.wf,yac,decide_eq_true_eq]at hn;have h1:IntKind.i64.min = -9223372036854775808:=rfl
 have h2:IntKind.i64.max=9223372036854775807:=rfl
 rw[h1,h2]at hn;exact⟨n,rfl,hn.1,by omega⟩
theorem zbo(ht:P.underlying t=some (.int .u8))(h:uG P f t x):∃n:Nat,x=.int .u8 (n:Int)/\n<256:=by
 obtain⟨n,rfl,hn⟩:=zcg ht h
 simp only[Lit.wf,yac,decide_eq_true_eq]at hn;have h1:IntKind.u8.min=0:=rfl
 have h2:IntKind.u8.max=255:=rfl
 rw[h1,h2]at hn;exact⟨n.toNat,by rw[show((n.toNat:Nat):Int)=n by omega],by omega⟩
theorem zsr(ht:P.underlying t=some (.int .u16))(h:uG P f t x):∃n:Nat,x=.int .u16 (n:Int)/\n<65536:=by
 obtain⟨n,rfl,hn⟩:=zcg ht h
 simp only[Lit.wf,yac,decide_eq_true_eq]at hn;have h1:IntKind.u16.min=0:=rfl
 have h2:IntKind.u16.max=65535:=rfl
 rw[h1,h2]at hn;exact⟨n.toNat,by rw[show((n.toNat:Nat):Int)=n by omega],by omega⟩
theorem iT(ht:P.underlying t=some .string)(h:uG P f t x):∃l:List Nat,x=.str l/\l.length<qC/\∀c∈l,c<256:=by
 obtain⟨g,rfl⟩:=uW h
 unfold uG at h;rw[ht]at h;obtain⟨l,h1,h2,h3⟩:=h
 unfold reachBytes at h2;exact⟨l,h1,by unfold qC;omega,h3⟩
theorem bP{e:TypeId}{sz:Nat}(ht:P.underlying t=some (.slice e))(hc:P.cellsOf e=sz)(hb:1<=P.bytesOf e)(h:uG P f t x):∃(l:List D) (g:Nat),f=g+1/\x=.sl sz l/\l.length<qC/\∀y∈l,uG P g e y:=by
 obtain⟨g,rfl⟩:=uW h
 unfold uG at h;rw[ht]at h;obtain⟨l,h1,h2,h3⟩:=h
 have:l.length<=l.length*P.bytesOf e:=Nat.le_mul_of_pos_right _ hb
 unfold reachBytes at h2;exact⟨l,g,rfl,by rw[<- hc];exact h1,by unfold qC;omega,h3⟩
theorem zD.ofMap{α β γ:Type}{k:α->γ}{R:γ->β->Prop}:∀ {l:List α} {m:List β},zD (fun a b=>R (k a) b) l m->zD R (l.map k) m
 | [],_,.nil=>.nil
 | _::_,_::_,.cons h r=>.cons h (zD.ofMap r)
theorem hO{ts:List TypeId}(ht:∃fs,P.underlying t=some (.struct fs)/\fs.toList.map (·.type)=ts)(h:uG P f t x):∃(l:List D) (g:Nat),f=g+1/\x=.st l/\zD (fun t y=>uG P g t y) ts l:=by
 obtain⟨fs,ht,rfl⟩:=ht
 obtain⟨g,rfl⟩:=uW h
 unfold uG at h;rw[ht]at h;obtain⟨l,h1,h2⟩:=h
 exact⟨l,g,rfl,h1,zD.ofMap h2⟩
theorem zD.cons_inv{α β:Type}{R:α->β->Prop}{a:α}{l:List α}{m:List β}(h:zD R (a::l) m):∃b r,m=b::r/\R a b/\zD R l r:=by
 cases h with
 | cons h1 h2=>exact⟨_,_,rfl,h1,h2⟩
theorem zD.nil_inv{α β:Type}{R:α->β->Prop}{m:List β}(h:zD R ([]:List α) m):m=[]:=by
 cases h;rfl
theorem yP{α β:Type}{g:α->β}{Q:α->Prop}:∀ {l:List β},(∀y∈l,∃a,y=g a/\Q a)->∃m:List α,l=m.map g/\∀a∈m,Q a
 | [],_=>⟨[],rfl,fun _ h=>by cases h⟩
 | y::l,h=>by
  obtain⟨a,h1,h2⟩:=h y (by simp)
  obtain⟨m,h3,h4⟩:=yP (l:=l) fun z hz=>h z (yas _ hz)
  exact⟨a::m,by simp[h1,h3],fun b hb=>by
   rcases yat.1 hb with rfl | hb
   ·exact h2
   ·exact h4 b hb⟩
end
namespace zpv
section
variable {P:Program}(A:zpv P){f:Nat}{x:D}
theorem dWhole(h:uG P f A.whole x):∃w:dH,x=w.d/\w.limbs.length<qC/\dB 65536 w.limbs:=by
 obtain⟨l,g,rfl,rfl,k⟩:=hO A.hwhole h
 obtain⟨d1,r,rfl,h1,k⟩:=k.cons_inv
 obtain⟨d2,r,rfl,h2,k⟩:=k.cons_inv
 obtain rfl:=k.nil_inv
 obtain⟨b,rfl⟩:=iX A.hb h1
 obtain⟨l,g,rfl,rfl,hl,hm⟩:=bP A.hlimbs A.cu16 A.bytes.1 h2
 obtain⟨m,rfl,hq⟩:=yP (g:=fun n:Nat=>D.int .u16 (n:Int)) (Q:=fun n=>n<65536) fun y hy=>zsr A.hu16 (hm y hy)
 exact⟨⟨b,m⟩,rfl,by simpa using hl,hq⟩
theorem dFrac(h:uG P f A.frac x):∃w:gF,x=w.dd/\w.fit:=by
 obtain⟨l,g,rfl,rfl,k⟩:=hO A.hfrac h
 obtain⟨d1,r,rfl,h1,k⟩:=k.cons_inv
 obtain⟨d2,r,rfl,h2,k⟩:=k.cons_inv
 obtain rfl:=k.nil_inv
 obtain⟨a,rfl,a1,a2⟩:=A.dWhole h1
 obtain⟨b,rfl,b1,b2⟩:=A.dWhole h2
 exact⟨⟨a,b⟩,rfl,⟨a1,b1⟩,a2,b2⟩
theorem dVal(h:uG P f A.val x):∃w:aA,x=w.d/\w.fit:=by
 obtain⟨l,g,rfl,rfl,k⟩:=hO A.hval h
 obtain⟨d1,r,rfl,h1,k⟩:=k.cons_inv
 obtain⟨d2,r,rfl,h2,k⟩:=k.cons_inv
 obtain⟨d3,r,rfl,h3,k⟩:=k.cons_inv
 obtain rfl:=k.nil_inv
 obtain⟨kk,rfl,hk⟩:=zbo A.hu8 h1
 obtain⟨q,rfl,hq⟩:=A.dFrac h2
 obtain⟨n,rfl,hn⟩:=xR A.hi h3
 exact⟨⟨kk,q,n⟩,rfl,hk,hq,hn.1,hn.2⟩
theorem zw9:∀ {l:List uA},(∀x∈l,x.fit)->uA.fits l
 | [],_=>by unfold uA.fits;trivial
 | x::l,h=>by unfold uA.fits;exact⟨h x (by simp),zw9 fun y hy=>h y (yas _ hy)⟩
theorem dExpr:∀(f:Nat) (x:D),uG P f A.expr x->∃w:uA,x=w.d/\w.fit:=by
 intro f;induction f using Nat.strongRecOn with
 | _ f ih=>
 intro x h;obtain⟨l,g,rfl,rfl,k⟩:=hO A.hexpr h
 obtain⟨d1,r,rfl,h1,k⟩:=k.cons_inv
 obtain⟨d2,r,rfl,h2,k⟩:=k.cons_inv
 obtain⟨d3,r,rfl,h3,k⟩:=k.cons_inv
 obtain⟨d4,r,rfl,h4,k⟩:=k.cons_inv
 obtain rfl:=k.nil_inv
 obtain⟨kk,rfl,hk⟩:=zbo A.hu8 h1
 obtain⟨n,rfl,hn,hn'⟩:=iT A.hs h2
 obtain⟨v,rfl,hv⟩:=A.dVal h3
 obtain⟨l,g',rfl,rfl,hl,hm⟩:=bP A.hexprs A.cexpr A.bytes.2.1 h4
 obtain⟨m,rfl,hq⟩:=yP (g:=uA.d) (Q:=uA.fit) fun y hy=>ih g' (by omega) y (hm y hy)
 refine⟨.mk kk n v m,?_,?_⟩
 ·rw[uA.d,uA.ds_eq]
 ·unfold uA.fit
  exact⟨hk,hn,hn',hv,by simpa using hl,zw9 hq⟩
theorem dRow(h:uG P f A.row x):∃w:uF,x=w.d/\w.fit:=by
 obtain⟨l,g,rfl,rfl,k⟩:=hO A.hrow h
 obtain⟨d1,r,rfl,h1,k⟩:=k.cons_inv
 obtain⟨d2,r,rfl,h2,k⟩:=k.cons_inv
 obtain⟨d3,r,rfl,h3,k⟩:=k.cons_inv
 obtain⟨d4,r,rfl,h4,k⟩:=k.cons_inv
 obtain rfl:=k.nil_inv
 obtain⟨a,rfl,ha⟩:=xR A.hi h1
 obtain⟨b,rfl,hb⟩:=xR A.hi h2
 obtain⟨c,rfl,hc⟩:=xR A.hi h3
 obtain⟨q,rfl,hq⟩:=A.dFrac h4
 exact⟨⟨a,b,c,q⟩,rfl,ha,hb,hc,hq⟩
theorem dTable(h:uG P f A.table x):∃w:vF,x=w.d/\w.fit:=by
 obtain⟨l,g,rfl,rfl,k⟩:=hO A.htable h
 obtain⟨d1,r,rfl,h1,k⟩:=k.cons_inv
 obtain⟨d2,r,rfl,h2,k⟩:=k.cons_inv
 obtain⟨d3,r,rfl,h3,k⟩:=k.cons_inv
 obtain rfl:=k.nil_inv
 obtain⟨n,rfl,hn,_⟩:=iT A.hs h1
 obtain⟨b,rfl⟩:=iX A.hb h2
 obtain⟨l,g',rfl,rfl,hl,hm⟩:=bP A.hrows A.crow A.bytes.2.2.1 h3
 obtain⟨m,rfl,hq⟩:=yP (g:=uF.d) (Q:=uF.fit) fun y hy=>A.dRow (hm y hy)
 exact⟨⟨n,b,m⟩,rfl,hn,by simpa using hl,hq⟩
theorem dDef(h:uG P f A.dfn x):∃w:dJ,x=w.d/\w.fit:=by
 obtain⟨l,g,rfl,rfl,k⟩:=hO A.hdfn h
 obtain⟨d1,r,rfl,h1,k⟩:=k.cons_inv
 obtain⟨d2,r,rfl,h2,k⟩:=k.cons_inv
 obtain⟨d3,r,rfl,h3,k⟩:=k.cons_inv
 obtain rfl:=k.nil_inv
 obtain⟨n,rfl,hn,_⟩:=iT A.hs h1
 obtain⟨kk,rfl,hk⟩:=zbo A.hu8 h2
 obtain⟨b,rfl⟩:=iX A.hb h3
 exact⟨⟨n,kk,b⟩,rfl,hn,hk⟩
theorem dClause(h:uG P f A.clause x):∃w:jD,x=w.d/\w.fit:=by
 obtain⟨l,g,rfl,rfl,k⟩:=hO A.hclause h
 obtain⟨d1,r,rfl,h1,k⟩:=k.cons_inv
 obtain⟨d2,r,rfl,h2,k⟩:=k.cons_inv
 obtain⟨d3,r,rfl,h3,k⟩:=k.cons_inv
 obtain⟨d4,r,rfl,h4,k⟩:=k.cons_inv
 obtain⟨d5,r,rfl,h5,k⟩:=k.cons_inv
 obtain⟨d6,r,rfl,h6,k⟩:=k.cons_inv
 obtain⟨d7,r,rfl,h7,k⟩:=k.cons_inv
 obtain⟨d8,r,rfl,h8,k⟩:=k.cons_inv
 obtain rfl:=k.nil_inv
 obtain⟨n,rfl,hn,_⟩:=iT A.hs h1
 obtain⟨l,rfl,hl,_⟩:=iT A.hs h2
 obtain⟨a,rfl,ha⟩:=xR A.hi h3
 obtain⟨b,rfl,hb⟩:=xR A.hi h4
 obtain⟨c,rfl,hc⟩:=xR A.hi h5
 obtain⟨o,rfl⟩:=iX A.hb h6
 obtain⟨w,rfl,hw⟩:=A.dExpr _ _ h7
 obtain⟨v,rfl,hv⟩:=A.dExpr _ _ h8
 exact⟨⟨n,l,a,b,c,o,w,v⟩,rfl,hn,hl,ha,hb,hc,hw,hv⟩
theorem dPlan(h:uG P f A.plan x):∃w:cH,x=w.d/\w.fit:=by
 obtain⟨l,g,rfl,rfl,k⟩:=hO A.hplan h
 obtain⟨d1,r,rfl,h1,k⟩:=k.cons_inv
 obtain⟨d2,r,rfl,h2,k⟩:=k.cons_inv
 obtain⟨d3,r,rfl,h3,k⟩:=k.cons_inv
 obtain⟨d4,r,rfl,h4,k⟩:=k.cons_inv
 obtain rfl:=k.nil_inv
 obtain⟨n,rfl,hn,_⟩:=iT A.hs h1
 obtain⟨l2,g2,rfl,rfl,hl2,hm2⟩:=bP A.hdfns A.cdfn A.bytes.2.2.2.2.1 h2
 obtain⟨l3,g3,_,rfl,hl3,hm3⟩:=bP A.htables A.ctable A.bytes.2.2.2.1 h3
 obtain⟨l4,g4,_,rfl,hl4,hm4⟩:=bP A.hclauses A.cclause A.bytes.2.2.2.2.2 h4
 obtain⟨m2,rfl,hq2⟩:=yP (g:=dJ.d) (Q:=dJ.fit) fun y hy=>A.dDef (hm2 y hy)
 obtain⟨m3,rfl,hq3⟩:=yP (g:=vF.d) (Q:=vF.fit) fun y hy=>A.dTable (hm3 y hy)
 obtain⟨m4,rfl,hq4⟩:=yP (g:=jD.d) (Q:=jD.fit) fun y hy=>A.dClause (hm4 y hy)
 exact⟨⟨n,m2,m3,m4⟩,rfl,⟨hn,by simpa using hl2,by simpa using hl3,by simpa using hl4,hq2,hq3,hq4⟩⟩
end
end zpv
end Go.Am
namespace Go.Am
open Go Go.RowKit Go.Proofs
section
variable {w:World}
theorem zw1(h:aI w):sK (rI w):=by
 obtain⟨t,h⟩:=h.kinds
 have hb:=(yaf.1 h).1
 have e:(rI w).get 0=some (.cells (zg3 (fun j=>((zrx xL).toArray[j]?).bind (zr0 w.heap.size)) (zrx xL).toArray.size) (zrx xL).toArray.size none):=by
  unfold rI;rw[nQ,if_pos (by omega),if_pos (by omega),h]
  rfl
 refine⟨_,_,_,e,fun j a ha=>?_⟩
 rw[nQ,yax];have hj:j<wT.length:=by
  have:=(yad.1 ha).1
  simpa using this
 have hb2:wT.map zA.str=xL.map fun b=>zA.str (b.map UInt8.toNat):=zih.symm
 rw[hb2,yav]at ha
 cases hbt:xL[j]? with
 | none=>rw[hbt]at ha;cases ha
 | some b=>
  rw[hbt]at ha;obtain rfl:=ybj ha
  have hlt:j<xL.length:=(yad.1 hbt).1
  rw[if_pos (by simp[zrx];exact hlt)]
  simp only[zrx,List.getElem?_toArray,yav,hbt,Option.map_some,Option.bind_some,zr0];simp[tE]
theorem z5w{b:Nat}{y:jA}(h:(rI w).get b=some y):b<256+w.heap.size:=by
 unfold rI at h;rw[nQ]at h;split at h
 ·assumption
 ·cases h
theorem z6o{cs:List Value}(h:Has w.heap.size cs):qB (muW w) (cs.map (av w.heap.size)) cs:=by
 induction cs with
 | nil=>exact .nil
 | cons v l ih=>exact .cons (zpr (h v (by simp))) (ih fun u hu=>h u (yas _ hu))
theorem zp5(hL:aI w)(f:Nat)(args:List zA)(args':Array Value)(hp:∀ [dC],yA.prims.get f=none)(hl:qB (muW w) args args'.toList)
  (h:∀ [dC],∃Q:cB,Wc yA F f args (rI w) Q/\∀v t,Q v t->v=.bool true) :
  Calls Tryz.prog f args' w fun e w'=>e=.returned (.bool true)/\Below w.heap.size w w':=by
 letI:dC:=⟨w.heap.size⟩
 obtain⟨Q,h1,h2⟩:=h
 refine(zmw (H:=⟨256+w.heap.size,rI w⟩) (sim19 hL.size) hL z68 hp (yal _) (fun b y hb=>z5w hb) hrelW hl h1).mono fun e w' ⟨v,v',t',μ',g1,g2,g3,g4,g5⟩=>?_
 have:=h2 v t' g4
 subst this;rw[rA]at g3;exact⟨by rw[g1,g3],g5⟩
theorem zz6{cs:Array Value}(h:Has w.heap.size cs.toList):rA (muW w) (.agg (cs.toList.map (av w.heap.size))) (.agg cs):=by
 rw[rA];exact⟨cs,rfl,z6o h⟩
end
end Go.Am
namespace Go.Am
open Go Go.RowKit Go.ChangeShapes Go.WideShapes Go.ChangeAt
section
variable {H:Type}{enc:TypeId × Value->H}{P:Program}
theorem zaa(hl:laidOutB P=true){W W':World}(hb:Below W.heap.size W W'):∀ {ts:List TypeId} {vs:List Value} {ds:List (DataW H)} {ps:List MemPlace},(∀t∈ts,P.readableRec t=true/\t<P.types.size) →
  DataW.TrodAll enc P W 0 (fun _=>true) true ts vs ds ps->(∀x∈ps,x.block<W.heap.size)->DataW.TrodAll enc P W' 0 (fun b=>decide (b<W.heap.size)) true ts vs ds ps
 | [],[],[],_,_,h,_=>h
 | t::ts,_::_,_::_,_,ht,⟨p,q,h1,h2,e⟩,hs=>by
  subst e;exact⟨p,q,Below.trod hl (ht t (by simp)).1 (ht t (by simp)).2 h1 hb fun x hx=>hs x (ycd _ hx),
   zaa hl hb (fun t ht'=>ht t (yas _ ht')) h2 fun x hx=>hs x (ybg _ hx),rfl⟩
 | [],_::_,_,_,_,h,_=>by simp[DataW.TrodAll]at h
 | [],[],_::_,_,_,h,_=>by simp[DataW.TrodAll]at h
 | _::_,[],_,_,_,h,_=>by simp[DataW.TrodAll]at h
 | _::_,_::_,[],_,_,h,_=>by simp[DataW.TrodAll]at h
theorem law_post(hl:laidOutB P=true){f:Func}{s:ChangeSpec}{tb:TypeId}(hp:∀t∈f.params.toList,P.readableRec t=true/\t<P.types.size)(hv:s.vars=[])(hres:f.resultTypes = #[tb])(htb:P.underlying tb=some .bool)
  {W W':World} {args:Array Value} {ds gs:List (DataW H)} {before:List MemPlace} (hfn:s.fn H ds={ results:=[.lit (.bool true)],args:=ds })
  (hW:DataW.Whole enc P f.params.toList s.vars false W args.toList ds gs before) (hb:Below W.heap.size W W') :
  s.post enc P f false true false false W args (.bool true) W':=by
 have hW0:=hW
 obtain⟨p,q,hA,hV,rfl,hfz,hnd⟩:=hW
 rw[hv]at hV;obtain⟨rfl,rfl⟩:=trodVars_none hV
 refine⟨ds,[],p++[],[],p,[],hW0,?_,?_,?_,hb.frame _,fun h=>by cases h⟩
 ·rw[ybe,hfn,hres]
  exact trodAll_mk1 (shut_bool htb _)
 ·rw[ybe,hfn]
  exact zaa hl hb hp hA fun x hx=>hW0.lt x (by simpa using hx)
 ·rw[ybe,hfn,hv]
  exact rfl
theorem zn8{a:Assume}{C:Checked}{os:Os}{f:FuncId}{fn:Func}{s:ChangeSpec}{conds:List PathCond}{apart fresh handsOn again:Bool}{X:World->Array Value->Prop}
  (hX:∀(w w':World) (args:Array Value),w.heap=w'.heap->X w args->X w' args)
  (own:ownKnob C.prog.godebug=none) (started:os.Started) (noInit:C.prog.inits.idxOf? f=none) (hfn:C.prog.funcs[f]?=some fn)
  (witness:∃(w:World) (tape:Tape) (i:Input),w.os=os/\(w.forCall tape i).Shaped C.prog/\i.vars=[]/\Input.okWide C.prog (w.forCall tape i) .any w.heap.size f i ∧
   ((s.pre enc C.prog fn conds apart (w.forCall tape i).memory i.args/\X (w.forCall tape i).memory i.args)/\sizedMet enc C.prog fn (OpenSpec.ofChange s) apart (w.forCall tape i).memory i.args)/\a.holds C.prog (lone (Frame.enter C.prog f i.args .normal) [] (w.forCall tape i)))
  (contract:∀(W:World) (base:Nat) (args:Array Value) (ds gs:List (DataW H)) (before:List MemPlace),
   (∀(j:Nat) t v,fn.params[j]?=some t->args[j]?=some v->Value.okWide C.prog W .any base t v) →
   DataW.Whole enc C.prog fn.params.toList s.vars apart W args.toList ds gs before →
   (DataW.weightsEach C.prog (fn.params.toList++s.plain.varTypes C.prog) (ds++gs)).all (· <= reachBytes)=true->X W args->W.ShapedOpen C.prog →
   Calls C.prog f args W fun e W'=>∃v,e=.returned v/\s.post enc C.prog fn apart fresh handsOn again W args v W') :
  ReturnsInHanded a C os f .any (fun w args=>(s.pre enc C.prog fn conds apart w args/\X w args)/\sizedMet enc C.prog fn (OpenSpec.ofChange s) apart w args) (s.post enc C.prog fn apart fresh handsOn again):=by
 refine returnsInHanded_of_calls own started noInit witness ?_
 intro w tape i _ hsh _ hok hpre _;obtain⟨_,_,_,fn',hfn',_,_,_,_,hval⟩:=hok
 have e:fn'=fn:=ybj (hfn'.symm.trans hfn)
 subst e;obtain⟨⟨⟨ds,gs,before,hw,hc⟩,hx⟩,hz⟩:=hpre
 have hw':=DataW.Whole.of_heap (w':=w.forCall tape i) (by rfl) hw
 refine(contract (w.forCall tape i) w.heap.size i.args ds gs before hval hw' (hz.weights hw) (hX _ _ _ (by rfl) hx) hsh).mono fun e W' ⟨v,he,hp⟩=>?_
 subst he;exact ChangeSpec.post_blind hp
variable {w:World}{base:Nat}{spare:Nat->Bool}{held:Bool}{fuel:Nat}{t e:TypeId}{cs:List Value}{ps:List MemPlace}
theorem zkk{α:Type}{g:α->DataW H}{u:α->Value}{l:List α}{n:Nat}(ht:P.underlying t=some (.array n e))(hc:P.cellsOf e=1)(hn:P.cellsOf t=n)
  (h1:∀(m:Nat) (c:List Value) (x:DataW H × List MemPlace) (a:α),DataW.trod enc P w base spare held m e c=some x->x.1=g a->c=[u a])
  (h:DataW.trod enc P w base spare held fuel t cs=some (.agg (l.map g),ps)):cs=l.map u:=by
 obtain⟨xs,m,_,hx,hlen,hxs,hel⟩:=DataW.trod_array ht h
 simp only[Prod.mk.injEq,DataW.agg.injEq]at hx;have hl:l.length=n:=by have:=congrArg List.length hx.1;simp[hxs]at this;exact this
 rw[hn]at hlen;refine List.ext_getElem (by rw[hlen,yag,hl]) fun i hi1 hi2=>?_
 have hi:i<n:=by omega
 have:=hel i hi
 rw[hc]at this;have hc1:((cs.drop (i*1)).take 1)=[cs[i]]:=by
  rw[Nat.mul_one,yam hi1];rfl
 rw[hc1,yae (by omega)]at this
 have hxi:xs[i].1=g (l[i]'(by omega)):=by
  have:=congrArg (fun z=>z[i]?) hx.1
  simp only[yav]at this;rw[yae (by omega),yae (by omega)]at this
  simpa using this.symm
 have:=h1 m _ _ _ this hxi
 rw[List.getElem_map];simpa using this
theorem zzf(he:P.underlying e=some .string)(m:Nat)(c:List Value)(x:DataW H × List MemPlace)(b:List UInt8)(h:DataW.trod enc P w base spare held m e c=some x)(hx:x.1=.lit (.string b)):c=[.string ⟨b.toArray⟩]:=by
 obtain⟨s,rfl,rfl,_⟩:=DataW.trod_string he h
 simp at hx;rw[<- hx]
end
theorem joined_of{P:Program}{f:FuncId}{fn:Func}{s:ChangeSpec}{c:OpenClaim}
  (A:(c.wf (OpenSpec.ofChange s)&&laidOutB P&&mapsRowed P&&fn.params.all (P.readableRec ·)&&namedTie P c.named s.vars&&(c.stops == [])&&(P.stops == [])&&(c.knobs == [])&&(P.stopKnobs == []))=true)
  (h1:(c.inPlace == P.inPlace f)=true) (h2:(c.unfollowed == P.unfollowed f)=true) (h3:(c.recurses == P.recurses f)=true) (h4:(c.named == P.varsNamed f)=true)
  (E:((c.maps == (fn.params.toList++s.plain.varTypes P).any (P.mapsRec ·))&&(c.ifaces == (fn.params.toList++s.plain.varTypes P).any (P.ifacesRec ·))&&(c.mapsOut == P.mapsAmong fn.resultTypes.toList) &&
   (c.loops == (fn.params.toList++s.plain.varTypes P).any (P.loopsFrom ·))&&(c.wideKeys == (fn.params.toList++s.plain.varTypes P++fn.resultTypes.toList).any (P.wideKeysFrom ·)) &&
   s.vars.all (P.varReadable ·)&&fn.resultTypes.all (fun t=>P.readableRec t&&decide (t<P.types.size))&&(c.ifacesOut == fn.resultTypes.toList.any (P.ifacesRec ·))&&(c.loopsOut == fn.resultTypes.toList.any (P.loopsFrom ·))&&c.shortTexts.isNone)=true)
  (h5:(c.plainKeys == P.plainKeys)=true) (h6:P.stopsHeard=true) (h7:P.mayEnter=true) (h8:(c.lifted == P.liftsFinal)=true)
  (R:((P.make == some c.make)&&(c.kinds == (if c.domain.isEmpty then []else fn.params.toList.map fun t=>match P.underlying t with | some (.int k)=>some k | _=>none))&&(c.pinned == c.pinnedBy) &&
   (c.veiled == (fn.params.toList++s.plain.varTypes P++fn.resultTypes.toList).any (P.veiledRec ·))&&c.veiledFits P fn.params.toList (fn.params.toList++s.plain.varTypes P++fn.resultTypes.toList))=true) :
  joinedFacts P f fn s c=true:=by
 unfold joinedFacts;simp only[yac]at A E R ⊢
 obtain⟨⟨⟨⟨⟨⟨⟨⟨a1,a2⟩,a3⟩,a4⟩,a5⟩,a6⟩,a7⟩,a8⟩,a9⟩:=A
 obtain⟨⟨⟨⟨⟨⟨⟨⟨⟨e1,e2⟩,e3⟩,e4⟩,e5⟩,e6⟩,e7⟩,e8⟩,e9⟩,e10⟩:=E
 obtain⟨⟨⟨⟨r1,r2⟩,r3⟩,r4⟩,r5⟩:=R
 exact⟨⟨⟨⟨⟨⟨⟨⟨⟨⟨⟨⟨⟨⟨⟨⟨⟨⟨⟨⟨⟨⟨⟨⟨⟨⟨⟨⟨⟨⟨⟨a1,a2⟩,a3⟩,a4⟩,a5⟩,a6⟩,a7⟩,a8⟩,a9⟩,h1⟩,h2⟩,h3⟩,h4⟩,e1⟩,e2⟩,e3⟩,e4⟩,e5⟩,e6⟩,e7⟩,e8⟩,e9⟩,h5⟩,e10⟩,h6⟩,h7⟩,h8⟩,r1⟩,r2⟩,r3⟩,r4⟩,r5⟩
end Go.Am
namespace Go.Proofs.YthmbkdkibhffbaaGreatDoor
open Go Go.Am Go.RowKit Go.ChangeShapes Go.WideShapes Go.ChangeAt
theorem own:ownKnob Tryz.prog.godebug=none:=by kernel_rfl
theorem laidOut:laidOutB Tryz.prog=true:=by kernel_rfl
theorem gPow : Tryz.prog.globalNamed "internal/strconv.uint64pow10" = some 5 := by kernel_rfl
theorem gKinds : Tryz.prog.globalNamed "annuitant/operation.argumentKinds" = some 0 := by kernel_rfl
theorem tPow:(Tryz.prog.globals[5]?).map (·.type)=some 365:=by kernel_rfl
theorem tKinds:(Tryz.prog.globals[0]?).map (·.type)=some 273:=by kernel_rfl
def laid4 : List (String × DataW Unit) := [("math/bits.deBruijn32tab", Rows.laid_math_bits_deBruijn32tab), ("math/bits.deBruijn64tab", Rows.laid_math_bits_deBruijn64tab), ("internal/strconv.uint64pow10", Rows.laid_internal_strconv_uint64pow10), ("annuitant/operation.argumentKinds", Rows.laid_annuitant_operation_argumentKinds)]
theorem door_met(os:Os)(args:Array Value):laidMetH Tryz.prog laid4 ((World.doorLaid Tryz.prog 60 os).forCall (fun _ _=>0) ⟨#[],args,[]⟩).memory:=
 laidMetH_of_parts3 (fuel:=8) (laidMet_of_run' 8 (by kernel_rfl) (by kernel_rfl)) (by kernel_rfl) (by kernel_rfl)
theorem zh5{W:World}{n:String}{g:Nat}{cs:Array Value}(hg:Tryz.prog.globalNamed n=some g)(hv:W.var? Tryz.prog n=some cs)(hc:∃c t,W.heap[g]?=some (.cells c t (0,0))):∃t,W.heap[g]?=some (.cells cs t (0,0)):=by
 obtain⟨c,t,hc⟩:=hc
 unfold World.var? at hv
 rw[hg]at hv;simp only[Option.bind_some,hc,Option.some.injEq]at hv;subst hv;exact⟨t,hc⟩
theorem zui{g n:Nat}{p q:List MemPlace}(h:0<n):MemPlace.cell g 0∈MemPlace.row ⟨g,0,none⟩ n++p++q:=
 ycd _ (ycd _ (List.mem_map.2 ⟨0,List.mem_range.2 h,rfl⟩))
theorem zv3:Rows.laid_annuitant_operation_argumentKinds (H:=Unit)=.agg (xL.map fun b=>.lit (.string b)):=by kernel_rfl
theorem z54:Rows.laid_internal_strconv_uint64pow10 (H:=Unit)=.agg (wQ.map fun n=>.lit (.int .u64 n)):=by kernel_rfl
theorem zy3{H:Type}{enc:TypeId × Value->H}{P:Program}{w:World}{base:Nat}{spare:Nat->Bool}{held:Bool}{e:TypeId}(he:P.underlying e=some (.int .u64))(m:Nat)(c:List Value)(x:DataW H × List MemPlace)(n:Int)(h:DataW.trod enc P w base spare held m e c=some x)(hx:x.1=.lit (.int .u64 n)):c=[.int .u64 n]:=by
 obtain⟨k,rfl,rfl,_⟩:=DataW.trod_int he h
 simp at hx;rw[hx]
theorem laid_of{W:World}(h:laidMetH Tryz.prog laid4 W)(hsh:W.ShapedOpen Tryz.prog):aI W:=by
 rw[MakeChecks.laidMetH_plain _ _ _ (by kernel_rfl)]at h
 obtain⟨ps,⟨_,_,_,_,_,_,_,_,_,_,⟨_,_,_,_,_,_,_,_,_,_,⟨g0,t0,cs0,f0,p0,q0,hg0,ht0,hv0,hd0,⟨g1,t1,cs1,f1,p1,q1,hg1,ht1,hv1,hd1,_,hp1⟩,hp0⟩,hpb⟩,hpa⟩,_,hcell⟩:=h
 obtain rfl:=ybj (gPow.symm.trans hg0)
 obtain rfl:=ybj (gKinds.symm.trans hg1)
 obtain rfl:=ybj (tPow.symm.trans ht0)
 obtain rfl:=ybj (tKinds.symm.trans ht1)
 have c56:Tryz.prog.cellsOf 56=1:=by kernel_rfl
 have c9:Tryz.prog.cellsOf 9=1:=by kernel_rfl
 have c365:Tryz.prog.cellsOf 365=20:=by kernel_rfl
 have c273:Tryz.prog.cellsOf 273=27:=by kernel_rfl
 rw[z54]at hd0;rw[zv3]at hd1;have e0:cs0.toList=u64s wQ:=zkk (l:=wQ) (g:=fun n=>.lit (.int .u64 n)) (u:=fun n=>.int .u64 n) Tryz.underlying365 c56 c365 (fun m c x a=>zy3 Tryz.underlying56 m c x a) hd0
 have e1:cs1.toList=zrx xL:=zkk (l:=xL) (g:=fun b=>.lit (.string b)) (u:=fun b=>.string ⟨b.toArray⟩) Tryz.underlying273 c9 c273 (fun m c x a=>zzf Tryz.underlying9 m c x a) hd1
 have s0:cs0=(u64s wQ).toArray:=by rw[<- e0]
 have s1:cs1=(zrx xL).toArray:=by rw[<- e1]
 subst s0 s1
 have m0:MemPlace.cell 5 0∈ps:=by
  rw[hpa,hpb,hp0];exact ybg _ (ybg _ (zui (by decide)))
 have m1:MemPlace.cell 0 0∈ps:=by
  rw[hpa,hpb,hp0,hp1];exact ybg _ (ybg _ (ybg _ (zui (by decide))))
 exact⟨zh5 hg1 hv1 (hcell 0 0 m1).1,Tryz.laysM144.s1_3 W hsh,zh5 hg0 hv0 (hcell 5 0 m0).1⟩
theorem stopsHeard:Tryz.prog.stopsHeard=true:=by kernel_rfl
theorem mayEnter:Tryz.prog.mayEnter=true:=by kernel_rfl
theorem bool4:Tryz.prog.underlying 4=some .bool:=Tryz.underlying4
def api19:zpv Tryz.prog:={
 b:=4,i:=3,u8:=5,u16:=227,s:=9,limbs:=41,whole:=43,frac:=45,val:=47,expr:=50,exprs:=48,row:=85,rows:=80,table:=82,tables:=23,dfn:=79,dfns:=22,clause:=52,clauses:=24,plan:=26,
 hb:=Tryz.underlying4,hi:=Tryz.underlying3,hu8:=Tryz.underlying5,hu16:=Tryz.underlying227,hs:=Tryz.underlying9,hlimbs:=Tryz.underlying41,hexprs:=Tryz.underlying48,hrows:=Tryz.underlying80,htables:=Tryz.underlying23,hdfns:=Tryz.underlying22,hclauses:=Tryz.underlying24,
 hwhole:=⟨_,Tryz.underlying43,rfl⟩,hfrac:=⟨_,Tryz.underlying45,rfl⟩,hval:=⟨_,Tryz.underlying47,rfl⟩,hexpr:=⟨_,Tryz.underlying50,rfl⟩,hrow:=⟨_,Tryz.underlying85,rfl⟩,htable:=⟨_,Tryz.underlying82,rfl⟩,hdfn:=⟨_,Tryz.underlying79,rfl⟩,hclause:=⟨_,Tryz.underlying52,rfl⟩,hplan:=⟨_,Tryz.underlying26,rfl⟩,
 cu16:=by kernel_rfl,cexpr:=by kernel_rfl,crow:=by kernel_rfl,ctable:=by kernel_rfl,cdfn:=by kernel_rfl,cclause:=by kernel_rfl,
 bytes:=⟨of_decide_eq_true (by kernel_rfl),of_decide_eq_true (by kernel_rfl),of_decide_eq_true (by kernel_rfl),of_decide_eq_true (by kernel_rfl),of_decide_eq_true (by kernel_rfl),of_decide_eq_true (by kernel_rfl)⟩ }
def planTs:List Nat:=[4,3,5,227,9,41,43,45,47,50,48,85,80,82,23,79,22,52,24,26]
end Go.Proofs.YthmbkdkibhffbaaGreatDoor
namespace Go.Am
section
variable {key:aA->List Nat}{valid:aA->Bool}
def plainI(i:XIns):Bool := !(i.op == 9) && !(i.op == 13)
def plainL(l:List XIns):Bool:=l.all plainI
end
end Go.Am
namespace Go.Proofs
open Go Go.Am
variable [dC]
variable {t tf:Tr jA}
def zX:List zA:=[(.int .u8 0),(.str []),(.int .u8 0),(.bool false),.nilslice,(.bool false),.nilslice,(.int .i64 0),.nilslice]
theorem zzv{l:List zA}(h:∀a∈l,∀d,same d a a=true):same 10 (.agg l) (.agg l)=true:=by
 show same.sames 9 l l=true
 induction l with
 | nil=>rfl
 | cons a l ih=>
  show(same 9 a a&&same.sames 9 l l)=true
  rw[h a (by simp) 9,ih fun b hb=>h b (by simp[hb])];rfl
theorem zra{x:uA}{cs:List zA}(h:RD t x.d cs):∃a b c,cs=mC x a b c/\qG zX (.agg cs)=some (cellsOf cs)/\bB zA.one cs=true:=by
 have hz:=jL h x.zs
 obtain⟨a,b,c,rfl,h1,h2,h3⟩:=cK h
 exact⟨a,b,c,rfl,hz,zbt h1.one h2.one h3.one⟩
mutual
theorem zok:∀(x:uA) (cs:List zA),x.ok->cC x<1125899906842624->RD t x.d cs->rD yA F 31 [.agg cs] t=some (.int .i64 (cC x:Int))
 | .mk op name v args,cs,hx,hn,h=>by
  obtain⟨a,b,c,rfl,ha,hb,hc⟩:=cK h
  simp only[uA.op,uA.name,uA.v,uA.args]at ha hb hc ⊢
  have hx':=hx
  unfold uA.ok at hx';unfold cC at hn ⊢
  refine mF.2 (w31 _ _ _ _ _ _ _ _ _ ?_)
  simp only[t31,pA,hc.len,xA,yB,yag];exact zfk args args c 0 1 hc rfl hx'.2.2.2 hx'.2.2.1 (by omega)
theorem zfk:∀(l args:List uA) (d:zA) (i n:Nat),oA t 9 (args.map uA.d) d->args.drop i=l->uA.oks l->args.length<qC->n+wG l<1125899906842624 →
  jp 31 2 [.int .i64 (n:Int),d,.int .i64 (args.length:Int),.int .i64 (i:Int)] t (fun v' t'=>v'=.int .i64 ((n+wG l:Nat):Int)/\t'=t)
 | [],args,d,i,n,hd,hl,hok,hsz,hn=>by
  have:=lU hl
  refine j31_2 _ _ _ _ ?_
  simp only[z41,pA,mB];rw[if_neg (by omega)]
  unfold wG;simp
 | x::l,args,d,i,n,hd,hl,hok,hsz,hn=>by
  obtain⟨h1,h2,h3⟩:=kU hl
  have hok':=hok
  unfold uA.oks at hok';unfold wG at hn ⊢
  unfold qC at hsz;obtain⟨b,off,a1,b1,c1,g1,g2,g3,g4,g5,g6,g7⟩:=mU hd h1
  refine j31_2 _ _ _ _ ?_
  simp only[z41,pA,mB];rw[if_pos (by omega),g1,xA,g2,xA,g4,xA]
  simp only[mC,cellsOf,yG,lF,sF,dG,yaa,yab];refine xB (zbt g5.one g6.one g7.one) ?_
  have hp:=zok x _ hok'.1 (by omega) g3
  unfold mC at hp;rw[q31,hp,xA,yB,xA,fB (n:=(n:Int)+(cC x:Int)) (by omega) (by omega),fB (n:=(i:Int)+1) (by omega) (by omega)]
  have:=zfk l args d (i+1) (n+cC x) hd h2 hok'.2 hsz (by omega)
  rw[show(n:Int)+(cC x:Int)=((n+cC x:Nat):Int) by omega,show(i:Int)+1=((i+1:Nat):Int) by omega]
  rw[show n+(cC x+wG l)=n+cC x+wG l by omega]
  exact this
end
end Go.Proofs
namespace Go.Proofs
open Go Go.Am
variable [dC]
variable {t tf:Tr jA}
structure ShortC (code:List XIns) (n:Nat):Prop where
 pos:1<=code.length
 four:code.length<=4*n
 most:code.length<=1000
 parts:n<1000000
 str:plainL code=true->code.length=n
 ops:∀i∈code,i.op<256
end Go.Proofs
namespace Go.Am
def sD (op:Nat):Prop:=op=3\/op=4\/op=5\/op=6\/op=8
inductive bJ:List XIns->Nat->Nat->Nat->Nat->Prop
 | nil {n c:Nat}:bJ [] n c n c
 | const {i:XIns} {l:List XIns} {n c n' c' k:Nat}:i.op=1->i.a=(k:Int)->k<=c->bJ l n (max c (k+1)) n' c'->bJ (i::l) n c n' c'
 | name {i:XIns} {l:List XIns} {n c n' c' k:Nat}:sD i.op->i.a=(k:Int)->k<=n->bJ l (max n (k+1)) c n' c'->bJ (i::l) n c n' c'
 | other {i:XIns} {l:List XIns} {n c n' c':Nat}:i.op≠1->¬ sD i.op->bJ l n c n' c'->bJ (i::l) n c n' c'
theorem bJ.append{l m:List XIns}{n c n1 c1 n2 c2:Nat}(h:bJ l n c n1 c1)(k:bJ m n1 c1 n2 c2):bJ (l++m) n c n2 c2:=by
 induction h with
 | nil=>exact k
 | const h1 h2 h3 _ ih=>exact .const h1 h2 h3 (ih k)
 | name h1 h2 h3 _ ih=>exact .name h1 h2 h3 (ih k)
 | other h1 h2 _ ih=>exact .other h1 h2 (ih k)
theorem zwi{k:List Nat}{l:List (List Nat)}(h:k∈l):gI k l<l.length:=(yad.1 (zbw h)).1
section
variable (key:aA->List Nat)(P:aA->Prop)
structure tK (s:Nt):Prop where
 names:s.names.Nodup
 consts:(s.consts.map key).Nodup
 all:∀v∈s.consts,P v
end
section
variable {key:aA->List Nat}{valid:aA->Bool}{P:aA->Prop}
theorem zfl{α:Type}{l:List α}{a:α}(h:l.Nodup)(ha:a∉l):(l++[a]).Nodup:=by
 rw[List.nodup_append];exact⟨h,by simp,fun x hx y hy e=>by simp at hy;subst hy;subst e;exact ha hx⟩
theorem zl1{s:Nt}{n:List Nat}(h:tK key P s):tK key P (s.name n)/\s.nameI n<=s.names.length/\(s.name n).names.length=max s.names.length (s.nameI n+1)/\(s.name n).consts=s.consts:=by
 unfold Nt.name Nt.nameI;by_cases hm:n∈s.names
 ·rw[if_pos hm]
  have:=zwi hm
  exact⟨h,by omega,by omega,rfl⟩
 ·rw[if_neg hm,tU hm]
  exact⟨⟨zfl h.names hm,h.consts,h.all⟩,yal _,by simp,rfl⟩
theorem zpm{s:Nt}{v:aA}(h:tK key P s)(hv:P v):tK key P (s.const key v)/\s.constI key v<=s.consts.length/\(s.const key v).consts.length=max s.consts.length (s.constI key v+1)/\(s.const key v).names=s.names:=by
 unfold Nt.const Nt.constI;by_cases hm:key v∈s.consts.map key
 ·rw[if_pos hm]
  have:=zwi hm
  rw[yag]at this;exact⟨h,by omega,by omega,rfl⟩
 ·rw[if_neg hm,tU hm,yag]
  refine⟨⟨h.names,by rw[List.map_append];exact zfl h.consts hm,fun u hu=>?_⟩,yal _,by simp,rfl⟩
  rcases List.mem_append.1 hu with hu | hu
  ·exact h.all u hu
  ·simp at hu;subst hu;exact hv
def cJ (key:aA->List Nat)(P:aA->Prop)(f:Tr1):Prop:=∀s p,tK key P s->tK key P (f s p).1/\bJ (f s p).2 s.names.length s.consts.length (f s p).1.names.length (f s p).1.consts.length
theorem zvl{f g:Tr1}{skip:Nat}{truth:Int}(hf:cJ key P f)(hg:cJ key P g)(hs:skip=10\/skip=11)(hv:P (rF truth)):cJ key P (kK key f g skip truth):=by
 intro s p h;obtain⟨f1,f2⟩:=hf s p h
 obtain⟨g1,g2⟩:=hg (f s p).1 (p+(f s p).2.length+1) f1
 obtain⟨c1,c2,c3,c4⟩:=zpm (v:=rF truth) g1 hv
 unfold kK;refine⟨c1,f2.append (.other (by show skip≠1;omega) (by show ¬ sD skip;unfold sD;omega) (g2.append (.other (by decide) (by unfold sD;decide) (.other (by show(9:Nat)≠1;decide) (by show ¬ sD 9;unfold sD;decide) (.const rfl rfl c2 ?_)))))⟩
 show bJ [] _ _ ((g (f s p).1 (p+(f s p).2.length+1)).1.const key (rF truth)).names.length ((g (f s p).1 (p+(f s p).2.length+1)).1.const key (rF truth)).consts.length
 rw[c3,c4];exact .nil
theorem lt_if{f g h:Tr1}(hf:cJ key P f)(hg:cJ key P g)(hh:cJ key P h):cJ key P (ifT f g h):=by
 intro s p hs;obtain⟨f1,f2⟩:=hf s p hs
 obtain⟨g1,g2⟩:=hg (f s p).1 (p+(f s p).2.length+1) f1
 obtain⟨h1,h2⟩:=hh (g (f s p).1 (p+(f s p).2.length+1)).1 (p+(f s p).2.length+1+(g (f s p).1 (p+(f s p).2.length+1)).2.length+1) g1
 unfold ifT;exact⟨h1,f2.append (.other (by show(10:Nat)≠1;decide) (by show ¬ sD 10;unfold sD;decide) (g2.append (.other (by show(9:Nat)≠1;decide) (by show ¬ sD 9;unfold sD;decide) h2)))⟩
theorem zjf:∀ {fs:List Tr1},(∀f∈fs,cJ key P f)->cJ key P (uD fs)
 | [],_=>fun s p h=>⟨h,.nil⟩
 | f::l,hf=>fun s p h=>by
  obtain⟨f1,f2⟩:=hf f (by simp) s p h
  obtain⟨g1,g2⟩:=zjf (fs:=l) (fun g hg=>hf g (by simp[hg])) (f s p).1 (p+(f s p).2.length) f1
  exact⟨g1,f2.append g2⟩
theorem lt_op{op n:Nat}{name:List Nat}{v:aA}{s:Nt}(h:tK key P s)(hv:op=1->P v):tK key P (dE key op name v n s).1/\bJ [(dE key op name v n s).2] s.names.length s.consts.length (dE key op name v n s).1.names.length (dE key op name v n s).1.consts.length:=by
 obtain⟨n1,n2,n3,n4⟩:=zl1 (n:=name) h
 unfold dE;split
 ·rename_i e
  obtain⟨c1,c2,c3,c4⟩:=zpm h (hv e)
  refine⟨c1,.const rfl rfl c2 ?_⟩
  show bJ [] _ _ (s.const key v).names.length (s.const key v).consts.length
  rw[c3,c4];exact .nil
 ·split
  ·exact⟨h,.other (by show(2:Nat)≠1;decide) (by show ¬ sD 2;unfold sD;decide) .nil⟩
  ·split
   ·rename_i e
    refine⟨n1,.name (by show sD op;unfold sD;omega) rfl n2 ?_⟩
    show bJ [] _ _ (s.name name).names.length (s.name name).consts.length
    rw[n3,n4];exact .nil
   ·split
    ·refine⟨n1,.name (by show sD 6;unfold sD;decide) rfl n2 ?_⟩
     show bJ [] _ _ (s.name name).names.length (s.name name).consts.length
     rw[n3,n4];exact .nil
    ·split
     ·refine⟨n1,.name (by show sD 8;unfold sD;decide) rfl n2 ?_⟩
      show bJ [] _ _ (s.name name).names.length (s.name name).consts.length
      rw[n3,n4];exact .nil
     ·split
      ·exact⟨h,.other (by show(7:Nat)≠1;decide) (by show ¬ sD 7;unfold sD;decide) .nil⟩
      ·exact⟨h,.other (by show(7:Nat)≠1;decide) (by show ¬ sD 7;unfold sD;decide) .nil⟩
section
variable (h0:P (rF 0))(h1:P (rF 1))(hP:∀v:aA,v.fit->valid v=true->P v)
include h0 h1 hP
theorem z0j{op:Nat}{name:List Nat}{v:aA}{fs:List Tr1}(hv:v.fit)(hf:∀f∈fs,cJ key P f):cJ key P (mI key valid op name v fs):=by
 intro s p h;unfold mI;by_cases hb:fI valid op v fs.length=false
 ·rw[if_pos hb]
  exact⟨h,.other (by decide) (by unfold sD;decide) .nil⟩
 ·rw[if_neg hb]
  have hb:fI valid op v fs.length=true:=by simpa using hb
  have hn:=hb
  unfold fI at hn;simp only[yac,decide_eq_true_eq]at hn;by_cases h15:op=15
  ·rw[if_pos h15]
   match fs,hf with
   | [],_=>exact⟨h,.nil⟩
   | [_],_=>exact⟨h,.nil⟩
   | f::g::_,hf=>exact zvl (hf f (by simp)) (hf g (by simp)) (.inl rfl) h0 s p h
  ·rw[if_neg h15]
   by_cases h16:op=16
   ·rw[if_pos h16]
    match fs,hf with
    | [],_=>exact⟨h,.nil⟩
    | [_],_=>exact⟨h,.nil⟩
    | f::g::_,hf=>exact zvl (hf f (by simp)) (hf g (by simp)) (.inr rfl) h1 s p h
   ·rw[if_neg h16]
    by_cases h18:op=18
    ·rw[if_pos h18]
     match fs,hf with
     | [],_=>exact⟨h,.nil⟩
     | [_],_=>exact⟨h,.nil⟩
     | [_,_],_=>exact⟨h,.nil⟩
     | f::g::k::_,hf=>exact lt_if (hf f (by simp)) (hf g (by simp)) (hf k (by simp)) s p h
    ·rw[if_neg h18]
     obtain⟨q1,q2⟩:=zjf hf s p h
     have hvP:op=1->P v:=fun e=>hP v hv (by
      have:=hn.1.1
      rw[e]at this;simpa using this)
     obtain⟨o1,o2⟩:=lt_op (op:=op) (n:=fs.length) (name:=name) (v:=v) q1 hvP
     exact⟨o1,q2.append o2⟩
mutual
theorem z2f:∀(x:uA),x.fit->cJ key P (vB key valid x)
 | .mk op name v args,h=>by
  unfold uA.fit at h;unfold vB;exact z0j h0 h1 hP h.2.2.2.1 (zig args h.2.2.2.2.2)
theorem zig:∀(l:List uA),uA.fits l->∀f∈eC key valid l,cJ key P f
 | [],_,f,hf=>by simp[eC]at hf
 | x::l,h,f,hf=>by
  unfold uA.fits at h;simp only[eC,yat]at hf;rcases hf with rfl | hf
  ·exact z2f x h.1
  ·exact zig l h.2 f hf
end
end
inductive z7o:List (List XIns × List XIns)->Nat->Nat->Nat->Nat->Prop
 | nil {n c:Nat}:z7o [] n c n c
 | cons {a b:List XIns} {l:List (List XIns × List XIns)} {n c n1 c1 n2 c2 n' c':Nat}:bJ a n c n1 c1->bJ b n1 c1 n2 c2->z7o l n2 c2 n' c'->z7o ((a,b)::l) n c n' c'
end
end Go.Am
namespace Go.Proofs
open Go Go.Am
variable [dC]
variable {t tf:Tr jA}
def zmd(v:aA):Prop:=rB v=true/\v.fit
theorem fX{n:Int}(h0:0<=n)(h1:n<=1):zmd (rF n):=by
 refine⟨?_,?_⟩
 ·unfold rB rF
  rw[if_neg (by show ¬ ((1:Nat)=2\/(1:Nat)=3);decide),if_pos rfl]
  have:iO ⟨⟨false,[]⟩,⟨false,[]⟩⟩=true:=by rfl
  simp[this,h0,h1]
 ·exact⟨by show(1:Nat)<256;decide,⟨⟨by show 0<qC;decide,by show 0<qC;decide⟩,fun x hx=>(by cases hx),fun x hx=>(by cases hx)⟩,by show -9223372036854775808<=n;omega,by show n<9223372036854775808;omega⟩
theorem zzw{a b:aA}(h:kJ a b=true):a=b:=by
 obtain⟨k,⟨⟨n1,l1⟩,⟨n2,l2⟩⟩,i⟩:=a
 obtain⟨k',⟨⟨n1',l1'⟩,⟨n2',l2'⟩⟩,i'⟩:=b
 unfold kJ zln ziy at h;simp only[yac,decide_eq_true_eq,beq_iff_eq]at h;obtain⟨⟨rfl,rfl⟩,⟨rfl,rfl⟩,rfl,rfl⟩:=h
 rfl
theorem gE{a b:Int}(h:a≠b):¬ wA a b=true:=fun e=>h (cD.1 e)
section
variable {nm:List Nat}{a b c vn vc vw vt:zA}{Q:cB}
theorem znh{l:List aA}{v:zA}(hv:oA t 6 (l.map aA.d) v){i:Nat}{x:aA}(hx:l[i]?=some x) :
  ∃p o u w,zB yA 31 v (.int .i64 (i:Int))=some (.ptr p o)/\mA yA 47 ⟨0,t⟩ (.ptr p o)=some (.agg [.int .u8 x.kind,.bool x.f.n.neg,u,.bool x.f.d.neg,w,.int .i64 x.i]) ∧
   qG [(.int .u8 0),(.bool false),.nilslice,(.bool false),.nilslice,(.int .i64 0)] (.agg [.int .u8 x.kind,.bool x.f.n.neg,u,.bool x.f.d.neg,w,.int .i64 x.i])=some (cellsOf [.int .u8 x.kind,.bool x.f.n.neg,u,.bool x.f.d.neg,w,.int .i64 x.i])/\oA t 1 (jC x.f.n.limbs) u/\oA t 1 (jC x.f.d.limbs) w:=by
 obtain⟨p,o,cs,g1,g2,_,_,g5⟩:=jE.at sl31 (by simp) hv (i:=i) (d:=x.d) (by simp[hx])
 have hz:=jL g5 x.zs
 obtain⟨u,w,rfl,h1,h2⟩:=zc1 g5
 exact⟨p,o,u,w,g1,g2,hz,h1,h2⟩
end
end Go.Proofs
namespace Go.Am
def z01(a:Int):Bool:=(decide (7<=a)&&decide (a<=14))||decide (a=17)||decide (a=19)||decide (a=20)||(decide (24<=a)&&decide (a<=26))
def zay(b:Int):Bool:=decide (21<=b)&&decide (b<=23)
def aF(nN nC:Nat)(x:XIns)(i len:Nat):Bool:=
 if x.op=1 then decide (0<=x.a)&&decide (x.a<nC)&&decide (x.b=0)
 else if x.op=3\/x.op=4\/x.op=5 then decide (0<=x.a)&&decide (x.a<nN)&&decide (x.b=0)
 else if x.op=6 then decide (0<=x.a)&&decide (x.a<nN)&&(decide (x.b=1)||decide (x.b=2))
 else if x.op=8 then decide (0<=x.a)&&decide (x.a<nN)&&zay x.b
 else if x.op=7 then z01 x.a&&(decide (x.b=0)||decide (x.a=19))
 else if x.op=9\/x.op=10\/x.op=11 then decide ((i:Int)<x.a)&&decide (x.a<=len)&&decide (x.b=0)
 else if x.op=2\/x.op=12\/x.op=13 then decide (x.a=0)&&decide (x.b=0)
 else false
def dF(x:XIns):Int:=
 if x.op=6 then x.b else if x.op=7 then(nG (x.a%256).toNat).1 else if x.op=8 then(nG (x.b%256).toNat).1
 else if x.op=3\/x.op=4\/x.op=5\/x.op=10\/x.op=11\/x.op=12 then 1 else 0
def rN(x:XIns):Nat:=if x.op=9\/x.op=10\/x.op=11 then 0 else 1
def oM(d:List Nat)(k v:Nat):Option (List Nat):=match d[k]? with
 | some 0=>some (d.set k v)
 | some (w+1)=>if w+1=v then some d else none
 | none=>none
def rM(nN nC len:Nat)(x:XIns)(i:Nat)(d:List Nat):Option (List Nat):=match d[i]? with
 | some (e+1)=>
  if aF nN nC x i len=false then none
  else if (e:Int)-dF x<0\/64<(e:Int)-dF x+rN x then none
  else(if x.op=9\/x.op=10\/x.op=11 then oM d x.a.toNat (((e:Int)-dF x+rN x).toNat+1)else some d).bind fun d'=>
   if x.op=9 then some d' else oM d' (i+1) (((e:Int)-dF x+rN x).toNat+1)
 | _=>none
def yO(nN nC len:Nat):List XIns->Nat->List Nat->Option (List Nat)
 | [],_,d=>some d
 | x::l,i,d=>(rM nN nC len x i d).bind (yO nN nC len l (i+1))
def rS(nN nC:Nat)(code:List XIns):Bool:=
 decide (code.length<=1000)&&match yO nN nC code.length code 0 (1::List.replicate code.length 0)with
  | some d=>decide (d[code.length]?=some 2)
  | none=>false
section
variable {nN nC len:Nat}
end
section
variable (key:aA->List Nat)
end
end Go.Am
namespace Go.Am
section
variable {key:aA->List Nat}{valid:aA->Bool}
mutual
def jQ:uA->Nat
 | .mk _ _ _ args=>1+iQ args
def iQ:List uA->Nat
 | []=>0
 | x::l=>max (jQ x) (iQ l)
end
end
end Go.Am
namespace Go.Proofs
open Go Go.Am
variable [dC]
variable {t tf:Tr jA}
theorem do_ok{a:Int}:rD yA F 179 [.int .i64 a] t=some (.bool (z01 a)):=by
 refine mF.2 (w179 _ ?_)
 simp only[t179,pA,xF,cD];unfold z01;repeat' split
 all_goals refine⟨congrArg zA.bool (Bool.eq_iff_iff.2 ?_),by trivial⟩
 all_goals simp only[ybr,yac,decide_eq_true_eq,zhd,true_iff,yar,false_iff]
 all_goals omega
theorem z48{a:Int}:rD yA F 180 [.int .i64 a] t=some (.bool (zay a)):=by
 refine mF.2 (w180 _ ?_)
 simp only[t180,pA,xF];unfold zay;split
 all_goals refine⟨congrArg zA.bool (Bool.eq_iff_iff.2 ?_),by trivial⟩
 all_goals simp only[ybr,yac,decide_eq_true_eq,zhd,true_iff,yar,false_iff]
 all_goals omega
theorem zax{op:Nat}:rD yA F 112 [.int .u8 (op:Int)] t=some (.bool (decide (op=9\/op=10\/op=11))):=by
 refine mF.2 (w112 _ ?_)
 simp only[t112,pA,xF];split
 all_goals refine⟨congrArg zA.bool (Bool.eq_iff_iff.2 ?_),by trivial⟩
 all_goals simp only[ybr,yac,decide_eq_true_eq,zhd,true_iff,yar,false_iff]
 all_goals omega
theorem dT{v9 v10:Bool}{op:Nat}{a b:Int}{Q:cB}(h:Q (.bool (v9&&(if op=6 then(decide (b=1)||decide (b=2))else if op=8 then zay b else v10))) t):jp 110 45 [.bool v9,.bool v10,.int .u8 (op:Int),.int .i64 a,.int .i64 b] t Q:=by
 have aC:∀ {x y:Bool},Q (.bool (x&&y)) t->jp 110 55 [.bool x,.bool y] t Q:=fun {x y} h=>by
  refine z6i _ _ ?_
  simp only[ztw,pA]
  cases x with
  | true=>exact xB rfl h
  | false=>exact pC (by simp) h
 refine z6j _ _ _ _ _ ?_
 simp only[ztx,pA];by_cases h6:op=6
 ·subst h6
  refine xB (by decide) ?_
  simp only[if_true]at h;by_cases h1:b=1
  ·exact xB (cD.2 h1) (aC (by simpa[h1]using h))
  ·exact pC (gE h1) (aC (by rw[zhe];simpa[h1]using h))
 ·rw[if_neg h6]at h
  refine pC (gE (by omega)) ?_
  by_cases h8:op=8
  ·subst h8
   simp only[if_true]at h;refine xB (by decide) ?_
   rw[q180,z48,xA,mD,xA];exact aC h
  ·rw[if_neg h8]at h
   exact pC (gE (by omega)) (aC h)
section
variable {nm:List Nat}{a b c vn vc vw vt:zA}{names:List (List Nat)}{consts:List aA}
theorem zlh(hn:oA t 1 (names.map D.str) vn)(hc:oA t 6 (consts.map aA.d) vc){x:XIns}{i len:Nat} :
  rD yA F 110 [.agg [.str nm,a,b,c,vn,vc,vw,vt],.agg [.int .u8 (x.op:Int),.int .i64 x.a,.int .i64 x.b],.int .i64 (i:Int),.int .i64 (len:Int)] t=some (.bool (aF names.length consts.length x i len)):=by
 obtain⟨op,xa,xb⟩:=x
 have hnl:uB vn=some (.int .i64 (names.length:Int)):=by rw[hn.len,yag]
 have hcl:uB vc=some (.int .i64 (consts.length:Int)):=by rw[hc.len,yag]
 refine mF.2 (w110 _ _ _ _ _ _ _ _ _ _ _ _ _ ?_)
 simp only[t110,pA,hnl,hcl,q179,do_ok,xA,yB,mD];have idx:∀ {n op':Nat} {R:Bool},(op'=op)->((decide (0<=xa)&&decide (xa<n))&&(if op'=6 then(decide (xb=1)||decide (xb=2))else if op'=8 then zay xb else decide (xb=0)))=R →
   (if sC 0 xa=true then jp 110 45 [.bool (iB xa (n:Int)),.bool (wA xb 0),.int .u8 (op':Int),.int .i64 xa,.int .i64 xb] t (fun v t'=>v=.bool R/\t'=t)else jp 110 45 [.bool false,.bool (wA xb 0),.int .u8 (op':Int),.int .i64 xa,.int .i64 xb] t (fun v t'=>v=.bool R/\t'=t)):=by
  intro n op' R _ hR;by_cases h0:0<=xa
  ·refine xB (xF.2 h0) (dT ⟨?_,rfl⟩)
   rw[<- hR,z6m,zhe];simp[h0]
  ·refine pC (fun e=>h0 (xF.1 e)) (dT ⟨?_,rfl⟩)
   rw[<- hR];simp[h0]
 have tgt:∀ {op':Nat} {R:Bool},op'≠6->op'≠8->(decide ((i:Int)<xa)&&decide (xa<=len)&&decide (xb=0))=R →
   (if iB (i:Int) xa=true then jp 110 45 [.bool (sC xa (len:Int)),.bool (wA xb 0),.int .u8 (op':Int),.int .i64 xa,.int .i64 xb] t (fun v t'=>v=.bool R/\t'=t)else jp 110 45 [.bool false,.bool (wA xb 0),.int .u8 (op':Int),.int .i64 xa,.int .i64 xb] t (fun v t'=>v=.bool R/\t'=t)):=by
  intro op' R h6 h8 hR;by_cases h0:(i:Int)<xa
  ·refine xB (mB.2 h0) (dT ⟨?_,rfl⟩)
   rw[<- hR,if_neg h6,if_neg h8,zhd,zhe];simp[h0]
  ·refine pC (fun e=>h0 (mB.1 e)) (dT ⟨?_,rfl⟩)
   rw[<- hR];simp[h0]
 have zero:∀ {op':Nat} {R:Bool},op'≠6->op'≠8->(decide (xa=0)&&decide (xb=0))=R →
   jp 110 45 [.bool (wA xa 0),.bool (wA xb 0),.int .u8 (op':Int),.int .i64 xa,.int .i64 xb] t (fun v t'=>v=.bool R/\t'=t):=by
  intro op' R h6 h8 hR;refine dT ⟨?_,rfl⟩
  rw[<- hR,if_neg h6,if_neg h8,zhe,zhe]
 by_cases h1:op=1
 ·subst h1
  refine xB (by decide) (idx rfl ?_)
  unfold aF;simp
 refine pC (gE (by omega)) ?_
 by_cases h3:op=3
 ·subst h3
  refine xB (by decide) (xB (by decide) (idx rfl ?_))
  unfold aF;simp
 refine pC (gE (by omega)) ?_
 by_cases h4:op=4
 ·subst h4
  refine xB (by decide) (xB (by decide) (idx rfl ?_))
  unfold aF;simp
 refine pC (gE (by omega)) ?_
 by_cases h5:op=5
 ·subst h5
  refine xB (by decide) (xB (by decide) (idx rfl ?_))
  unfold aF;simp
 refine pC (gE (by omega)) ?_
 by_cases h6:op=6
 ·subst h6
  refine xB (by decide) (xB (by decide) (idx rfl ?_))
  unfold aF;simp
 refine pC (gE (by omega)) ?_
 by_cases h8:op=8
 ·subst h8
  refine xB (by decide) (idx rfl ?_)
  unfold aF;simp
 refine pC (gE (by omega)) ?_
 by_cases h7:op=7
 ·subst h7
  refine xB (by decide) ?_
  by_cases hb0:xb=0
  ·refine xB (cD.2 hb0) (dT ⟨?_,rfl⟩)
   unfold aF;simp[hb0]
  ·refine pC (gE hb0) (dT ⟨?_,rfl⟩)
   rw[zhe];unfold aF;simp[hb0]
 refine pC (gE (by omega)) ?_
 by_cases h9:op=9
 ·subst h9
  refine xB (by decide) (xB (by decide) (tgt (by decide) (by decide) ?_))
  unfold aF;simp
 refine pC (gE (by omega)) ?_
 by_cases h10:op=10
 ·subst h10
  refine xB (by decide) (xB (by decide) (tgt (by decide) (by decide) ?_))
  unfold aF;simp
 refine pC (gE (by omega)) ?_
 by_cases h11:op=11
 ·subst h11
  refine xB (by decide) (tgt (by decide) (by decide) ?_)
  unfold aF;simp
 refine pC (gE (by omega)) ?_
 by_cases h2:op=2
 ·subst h2
  refine xB (by decide) (xB (by decide) (zero (by decide) (by decide) ?_))
  unfold aF;simp
 refine pC (gE (by omega)) ?_
 by_cases h12:op=12
 ·subst h12
  refine xB (by decide) (xB (by decide) (zero (by decide) (by decide) ?_))
  unfold aF;simp
 refine pC (gE (by omega)) ?_
 by_cases h13:op=13
 ·subst h13
  refine xB (by decide) (zero (by decide) (by decide) ?_)
  unfold aF;simp
 refine pC (gE (by omega)) ⟨congrArg zA.bool ?_,by trivial⟩
 unfold aF;simp only[];rw[if_neg h1,if_neg (by omega),if_neg h6,if_neg h8,if_neg h7,if_neg (by omega),if_neg (by omega)]
end
end Go.Proofs
namespace Go.Proofs
open Go Go.Am
variable [dC]
variable {t tf:Tr jA}
def zo9:List zA:=[.int .i64 0,.int .i64 0,.int .i64 0,.int .i64 1,.int .i64 1,.int .i64 1,.int .i64 0,.int .i64 0,.int .i64 0,.int .i64 0,.int .i64 1,.int .i64 1,.int .i64 1,.int .i64 0]
theorem zbn(n:Int):vA .u8 n=(((n%256).toNat:Nat):Int):=by
 rw[zyy];omega
theorem znw(hg:sK t){x:XIns}(hop:x.op<14):rD yA F 111 [.agg [.int .u8 (x.op:Int),.int .i64 x.a,.int .i64 x.b]] t=some (.tup [.int .i64 (dF x),.int .i64 (rN x:Nat)]):=by
 obtain⟨op,xa,xb⟩:=x
 have hop:op<14:=hop
 refine zi3 (w111 _ _ _ ?_)
 simp only[t111,pA];refine xB (by trivial) ?_
 intro n hn hnb;obtain⟨t1,a1,a2,a3,a4⟩:=uT (C:=yA) z4m hn
 rw[a1,xA];intro n2 _ _;obtain⟨t2,b1,b2,b3⟩:=a2.store (C:=yA) hnb (j:=0) (v:=.agg zo9) z4m rfl (by show 0+14<=14;decide) rfl
 have b1:=b1 n2
 have b2:xD t2 n none zo9:=b2
 have ht2:cA t t2:=(cA.refl t).off hn (a4.trans b3)
 unfold zo9 at b1;rw[b1,xA];have hg2:=hg.mono ht2
 have args:∀ {k:Nat},k<256->rD yA F 181 [.int .u8 (k:Int)] t2=some (.tup [.int .i64 (nG k).1,.int .i64 (nG k).2]):=fun h=>zyb h hg2
 have aC:∀ {v:zA},v=.tup [.int .i64 (dF ⟨op,xa,xb⟩),.int .i64 (rN ⟨op,xa,xb⟩:Nat)]->(v=.tup [.int .i64 (dF ⟨op,xa,xb⟩),.int .i64 (rN ⟨op,xa,xb⟩:Nat)]/\∀b y,t.get b=some y->t2.get b=some y):=fun h=>⟨h,ht2⟩
 have ia:zB yA 232 (.ptr n 0) (.int .u8 (op:Int))=some (.ptr n (0+op*1)):=by
  unfold zB;have e1:(zA.int .u8 (op:Int)).asNat=some op:=rfl
  rw[z4m,sA,e1,sA];simp only[zA.asSlice,zA.asPtr,sA,nE.asArr];rw[ty3,sA,lC.2 (by omega)]
  rfl
 have ld:∀ {k:Int},zo9[op]?=some (.int .i64 k)->mA yA 3 ⟨0,t2⟩ (.ptr n (0+op*1))=some (.int .i64 k):=fun {k} h=>by
  rw[show 0+op*1=op by omega];exact b2.load1 ty3 rfl h
 by_cases h6:op=6
 ·subst h6;exact xB (by decide) (aC rfl)
 refine pC (gE (by omega)) ?_
 by_cases h7:op=7
 ·subst h7
  refine xB (by decide) ?_
  rw[zbn,q181,args (by omega),xA]
  simp only[vC,zA.asTup,sA,vE,yaa,yab,xA,yB];exact aC rfl
 refine pC (gE (by omega)) ?_
 by_cases h8:op=8
 ·subst h8
  refine xB (by decide) ?_
  rw[zbn,q181,args (by omega),xA]
  simp only[vC,zA.asTup,sA,vE,yaa,yab,xA,yB];exact aC rfl
 refine pC (gE (by omega)) ?_
 by_cases h9:op=9
 ·subst h9
  refine xB (by decide) (xB (by decide) ?_)
  rw[ia,xA,ld rfl,xA,yB,xA];exact aC rfl
 refine pC (gE (by omega)) ?_
 by_cases h10:op=10
 ·subst h10
  refine xB (by decide) (xB (by decide) ?_)
  rw[ia,xA,ld rfl,xA,yB,xA];exact aC rfl
 refine pC (gE (by omega)) ?_
 by_cases h11:op=11
 ·subst h11
  refine xB (by decide) ?_
  rw[ia,xA,ld rfl,xA,yB,xA];exact aC rfl
 refine pC (gE (by omega)) ?_
 have hcase:op=0\/op=1\/op=2\/op=3\/op=4\/op=5\/op=12\/op=13:=by omega
 rw[ia,xA];rcases hcase with e | e | e | e | e | e | e | e<;>subst e <;> (rw[ld rfl,xA,yB,xA];exact aC rfl)
end Go.Proofs
