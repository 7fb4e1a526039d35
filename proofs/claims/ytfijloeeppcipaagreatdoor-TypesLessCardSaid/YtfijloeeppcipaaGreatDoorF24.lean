/- The kit's copies of plans. -/
import Derived.Test.YtfijloeeppcipaaGreatDoorF23
set_option linter.all false
noncomputable section
set_option maxRecDepth 100000
namespace Go.Proofs
open Go Go.Am
variable [nC]
variable {t tf:Tr rA}
def tW{w:zI}{u:zA}(hu:lA t 1 (cD w.limbs) u):RD t w.d [.bool w.neg,u]:=by
 unfold zI.d;rw[rI];refine⟨[[.bool w.neg],[u]],rfl,?_⟩
 simp only[jE,sG,wQ,pJ];exact⟨_,_,rfl,rfl,_,_,rfl,⟨u,rfl,hu⟩,rfl⟩
def zdd{f:eE}{u v:zA}(hu:lA t 1 (cD f.n.limbs) u)(hv:lA t 1 (cD f.d.limbs) v):RD t f.dd [.bool f.n.neg,u,.bool f.d.neg,v]:=by
 unfold eE.dd;rw[rI];refine⟨[[.bool f.n.neg,u],[.bool f.d.neg,v]],rfl,?_⟩
 rw[jE];refine⟨_,_,rfl,tW hu,?_⟩
 rw[jE];exact⟨_,_,rfl,tW hv,sG.2 rfl⟩
def zw4{x:kH}{u v:zA}(hu:lA t 1 (cD x.f.n.limbs) u)(hv:lA t 1 (cD x.f.d.limbs) v):RD t x.d [.int .u8 x.kind,.bool x.f.n.neg,u,.bool x.f.d.neg,v,.int .i64 x.i]:=by
 unfold kH.d;rw[rI];refine⟨[[.int .u8 x.kind],[.bool x.f.n.neg,u,.bool x.f.d.neg,v],[.int .i64 x.i]],rfl,?_⟩
 rw[jE];refine⟨_,_,rfl,vN.2 rfl,?_⟩
 rw[jE];refine⟨_,_,rfl,zdd hu hv,?_⟩
 rw[jE];exact⟨_,_,rfl,vN.2 rfl,sG.2 rfl⟩
def el27:eJ yA 27 202 1:=⟨⟨_,ty27,rfl,rfl⟩,⟨_,zmj,rfl,rfl,by decide,by decide⟩,fun y h=>by rw[zmj]at h;cases h;rfl⟩
def el22:eJ yA 22 59 3:=⟨⟨_,ty22,rfl,rfl⟩,⟨_,z00,rfl,rfl,by decide,by decide⟩,fun y h=>by rw[z00]at h;cases h;rfl⟩
def el23:eJ yA 23 81 3:=⟨⟨_,ty23,rfl,rfl⟩,⟨_,ty81,rfl,rfl,by decide,by decide⟩,fun y h=>by rw[ty81]at h;cases h;rfl⟩
def el79:eJ yA 79 84 7:=⟨⟨_,ty79,rfl,rfl⟩,⟨_,ty84,rfl,rfl,by decide,by decide⟩,fun y h=>by rw[ty84]at h;cases h;rfl⟩
def mk_row{x:vH}{u v:zA}(hu:lA t 1 (cD x.f.n.limbs) u)(hv:lA t 1 (cD x.f.d.limbs) v):RD t x.d [.int .i64 x.a,.int .i64 x.b,.int .i64 x.known,.bool x.f.n.neg,u,.bool x.f.d.neg,v]:=by
 unfold vH.d;rw[rI];refine⟨[[.int .i64 x.a],[.int .i64 x.b],[.int .i64 x.known],[.bool x.f.n.neg,u,.bool x.f.d.neg,v]],rfl,?_⟩
 simp only[jE,sG,vN];exact⟨_,_,rfl,rfl,_,_,rfl,rfl,_,_,rfl,rfl,_,_,rfl,zdd hu hv,rfl⟩
def z2g{x:fD}{v:zA}(hv:lA t 7 (x.rows.map vH.d) v):RD t x.d [.str x.name,.bool x.two,v]:=by
 unfold fD.d;rw[rI];refine⟨[[.str x.name],[.bool x.two],[v]],rfl,?_⟩
 simp only[jE,sG,xQ,wQ,pJ];exact⟨_,_,rfl,rfl,_,_,rfl,rfl,_,_,rfl,⟨v,rfl,hv⟩,rfl⟩
def zw5{x:zC}{cs ds:List zA}(h1:RD t x.when_.d cs)(h2:RD t x.then_.d ds):RD t x.d ([.str x.name,.str x.label,.int .i64 x.from_,.int .i64 x.to,.int .i64 x.known,.bool x.off]++(cs++ds)):=by
 unfold zC.d;rw[rI];refine⟨[[.str x.name],[.str x.label],[.int .i64 x.from_],[.int .i64 x.to],[.int .i64 x.known],[.bool x.off],cs,ds],by simp,?_⟩
 simp only[jE,sG,xQ,vN,wQ];exact⟨_,_,rfl,rfl,_,_,rfl,rfl,_,_,rfl,rfl,_,_,rfl,rfl,_,_,rfl,rfl,_,_,rfl,rfl,_,_,rfl,h1,_,_,rfl,h2,rfl⟩
def z7g{op:Nat}{name:List Nat}{v:kH}{args:List jA}{a b c:zA}(ha:lA t 1 (cD v.f.n.limbs) a)(hb:lA t 1 (cD v.f.d.limbs) b)(hc:lA t 9 (args.map jA.d) c):RD t (jA.mk op name v args).d (iG (.mk op name v args) a b c):=by
 unfold jA.d iG;rw[rI,jA.ds_eq];refine⟨[[.int .u8 op],[.str name],[.int .u8 v.kind,.bool v.f.n.neg,a,.bool v.f.d.neg,b,.int .i64 v.i],[c]],rfl,?_⟩
 rw[jE];refine⟨_,_,rfl,rfl,?_⟩
 rw[jE];refine⟨_,_,rfl,rfl,?_⟩
 rw[jE];refine⟨_,_,rfl,zw4 ha hb,?_⟩
 rw[jE];exact⟨_,_,rfl,pJ.2 ⟨_,rfl,hc⟩,sG.2 rfl⟩
def z8u{L:List cF}{l:List Nat}{x:zA}{Q:xC}(hx:lA tf 1 (cD l) x)(ho:dD yA.base tf t L)(hl:l.length<1000000)(hQ:z4j yA.base tf L 1 (cD l) Q):Wc yA F 89 [x] t Q:=
 w89 _ (zq4 el27 hx ho (by rw[wV];exact hl) hQ)
def zzk{w:zI}(hl:w.limbs.length<1000000):dN yA.base (Wq yA F eH) 67 w.d:=by
 intro L tf t cs Q ho hd hQ;obtain⟨v,rfl,hv⟩:=nU hd
 rw[q67];refine w67 _ _ ?_
 simp only[t67,qA,q89];refine z8u hv ho hl fun tf' t' u k1 k2 k3=>?_
 have hr:=tW (w:=w) k3
 exact uI (by rw[nF];simp only[ycg,yck,k3.one];rfl) (uI hr.all (hQ tf' t' _ k1 k2 hr))
def zzl{f:eE}(hl:f.n.limbs.length<1000000/\f.d.limbs.length<1000000):dN yA.base (Wq yA F eH) 45 f.dd:=by
 intro L tf t cs Q ho hd hQ;obtain⟨u,v,rfl,hu,hv⟩:=zc1 hd
 rw[q45];refine w45 _ _ _ _ ?_
 simp only[t45,qA];refine zzk hl.1 ho (tW (w:=f.n) hu) fun tf1 t1 c1 k1 k2 k3=>?_
 have hz1:=lH k3 (zI.zs _)
 have a1:=k3.all
 obtain⟨u1,rfl,hu1⟩:=nU k3
 rw[hz1,wA];refine uI a1 ?_
 refine zzk hl.2 k2 (tW (w:=f.d) (hv.mono k1)) fun tf2 t2 c2 m1 m2 m3=>?_
 have hz2:=lH m3 (zI.zs _)
 have a2:=m3.all
 obtain⟨v1,rfl,hv1⟩:=nU m3
 rw[hz2,wA];have hr:=zdd (f:=f) (hu1.mono m1) hv1
 exact uI a2 (uI hr.all (hQ tf2 t2 _ (k1.trans m1) m2 hr))
def z8w{x:kH}(hl:x.f.n.limbs.length<1000000/\x.f.d.limbs.length<1000000):dN yA.base (Wq yA F eH) 30 x.d:=by
 intro L tf t cs Q ho hd hQ;obtain⟨u,v,rfl,hu,hv⟩:=zv8 hd
 rw[q30];refine w30 _ _ _ _ _ _ ?_
 simp only[t30,qA];refine zzl hl ho (zdd (f:=x.f) hu hv) fun tf1 t1 c1 k1 k2 k3=>?_
 have hz1:=lH k3 (eE.zs _)
 have a1:=k3.all
 obtain⟨u1,v1,rfl,hu1,hv1⟩:=zc1 k3
 rw[hz1,wA];have hr:=zw4 (x:=x) hu1 hv1
 exact uI a1 (uI hr.all (hQ tf1 t1 _ k1 k2 hr))
def z8v{r:vH}(hl:r.f.n.limbs.length<1000000/\r.f.d.limbs.length<1000000):dN yA.base (Wq yA F eH) 96 r.d:=by
 intro L tf t cs Q ho hd hQ;obtain⟨u,v,rfl,hu,hv⟩:=zv9 hd
 rw[q96];refine w96 _ _ _ _ _ _ _ ?_
 simp only[t96,qA];refine zzl hl ho (zdd (f:=r.f) hu hv) fun tf1 t1 c1 k1 k2 k3=>?_
 have hz1:=lH k3 (eE.zs _)
 have a1:=k3.all
 obtain⟨u1,v1,rfl,hu1,hv1⟩:=zc1 k3
 rw[hz1,wA];have hr:=mk_row (x:=r) hu1 hv1
 exact uI a1 (uI hr.all (hQ tf1 t1 _ k1 k2 hr))
mutual
def jA.cpy:jA->Prop
 | .mk _ _ v args=>(v.f.n.limbs.length<1000000/\v.f.d.limbs.length<1000000)/\args.length<300000/\jA.cpys args
def jA.cpys:List jA->Prop
 | []=>True
 | x::l=>jA.cpy x/\jA.cpys l
end
mutual
def zoe:∀(x:jA),jA.cpy x->dN yA.base (Wq yA F eH) 12 x.d
 | .mk op name v args,h=>by
  intro L tf t cs Q ho hd hQ;obtain⟨a,b,c,rfl,ha,hb,hc⟩:=wL hd
  simp only[jA.op,jA.name,jA.v,jA.args]at ha hb hc ⊢
  unfold jA.cpy at h;rw[q12];refine w12 _ _ _ _ _ _ _ _ _ ?_
  simp only[t12,qA];refine z8w h.1 ho (zw4 (x:=v) ha hb) fun tf1 t1 c1 k1 k2 k3=>?_
  have hz1:=lH k3 (kH.zs _)
  have a1:=k3.all
  obtain⟨u1,v1,rfl,hu1,hv1⟩:=zv8 k3
  rw[hz1,wA];refine uI a1 ?_
  rw[q31];refine w31 _ ?_
  simp only[t31,qA];refine zd8 (ds:=args.map jA.d) el34 sl34 (by decide) (fun d hd=>?_) (fun d hd=>?_) (by rw[ybf];exact h.2.1) (fun v i t hw=>j31_2 _ _ _ hw) (fun tf2 t2 v2 m1 m2 m3=>?_) (hc.mono k1) k2
  ·obtain⟨x,_,rfl⟩:=yaq.1 hd
   exact x.zs
  ·obtain⟨x,hx,rfl⟩:=yaq.1 hd
   exact zq3 args h.2.2 x hx
  ·have hr:=z7g (op:=op) (name:=name) (v:=v) (args:=args) (hu1.mono m1) (hv1.mono m1) m3
   exact uI (by rw[nF];simp only[ycg,yck,m3.one];rfl) (uI hr.all (hQ tf2 t2 _ (k1.trans m1) m2 hr))
def zq3:∀(l:List jA),jA.cpys l->∀x∈l,dN yA.base (Wq yA F eH) 12 x.d
 | [],_,x,hx=>by cases hx
 | y::l,h,x,hx=>by
  unfold jA.cpys at h;rcases ybs.1 hx with e | hx
  ·rw[e];exact zoe y h.1
  ·exact zq3 l h.2 x hx
end
def z8y{x:fD}(hn:x.rows.length<300000)(hr:∀r∈x.rows,r.f.n.limbs.length<1000000/\r.f.d.limbs.length<1000000):dN yA.base (Wq yA F eH) 51 x.d:=by
 intro L tf t cs Q ho hd hQ;obtain⟨a,rfl,ha⟩:=mU hd
 rw[q51];refine w51 _ _ _ ?_
 simp only[t51,qA];rw[q69];refine w69 _ ?_
 simp only[t69,qA];refine zd8 (ds:=x.rows.map vH.d) el79 sl79 (by decide) (fun d hd=>?_) (fun d hd=>?_) (by rw[ybf];exact hn) (fun v i t hw=>j69_2 _ _ _ hw) (fun tf2 t2 v2 m1 m2 m3=>?_) ha ho
 ·obtain⟨r,_,rfl⟩:=yaq.1 hd
  exact r.zs
 ·obtain⟨r,hm,rfl⟩:=yaq.1 hd
  exact z8v (hr r hm)
 ·have hr:=z2g (x:=x) m3
  exact uI (by rw[nF];simp only[ycg,yck,m3.one];rfl) (uI hr.all (hQ tf2 t2 _ m1 m2 hr))
def z8x{x:zC}(h1:jA.cpy x.when_)(h2:jA.cpy x.then_):dN yA.base (Wq yA F eH) 52 x.d:=by
 intro L tf t cs Q ho hd hQ;obtain⟨a,b,c,a',b',c',rfl,hw,ht⟩:=zW hd
 rw[q52];refine w52 _ _ _ _ _ _ _ _ _ _ _ _ _ _ _ _ _ _ _ _ _ _ _ _ ?_
 simp only[t52,qA];refine zoe _ h1 ho hw fun tf1 t1 c1 k1 k2 k3=>?_
 have hz1:=lH k3 (jA.zs _)
 have a1:=k3.all
 have k3':=k3
 obtain⟨u1,u2,u3,rfl,_⟩:=wL k3'
 rw[hz1,wA];refine uI a1 ?_
 refine zoe _ h2 k2 (RD.mono k1 _ _ ht) fun tf2 t2 c2 m1 m2 m3=>?_
 have hz2:=lH m3 (jA.zs _)
 have a2:=m3.all
 have m3':=m3
 obtain⟨v1,v2,v3,rfl,_⟩:=wL m3'
 rw[hz2,wA];have hr:=zw5 (x:=x) (RD.mono m1 _ _ k3) m3
 exact uI a2 (uI hr.all (hQ tf2 t2 _ (k1.trans m1) m2 hr))
structure oC.cpy (p:oC):Prop where
 defs:p.defs.length<300000
 tables:p.tables.length<300000
 clauses:p.clauses.length<300000
 rows:∀x∈p.tables,x.rows.length<300000/\∀r∈x.rows,r.f.n.limbs.length<1000000/\r.f.d.limbs.length<1000000
 exprs:∀x∈p.clauses,jA.cpy x.when_/\jA.cpy x.then_
end Go.Proofs
namespace Go.Proofs
open Go Go.Am
section
variable [nC]
variable {t:Tr rA}
def zib(f:eE):1<=jK f/\f.n.limbs.length<jK f/\f.d.limbs.length<jK f:=by unfold jK;omega
def yZ:∀(x:jA) (left:Int),x.ok->1<=wJ x left
 | .mk op name v args,left,h=>by
  unfold jA.ok at h;unfold wJ;have:=zib v.f
  have:=(eV args left (jK v.f+(name.length:Int) / 30) h.2.2.2 (by omega)).1
  omega
mutual
def zil:∀(x:jA) (left:Int),x.ok->wJ x left<=left->left<=2000->jA.cpy x
 | .mk op name v args,left,h,hs,hl=>by
  unfold jA.ok at h;unfold wJ at hs;unfold jA.cpy;have:=zib v.f
  have h1:=(eV args left (jK v.f+(name.length:Int) / 30) h.2.2.2 (by omega)).1
  obtain⟨h2,h3⟩:=zq2 args left (jK v.f+(name.length:Int) / 30) h.2.2.2 (by omega) hs hl
  exact⟨⟨by omega,by omega⟩,by omega,h3⟩
def zq2:∀(l:List jA) (left n:Int),jA.oks l->0<=n->qN l left n<=left->left<=2000->n+l.length<=left/\jA.cpys l
 | [],left,n,_,_,hs,_=>by
  unfold qN at hs;unfold jA.cpys;exact⟨by simpa using hs,trivial⟩
 | x::l,left,n,h,hn,hs,hl=>by
  unfold jA.oks at h;unfold qN at hs;unfold jA.cpys;by_cases hc:n<=left
  ·rw[yab hc]at hs
   have h1:=yZ x (left-n) h.1
   have h2:=(eV l left (n+wJ x (left-n)) h.2 (by omega)).1
   obtain⟨h3,h4⟩:=zq2 l left _ h.2 (by omega) hs hl
   exact⟨by simp only[ybn];omega,zil x (left-n) h.1 (by omega) (by omega),h4⟩
  ·rw[yaa hc]at hs
   omega
end
def zcr:∀(l:List cE) (n:Int),n<=rQ l n
 | [],n=>by unfold rQ;omega
 | d::l,n=>by
  unfold rQ;split
  ·have:=zcr l (n+(d.name.length:Int) / 30);omega
  ·omega
def zph:∀(l:List vH) (n:Int),n<=lM l n/\(lM l n<=2000->0<=n->l.length+n<=2000/\∀r∈l,r.f.n.limbs.length<1000000/\r.f.d.limbs.length<1000000)
 | [],n=>by unfold lM;exact⟨by omega,fun h _=>⟨by simpa using h,fun r hr=>by cases hr⟩⟩
 | r::l,n=>by
  obtain⟨h1,h2⟩:=zph l (n+(jK r.f:Nat))
  have:=zib r.f
  unfold lM;split
  ·refine⟨by omega,fun h hn=>?_⟩
   obtain⟨h3,h4⟩:=h2 h (by omega)
   refine⟨by simp only[ybn];omega,fun q hq=>?_⟩
   rcases ybs.1 hq with rfl | hq
   ·exact⟨by omega,by omega⟩
   ·exact h4 q hq
  ·exact⟨by omega,fun h=>by omega⟩
def zfd:∀(l:List fD) (n:Int),n<=zO l n/\(zO l n<=2000->0<=n->∀x∈l,x.rows.length<300000/\∀r∈x.rows,r.f.n.limbs.length<1000000/\r.f.d.limbs.length<1000000)
 | [],n=>by unfold zO;exact⟨by omega,fun _ _ r hr=>by cases hr⟩
 | x::l,n=>by
  obtain⟨r1,r2⟩:=zph x.rows (n+(x.name.length:Int) / 30)
  obtain⟨h1,h2⟩:=zfd l (lM x.rows (n+(x.name.length:Int) / 30))
  unfold zO;split
  ·refine⟨by omega,fun h hn q hq=>?_⟩
   obtain⟨h3,h4⟩:=r2 (by omega) (by omega)
   rcases ybs.1 hq with rfl | hq
   ·exact⟨by omega,h4⟩
   ·exact h2 h (by omega) q hq
  ·exact⟨by omega,fun h=>by omega⟩
def oZ:∀(l:List zC) (n:Int),(∀x∈l,x.fit)->0<=n->n<=kM l n/\(kM l n<=2000->∀x∈l,jA.cpy x.when_/\jA.cpy x.then_)
 | [],n,_,_=>by unfold kM;exact⟨by omega,fun _ r hr=>by cases hr⟩
 | x::l,n,hf,hn=>by
  have hx:=hf x (by simp)
  have p1:=yZ x.when_ (2000-n) (jA.fit_ok hx.2.2.2.2.2.1)
  have p2:=yZ x.then_ (2000-rK x n) (jA.fit_ok hx.2.2.2.2.2.2)
  have hw:n<=rK x n/\wJ x.when_ (2000-n)<=rK x n-n:=by unfold rK;omega
  unfold kM;split
  ·split
   ·obtain⟨h1,h2⟩:=oZ l (rK x n+wJ x.then_ (2000-rK x n)) (fun y hy=>hf y (by simp[hy])) (by omega)
    refine⟨by omega,fun h q hq=>?_⟩
    rcases ybs.1 hq with rfl | hq
    ·exact⟨zil _ (2000-n) (jA.fit_ok hx.2.2.2.2.2.1) (by omega) (by omega),zil _ (2000-rK q n) (jA.fit_ok hx.2.2.2.2.2.2) (by omega) (by omega)⟩
    ·exact h2 h q hq
   ·obtain⟨h1,_⟩:=oZ l (rK x n) (fun y hy=>hf y (by simp[hy])) (by omega)
    exact⟨by omega,fun h=>by omega⟩
  ·exact⟨by omega,fun h=>by omega⟩
def zhn{p:oC}(hp:p.fit)(h:zr1 p<=2000):oC.cpy p/\p.clauses.length<=2000:=by
 unfold zr1 at h;have h1:=zcr p.defs (1+(p.name.length:Int) / 30+p.defs.length+p.tables.length+p.clauses.length)
 obtain⟨h2,h3⟩:=zfd p.tables (rQ p.defs (1+(p.name.length:Int) / 30+p.defs.length+p.tables.length+p.clauses.length))
 obtain⟨h4,h5⟩:=oZ p.clauses (zO p.tables (rQ p.defs (1+(p.name.length:Int) / 30+p.defs.length+p.tables.length+p.clauses.length))) hp.clauses (by omega)
 exact⟨⟨by omega,by omega,by omega,h3 (by omega) (by omega),h5 h⟩,by omega⟩
end
section
variable [nC]
variable {t:Tr rA}
section
variable {p:oC}
def zge:∀(l:List zC) (i:Nat),(xH p l i).2=0->∀x∈l,nI p x=0
 | [],i,_,x,h=>by cases h
 | y::l,i,h,x,hx=>by
  unfold xH at h;split at h
  ·rename_i h0;exact absurd h h0
  ·rename_i h0
   rcases ybs.1 hx with e | hx
   ·rw[e];omega
   ·exact zge l (i+1) h x hx
end
section
variable {p:oC}{u1 u2 u3:zA}
end
end
section
variable [nC]
def aF(p:oC)(l:List zC):oC:=⟨p.name,p.defs,p.tables,l⟩
section
variable {p:oC}{l:List zC}
def zld(x:zC):nI (aF p l) x=nI p x:=by
 have hk:∀y k,qK (aF p l) y k=qK p y k:=by
  intro y k;unfold qK;rw[zdl (p:=aF p l) (q:=p) rfl rfl y]
 unfold nI aQ;simp only[hk];rfl
def zd1:∀(m:List zC) (i:Nat),xH (aF p l) m i=xH p m i
 | [],i=>rfl
 | x::m,i=>by
  unfold xH;rw[zld,zd1 m (i+1)]
def zog(h:mF p=0)(hl:l.length<=p.clauses.length):mF (aF p l)=0:=by
 unfold mF at h ⊢
 split at h
 ·cases h
 rename_i h1;split at h
 ·cases h
 rename_i h2;split at h
 ·cases h
 rename_i h3;split at h
 ·cases h
 rename_i h4;have h2':cK (aF p l)=false:=by
  have h2:cK p=false:=by simpa using h2
  unfold cK at h2 ⊢
  simp only[yal,decide_eq_false_iff_not]at h2 ⊢
  simp only[aF];exact⟨h2.1,h2.2.1,by omega,h2.2.2.2⟩
 show(if zex ⟨p.name,p.defs,p.tables,[]⟩=false then 140 else if cK (aF p l)=true then 5 else if sK [] (p.defs.map cE.name)=true then 143 else if sK [] (p.tables.map fD.name)=true then 143 else 0)=0
 rw[yaa h1,yaa (by rw[h2'];simp),yaa h3,yaa h4]
def uY:∀(m:List zC) (i:Nat),(∀x∈m,nI p x=0)->xH p m i=(0,0)
 | [],i,_=>rfl
 | x::m,i,h=>by
  unfold xH;rw[yaa (by rw[h x (by simp)];simp)]
  exact uY m (i+1) fun y hy=>h y (by simp[hy])
def zgf:∀(m:List zC) (x:zC) (r:List zC) (i:Nat),(∀y∈m,nI p y=0)->nI p x≠0->xH p (m++x::r) i=(i+m.length,nI p x)
 | [],x,r,i,_,hx=>by
  show xH p (x::r) i=_
  unfold xH;rw[yab hx];rfl
 | y::m,x,r,i,h,hx=>by
  show xH p (y::(m++x::r)) i=_
  unfold xH;rw[yaa (by rw[h y (by simp)];simp),zgf m x r (i+1) (fun z hz=>h z (by simp[hz])) hx,ybn]
  congr 1;omega
def zky:∀(m:List zC) (i:Nat),(xH p m i).2≠0->∃k,∃hk:k<m.length,(xH p m i)=(i+k,nI p m[k])/\nI p m[k]≠0/\∀y∈m.take k,nI p y=0
 | [],i,h=>absurd rfl h
 | x::m,i,h=>by
  unfold xH at h ⊢
  by_cases hx:nI p x≠0
  ·rw[yab hx]at h ⊢
   exact⟨0,by simp,rfl,hx,fun y hy=>by simp at hy⟩
  ·rw[yaa hx]at h ⊢
   obtain⟨k,hk,e1,e2,e3⟩:=zky m (i+1) h
   refine⟨k+1,by simpa using hk,by rw[e1];simp only[List.getElem_cons_succ];congr 1;omega,by simpa using e2,fun y hy=>?_⟩
   rw[List.take_succ_cons]at hy;rcases ybs.1 hy with e | hy
   ·rw[e];omega
   ·exact e3 y hy
end
end
end Go.Proofs
namespace Go.Am
open Go Go.RowKit
section
variable {t tf tf0:Tr rA}{C:pA}
def CopyL(base:Nat)(tf:Tr rA)(L:List cF)(sz:Nat)(l:List D)(Q:xC):Prop:=∀tf' t' v,cA tf tf'->dD base tf' t' (zH base sz l v::L)->Q v t'
def zti{W J:cG}{S el sz g p:Nat}(hT:eJ C S el sz)(hS:zE C S el sz true)(hsz:sz<1000000){zs:List zA}{L:List cF}{ds:List D}{v0:zA}{Q:xC}
  (hz:∀d∈ds,d.zs=zs) (hg:∀d∈ds,dN C.base W g d) (hlen:ds.length<300000)
  (hj:∀v i t,qA C.base W J (zlb C S el g p zs v0 v i) t Q->J p [v0,v,.int .i64 i] t Q) (hQ:CopyL C.base tf0 L sz ds Q) (h0:lA tf0 sz ds v0) :
  ∀(m i:Nat) (tf t:Tr rA) (v:zA),i+m=ds.length->cA tf0 tf->dD C.base tf t (zH C.base sz (ds.take i) v::L)->J p [v0,v,.int .i64 (i:Int)] t Q:=by
 intro m;induction m with
 | zero=>
  intro i tf t v hi hf ho;refine hj _ _ _ ?_
  simp only[zlb,qA];rw[h0.len,wA,tB,wA,yaa (fun e=>by have:=cC.1 e;omega)]
  rw[yca (by omega)]at ho
  exact hQ tf t v hf ho
 | succ m ih=>
  intro i tf t v hi hf ho;have hlt:i<ds.length:=by omega
  have hd:ds[i]?=some ds[i]:=ybd hlt
  have hm:ds[i]∈ds:=ycj hlt
  obtain⟨b,off,cs,g1,g2,g3,g4,g5⟩:=zE.at (t:=tf) hS (by simp) (h0.mono hf) hd
  have g1':=g1
  obtain⟨b',off',cs',f1,f2,f3,f4,f5⟩:=zE.at (t:=t) hS (by simp) (h0.mono (hf.trans ho.tle)) hd
  rw[g1]at f1;cases f1
  have ecs:cs'=cs:=by
   obtain⟨c,n,lo,q1,q2⟩:=g3
   obtain⟨c',n',lo',q3,q4⟩:=f3
   rw[ho.tle _ _ q1]at q3
   cases q3
   refine List.ext_getElem? fun j=>?_
   rcases yau j sz with hjs | hjs
   ·have a1:cs[j]?=some cs[j]:=ybd (by omega)
    have a2:cs'[j]?=some cs'[j]:=ybd (by omega)
    have b1:=q2 _ _ a1
    have b2:=q4 _ _ a2
    rw[b1]at b2;rw[a1,a2,yci b2]
   ·rw[List.getElem?_eq_none (by omega),List.getElem?_eq_none (by omega)]
  subst ecs;refine hj _ _ _ ?_
  simp only[zlb,qA];rw[h0.len,wA,tB,wA,yab (cC.2 (by omega)),g1,wA,f2,wA]
  have hzz:=hz _ hm
  show vD (rJ zs (.agg cs')) _
  rw[lH g5 hzz,wA,g5.mk hzz];refine hg _ hm ho g5 fun tf' t' cs2 k1 k2 k3=>?_
  rw[lH k3 hzz,wA,k3.mk hzz,yab k3.all];intro n hn _;have hl2:cs2.length=sz:=by
   have e1:=g5.mk hzz
   have e2:=k3.mk hzz
   have key:∀(zs:List zA) (X Y:tM) (j:Nat),(vI zs X j).length=(vI zs Y j).length:=by
    intro zs;induction zs with
    | nil=>intro X Y j;rfl
    | cons z zs ih=>
     intro X Y j;show(zde z X j::vI zs X (j+1)).length=(zde z Y j::vI zs Y (j+1)).length
     rw[ybn,ybn,ih X Y (j+1)]
   have:=key zs (cellsOf cs2) (cellsOf cs') 0
   rw[e1,e2]at this;omega
  obtain⟨t1,a1,a2,a3,a4⟩:=lit1 (C:=C) hT hl2 hsz hn
  rw[a1,wA];intro n2 hn2 hb2;obtain⟨v2,k,t2,c1,c2⟩:=dD.pushL (A:=[]) (n:=n2) hT (k2.junk hn a4) a2 k3 (RD.ones _ _ k3) (by rw[yda];omega) hn2 hb2
  rw[c1,wA,wrap_i64 (by omega) (by omega)]
  have e:ds.take i++[ds[i]]=ds.take (i+1):=by rw[ydg,hd];rfl
  rw[e]at c2;exact ih (i+1) tf' t2 v2 (by omega) (hf.trans k1) c2
def ztj{W J:cG}{S el sz g p:Nat}(hT:eJ C S el sz)(hS:zE C S el sz true)(hsz:sz<1000000){zs:List zA}{L:List cF}{ds:List D}{v0:zA}{Q:xC}
  (hz:∀d∈ds,d.zs=zs) (hg:∀d∈ds,dN C.base W g d) (hlen:ds.length<300000)
  (hj:∀v i t,qA C.base W J (zlb C S el g p zs v0 v i) t Q->J p [v0,v,.int .i64 i] t Q) (hQ:CopyL C.base tf L sz ds Q) (h0:lA tf sz ds v0) (ho:dD C.base tf t L):J p [v0,.nilslice,.int .i64 0] t Q:=by
 refine zti hT hS hsz hz hg hlen hj hQ h0 ds.length 0 tf t .nilslice (by omega) (cA.refl _) ?_
 rw[List.take_zero];exact dD.add (A:=[]) (o':=zH C.base sz ([]:List D) .nilslice) ho (fun _ _=>rfl) (fun k hk=>by simp[zH,zzx]at hk) (.inl ⟨rfl,rfl⟩) (by simp[zH,zzx]) ho.tle
def uC.app:∀ {l m:List D} {cl cm:List (List zA)},uC tf l cl->uC tf m cm->uC tf (l++m) (cl++cm)
 | [],m,cl,cm,h,k=>by
  rw[uC]at h;subst h;exact k
 | d::l,m,cl,cm,h,k=>by
  obtain⟨c,r,rfl,h1,h2⟩:=jE.1 h
  exact jE.2 ⟨c,r++cm,rfl,h1,uC.app h2 k⟩
def uC.tk:∀(n:Nat) {l:List D} {cl:List (List zA)},uC tf l cl->uC tf (l.take n) (cl.take n)
 | 0,l,cl,h=>by rw[List.take_zero,List.take_zero];exact sG.2 rfl
 | n+1,[],cl,h=>by rw[uC]at h;subst h;exact sG.2 rfl
 | n+1,d::l,cl,h=>by
  obtain⟨c,r,rfl,h1,h2⟩:=jE.1 h
  exact jE.2 ⟨c,r.take n,rfl,h1,uC.tk n h2⟩
def uC.dr:∀(n:Nat) {l:List D} {cl:List (List zA)},uC tf l cl->uC tf (l.drop n) (cl.drop n)
 | 0,l,cl,h=>h
 | n+1,[],cl,h=>by rw[uC]at h;subst h;exact sG.2 rfl
 | n+1,d::l,cl,h=>by
  obtain⟨c,r,rfl,h1,h2⟩:=jE.1 h
  exact uC.dr n h2
def jH.put{sz k:Nat}{ds es:List D}{el:List (List zA)}{b:Nat}(h:jH C.base tf t sz ds (.slice b 0 ds.length ds.length))(hel:∀c∈el,c.length=sz)(hone:∀c∈el,∀a∈c,zA.one a=true)(hr:uC tf es el)(hk:k+es.length<=ds.length) :
  ∃t',(∀n,aH C ⟨n,t⟩ b (0+k*sz) el.flatten=some ⟨n,t'⟩)/\jH C.base tf t' sz (ds.take k++(es++ds.drop (k+es.length))) (.slice b 0 ds.length ds.length)/\oD b t t':=by
 rcases h with⟨h,_⟩ | ⟨b',cl,c,e,h1,h2,h3,h4,h5⟩
 ·cases h
 cases e
 have hlen:=h5.length
 have hle:=hr.length
 have hfl:el.flatten.length=es.length*sz:=by rw[mW (fun i cs hi=>hel cs (ycv hi)),hle]
 have hmul:(k+es.length)*sz<=ds.length*sz:=ybi _ hk
 rw[ybo]at hmul;have hoff:oD b t (t.set b (.cells (c.setMany el.flatten (0+k*sz)) (ds.length*sz) (some (.sz sz)))):=fun d hd=>by rw[Tr.get_set,yaa hd]
 refine⟨_,fun n=>?_,.inr ⟨b,cl.take k++(el++cl.drop (k+el.length)),c.setMany el.flatten (0+k*sz),?_,h1,h2,?_,fun i cs hi=>?_,?_⟩,hoff⟩
 ·unfold aH tD
  have e2:(!Nat.blt b C.base)=true:=by
   cases hq:Nat.blt b C.base with
   | true=>have:=tC.1 hq;omega
   | false=>rfl
  rw[e2,gD,h3,tA];simp only[rA.asCells,tA];have e3:Nat.ble (0+k*sz+zB el.flatten) (ds.length*sz)=true:=by rw[fC,hfl];exact lD.2 (by omega)
  have e4:rB zA.one el.flatten=true:=by
   rw[nF,ycb];intro a ha;obtain⟨c',hc',ha'⟩:=List.mem_flatten.1 ha
   exact hone c' hc' a ha'
  rw[e3,e4];rfl
 ·have:(ds.take k++(es++ds.drop (k+es.length))).length=ds.length:=by simp;omega
  rw[this]
 ·have:(ds.take k++(es++ds.drop (k+es.length))).length=ds.length:=by simp;omega
  rw[this,Tr.get_set,yab rfl]
 ·have hlt:i<cl.length:=by
   have:=(ybc.1 hi).1
   simp at this;omega
  have hj:∀(j:Nat) a,cs[j]?=some a->cs.length=sz->(c.setMany el.flatten (0+k*sz)).get (i*sz+j)=some a:=by
   intro j a ha hcs;have hjl:=(ybc.1 ha).1
   rw[Tr.get_setMany];by_cases c1:i<k
   ·rw[yco (by simp;omega),ydf,yab c1]at hi
    have:(i+1)*sz<=k*sz:=ybi _ c1
    rw[ybo,Nat.one_mul]at this;rw[yaa (by omega)]
    exact(h4 i cs hi).2 j a ha
   ·rw[ybp (by simp;omega)]at hi
    have hm:(cl.take k).length=k:=by simp;omega
    rw[hm]at hi;have hik:k*sz<=i*sz:=ybi _ (by omega)
    by_cases c2:i-k<el.length
    ·rw[yco c2]at hi
     have:(i-k+1)*sz<=es.length*sz:=ybi _ (by omega)
     rw[ybo,Nat.one_mul]at this;have e0:(i-k)*sz=i*sz-k*sz:=Nat.sub_mul ..
     rw[yab ⟨by omega,by rw[hfl];omega⟩]
     have:=qT (fun i cs hi=>hel cs (ycv hi)) (i-k) j cs a hi ha
     rw[e0]at this;rw[show i*sz+j-(0+k*sz)=i*sz-k*sz+j by omega]
     exact this
    ·rw[ybp (by omega),yde,show k+el.length+(i-k-el.length)=i by omega]at hi
     have:(k+es.length)*sz<=i*sz:=ybi _ (by omega)
     rw[ybo]at this;rw[yaa (by rw[hfl];omega)]
     exact(h4 i cs hi).2 j a ha
  have hcs:cs.length=sz:=by
   have hmem:=ycv hi
   rcases yaf.1 hmem with h | h
   ·obtain⟨q,hq⟩:=List.getElem?_of_mem (List.mem_of_mem_take h)
    exact(h4 q cs hq).1
   ·rcases yaf.1 h with h | h
    ·exact hel cs h
    ·obtain⟨q,hq⟩:=List.getElem?_of_mem (List.mem_of_mem_drop h)
     exact(h4 q cs hq).1
  exact⟨hcs,fun j a ha=>hj j a ha hcs⟩
 ·rw[<- hle]
  exact uC.app (uC.tk k h5) (uC.app hr (uC.dr (k+el.length) h5))
def zeh{T el sz k m n b q:Nat}{x:zA}{new:List zA}(hT:eJ C T el sz)(hl:jQ x=some m)(hf:qL ⟨q,t⟩ sz m x=some new)(hk:k+m<=n) :
  gE C T T (.slice b 0 k n) x ⟨q,t⟩=(match (generalizing:=false) new with | []=>some (.slice b 0 (k+m) n,⟨q,t⟩) | _::_=>ob (aH C ⟨q,t⟩ b (0+k*sz) new) fun H'=>some (.slice b 0 (k+m) n,H')):=by
 obtain⟨⟨y,hy1,hy2,hy3⟩,⟨z,hz1,hz2,hz3,hz4,hz5⟩,hnb⟩:=hT
 unfold gE aO;rw[hy1,tA,tA,hy3];simp only[ycl,gD];rw[hy2,tA,hz1,tA,hl,tA,hz2,hf,tA];simp only[zA.asSlice];rw[lD.2 hk,cond_true]
 unfold fQ;rw[hz2]
 cases new<;>rfl
def jH.prefix{T el sz:Nat}{agg:Bool}{ds:List D}{b k:Nat}(hT:zE C T el sz agg)(h:jH C.base tf t sz ds (.slice b 0 ds.length ds.length))(hk:k<=ds.length) :
  qF C T ⟨0,t⟩ (.slice b 0 ds.length ds.length) none (some (.int .i64 (k:Int)))=some (.slice b 0 k ds.length):=by
 rcases h with⟨h,_⟩ | ⟨b',cl,c,e,h1,h2,h3,h4,h5⟩
 ·cases h
 cases e
 obtain⟨⟨y,hy1,hy2⟩,⟨z,hz1,hz2,hz3⟩⟩:=hT
 unfold qF;rw[hy1,tA];unfold bJ;simp only[zA.asStr,zA.asSlice];rw[hy2,tA];unfold kK;rw[hz1,tA];have hb:dO ds.length (.int .i64 (k:Int))=dA (Nat.ble k ds.length) (some k):=rfl
 unfold nL yR;simp only[hb];rw[lD.2 hk];simp only[gD,tA];have he2:wI ⟨0,t⟩ b z.size ds.length 0 false=false:=by
  unfold wI tD;rw[h3];show(true&&_&&_ && !Nat.beq 0 0)=false
  simp
 rw[he2];have hft:gG ⟨0,t⟩ b z.size ds.length 0 false=true:=by
  unfold gG tD;rw[h3];show(true&&Nat.beq sz z.size&&(!Nat.beq ds.length 0||Nat.beq 0 0))=true
  rw[qB.2 hz2.symm];simp
 rw[hft,lD.2 hk];simp only[yay,Bool.and_true,cond_false,gD,Nat.zero_mul,yct,Nat.sub_zero]
 cases Nat.beq ds.length 0<;>rfl
def jH.suffix{T el sz:Nat}{agg:Bool}{ds:List D}{b k:Nat}(hT:zE C T el sz agg)(h:jH C.base tf t sz ds (.slice b 0 ds.length ds.length))(h0:0<k)(hk:k<=ds.length) :
  qF C T ⟨0,t⟩ (.slice b 0 ds.length ds.length) (some (.int .i64 (k:Int))) none=some (if k=ds.length then .slice 0 1 0 0 else .slice b (0+k*sz) (ds.length-k) (ds.length-k)):=by
 rcases h with⟨h,_⟩ | ⟨b',cl,c,e,h1,h2,h3,h4,h5⟩
 ·cases h
 cases e
 obtain⟨⟨y,hy1,hy2⟩,⟨z,hz1,hz2,hz3⟩⟩:=hT
 unfold qF;rw[hy1,tA];unfold bJ;simp only[zA.asStr,zA.asSlice];rw[hy2,tA];unfold kK;rw[hz1,tA];have hb:dO ds.length (.int .i64 (k:Int))=dA (Nat.ble k ds.length) (some k):=rfl
 unfold nL yR;simp only[tA,hb];rw[lD.2 hk];simp only[gD,tA];have he2:wI ⟨0,t⟩ b z.size ds.length k false=Nat.beq ds.length k:=by
  unfold wI tD;rw[h3];show(true&&Nat.beq sz z.size&&Nat.beq ds.length k && !Nat.beq k 0)=_
  rw[qB.2 hz2.symm];have:Nat.beq k 0=false:=by
   cases hq:Nat.beq k 0 with
   | false=>rfl
   | true=>have:=qB.1 hq;omega
  rw[this];simp
 rw[he2,lD.2 (ybk _),lD.2 hk]
 by_cases e:k=ds.length
 ·subst e
  rw[yab rfl,qB.2 rfl];rfl
 ·have hne:Nat.beq ds.length k=false:=by
   cases hq:Nat.beq ds.length k with
   | false=>rfl
   | true=>have:=qB.1 hq;omega
  rw[yaa e,hne];have hft:gG ⟨0,t⟩ b z.size ds.length k false=true:=by
   unfold gG tD;rw[h3];show(true&&Nat.beq sz z.size&&(!Nat.beq ds.length k||Nat.beq k 0))=true
   rw[qB.2 hz2.symm,hne];rfl
  rw[hft];simp only[Bool.and_self,yay,cond_false,gD,hz2]
def jH.readTake{sz k:Nat}{ds:List D}{b:Nat}(h:jH C.base tf t sz ds (.slice b 0 ds.length ds.length))(ht:cA tf t)(hk:k<=ds.length):lA t sz (ds.take k) (.slice b 0 k ds.length):=by
 rcases h with⟨h,_⟩ | ⟨b',cl,c,e,h1,h2,h3,h4,h5⟩
 ·cases h
 cases e
 have hlen:=h5.length
 have hl:(cl.take k).length=k:=by simp;omega
 refine⟨cl.take k,.inr ⟨b,0,ds.length,by rw[hl],by rw[hl];exact hk,⟨_,_,_,h3,.inr ⟨_,rfl,rfl⟩⟩,fun i cs hi=>?_⟩,uC.mono ht _ _ (uC.tk k h5)⟩
 rw[ydf]at hi;split at hi
 ·obtain⟨g1,g2⟩:=h4 i cs hi
  exact⟨g1,_,_,_,h3,fun j a ha=>by rw[ybw];exact g2 j a ha⟩
 ·cases hi
def jH.del{T el sz:Nat}{agg:Bool}{ds:List D}{b k:Nat}(hE:eJ C T el sz)(hT:zE C T el sz agg)(h:jH C.base tf t sz ds (.slice b 0 ds.length ds.length))(hk:k<ds.length)(h0:∃c m lo,t.get 0=some (.cells c m lo))(hle:cA tf t) :
  ∃x,qF C T ⟨0,t⟩ (.slice b 0 ds.length ds.length) (some (.int .i64 ((k+1:Nat):Int))) none=some x/\∀q,∃t',gE C T T (.slice b 0 k ds.length) x ⟨q,t⟩=some (.slice b 0 (ds.length-1) ds.length,⟨q,t'⟩)/\lA t' sz (ds.take k++ds.drop (k+1)) (.slice b 0 (ds.length-1) ds.length)/\oD b t t'/\tf.get b=none:=by
 have hs:=h.suffix (k:=k+1) hT (by omega) (by omega)
 refine⟨_,hs,fun q=>?_⟩
 have hbn:tf.get b=none:=by
  rcases h with⟨h,_⟩ | ⟨b',cl,c,e,h1,h2,_⟩
  ·cases h
  ·cases e;exact h2
 by_cases e:k+1=ds.length
 ·rw[yab e]
  obtain⟨c0,m0,lo0,hc0⟩:=h0
  have hf:qL ⟨q,t⟩ sz 0 (.slice 0 1 0 0)=some []:=by
   unfold qL tD;simp only[zA.asSlice,hc0,tA,rA.asCells,Nat.zero_mul];rfl
  refine⟨t,?_,?_,fun _ _=>rfl,hbn⟩
  ·rw[zeh hE (m:=0) rfl hf (by omega)]
   show some (zA.slice b 0 (k+0) ds.length,_)=_
   rw[show k+0=ds.length-1 by omega]
  ·rw[ybt (by omega),ycd,show ds.length-1=k by omega]
   exact h.readTake hle (by omega)
 ·rw[yaa e]
  have hcopy:=h
  rcases h with⟨h,_⟩ | ⟨b',cl,c,e',h1,h2,h3,h4,h5⟩
  ·cases h
  cases e'
  have hlen:=h5.length
  have hel:∀c'∈cl.drop (k+1),c'.length=sz:=fun c' hc'=>by
   obtain⟨i,hi⟩:=List.getElem?_of_mem (List.mem_of_mem_drop hc')
   exact(h4 i c' hi).1
  have hr:uC tf (ds.drop (k+1)) (cl.drop (k+1)):=uC.dr (k+1) h5
  have hone:∀c'∈cl.drop (k+1),∀a∈c',zA.one a=true:=fun c' hc' a ha=>uC.ones _ _ hr a (List.mem_flatten.2 ⟨c',hc',ha⟩)
  have hx:sJ t sz (.slice b (0+(k+1)*sz) (ds.length-(k+1)) (ds.length-(k+1))) (cl.drop (k+1)):=by
   have hl:(cl.drop (k+1)).length=ds.length-(k+1):=by simp;omega
   refine .inr ⟨b,0+(k+1)*sz,ds.length-(k+1),by rw[hl],by rw[hl];exact ybk _,⟨_,_,_,h3,.inr ⟨_,rfl,rfl⟩⟩,fun i cs hi=>?_⟩
   rw[yde]at hi;obtain⟨g1,g2⟩:=h4 _ cs hi
   refine⟨g1,_,_,_,h3,fun j a ha=>?_⟩
   rw[show 0+(k+1)*sz+i*sz+j=(k+1+i)*sz+j by rw[ybo (k+1) i];omega]
   exact g2 j a ha
  obtain⟨hf,hl⟩:=hx.first (n:=q)
  have hm:(cl.drop (k+1)).length=ds.length-(k+1):=by simp;omega
  obtain⟨t',p1,p2,p3⟩:=hcopy.put (k:=k) hel hone hr (by simp;omega)
  refine⟨t',?_,?_,p3,hbn⟩
  ·rw[zeh hE hl hf (by omega)]
   have hne:(cl.drop (k+1)).flatten≠[]:=by
    intro e0;have:=mW (fun i cs hi=>hel cs (ycv hi))
    rw[e0,hm]at this;obtain⟨_,⟨z,_,hz2,_,_,hz5⟩,_⟩:=hE
    have h5':0<sz:=hz5
    have:(ds.length-(k+1))*sz>=1*1:=ydb (by omega) h5'
    simp at *
    omega
   split
   ·rename_i e0;exact absurd e0 hne
   ·rename_i e0
    rw[p1 q,tA,hm,show k+(ds.length-(k+1))=ds.length-1 by omega]
  ·have hlen2:(ds.take k++(ds.drop (k+1)++ds.drop (k+(ds.drop (k+1)).length))).length=ds.length:=by simp;omega
   have p2':jH C.base tf t' sz (ds.take k++(ds.drop (k+1)++ds.drop (k+(ds.drop (k+1)).length))) (.slice b 0 (ds.take k++(ds.drop (k+1)++ds.drop (k+(ds.drop (k+1)).length))).length (ds.take k++(ds.drop (k+1)++ds.drop (k+(ds.drop (k+1)).length))).length):=by rw[hlen2];exact p2
   have:=p2'.readTake (k:=ds.length-1) (hle.off hbn p3) (by omega)
   rw[hlen2]at this;have e3:(ds.take k++(ds.drop (k+1)++ds.drop (k+(ds.drop (k+1)).length))).take (ds.length-1)=ds.take k++ds.drop (k+1):=by
    rw[<- ybz,List.take_left' (by simp;omega)]
   rw[e3]at this;exact this
end
end Go.Am
namespace Go.Proofs
open Go Go.Am
variable [nC]
variable {t tf:Tr rA}
def zod{p:oC}{L:List cF}{cs:List zA}{Q:xC}(h:oC.cpy p)(ho:dD yA.base tf t L)(hd:RD tf p.d cs)
  (hQ:∀tf' t' a b c,cA tf tf'->dD yA.base tf' t' (zH yA.base 24 (p.clauses.map zC.d) c::L)->lA tf' 3 (p.defs.map cE.d) a->lA tf' 3 (p.tables.map fD.d) b->Q (.agg [.str p.name,a,b,c]) t'):Wc yA F 17 [.agg cs] t Q:=by
 obtain⟨a,b,c,rfl,ha,hb,hc⟩:=jM hd
 refine w17 _ _ _ _ ?_
 simp only[t17,qA,q35,q36,q37];have one:∀ {tf:Tr rA} {sz:Nat} {l:List D} {v:zA},lA tf sz l v->rB zA.one [v]=true:=fun h=>by rw[nF];simp only[ycg,yck,h.one];rfl
 have one1:∀ {tf t:Tr rA} {sz:Nat} {l:List D} {v:zA} {L:List cF},dD yA.base tf t (zH yA.base sz l v::L)->zA.one v=true:=fun h=>by
  rcases h.ok (zH _ _ _ _) (yby ..)with⟨e,_⟩ | ⟨b,cl,c,e,_⟩ <;> (subst e;rfl)
 have one':∀ {tf t:Tr rA} {sz:Nat} {l:List D} {v:zA} {L:List cF},dD yA.base tf t (zH yA.base sz l v::L)->rB zA.one [v]=true:=fun h=>by rw[nF];simp only[ycg,yck,one1 h];rfl
 refine w35 _ (zq4 el22 ha ho (by rw[ybf];have:=h.defs;omega) fun tf1 t1 a1 k1 k2 k3=>uI (one k3) ?_)
 refine w36 _ ?_
 simp only[t36,qA];refine zd8 (ds:=p.tables.map fD.d) el23 sl23 (by decide) (fun d hd=>?_) (fun d hd=>?_) (by rw[ybf];exact h.tables) (fun v i t hw=>j36_2 _ _ _ hw) (fun tf2 t2 b1 m1 m2 m3=>uI (one m3) ?_) (hb.mono k1) k2
 ·obtain⟨r,_,rfl⟩:=yaq.1 hd
  exact r.zs
 ·obtain⟨r,hm,rfl⟩:=yaq.1 hd
  exact z8y (h.rows r hm).1 (h.rows r hm).2
 refine w37 _ ?_
 simp only[t37,qA];refine ztj (ds:=p.clauses.map zC.d) el24 z1m (by decide) (fun d hd=>?_) (fun d hd=>?_) (by rw[ybf];exact h.clauses) (fun v i t hw=>j37_2 _ _ _ hw) (fun tf3 t3 c1 n1 n2=>uI (one' n2) ?_) (hc.mono (k1.trans m1)) m2
 ·obtain⟨r,_,rfl⟩:=yaq.1 hd
  exact r.zs
 ·obtain⟨r,hm,rfl⟩:=yaq.1 hd
  exact z8x (h.exprs r hm).1 (h.exprs r hm).2
 refine uI ?_ (hQ tf3 t3 _ _ _ (k1.trans (m1.trans n1)) n2 (k3.mono (m1.trans n1)) (m3.mono n1))
 rw[nF];simp only[ycg,yck,k3.one,m3.one,one1 n2];rfl
end Go.Proofs
namespace Go.Proofs
open Go Go.Am
section
variable [nC]
variable {t:Tr rA}
def z66{n:Int}{m:Nat}(h0:0<m)(hm:m<1125899906842624):∃k:Nat,k<m/\wC yA F 18 [.int .i64 n,.int .i64 (m:Int)] t=some (.int .i64 (k:Int)):=by
 have hr:zt6 .i64 n (m:Int)=some (.int .i64 (n.tmod m)):=by
  unfold zt6;have:mA (m:Int) 0=false:=by
   cases hq:mA (m:Int) 0 with
   | false=>rfl
   | true=>have:=yH.1 hq;omega
  rw[this];rfl
 have hlt:n.tmod m<m:=Int.tmod_lt_of_pos n (by omega)
 have hge : -(m:Int)<n.tmod m:=by
  have:=Int.lt_tmod_of_pos n (show(0:Int)<(m:Int) by omega)
  exact this
 by_cases hn:n.tmod m<0
 ·refine⟨(n.tmod m+m).toNat,by omega,wD.2 (w18 _ _ ?_)⟩
  unfold t18;refine mB (nLt (by omega)) (uB hr (sC (iA (yLt hn) ?_)))
  rw[wrap_i64 (by omega) (by omega)]
  have:(((n.tmod m+m).toNat:Nat):Int)=n.tmod m+m:=by omega
  rw[this];exact⟨rfl,rfl⟩
 ·refine⟨(n.tmod m).toNat,by omega,wD.2 (w18 _ _ ?_)⟩
  unfold t18;refine mB (nLt (by omega)) (uB hr (sC (mB (nLt hn) ?_)))
  have:(((n.tmod m).toNat:Nat):Int)=n.tmod m:=by omega
  rw[this];exact⟨rfl,rfl⟩
end
section
variable [nC]
variable {t:Tr rA}
def aW{p:oC}{l:List zC}(hp:p.fit)(hl:l.length<=p.clauses.length)(hm:∀x∈l,x∈p.clauses):(aF p l).fit:=
 ⟨hp.name,hp.ndefs,hp.ntables,yam hl hp.nclauses,hp.defs,hp.tables,fun x hx=>hp.clauses x (hm x hx)⟩
def zlf{p:oC}(h:(mH p).2=0):mH p=(0,0)/\mF p=0/\∀x∈p.clauses,nI p x=0:=by
 have hk:mF p=0:=by
  unfold mH at h;split at h
  ·rename_i q;exact absurd h q
  ·rename_i q;omega
 have h2:(xH p p.clauses 0).2=0:=by
  unfold mH at h;rw[yaa (by omega)]at h
  exact h
 have hall:=zge _ _ h2
 refine⟨?_,hk,hall⟩
 unfold mH;rw[yaa (by omega),uY _ _ hall]
 rfl
def nZ{p:oC}{l:List zC}(hk:mF p=0)(hl:l.length<=p.clauses.length):mH (aF p l)=(((xH p l 0).1:Int),(xH p l 0).2):=by
 unfold mH;rw[yaa (by rw[zog hk hl];simp)]
 show(((xH (aF p l) l 0).1:Int),(xH (aF p l) l 0).2)=_
 rw[zd1]
def z2m{p:oC}{k:Nat}(h:(mH p).2=0)(hk:k<p.clauses.length):mH (aF p (p.clauses.take k++p.clauses.drop (k+1)))=(0,0):=by
 obtain⟨_,h1,h2⟩:=zlf h
 rw[nZ h1 (by simp;omega),uY _ _ fun x hx=>?_]
 ·rfl
 ·rcases yaf.1 hx with hx | hx
  ·exact h2 x (List.mem_of_mem_take hx)
  ·exact h2 x (List.mem_of_mem_drop hx)
def zxf{p:oC}(h:mF p≠0):mH (aF p [])=(-1,mF p)\/mF p=5/\400<p.clauses.length/\(mH (aF p [])=(-1,143)\/mH (aF p [])=(0,0)):=by
 have e0:∀c:Nat,mF (aF p [])=c->mH (aF p [])=if c≠0 then(-1,c)else(0,0):=by
  intro c hc;unfold mH;rw[hc];split
  ·rfl
  ·rfl
 have ek:mF (aF p [])=if zex ⟨p.name,p.defs,p.tables,[]⟩=false then 140 else if cK (aF p [])=true then 5 else if sK [] (p.defs.map cE.name)=true then 143 else if sK [] (p.tables.map fD.name)=true then 143 else 0:=rfl
 unfold mF at h;by_cases h1:zex ⟨p.name,p.defs,p.tables,[]⟩=false
 ·refine .inl ?_
  rw[e0 140 (by rw[ek,yab h1]),yab (by omega)]
  unfold mF;rw[yab h1]
 rw[yaa h1]at h ek;by_cases h2:cK p=true
 ·have e5:mF p=5:=by unfold mF;rw[yaa h1,yab h2]
  by_cases h3:cK (aF p [])=true
  ·refine .inl ?_
   rw[e0 5 (by rw[ek,yab h3]),yab (by omega),e5]
  ·have hm:400<p.clauses.length:=by
    unfold cK at h2 h3;simp only[ycq,decide_eq_true_eq,not_or]at h2 h3;rcases h2 with q | q | q | q
    ·exact absurd q h3.1
    ·exact absurd q h3.2.1
    ·exact q
    ·exact absurd q h3.2.2.2
   refine .inr ⟨e5,hm,?_⟩
   rw[yaa h3]at ek;split at ek
   ·exact .inl (by rw[e0 143 ek,yab (by omega)])
   ·split at ek
    ·exact .inl (by rw[e0 143 ek,yab (by omega)])
    ·exact .inr (by rw[e0 0 ek,yaa (by omega)])
 ·have h3:¬ cK (aF p [])=true:=by
   intro h3;apply h2
   unfold cK at h3 ⊢
   simp only[ycq,decide_eq_true_eq]at h3 ⊢
   rcases h3 with q | q | q | q
   ·exact .inl q
   ·exact .inr (.inl q)
   ·simp[aF]at q
   ·exact .inr (.inr (.inr q))
  rw[yaa h2]at h;rw[yaa h3]at ek;refine .inl ?_
  have:mF (aF p [])=mF p:=by
   rw[ek];unfold mF;rw[yaa h1,yaa h2]
  rw[e0 _ this];have hne:mF p≠0:=by
   unfold mF;rw[yaa h1,yaa h2];exact h
  rw[yab hne]
def z7p{p:oC}(h0:mF p=0)(h:(mH p).2≠0):∃k,∃hk:k<p.clauses.length,mH p=((k:Int),nI p p.clauses[k])/\mH (aF p (p.clauses.take k))=(0,0)/\mH (aF p (p.clauses.take k++[p.clauses[k]]))=((k:Int),nI p p.clauses[k]):=by
 have e:mH p=(((xH p p.clauses 0).1:Int),(xH p p.clauses 0).2):=by unfold mH;rw[yaa (by omega)]
 rw[e]at h;obtain⟨k,hk,g1,g2,g3⟩:=zky p.clauses 0 h
 refine⟨k,hk,by rw[e,g1];simp,?_,?_⟩
 ·rw[nZ h0 (by simp;omega),uY _ _ g3];rfl
 ·rw[nZ h0 (by simp;omega),zgf _ _ [] 0 g3 g2]
  simp;omega
end
section
variable [nC]
variable {t:Tr rA}
def zrw{p:oC}{cp:List zA}{n:Int}(hp:p.fit)(hW:zl3 t)(hr:RD t p.d cp)(hz:(mH p).2=0):Wc yA F 5 [.agg cp,.int .i64 n] t (fun v _=>v=.bool true):=by
 have hr0:=hr
 obtain⟨u1,u2,u3,rfl,h1,h2,h3⟩:=jM hr
 have h9:wC yA F 9 [] t=some (.bool true):=zc3 (g:=zsd) (by kernel_rfl) fun H=>rfl
 have hnc:=hp.nclauses
 unfold jC at hnc;refine w5 _ _ _ _ _ ?_
 unfold t5;refine sD ?_
 rw[q9,h9,wA];refine nD (mB (by simp) (sD ?_))
 rw[q15,zhd hp hr0,wA];refine sC ?_
 by_cases hs:2000<zr1 p
 ·exact iA (yLt hs) rfl
 refine mB (nLt hs) (sD ?_)
 rw[q16,iT hp hr0,wA];refine uB rfl (sC (uB rfl (sC (sD ?_))))
 have hc:=(zhn hp (by omega)).1
 have ho:dD yA.base t t []:=⟨cA.refl _,by simp,(fun o h=>by cases h),(fun k h=>by simp at h)⟩
 rw[q17];refine zod hc ho hr0 fun tf1 t1 a b c k1 k2 k3 k4=>?_
 have hl:jH yA.base tf1 t1 24 (p.clauses.map zC.d) c:=k2.ok (zH yA.base 24 (p.clauses.map zC.d) c) (by simp)
 have hcone:zA.one c=true/\tI .nilslice c=true:=by
  rcases hl with⟨e,_⟩ | ⟨b',cl,cc,e,_⟩ <;> (subst e;exact⟨rfl,rfl⟩)
 have hag:rJ [.str [],.nilslice,.nilslice,.nilslice] (.agg [.str p.name,a,b,c])=some (cellsOf [.str p.name,a,b,c]):=mL (by
  show(true&&(tI .nilslice a&&(tI .nilslice b&&(tI .nilslice c&&true))))=true
  rw[gN k3,gN k4,hcone.2];rfl)
 refine fH hag (iA (by rw[nF];simp only[ycg,yck,cellsOf,zmp,aN,yaz,yba,k3.one,k4.one,hcone.1];rfl) ?_)
 have hlen:=h3.len
 rw[ybf]at hlen;obtain⟨z1,z2,z3⟩:=zlf hz
 refine iA (sF (by rw[hz];rfl)) (uB hlen (sC ?_))
 by_cases hz0:p.clauses.length=0
 ·refine iA (sF (by omega)) ?_
  rw[z1];rfl
 have hk0:((p.clauses.length:Nat):Int)≠0:=by omega
 refine mB (nEq hk0) (uB hlen (sC (sD ?_)))
 obtain⟨k,hk,hpk⟩:=z66 (t:=t1) (n:=n) (show 0<p.clauses.length by omega) hnc
 rw[q18,hpk,wA];refine sC ?_
 obtain⟨bb,rfl⟩:∃bb,c=.slice bb 0 (p.clauses.map zC.d).length (p.clauses.map zC.d).length:=by
  rcases hl with⟨e,e2⟩ | ⟨b',cl,cc,e,_⟩
  ·have e3:(p.clauses.map zC.d).length=0:=by rw[e2];rfl
   rw[ybf]at e3;exact absurd e3 hz0
  ·exact⟨_,e⟩
 have hml:(p.clauses.map zC.d).length=p.clauses.length:=ybf ..
 have h0b:∃c m lo,t1.get 0=some (.cells c m lo):=by
  obtain⟨c,m,lo,hc0,_⟩:=hW.mono (k1.trans k2.tle)
  exact⟨c,m,lo,hc0⟩
 obtain⟨x,hx,hdel⟩:=hl.del el24 z1m (k:=k) (by rw[hml];exact hk) h0b k2.tle
 have hkl:k<=(p.clauses.map zC.d).length:=by rw[hml];exact Nat.le_of_lt hk
 refine aD (hl.prefix (k:=k) z1m hkl) (aD (v:=x) ?_ (gH fun q _ _=>?_))
 ·have ek:sA .i64 ((k:Int)+1)=((k+1:Nat):Int):=by rw[wrap_i64 (by omega) (by omega)];omega
  rw[ek];exact hx
 ·obtain⟨t2,d1,d2,d3,d4⟩:=hdel q
  refine⟨_,_,d1,iA rfl (sD ?_)⟩
  have hle:cA tf1 t2:=k2.tle.off d4 d3
  have hm2:(p.clauses.map zC.d).take k++(p.clauses.map zC.d).drop (k+1)=(p.clauses.take k++p.clauses.drop (k+1)).map zC.d:=by simp[List.map_take,List.map_drop]
  rw[hm2]at d2;have hq:RD t2 (aF p (p.clauses.take k++p.clauses.drop (k+1))).d [.str p.name,a,b,.slice bb 0 ((p.clauses.map zC.d).length-1) (p.clauses.map zC.d).length]:=zc5 (p:=aF p (p.clauses.take k++p.clauses.drop (k+1))) (k3.mono hle) (k4.mono hle) d2
  have hqf:=aW (l:=p.clauses.take k++p.clauses.drop (k+1)) hp (by simp;omega) (fun x hx=>by
   rcases yaf.1 hx with hx | hx
   ·exact List.mem_of_mem_take hx
   ·exact List.mem_of_mem_drop hx)
  have hch:=iT hqf hq
  rw[z2m hz hk]at hch;rw[q16];show vD (wC yA F 16 [.agg [.str p.name,a,b,.slice bb 0 ((p.clauses.map zC.d).length-1) (p.clauses.map zC.d).length]] t2) _
  rw[hch,wA];refine uB rfl (sC (uB rfl (sC ?_)))
  refine iA (sF (by rw[z1])) (iA rfl rfl)
end
section
variable [nC]
variable {t:Tr rA}
def zml{p:oC}{cp:List zA}{n:Int}(hp:p.fit)(hW:zl3 t)(hr:RD t p.d cp)(hz:mF p≠0):Wc yA F 5 [.agg cp,.int .i64 n] t (fun v _=>v=.bool true):=by
 have hr0:=hr
 obtain⟨u1,u2,u3,rfl,h1,h2,h3⟩:=jM hr
 have h9:wC yA F 9 [] t=some (.bool true):=zc3 (g:=zsd) (by kernel_rfl) fun H=>rfl
 have hnc:=hp.nclauses
 unfold jC at hnc;refine w5 _ _ _ _ _ ?_
 unfold t5;refine sD ?_
 rw[q9,h9,wA];refine nD (mB (by simp) (sD ?_))
 rw[q15,zhd hp hr0,wA];refine sC ?_
 by_cases hs:2000<zr1 p
 ·exact iA (yLt hs) rfl
 refine mB (nLt hs) (sD ?_)
 rw[q16,iT hp hr0,wA];refine uB rfl (sC (uB rfl (sC (sD ?_))))
 have hc:=(zhn hp (by omega)).1
 have ho:dD yA.base t t []:=⟨cA.refl _,by simp,(fun o h=>by cases h),(fun k h=>by simp at h)⟩
 rw[q17];refine zod hc ho hr0 fun tf1 t1 a b c k1 k2 k3 k4=>?_
 have hl:jH yA.base tf1 t1 24 (p.clauses.map zC.d) c:=k2.ok (zH yA.base 24 (p.clauses.map zC.d) c) (by simp)
 have hcone:zA.one c=true/\tI .nilslice c=true:=by
  rcases hl with⟨e,_⟩ | ⟨b',cl,cc,e,_⟩ <;> (subst e;exact⟨rfl,rfl⟩)
 have hag:rJ [.str [],.nilslice,.nilslice,.nilslice] (.agg [.str p.name,a,b,c])=some (cellsOf [.str p.name,a,b,c]):=mL (by
  show(true&&(tI .nilslice a&&(tI .nilslice b&&(tI .nilslice c&&true))))=true
  rw[gN k3,gN k4,hcone.2];rfl)
 refine fH hag (iA (by rw[nF];simp only[ycg,yck,cellsOf,zmp,aN,yaz,yba,k3.one,k4.one,hcone.1];rfl) ?_)
 have hlen:=h3.len
 rw[ybf]at hlen;have z1:mH p=(-1,mF p):=by unfold mH;rw[yab hz]
 rw[z1];refine mB (nEq (by show((mF p:Nat):Int)≠0;omega)) (iA rfl (iA rfl (sD ?_)))
 have hq:RD t1 (aF p []).d [.str p.name,a,b,.nilslice]:=zc5 (p:=aF p []) (k3.mono k2.tle) (k4.mono k2.tle) nilR
 have hqf:=aW (l:=[]) hp (by simp) (fun x hx=>by cases hx)
 have hch:=iT hqf hq
 rw[q16];show vD (wC yA F 16 [.agg [.str p.name,a,b,.nilslice]] t1) _
 rw[hch,wA];refine uB rfl (sC (uB rfl (sC ?_)))
 rcases zxf hz with e | ⟨e5,hm,e | e⟩
 ·rw[e]
  by_cases h5:mF p=5
  ·exact iA (sF (by show((mF p:Nat):Int)=5;omega)) (uB hlen (sC (iA rfl (iA (sF rfl) rfl))))
  ·exact mB (nEq (by show((mF p:Nat):Int)≠5;omega)) (iA rfl (iA (sF rfl) rfl))
 ·rw[e]
  refine iA (sF (by show((mF p:Nat):Int)=5;omega)) (uB hlen (sC (iA rfl ?_)))
  refine mB (nEq (by show((143:Nat):Int)≠((mF p:Nat):Int);omega)) ?_
  exact iA (yLt (by omega)) (iA rfl rfl)
 ·rw[e]
  refine iA (sF (by show((mF p:Nat):Int)=5;omega)) (uB hlen (sC (mB (by decide) ?_)))
  refine iA rfl (iA rfl ?_)
  show(zA.bool (iB 400 (p.clauses.length:Int)))=.bool true
  rw[yLt (by omega)]
end
section
variable [nC]
variable {t:Tr rA}
def z03{p:oC}{cp:List zA}{n:Int}(hp:p.fit)(hW:zl3 t)(hr:RD t p.d cp)(hk0:mF p=0)(hz:(mH p).2≠0):Wc yA F 5 [.agg cp,.int .i64 n] t (fun v _=>v=.bool true):=by
 have hr0:=hr
 obtain⟨u1,u2,u3,rfl,h1,h2,h3⟩:=jM hr
 have h9:wC yA F 9 [] t=some (.bool true):=zc3 (g:=zsd) (by kernel_rfl) fun H=>rfl
 have hnc:=hp.nclauses
 unfold jC at hnc;refine w5 _ _ _ _ _ ?_
 unfold t5;refine sD ?_
 rw[q9,h9,wA];refine nD (mB (by simp) (sD ?_))
 rw[q15,zhd hp hr0,wA];refine sC ?_
 by_cases hs:2000<zr1 p
 ·exact iA (yLt hs) rfl
 refine mB (nLt hs) (sD ?_)
 rw[q16,iT hp hr0,wA];refine uB rfl (sC (uB rfl (sC (sD ?_))))
 have hc:=(zhn hp (by omega)).1
 have ho:dD yA.base t t []:=⟨cA.refl _,by simp,(fun o h=>by cases h),(fun k h=>by simp at h)⟩
 rw[q17];refine zod hc ho hr0 fun tf1 t1 a b c k1 k2 k3 k4=>?_
 have hl:jH yA.base tf1 t1 24 (p.clauses.map zC.d) c:=k2.ok (zH yA.base 24 (p.clauses.map zC.d) c) (by simp)
 have hcone:zA.one c=true/\tI .nilslice c=true:=by
  rcases hl with⟨e,_⟩ | ⟨b',cl,cc,e,_⟩ <;> (subst e;exact⟨rfl,rfl⟩)
 have hag:rJ [.str [],.nilslice,.nilslice,.nilslice] (.agg [.str p.name,a,b,c])=some (cellsOf [.str p.name,a,b,c]):=mL (by
  show(true&&(tI .nilslice a&&(tI .nilslice b&&(tI .nilslice c&&true))))=true
  rw[gN k3,gN k4,hcone.2];rfl)
 refine fH hag (iA (by rw[nF];simp only[ycg,yck,cellsOf,zmp,aN,yaz,yba,k3.one,k4.one,hcone.1];rfl) ?_)
 have hlen:=h3.len
 rw[ybf]at hlen;obtain⟨k,hk,z1,z2,z3⟩:=z7p hk0 hz
 have hce:nI p p.clauses[k]≠0:=by rw[z1]at hz;exact hz
 have hpos:p.clauses.length≠0:=by omega
 obtain⟨bb,rfl⟩:∃bb,c=.slice bb 0 (p.clauses.map zC.d).length (p.clauses.map zC.d).length:=by
  rcases hl with⟨e,e2⟩ | ⟨b',cl,cc,e,_⟩
  ·have e3:(p.clauses.map zC.d).length=0:=by rw[e2];rfl
   rw[ybf]at e3;exact absurd e3 hpos
  ·exact⟨_,e⟩
 have hml:(p.clauses.map zC.d).length=p.clauses.length:=ybf ..
 have hkl:k<=(p.clauses.map zC.d).length:=by rw[hml];exact Nat.le_of_lt hk
 rw[z1];refine mB (nEq (by show((nI p p.clauses[k]:Nat):Int)≠0;omega)) (mB (nEq (by show(k:Int) ≠ -1;omega)) (mB (nLt (by show ¬ (k:Int)<0;omega)) (uB hlen (sC (mB (nLe (by show ¬ (p.clauses.length:Int)<=(k:Int);omega)) ?_)))))
 refine aD (hl.prefix (k:=k) z1m hkl) (iA rfl (sD ?_))
 have hr1:lA t1 24 ((p.clauses.take k).map zC.d) (.slice bb 0 k (p.clauses.map zC.d).length):=by
  have:=hl.readTake k2.tle hkl
  rw[<- List.map_take]at this;exact this
 have hq:RD t1 (aF p (p.clauses.take k)).d [.str p.name,a,b,.slice bb 0 k (p.clauses.map zC.d).length]:=zc5 (p:=aF p (p.clauses.take k)) (k3.mono k2.tle) (k4.mono k2.tle) hr1
 have hqf:=aW (l:=p.clauses.take k) hp (by simp;omega) (fun x hx=>List.mem_of_mem_take hx)
 have hch:=iT hqf hq
 rw[z2]at hch;rw[q16];show vD (wC yA F 16 [.agg [.str p.name,a,b,.slice bb 0 k (p.clauses.map zC.d).length]] t1) _
 rw[hch,wA];refine uB rfl (sC (uB rfl (sC ?_)))
 obtain⟨pb,po,cs,g1,g2,g3,_,g5⟩:=zE.at (t:=t1) z1m (by simp) (h3.mono (k1.trans k2.tle)) (i:=k) (d:=p.clauses[k].d) (by simp[ybd hk])
 obtain⟨pb',po',cs',g1',g2',g3',_,g5'⟩:=zE.at (t:=tf1) z1m (by simp) (h3.mono k1) (i:=k) (d:=p.clauses[k].d) (by simp[ybd hk])
 rw[g1']at g1
 cases g1
 have ecs:cs'=cs:=by
  have:=zaq (H:=⟨0,tf1⟩) (HA:=⟨0,t1⟩) (fun a y h=>k2.tle a y h) g2'
  rw[g2]at this;exact(zA.agg.inj (yci this)).symm
 subst ecs;refine uB g1' (aD g2 ?_)
 rw[kL];refine fH (lH g5 p.clauses[k].zs) (gH fun n1 hn1 _=>?_)
 have hmk:=g5.mk p.clauses[k].zs
 have hl24:cs'.length=24:=by obtain⟨_,_,_,_,_,_,rfl,_⟩:=zW g5;rfl
 obtain⟨t2,e1,e2,e3,e4⟩:=lit1 (C:=yA) el24 (cs:=cs') hl24 (by decide) hn1
 have hcs:[zA.str ((cellsOf cs').s 0),.str ((cellsOf cs').s 1),.int .i64 ((cellsOf cs').i 2),.int .i64 ((cellsOf cs').i 3),.int .i64 ((cellsOf cs').i 4),.bool ((cellsOf cs').b 5),.int .u8 ((cellsOf cs').i 6),.str ((cellsOf cs').s 7),.int .u8 ((cellsOf cs').i 8),.bool ((cellsOf cs').b 9),(cellsOf cs').v 10,.bool ((cellsOf cs').b 11),(cellsOf cs').v 12,.int .i64 ((cellsOf cs').i 13),(cellsOf cs').v 14,.int .u8 ((cellsOf cs').i 15),.str ((cellsOf cs').s 16),.int .u8 ((cellsOf cs').i 17),.bool ((cellsOf cs').b 18),(cellsOf cs').v 19,.bool ((cellsOf cs').b 20),(cellsOf cs').v 21,.int .i64 ((cellsOf cs').i 22),(cellsOf cs').v 23]=cs':=hmk
 rw[hcs];refine⟨_,_,e1,iA (by show(Nat.beq bb bb&&Nat.beq 0 0&&Nat.beq k k&&Nat.beq _ _)=true;rw[qB.2 rfl,qB.2 rfl,qB.2 rfl,qB.2 rfl];rfl) (gH fun n2 _ _=>?_)⟩
 have ho2:=k2.junk hn1 e4
 have hl2:jH yA.base tf1 t2 24 (p.clauses.map zC.d) (.slice bb 0 (p.clauses.map zC.d).length (p.clauses.map zC.d).length):=ho2.ok (zH yA.base 24 (p.clauses.map zC.d) _) (by simp)
 obtain⟨t3,f1,f2,f3⟩:=hl2.put (k:=k) (es:=[p.clauses[k].d]) (el:=[cs']) (fun c hc=>by rw[ydd.1 hc];exact hl24) (fun c hc a ha=>by rw[ydd.1 hc]at ha;exact RD.ones _ _ g5' a ha) (jE.2 ⟨cs',[],rfl,g5',sG.2 rfl⟩) (by rw[hml];show k+1<=_;omega)
 obtain⟨hf,hlx⟩:=e2.first (n:=n2)
 have hap:gE yA 24 24 (.slice bb 0 k (p.clauses.map zC.d).length) (.slice n1 0 1 1) ⟨n2,t2⟩=some (.slice bb 0 (k+1) (p.clauses.map zC.d).length,⟨n2,t3⟩):=by
  rw[zeh el24 hlx hf (by rw[hml];show k+1<=_;omega)]
  split
  ·rename_i e0
   have:=congrArg List.length e0
   simp[hl24]at this
  ·rw[f1 n2,tA];rfl
 refine⟨_,_,hap,iA rfl (sD ?_)⟩
 have hbn:tf1.get bb=none:=(ho2.low bb (by simp[zH,zzx])).2
 have hle:cA tf1 t3:=ho2.tle.off hbn f3
 have hlen2:((p.clauses.map zC.d).take k++([p.clauses[k].d]++(p.clauses.map zC.d).drop (k+[p.clauses[k].d].length))).length=(p.clauses.map zC.d).length:=by simp;omega
 have f2':jH yA.base tf1 t3 24 ((p.clauses.map zC.d).take k++([p.clauses[k].d]++(p.clauses.map zC.d).drop (k+[p.clauses[k].d].length))) (.slice bb 0 ((p.clauses.map zC.d).take k++([p.clauses[k].d]++(p.clauses.map zC.d).drop (k+[p.clauses[k].d].length))).length ((p.clauses.map zC.d).take k++([p.clauses[k].d]++(p.clauses.map zC.d).drop (k+[p.clauses[k].d].length))).length):=by rw[hlen2];exact f2
 have hr2:=f2'.readTake (k:=k+1) hle (by rw[hlen2,hml];omega)
 rw[hlen2,<- ybz,List.take_left' (by simp;omega)]at hr2
 have em:(p.clauses.map zC.d).take k++[p.clauses[k].d]=(p.clauses.take k++[p.clauses[k]]).map zC.d:=by rw[List.map_append,List.map_take];rfl
 rw[em]at hr2;have hq2:RD t3 (aF p (p.clauses.take k++[p.clauses[k]])).d [.str p.name,a,b,.slice bb 0 (k+1) (p.clauses.map zC.d).length]:=zc5 (p:=aF p (p.clauses.take k++[p.clauses[k]])) (k3.mono hle) (k4.mono hle) hr2
 have hqf2:=aW (l:=p.clauses.take k++[p.clauses[k]]) hp (by simp;omega) (fun x hx=>by
  rcases yaf.1 hx with hx | hx
  ·exact List.mem_of_mem_take hx
  ·rw[ydd.1 hx];exact ycj hk)
 have hch2:=iT hqf2 hq2
 rw[z3]at hch2;rw[q16];show vD (wC yA F 16 [.agg [.str p.name,a,b,.slice bb 0 (k+1) (p.clauses.map zC.d).length]] t3) _
 rw[hch2,wA];refine uB rfl (sC (uB rfl (sC (iA rfl (iA rfl (iA (sF rfl) ?_))))))
 show(zA.bool (mA _ _))=.bool true
 rw[sF rfl]
end
end Go.Proofs
namespace Go.Am
open Go Go.RowKit Go.Proofs
def z02[nC]{t:Tr rA}{p:oC}{cp:List zA}{n:Int}(hp:p.fit)(hW:zl3 t)(hr:RD t p.d cp):Wc yA F 5 [.agg cp,.int .i64 n] t (fun v _=>v=.bool true):=by
 by_cases h1:mF p=0
 ·by_cases h2:(mH p).2=0
  ·exact zrw hp hW hr h2
  ·exact z03 hp hW hr h1 h2
 ·exact zml hp hW hr h1
def tless5{w:World}(hL:bF w){cs:Array Value}{p:oC}{n:Int}(hp:p.fit)(hh:Has w.heap.size cs.toList)(hrd:RD (lI w) p.d (cs.toList.map (av w.heap.size))) :
  Calls Tryz.prog 5 #[.agg cs,.int .i64 n] w fun e w'=>e=.returned (.bool true)/\Below w.heap.size w w':=
 zru hL 5 [.agg (cs.toList.map (av w.heap.size)),.int .i64 n] _ (by intro _;kernel_rfl) (.cons (z12 hh) (.single (by rw[vA]))) ⟨_,z02 hp (zqr hL) hrd,fun v t h=>h⟩
end Go.Am
