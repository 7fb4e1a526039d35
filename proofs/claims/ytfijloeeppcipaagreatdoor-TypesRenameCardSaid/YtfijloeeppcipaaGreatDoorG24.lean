/- The kit's copies of plans. -/
import Derived.Test.YtfijloeeppcipaaGreatDoorG23
set_option linter.all false
noncomputable section
set_option maxRecDepth 100000
namespace Go.Proofs
open Go Go.Am
variable [lC]
variable {t tf:Tr rA}
def z0r{l:List pA}{v:zA}(hv:lA t 9 (l.map pA.d) v){i:Nat}{x:pA}(hx:l[i]?=some x) :
  ∃b off a c d,qB yA 34 v (.int .i64 (i:Int))=some (.ptr b off)/\mA yA 36 ⟨0,t⟩ (.ptr b off)=some (.agg (xE x a c d))/\RD t x.d (xE x a c d)/\zK [(.int .u8 0),(.str []),(.int .u8 0),(.bool false),.nilslice,(.bool false),.nilslice,(.int .i64 0),.nilslice] (.agg (xE x a c d))=some (cellsOf (xE x a c d)) ∧
   lA t 1 (oD x.v.f.n.limbs) a/\lA t 1 (oD x.v.f.d.limbs) c/\lA t 9 (x.args.map pA.d) d:=by
 obtain⟨b,off,cs,g1,g2,_,_,g5⟩:=oE.at z3l (by simp) hv (i:=i) (d:=x.d) (by simp[hx])
 have hz:=vF g5 x.zs
 obtain⟨a,c,d,rfl,h1,h2,h3⟩:=kH g5
 exact⟨b,off,a,c,d,g1,g2,g5,hz,h1,h2,h3⟩
def nW{w:uI}{u:zA}(hu:lA t 1 (oD w.limbs) u):RD t w.d [.bool w.neg,u]:=by
 unfold uI.d;rw[tI];refine⟨[[.bool w.neg],[u]],rfl,?_⟩
 simp only[uF,kG,gP,kJ];exact⟨_,_,rfl,rfl,_,_,rfl,⟨u,rfl,hu⟩,rfl⟩
def zd2{f:yF}{u v:zA}(hu:lA t 1 (oD f.n.limbs) u)(hv:lA t 1 (oD f.d.limbs) v):RD t f.dd [.bool f.n.neg,u,.bool f.d.neg,v]:=by
 unfold yF.dd;rw[tI];refine⟨[[.bool f.n.neg,u],[.bool f.d.neg,v]],rfl,?_⟩
 rw[uF];refine⟨_,_,rfl,nW hu,?_⟩
 rw[uF];exact⟨_,_,rfl,nW hv,kG.2 rfl⟩
def zgz{x:lG}{u v:zA}(hu:lA t 1 (oD x.f.n.limbs) u)(hv:lA t 1 (oD x.f.d.limbs) v):RD t x.d [.int .u8 x.kind,.bool x.f.n.neg,u,.bool x.f.d.neg,v,.int .i64 x.i]:=by
 unfold lG.d;rw[tI];refine⟨[[.int .u8 x.kind],[.bool x.f.n.neg,u,.bool x.f.d.neg,v],[.int .i64 x.i]],rfl,?_⟩
 rw[uF];refine⟨_,_,rfl,oM.2 rfl,?_⟩
 rw[uF];refine⟨_,_,rfl,zd2 hu hv,?_⟩
 rw[uF];exact⟨_,_,rfl,oM.2 rfl,kG.2 rfl⟩
def el27:wK yA 27 202 1:=⟨⟨_,ty27,rfl,rfl⟩,⟨_,znx,rfl,rfl,by decide,by decide⟩,fun y h=>by rw[znx]at h;cases h;rfl⟩
def el22:wK yA 22 59 3:=⟨⟨_,ty22,rfl,rfl⟩,⟨_,z2n,rfl,rfl,by decide,by decide⟩,fun y h=>by rw[z2n]at h;cases h;rfl⟩
def el23:wK yA 23 81 3:=⟨⟨_,ty23,rfl,rfl⟩,⟨_,ty81,rfl,rfl,by decide,by decide⟩,fun y h=>by rw[ty81]at h;cases h;rfl⟩
def el79:wK yA 79 84 7:=⟨⟨_,ty79,rfl,rfl⟩,⟨_,ty84,rfl,rfl,by decide,by decide⟩,fun y h=>by rw[ty84]at h;cases h;rfl⟩
def mk_row{x:mH}{u v:zA}(hu:lA t 1 (oD x.f.n.limbs) u)(hv:lA t 1 (oD x.f.d.limbs) v):RD t x.d [.int .i64 x.a,.int .i64 x.b,.int .i64 x.known,.bool x.f.n.neg,u,.bool x.f.d.neg,v]:=by
 unfold mH.d;rw[tI];refine⟨[[.int .i64 x.a],[.int .i64 x.b],[.int .i64 x.known],[.bool x.f.n.neg,u,.bool x.f.d.neg,v]],rfl,?_⟩
 simp only[uF,kG,oM];exact⟨_,_,rfl,rfl,_,_,rfl,rfl,_,_,rfl,rfl,_,_,rfl,zd2 hu hv,rfl⟩
def z4n{x:uE}{v:zA}(hv:lA t 7 (x.rows.map mH.d) v):RD t x.d [.str x.name,.bool x.two,v]:=by
 unfold uE.d;rw[tI];refine⟨[[.str x.name],[.bool x.two],[v]],rfl,?_⟩
 simp only[uF,kG,iP,gP,kJ];exact⟨_,_,rfl,rfl,_,_,rfl,rfl,_,_,rfl,⟨v,rfl,hv⟩,rfl⟩
def zal{x:nC}{cs ds:List zA}(h1:RD t x.when_.d cs)(h2:RD t x.then_.d ds):RD t x.d ([.str x.name,.str x.label,.int .i64 x.from_,.int .i64 x.to,.int .i64 x.known,.bool x.off]++(cs++ds)):=by
 unfold nC.d;rw[tI];refine⟨[[.str x.name],[.str x.label],[.int .i64 x.from_],[.int .i64 x.to],[.int .i64 x.known],[.bool x.off],cs,ds],by simp,?_⟩
 simp only[uF,kG,iP,oM,gP];exact⟨_,_,rfl,rfl,_,_,rfl,rfl,_,_,rfl,rfl,_,_,rfl,rfl,_,_,rfl,rfl,_,_,rfl,rfl,_,_,rfl,h1,_,_,rfl,h2,rfl⟩
def zi2{op:Nat}{name:List Nat}{v:lG}{args:List pA}{a b c:zA}(ha:lA t 1 (oD v.f.n.limbs) a)(hb:lA t 1 (oD v.f.d.limbs) b)(hc:lA t 9 (args.map pA.d) c):RD t (pA.mk op name v args).d (xE (.mk op name v args) a b c):=by
 unfold pA.d xE;rw[tI,pA.ds_eq];refine⟨[[.int .u8 op],[.str name],[.int .u8 v.kind,.bool v.f.n.neg,a,.bool v.f.d.neg,b,.int .i64 v.i],[c]],rfl,?_⟩
 rw[uF];refine⟨_,_,rfl,rfl,?_⟩
 rw[uF];refine⟨_,_,rfl,rfl,?_⟩
 rw[uF];refine⟨_,_,rfl,zgz ha hb,?_⟩
 rw[uF];exact⟨_,_,rfl,kJ.2 ⟨_,rfl,hc⟩,kG.2 rfl⟩
def zzbc{L:List cD}{l:List Nat}{x:zA}{Q:cB}(hx:lA tf 1 (oD l) x)(ho:rB yA.base tf t L)(hl:l.length<1000000)(hQ:z6s yA.base tf L 1 (oD l) Q):Wc yA F 89 [x] t Q:=
 w89 _ (z56 el27 hx ho (by rw[mR];exact hl) hQ)
def z1i{w:uI}(hl:w.limbs.length<1000000):oO yA.base (Wq yA F aH) 67 w.d:=by
 intro L tf t cs Q ho hd hQ;obtain⟨v,rfl,hv⟩:=xV hd
 rw[q67];refine w67 _ _ ?_
 simp only[t67,qA,q89];refine zzbc hv ho hl fun tf' t' u k1 k2 k3=>?_
 have hr:=nW (w:=w) k3
 exact cG (by rw[yG];simp only[ycg,yck,k3.one];rfl) (cG hr.all (hQ tf' t' _ k1 k2 hr))
def z1j{f:yF}(hl:f.n.limbs.length<1000000/\f.d.limbs.length<1000000):oO yA.base (Wq yA F aH) 45 f.dd:=by
 intro L tf t cs Q ho hd hQ;obtain⟨u,v,rfl,hu,hv⟩:=zdq hd
 rw[q45];refine w45 _ _ _ _ ?_
 simp only[t45,qA];refine z1i hl.1 ho (nW (w:=f.n) hu) fun tf1 t1 c1 k1 k2 k3=>?_
 have hz1:=vF k3 (uI.zs _)
 have a1:=k3.all
 obtain⟨u1,rfl,hu1⟩:=xV k3
 rw[hz1,wA];refine cG a1 ?_
 refine z1i hl.2 k2 (nW (w:=f.d) (hv.mono k1)) fun tf2 t2 c2 m1 m2 m3=>?_
 have hz2:=vF m3 (uI.zs _)
 have a2:=m3.all
 obtain⟨v1,rfl,hv1⟩:=xV m3
 rw[hz2,wA];have hr:=zd2 (f:=f) (hu1.mono m1) hv1
 exact cG a2 (cG hr.all (hQ tf2 t2 _ (k1.trans m1) m2 hr))
def z1k{x:lG}(hl:x.f.n.limbs.length<1000000/\x.f.d.limbs.length<1000000):oO yA.base (Wq yA F aH) 30 x.d:=by
 intro L tf t cs Q ho hd hQ;obtain⟨u,v,rfl,hu,hv⟩:=zgl hd
 rw[q30];refine w30 _ _ _ _ _ _ ?_
 simp only[t30,qA];refine z1j hl ho (zd2 (f:=x.f) hu hv) fun tf1 t1 c1 k1 k2 k3=>?_
 have hz1:=vF k3 (yF.zs _)
 have a1:=k3.all
 obtain⟨u1,v1,rfl,hu1,hv1⟩:=zdq k3
 rw[hz1,wA];have hr:=zgz (x:=x) hu1 hv1
 exact cG a1 (cG hr.all (hQ tf1 t1 _ k1 k2 hr))
def zzbd{r:mH}(hl:r.f.n.limbs.length<1000000/\r.f.d.limbs.length<1000000):oO yA.base (Wq yA F aH) 96 r.d:=by
 intro L tf t cs Q ho hd hQ;obtain⟨u,v,rfl,hu,hv⟩:=zx0 hd
 rw[q96];refine w96 _ _ _ _ _ _ _ ?_
 simp only[t96,qA];refine z1j hl ho (zd2 (f:=r.f) hu hv) fun tf1 t1 c1 k1 k2 k3=>?_
 have hz1:=vF k3 (yF.zs _)
 have a1:=k3.all
 obtain⟨u1,v1,rfl,hu1,hv1⟩:=zdq k3
 rw[hz1,wA];have hr:=mk_row (x:=r) hu1 hv1
 exact cG a1 (cG hr.all (hQ tf1 t1 _ k1 k2 hr))
mutual
def pA.cpy:pA->Prop
 | .mk _ _ v args=>(v.f.n.limbs.length<1000000/\v.f.d.limbs.length<1000000)/\args.length<300000/\pA.cpys args
def pA.cpys:List pA->Prop
 | []=>True
 | x::l=>pA.cpy x/\pA.cpys l
end
mutual
def zpv:∀(x:pA),pA.cpy x->oO yA.base (Wq yA F aH) 12 x.d
 | .mk op name v args,h=>by
  intro L tf t cs Q ho hd hQ;obtain⟨a,b,c,rfl,ha,hb,hc⟩:=kH hd
  simp only[pA.op,pA.name,pA.v,pA.args]at ha hb hc ⊢
  unfold pA.cpy at h;rw[q12];refine w12 _ _ _ _ _ _ _ _ _ ?_
  simp only[t12,qA];refine z1k h.1 ho (zgz (x:=v) ha hb) fun tf1 t1 c1 k1 k2 k3=>?_
  have hz1:=vF k3 (lG.zs _)
  have a1:=k3.all
  obtain⟨u1,v1,rfl,hu1,hv1⟩:=zgl k3
  rw[hz1,wA];refine cG a1 ?_
  rw[q31];refine w31 _ ?_
  simp only[t31,qA];refine zey (ds:=args.map pA.d) el34 z3l (by decide) (fun d hd=>?_) (fun d hd=>?_) (by rw[ybf];exact h.2.1) (fun v i t hw=>j31_2 _ _ _ hw) (fun tf2 t2 v2 m1 m2 m3=>?_) (hc.mono k1) k2
  ·obtain⟨x,_,rfl⟩:=yaq.1 hd
   exact x.zs
  ·obtain⟨x,hx,rfl⟩:=yaq.1 hd
   exact zjt args h.2.2 x hx
  ·have hr:=zi2 (op:=op) (name:=name) (v:=v) (args:=args) (hu1.mono m1) (hv1.mono m1) m3
   exact cG (by rw[yG];simp only[ycg,yck,m3.one];rfl) (cG hr.all (hQ tf2 t2 _ (k1.trans m1) m2 hr))
def zjt:∀(l:List pA),pA.cpys l->∀x∈l,oO yA.base (Wq yA F aH) 12 x.d
 | [],_,x,hx=>by cases hx
 | y::l,h,x,hx=>by
  unfold pA.cpys at h;rcases ybs.1 hx with e | hx
  ·rw[e];exact zpv y h.1
  ·exact zjt l h.2 x hx
end
def zzbh{x:uE}(hn:x.rows.length<300000)(hr:∀r∈x.rows,r.f.n.limbs.length<1000000/\r.f.d.limbs.length<1000000):oO yA.base (Wq yA F aH) 51 x.d:=by
 intro L tf t cs Q ho hd hQ;obtain⟨a,rfl,ha⟩:=wV hd
 rw[q51];refine w51 _ _ _ ?_
 simp only[t51,qA];rw[q69];refine w69 _ ?_
 simp only[t69,qA];refine zey (ds:=x.rows.map mH.d) el79 sl79 (by decide) (fun d hd=>?_) (fun d hd=>?_) (by rw[ybf];exact hn) (fun v i t hw=>j69_2 _ _ _ hw) (fun tf2 t2 v2 m1 m2 m3=>?_) ha ho
 ·obtain⟨r,_,rfl⟩:=yaq.1 hd
  exact r.zs
 ·obtain⟨r,hm,rfl⟩:=yaq.1 hd
  exact zzbd (hr r hm)
 ·have hr:=z4n (x:=x) m3
  exact cG (by rw[yG];simp only[ycg,yck,m3.one];rfl) (cG hr.all (hQ tf2 t2 _ m1 m2 hr))
def zzbg{x:nC}(h1:pA.cpy x.when_)(h2:pA.cpy x.then_):oO yA.base (Wq yA F aH) 52 x.d:=by
 intro L tf t cs Q ho hd hQ;obtain⟨a,b,c,a',b',c',rfl,hw,ht⟩:=xR hd
 rw[q52];refine w52 _ _ _ _ _ _ _ _ _ _ _ _ _ _ _ _ _ _ _ _ _ _ _ _ ?_
 simp only[t52,qA];refine zpv _ h1 ho hw fun tf1 t1 c1 k1 k2 k3=>?_
 have hz1:=vF k3 (pA.zs _)
 have a1:=k3.all
 have k3':=k3
 obtain⟨u1,u2,u3,rfl,_⟩:=kH k3'
 rw[hz1,wA];refine cG a1 ?_
 refine zpv _ h2 k2 (RD.mono k1 _ _ ht) fun tf2 t2 c2 m1 m2 m3=>?_
 have hz2:=vF m3 (pA.zs _)
 have a2:=m3.all
 have m3':=m3
 obtain⟨v1,v2,v3,rfl,_⟩:=kH m3'
 rw[hz2,wA];have hr:=zal (x:=x) (RD.mono m1 _ _ k3) m3
 exact cG a2 (cG hr.all (hQ tf2 t2 _ (k1.trans m1) m2 hr))
structure fC.cpy (p:fC):Prop where
 defs:p.defs.length<300000
 tables:p.tables.length<300000
 clauses:p.clauses.length<300000
 rows:∀x∈p.tables,x.rows.length<300000/\∀r∈x.rows,r.f.n.limbs.length<1000000/\r.f.d.limbs.length<1000000
 exprs:∀x∈p.clauses,pA.cpy x.when_/\pA.cpy x.then_
def zxs{l:List Nat}{u v:zA}{Q:cB}(hu:lA t 1 (oD l) u)(hv:lA t 1 (oD l) v)(hl:l.length<1000000)(hQ:Q (.bool true) t):Wc yA F 97 [u,v] t Q:=by
 refine w97 _ _ ?_
 simp only[t97,qA,hu.len,hv.len,wA,sB,mR];refine zr2 (fun e=>absurd rfl (bT.1 e)) ?_
 have loop:∀(m i:Nat),i+m=l.length->jp 97 2 [u,v,.int .i64 (i:Int)] t Q:=by
  intro m;induction m with
  | zero=>
   intro i hi;refine j97_2 _ _ _ ?_
   simp only[z86,qA,hu.len,wA,sB,mR];exact zr2 (fun e=>by have:=zD.1 e;omega) hQ
  | succ m ih=>
   intro i hi;obtain⟨x,hx⟩:=getElem?_of_lt (show i<l.length by omega)
   obtain⟨p,o,g1,g2⟩:=lA.idx (C:=yA) z7a hu hx
   obtain⟨p',o',g3,g4⟩:=lA.idx (C:=yA) z7a hv hx
   refine j97_2 _ _ _ ?_
   simp only[z86,qA,hu.len,wA,sB,mR];refine cG (zD.2 (by omega)) ?_
   rw[g1,wA,g2,wA,sB,wA,g3,wA,g4,wA,sB,wA,wrap_i64 (by omega) (by omega)]
   exact zr2 (fun e=>absurd rfl (bT.1 e)) (ih (i+1) (by omega))
 exact loop l.length 0 (by omega)
def same60{x:lG}{cs ds:List zA}{Q:cB}(h:RD t x.d cs)(k:RD t x.d ds)(hl:x.f.n.limbs.length<1000000/\x.f.d.limbs.length<1000000)(hQ:Q (.bool true) t):Wc yA F 38 [.agg cs,.agg ds] t Q:=by
 obtain⟨a,b,rfl,ha,hb⟩:=zgl h
 obtain⟨a',b',rfl,ha',hb'⟩:=zgl k
 refine w38 _ _ _ _ _ _ _ _ _ _ _ _ ?_
 simp only[t38,qA];refine cG (mG.2 rfl) ?_
 rw[q53];refine w53 _ _ _ _ _ _ _ _ ?_
 simp only[t53,qA];rw[q70];refine w70 _ _ _ _ ?_
 simp only[t70,qA];refine cG (by rw[nP];simp) ?_
 rw[q97];refine zxs ha ha' hl.1 ?_
 rw[pO,wA,pO,wA,yab rfl,q70];refine w70 _ _ _ _ ?_
 simp only[t70,qA];refine cG (by rw[nP];simp) ?_
 rw[q97];refine zxs hb hb' hl.2 ?_
 rw[pO,wA,pO,wA,pO,wA,yab rfl,mG.2 rfl];exact hQ
end Go.Proofs
namespace Go.Proofs
open Go Go.Am
section
variable [lC]
variable {t:Tr rA}
def zji(f:yF):1<=zL f/\f.n.limbs.length<zL f/\f.d.limbs.length<zL f:=by unfold zL;omega
def zZ:∀(x:pA) (left:Int),x.ok->1<=pJ x left
 | .mk op name v args,left,h=>by
  unfold pA.ok at h;unfold pJ;have:=zji v.f
  have:=(xW args left (zL v.f+(name.length:Int) / 30) h.2.2.2 (by omega)).1
  omega
mutual
def zjs:∀(x:pA) (left:Int),x.ok->pJ x left<=left->left<=2000->pA.cpy x
 | .mk op name v args,left,h,hs,hl=>by
  unfold pA.ok at h;unfold pJ at hs;unfold pA.cpy;have:=zji v.f
  have h1:=(xW args left (zL v.f+(name.length:Int) / 30) h.2.2.2 (by omega)).1
  obtain⟨h2,h3⟩:=zst args left (zL v.f+(name.length:Int) / 30) h.2.2.2 (by omega) hs hl
  exact⟨⟨by omega,by omega⟩,by omega,h3⟩
def zst:∀(l:List pA) (left n:Int),pA.oks l->0<=n->cN l left n<=left->left<=2000->n+l.length<=left/\pA.cpys l
 | [],left,n,_,_,hs,_=>by
  unfold cN at hs;unfold pA.cpys;exact⟨by simpa using hs,trivial⟩
 | x::l,left,n,h,hn,hs,hl=>by
  unfold pA.oks at h;unfold cN at hs;unfold pA.cpys;by_cases hc:n<=left
  ·rw[yab hc]at hs
   have h1:=zZ x (left-n) h.1
   have h2:=(xW l left (n+pJ x (left-n)) h.2 (by omega)).1
   obtain⟨h3,h4⟩:=zst l left _ h.2 (by omega) hs hl
   exact⟨by simp only[ybn];omega,zjs x (left-n) h.1 (by omega) (by omega),h4⟩
  ·rw[yaa hc]at hs
   omega
end
def zdg:∀(l:List oC) (n:Int),n<=bQ l n
 | [],n=>by unfold bQ;omega
 | d::l,n=>by
  unfold bQ;split
  ·have:=zdg l (n+(d.name.length:Int) / 30);omega
  ·omega
def zq4:∀(l:List mH) (n:Int),n<=cM l n/\(cM l n<=2000->0<=n->l.length+n<=2000/\∀r∈l,r.f.n.limbs.length<1000000/\r.f.d.limbs.length<1000000)
 | [],n=>by unfold cM;exact⟨by omega,fun h _=>⟨by simpa using h,fun r hr=>by cases hr⟩⟩
 | r::l,n=>by
  obtain⟨h1,h2⟩:=zq4 l (n+(zL r.f:Nat))
  have:=zji r.f
  unfold cM;split
  ·refine⟨by omega,fun h hn=>?_⟩
   obtain⟨h3,h4⟩:=h2 h (by omega)
   refine⟨by simp only[ybn];omega,fun q hq=>?_⟩
   rcases ybs.1 hq with rfl | hq
   ·exact⟨by omega,by omega⟩
   ·exact h4 q hq
  ·exact⟨by omega,fun h=>by omega⟩
def zf4:∀(l:List uE) (n:Int),n<=mO l n/\(mO l n<=2000->0<=n->∀x∈l,x.rows.length<300000/\∀r∈x.rows,r.f.n.limbs.length<1000000/\r.f.d.limbs.length<1000000)
 | [],n=>by unfold mO;exact⟨by omega,fun _ _ r hr=>by cases hr⟩
 | x::l,n=>by
  obtain⟨r1,r2⟩:=zq4 x.rows (n+(x.name.length:Int) / 30)
  obtain⟨h1,h2⟩:=zf4 l (cM x.rows (n+(x.name.length:Int) / 30))
  unfold mO;split
  ·refine⟨by omega,fun h hn q hq=>?_⟩
   obtain⟨h3,h4⟩:=r2 (by omega) (by omega)
   rcases ybs.1 hq with rfl | hq
   ·exact⟨by omega,h4⟩
   ·exact h2 h (by omega) q hq
  ·exact⟨by omega,fun h=>by omega⟩
def oZ:∀(l:List nC) (n:Int),(∀x∈l,x.fit)->0<=n->n<=bM l n/\(bM l n<=2000->∀x∈l,pA.cpy x.when_/\pA.cpy x.then_)
 | [],n,_,_=>by unfold bM;exact⟨by omega,fun _ r hr=>by cases hr⟩
 | x::l,n,hf,hn=>by
  have hx:=hf x (by simp)
  have p1:=zZ x.when_ (2000-n) (pA.fit_ok hx.2.2.2.2.2.1)
  have p2:=zZ x.then_ (2000-gK x n) (pA.fit_ok hx.2.2.2.2.2.2)
  have hw:n<=gK x n/\pJ x.when_ (2000-n)<=gK x n-n:=by unfold gK;omega
  unfold bM;split
  ·split
   ·obtain⟨h1,h2⟩:=oZ l (gK x n+pJ x.then_ (2000-gK x n)) (fun y hy=>hf y (by simp[hy])) (by omega)
    refine⟨by omega,fun h q hq=>?_⟩
    rcases ybs.1 hq with rfl | hq
    ·exact⟨zjs _ (2000-n) (pA.fit_ok hx.2.2.2.2.2.1) (by omega) (by omega),zjs _ (2000-gK q n) (pA.fit_ok hx.2.2.2.2.2.2) (by omega) (by omega)⟩
    ·exact h2 h q hq
   ·obtain⟨h1,_⟩:=oZ l (gK x n) (fun y hy=>hf y (by simp[hy])) (by omega)
    exact⟨by omega,fun h=>by omega⟩
  ·exact⟨by omega,fun h=>by omega⟩
def z38{p:fC}(hp:p.fit)(h:z3o p<=2000):fC.cpy p/\p.clauses.length<=2000:=by
 unfold z3o at h;have h1:=zdg p.defs (1+(p.name.length:Int) / 30+p.defs.length+p.tables.length+p.clauses.length)
 obtain⟨h2,h3⟩:=zf4 p.tables (bQ p.defs (1+(p.name.length:Int) / 30+p.defs.length+p.tables.length+p.clauses.length))
 obtain⟨h4,h5⟩:=oZ p.clauses (mO p.tables (bQ p.defs (1+(p.name.length:Int) / 30+p.defs.length+p.tables.length+p.clauses.length))) hp.clauses (by omega)
 exact⟨⟨by omega,by omega,by omega,h3 (by omega) (by omega),h5 h⟩,by omega⟩
end
section
variable [lC]
variable {t:Tr rA}
section
variable {p:fC}
def zhe:∀(l:List nC) (i:Nat),(qN p l i).2=0->∀x∈l,aJ p x=0
 | [],i,_,x,h=>by cases h
 | y::l,i,h,x,hx=>by
  unfold qN at h;split at h
  ·rename_i h0;exact absurd h h0
  ·rename_i h0
   rcases ybs.1 hx with e | hx
   ·rw[e];omega
   ·exact zhe l (i+1) h x hx
end
section
variable {p:fC}{u1 u2 u3:zA}
end
end
section
variable [lC]
section
variable {p:fC}{l:List nC}
def zbo:∀(m:List nC) (i:Nat),(∀x∈m,aJ p x=0)->qN p m i=(0,0)
 | [],i,_=>rfl
 | x::m,i,h=>by
  unfold qN;rw[yaa (by rw[h x (by simp)];simp)]
  exact zbo m (i+1) fun y hy=>h y (by simp[hy])
end
end
end Go.Proofs
namespace Go.Am
open Go Go.RowKit
section
variable {t tf tf0:Tr rA}{C:oA}
def zzbx(base:Nat)(tf:Tr rA)(L:List cD)(sz:Nat)(l:List D)(Q:cB):Prop:=∀tf' t' v,dA tf tf'->rB base tf' t' (jH base sz l v::L)->Q v t'
def zu4{W J:vH}{S el sz g p:Nat}(hT:wK C S el sz)(hS:oE C S el sz true)(hsz:sz<1000000){zs:List zA}{L:List cD}{ds:List D}{v0:zA}{Q:cB}
  (hz:∀d∈ds,d.zs=zs) (hg:∀d∈ds,oO C.base W g d) (hlen:ds.length<300000)
  (hj:∀v i t,qA C.base W J (zmo C S el g p zs v0 v i) t Q->J p [v0,v,.int .i64 i] t Q) (hQ:zzbx C.base tf0 L sz ds Q) (h0:lA tf0 sz ds v0) :
  ∀(m i:Nat) (tf t:Tr rA) (v:zA),i+m=ds.length->dA tf0 tf->rB C.base tf t (jH C.base sz (ds.take i) v::L)->J p [v0,v,.int .i64 (i:Int)] t Q:=by
 intro m;induction m with
 | zero=>
  intro i tf t v hi hf ho;refine hj _ _ _ ?_
  simp only[zmo,qA];rw[h0.len,wA,sB,wA,yaa (fun e=>by have:=zD.1 e;omega)]
  rw[yca (by omega)]at ho
  exact hQ tf t v hf ho
 | succ m ih=>
  intro i tf t v hi hf ho;have hlt:i<ds.length:=by omega
  have hd:ds[i]?=some ds[i]:=ybd hlt
  have hm:ds[i]∈ds:=ycj hlt
  obtain⟨b,off,cs,g1,g2,g3,g4,g5⟩:=oE.at (t:=tf) hS (by simp) (h0.mono hf) hd
  have g1':=g1
  obtain⟨b',off',cs',f1,f2,f3,f4,f5⟩:=oE.at (t:=t) hS (by simp) (h0.mono (hf.trans ho.tle)) hd
  rw[g1]at f1;cases f1
  have ecs:cs'=cs:=by
   obtain⟨c,n,lo,q1,q2⟩:=g3
   obtain⟨c',n',lo',q3,q4⟩:=f3
   rw[ho.tle _ _ q1]at q3
   cases q3
   refine List.ext_getElem? fun j=>?_
   rcases yau j sz with hjs | hjs
   ·have a1:cs[j]?=some cs[j]:=ybd (by omega)
    have a2:cs'[j]?=some cs'[j]:=ybd (by omega)
    have b1:=q2 _ _ a1
    have b2:=q4 _ _ a2
    rw[b1]at b2;rw[a1,a2,yci b2]
   ·rw[List.getElem?_eq_none (by omega),List.getElem?_eq_none (by omega)]
  subst ecs;refine hj _ _ _ ?_
  simp only[zmo,qA];rw[h0.len,wA,sB,wA,yab (zD.2 (by omega)),g1,wA,f2,wA]
  have hzz:=hz _ hm
  show dD (zK zs (.agg cs')) _
  rw[vF g5 hzz,wA,g5.mk hzz];refine hg _ hm ho g5 fun tf' t' cs2 k1 k2 k3=>?_
  rw[vF k3 hzz,wA,k3.mk hzz,yab k3.all];intro n hn _;have hl2:cs2.length=sz:=by
   have e1:=g5.mk hzz
   have e2:=k3.mk hzz
   have key:∀(zs:List zA) (X Y:iL) (j:Nat),(pI zs X j).length=(pI zs Y j).length:=by
    intro zs;induction zs with
    | nil=>intro X Y j;rfl
    | cons z zs ih=>
     intro X Y j;show(zd3 z X j::pI zs X (j+1)).length=(zd3 z Y j::pI zs Y (j+1)).length
     rw[ybn,ybn,ih X Y (j+1)]
   have:=key zs (cellsOf cs2) (cellsOf cs') 0
   rw[e1,e2]at this;omega
  obtain⟨t1,a1,a2,a3,a4⟩:=lit1 (C:=C) hT hl2 hsz hn
  rw[a1,wA];intro n2 hn2 hb2;obtain⟨v2,k,t2,c1,c2⟩:=rB.pushL (A:=[]) (n:=n2) hT (k2.junk hn a4) a2 k3 (RD.ones _ _ k3) (by rw[yda];omega) hn2 hb2
  rw[c1,wA,wrap_i64 (by omega) (by omega)]
  have e:ds.take i++[ds[i]]=ds.take (i+1):=by rw[ydg,hd];rfl
  rw[e]at c2;exact ih (i+1) tf' t2 v2 (by omega) (hf.trans k1) c2
def zhj{W J:vH}{S el sz g p:Nat}(hT:wK C S el sz)(hS:oE C S el sz true)(hsz:sz<1000000){zs:List zA}{L:List cD}{ds:List D}{v0:zA}{Q:cB}
  (hz:∀d∈ds,d.zs=zs) (hg:∀d∈ds,oO C.base W g d) (hlen:ds.length<300000)
  (hj:∀v i t,qA C.base W J (zmo C S el g p zs v0 v i) t Q->J p [v0,v,.int .i64 i] t Q) (hQ:zzbx C.base tf L sz ds Q) (h0:lA tf sz ds v0) (ho:rB C.base tf t L):J p [v0,.nilslice,.int .i64 0] t Q:=by
 refine zu4 hT hS hsz hz hg hlen hj hQ h0 ds.length 0 tf t .nilslice (by omega) (dA.refl _) ?_
 rw[List.take_zero];exact rB.add (A:=[]) (o':=jH C.base sz ([]:List D) .nilslice) ho (fun _ _=>rfl) (fun k hk=>by simp[jH,yI]at hk) (.inl ⟨rfl,rfl⟩) (by simp[jH,yI]) ho.tle
end
end Go.Am
namespace Go.Proofs
open Go Go.Am
variable [lC]
variable {t:Tr rA}
def z9o{n:Int}{m:Nat}(h0:0<m)(hm:m<1125899906842624):∃k:Nat,k<m/\uC yA F 18 [.int .i64 n,.int .i64 (m:Int)] t=some (.int .i64 (k:Int)):=by
 have hr:zvu .i64 n (m:Int)=some (.int .i64 (n.tmod m)):=by
  unfold zvu;have:jA (m:Int) 0=false:=by
   cases hq:jA (m:Int) 0 with
   | false=>rfl
   | true=>have:=mG.1 hq;omega
  rw[this];rfl
 have hlt:n.tmod m<m:=Int.tmod_lt_of_pos n (by omega)
 have hge : -(m:Int)<n.tmod m:=by
  have:=Int.lt_tmod_of_pos n (show(0:Int)<(m:Int) by omega)
  exact this
 by_cases hn:n.tmod m<0
 ·refine⟨(n.tmod m+m).toNat,by omega,mD.2 (w18 _ _ ?_)⟩
  unfold t18;refine lB (nLt (by omega)) (xB hr (pC (iA (yLt hn) ?_)))
  rw[wrap_i64 (by omega) (by omega)]
  have:(((n.tmod m+m).toNat:Nat):Int)=n.tmod m+m:=by omega
  rw[this];exact⟨rfl,rfl⟩
 ·refine⟨(n.tmod m).toNat,by omega,mD.2 (w18 _ _ ?_)⟩
  unfold t18;refine lB (nLt (by omega)) (xB hr (pC (lB (nLt hn) ?_)))
  have:(((n.tmod m).toNat:Nat):Int)=n.tmod m:=by omega
  rw[this];exact⟨rfl,rfl⟩
end Go.Proofs
namespace Go.Proofs
open Go Go.Am
section
variable [lC]
variable {t:Tr rA}
def zmr{p:fC}(h:(qK p).2=0):qK p=(0,0)/\rO p=0/\∀x∈p.clauses,aJ p x=0:=by
 have hk:rO p=0:=by
  unfold qK at h;split at h
  ·rename_i q;exact absurd h q
  ·rename_i q;omega
 have h2:(qN p p.clauses 0).2=0:=by
  unfold qK at h;rw[yaa (by omega)]at h
  exact h
 have hall:=zhe _ _ h2
 refine⟨?_,hk,hall⟩
 unfold qK;rw[yaa (by omega),zbo _ _ hall]
 rfl
end
section
variable [lC]
def nJ (a:List Nat)(op:Nat)(name:List Nat):Bool:=decide (name=a)&&(!decide (op=6) && !decide (op=23))
mutual
/-- an expression with another name -/
def tF (a b:List Nat):pA->pA
 | .mk op name v args=>.mk op (if nJ a op name=true then b else name) v (sH a b args)
def sH(a b:List Nat):List pA->List pA
 | []=>[]
 | x::l=>tF a b x::sH a b l
end
mutual
/-- does the name stand in an expression? -/
def znf (a:List Nat):pA->Bool
 | .mk op name _ args=>nJ a op name||fM a args
def fM(a:List Nat):List pA->Bool
 | []=>false
 | x::l=>znf a x||fM a l
end
def zog (a b:List Nat)(x:nC):nC:=⟨if x.name=a then b else x.name,x.label,x.from_,x.to,x.known,x.off,tF a b x.when_,tF a b x.then_⟩
def znu (a:List Nat)(x:nC):Bool:=decide (x.name=a)||(znf a x.when_||znf a x.then_)
def zaf(a b:List Nat):∀(l:List pA),sH a b l=l.map (tF a b)
 | []=>by rw[sH];rfl
 | x::l=>by rw[sH,zaf a b l];rfl
def yV(a b:List Nat)(l:List pA):(sH a b l).length=l.length:=by rw[zaf,ybf]
def nR(a b:List Nat):wE a b=decide (a=b):=by
 cases h:wE a b with
 | true=>exact(decide_eq_true ((dJ _ _).1 h)).symm
 | false=>exact(decide_eq_false fun e=>by rw[(dJ _ _).2 e]at h;cases h).symm
def oN{x:oC}{l:List oC}{s:List Nat}:wH (x::l) s=if x.name=s then some x else wH l s:=by
 unfold wH;rw[List.find?_cons,nR];by_cases h:x.name=s
 ·rw[decide_eq_true h,yab h]
 ·rw[decide_eq_false h,yaa h]
def zsq:∀ {l:List oC} {s:List Nat},s∉l.map oC.name->wH l s=none
 | [],_,_=>rfl
 | x::l,s,h=>by
  rw[ycm,ybs]at h;rw[oN,yaa (fun e=>h (.inl e.symm)),zsq (fun e=>h (.inr e))]
def zpu:∀ {l:List oC} {s:List Nat},wH l s=none->s∉l.map oC.name
 | [],_,_=>by simp
 | x::l,s,h=>by
  rw[oN]at h;split at h
  ·cases h
  ·rename_i hn
   rw[ycm,ybs];rintro(e | e)
   ·exact hn e.symm
   ·exact zpu h e
def zmm{e:oC}{s:List Nat}:∀ {l:List oC} {k:Nat} {d:oC},l[k]?=some d->d.name≠s->e.name≠s->wH (l.set k e) s=wH l s
 | [],k,d,h,_,_=>rfl
 | x::l,0,d,h,h1,h2=>by
  rw[yaz]at h
  cases h;rw[List.set_cons_zero,oN,oN,yaa h1,yaa h2]
 | x::l,k+1,d,h,h1,h2=>by
  rw[yba]at h;rw[List.set_cons_succ,oN,oN,zmm h h1 h2]
def z1a{e:oC}:∀ {l:List oC} {k:Nat} {d:oC},l[k]?=some d->wH l e.name=none->wH (l.set k e) e.name=some e
 | [],k,d,h,_=>by rw[List.getElem?_nil]at h;cases h
 | x::l,0,d,h,h1=>by rw[List.set_cons_zero,oN,yab rfl]
 | x::l,k+1,d,h,h1=>by
  rw[yba]at h;rw[oN]at h1;split at h1
  ·cases h1
  ·rename_i hn
   rw[List.set_cons_succ,oN,yaa hn,z1a h h1]
def z1b:∀ {l:List oC} {k:Nat} {d:oC},l[k]?=some d->(l.map oC.name).Nodup->wH l d.name=some d
 | [],k,d,h,_=>by rw[List.getElem?_nil]at h;cases h
 | x::l,0,d,h,h1=>by
  rw[yaz]at h
  cases h;rw[oN,yab rfl]
 | x::l,k+1,d,h,h1=>by
  rw[yba]at h;rw[ycm,List.nodup_cons]at h1;rw[oN,yaa (fun e=>h1.1 (by rw[e];exact yaq.2 ⟨d,ycv h,rfl⟩)),z1b h h1.2]
def z08{e:oC}:∀ {l:List oC} {k:Nat} {d:oC},l[k]?=some d->(l.map oC.name).Nodup->e.name≠d.name->wH (l.set k e) d.name=none
 | [],k,d,h,_,_=>by rw[List.getElem?_nil]at h;cases h
 | x::l,0,d,h,h1,h2=>by
  rw[yaz]at h
  cases h;rw[ycm,List.nodup_cons]at h1;rw[List.set_cons_zero,oN,yaa h2,zsq h1.1]
 | x::l,k+1,d,h,h1,h2=>by
  rw[yba]at h;rw[ycm,List.nodup_cons]at h1;rw[List.set_cons_succ,oN,yaa (fun e=>h1.1 (by rw[e];exact yaq.2 ⟨d,ycv h,rfl⟩)),z08 h h1.2 h2]
def zli{x:List Nat}:∀ {l:List (List Nat)} {k:Nat},l.Nodup->x∉l->(l.set k x).Nodup
 | [],_,_,_=>by simp
 | y::l,0,h,hx=>by
  rw[List.nodup_cons]at h;rw[List.set_cons_zero,List.nodup_cons];exact⟨fun e=>hx (ybr _ e),h.2⟩
 | y::l,k+1,h,hx=>by
  rw[List.nodup_cons]at h;rw[List.set_cons_succ,List.nodup_cons];refine⟨fun e=>?_,zli h.2 fun e=>hx (ybr _ e)⟩
  rcases List.mem_or_eq_of_mem_set e with e | e
  ·exact h.1 e
  ·exact hx (by rw[e];exact yby ..)
def zqp:∀(l seen:List (List Nat)),tK seen l=false->l.Nodup/\∀x∈l,x∉seen
 | [],seen,_=>⟨List.nodup_nil,fun x h=>(by cases h)⟩
 | x::l,seen,h=>by
  unfold tK at h;split at h
  ·cases h
  ·rename_i hx
   obtain⟨h1,h2⟩:=zqp l _ h
   refine⟨List.nodup_cons.2 ⟨fun e=>h2 x e (by simp),h1⟩,fun y hy=>?_⟩
   rcases ybs.1 hy with e | e
   ·rw[e];exact hx
   ·exact fun e2=>h2 y e (by simp[e2])
def zqo:∀(l seen:List (List Nat)),l.Nodup->(∀x∈l,x∉seen)->tK seen l=false
 | [],seen,_,_=>rfl
 | x::l,seen,h,hs=>by
  rw[List.nodup_cons]at h;unfold tK;rw[yaa (hs x (by simp)),zqo l _ h.2 fun y hy=>?_]
  rw[yaf,ydd];rintro(e | e)
  ·exact hs y (by simp[hy]) e
  ·exact h.1 (e ▸ hy)
section
structure Ren (p q:fC) (a b:List Nat):Prop where
 ex:∃k d e,p.defs[k]?=some d/\d.name=a/\e=(⟨b,d.kind,d.fact⟩:oC)/\q.defs=p.defs.set k e
 nb:wH p.defs b=none
 nd:(p.defs.map oC.name).Nodup
 tabs:q.tables=p.tables
 la:kI a=true
 lb:kI b=true
variable {p q:fC}{a b:List Nat}
def Ren.ne(h:Ren p q a b):b≠a:=by
 obtain⟨k,d,e,hk,hd,_⟩:=h.ex
 intro e1;exact zpu h.nb (by rw[e1,<- hd];exact yaq.2 ⟨d,ycv hk,rfl⟩)
def Ren.an(h:Ren p q a b):a≠[]:=by
 intro e;have:=h.la
 rw[e]at this
 cases this
def Ren.oth(h:Ren p q a b){s:List Nat}(h1:s≠a)(h2:s≠b):wH q.defs s=wH p.defs s:=by
 obtain⟨k,d,e,hk,hd,he,hq⟩:=h.ex
 rw[hq];exact zmm hk (by rw[hd];exact h1.symm) (by rw[he];exact h2.symm)
def Ren.old(h:Ren p q a b):wH q.defs a=none:=by
 obtain⟨k,d,e,hk,hd,he,hq⟩:=h.ex
 rw[hq,<- hd];exact z08 hk h.nd (by rw[he,hd];exact h.ne)
def Ren.new(h:Ren p q a b):∃d,wH p.defs a=some d/\wH q.defs b=some ⟨b,d.kind,d.fact⟩:=by
 obtain⟨k,d,e,hk,hd,he,hq⟩:=h.ex
 subst he;refine⟨d,by rw[<- hd];exact z1b hk h.nd,?_⟩
 rw[hq];exact z1a (e:=⟨b,d.kind,d.fact⟩) hk h.nb
abbrev z55(op:Nat):Prop:=op=3\/op=4\/op=21\/op=22\/op=5
def zun:((List.range 27).all fun op => !(zF op).named||(decide (op=3)||(decide (op=4)||(decide (op=21)||(decide (op=22)||(decide (op=5)||(decide (op=6)||decide (op=23))))))))=true:=by kernel_rfl
def zg8{op n:Nat}{name:List Nat}(h:uP op name n=true)(hn:name≠[]):(zF op).named=true:=by
 unfold uP at h;simp only[ybb]at h
 cases hf:(zF op).named with
 | true=>rfl
 | false=>
  have h2:=h.2
  rw[hf,yaa (by simp)]at h2
  exact absurd ((dJ _ _).1 h2) hn
def z8c{op n:Nat}{name:List Nat}(ha:a≠[])(h:uP op name n=true)(hh:nJ a op name=true):z55 op:=by
 unfold nJ at hh;simp only[ybb,decide_eq_true_eq,ycp,decide_eq_false_iff_not]at hh;have hn:=zg8 h (by rw[hh.1];exact ha)
 have hlt:op<27:=by
  unfold uP at h;simp only[ybb,decide_eq_true_eq]at h;exact h.1.1.1.1
 have:=ycb.1 zun op (List.mem_range.2 hlt)
 rw[hn]at this;simp only[Bool.not_true,Bool.false_or,ycq,decide_eq_true_eq]at this;unfold z55;omega
def zcr{op:Nat}{name:List Nat}(h:nJ a op name=true):name=a:=by
 unfold nJ at h;simp only[ybb,decide_eq_true_eq]at h;exact h.1
def zlj(R:Ren p q a b){op n:Nat}{name:List Nat}(h:(lI p op name n).2=true)(hh:nJ a op name=false):lI q op name n=lI p op name n:=by
 unfold lI at h ⊢
 by_cases ho:op=3\/op=4\/op=21\/op=22\/op=5
 ·rw[yab ho]at h ⊢
  rw[yab ho];have h1:name≠a:=by
   intro e;unfold nJ at hh;rw[decide_eq_true e,decide_eq_false (show ¬ op=6 by omega),decide_eq_false (show ¬ op=23 by omega)]at hh
   cases hh
  have h2:name≠b:=by
   intro e;rw[e,R.nb]at h
   cases h
  rw[R.oth h1 h2]
 ·rw[yaa ho,yaa ho,R.tabs]
def zyu(R:Ren p q a b){op n:Nat}(ho:z55 op):(lI q op a n).2=false:=by
 unfold lI;rw[yab ho,R.old]
def zyv(R:Ren p q a b){op n:Nat}(ho:z55 op):lI q op b n=lI p op a n:=by
 obtain⟨d,h1,h2⟩:=R.new
 unfold lI;rw[yab ho,yab ho,h1,h2]
def ziu{op n vk:Nat}{name name':List Nat}{ks:List Nat}(h:lI q op name' n=lI p op name n):opK q op name' vk n ks=opK p op name vk n ks:=by
 unfold opK;rw[h]
def zlc{op n vk:Nat}{name:List Nat}{ks:List Nat}(h:(opK p op name vk n ks).2=0):(lI p op name n).2=true:=by
 cases hq:(lI p op name n).2 with
 | true=>rfl
 | false=>
  unfold opK at h;rw[yab hq]at h
  cases h
def zry:∀ {l:List pA} {e:Nat},iH p l=.inl e->e≠0
 | [],e,h=>by rw[iH]at h;cases h
 | x::l,e,h=>by
  rw[iH]at h;split at h
  ·rename_i hx;cases h;exact hx
  ·split at h
   ·rename_i e' he;cases h;exact zry he
   ·cases h
def zbh{x:pA}{l:List pA}{ks:List Nat}(h:iH p (x::l)=.inr ks):(xF p x).2=0/\∃k',iH p l=.inr k'/\ks=(xF p x).1::k':=by
 rw[iH]at h;split at h
 ·cases h
 ·rename_i hx
  split at h
  ·cases h
  ·rename_i k' he
   cases h;exact⟨by omega,k',he,rfl⟩
def zrz{x:pA}{l:List pA}{ks:List Nat}(h:(xF p x).2=0)(h2:iH p l=.inr ks):iH p (x::l)=.inr ((xF p x).1::ks):=by
 rw[iH,yaa (by omega),h2]
def zeb{op:Nat}{name:List Nat}{v:lG}{args:List pA}(h:(xF p (.mk op name v args)).2=0):∃ks,iH p args=.inr ks/\(opK p op name v.kind args.length ks).2=0:=by
 rw[xF]at h
 cases hk:iH p args with
 | inl e=>
  rw[hk]at h;exact absurd h (zry hk)
 | inr ks=>
  rw[hk]at h;exact⟨ks,rfl,h⟩
mutual
def jW(R:Ren p q a b):∀(x:pA),(xF p x).2=0->znf a x=false->xF q x=xF p x
 | .mk op name v args,h,hu=>by
  obtain⟨ks,h1,h2⟩:=zeb h
  rw[znf,yal]at hu;rw[xF,xF,zbg R args ks h1 hu.2,h1];exact ziu (zlj R (zlc h2) hu.1)
def zbg(R:Ren p q a b):∀(l:List pA) (ks:List Nat),iH p l=.inr ks->fM a l=false->iH q l=.inr ks
 | [],ks,h,_=>by rw[iH]at h ⊢;exact h
 | x::l,ks,h,hu=>by
  rw[fM,yal]at hu;obtain⟨h1,k',h2,rfl⟩:=zbh h
  have e:=jW R x h1 hu.1
  rw[zrz (by rw[e];exact h1) (zbg R l k' h2 hu.2),e]
end
def pZ{op:Nat}{name:List Nat}{v:lG}{args:List pA}{d:Nat}(h:kF (.mk op name v args) d=true):uP op name args.length=true/\(op=1/\args=[]\/op≠1/\pK args (d+1)=true):=by
 have h0:=h
 rw[kF]at h;simp only[ybb]at h;refine⟨h.1.2,?_⟩
 by_cases ho:op=1
 ·exact .inl ⟨ho,zjz h0 ho⟩
 ·have h2:=h.2
  rw[yaa ho,ybb]at h2;exact .inr ⟨ho,h2.2⟩
mutual
def zea(R:Ren p q a b):∀(x:pA) (d:Nat),kF x d=true->(xF p x).2=0->znf a x=true->(xF q x).2=141
 | .mk op name v args,d,hP,h,hu=>by
  obtain⟨ks,h1,h2⟩:=zeb h
  obtain⟨p1,p2⟩:=pZ hP
  rw[xF]
  cases hs:fM a args with
  | true=>
   rcases p2 with⟨_,e⟩ | ⟨_,p2⟩
   ·rw[e,fM]at hs;cases hs
   ·rw[zg5 R args (d+1) ks p2 h1 hs]
    rfl
  | false=>
   rw[znf,hs,Bool.or_false]at hu;rw[zbg R args ks h1 hs,zcr hu];show(opK q op a v.kind args.length ks).2=141
   unfold opK;rw[yab (zyu R (z8c R.an p1 hu))]
def zg5(R:Ren p q a b):∀(l:List pA) (d:Nat) (ks:List Nat),pK l d=true->iH p l=.inr ks->fM a l=true->iH q l=.inl 141
 | [],d,ks,_,_,hu=>by rw[fM]at hu;cases hu
 | x::l,d,ks,hP,h,hu=>by
  rw[pK,ybb]at hP;obtain⟨h1,k',h2,rfl⟩:=zbh h
  rw[iH]
  cases hx:znf a x with
  | true=>
   have e:=zea R x d hP.1 h1 hx
   rw[yab (by rw[e];decide),e]
  | false=>
   have e:=jW R x h1 hx
   rw[fM,hx,Bool.false_or]at hu;rw[yaa (by rw[e];omega),zg5 R l d k' hP.2 h2 hu]
end
mutual
def zja(R:Ren p q a b):∀(x:pA) (d:Nat),kF x d=true->(xF p x).2=0->xF q (tF a b x)=xF p x
 | .mk op name v args,d,hP,h=>by
  obtain⟨ks,h1,h2⟩:=zeb h
  obtain⟨p1,p2⟩:=pZ hP
  have hk:iH q (sH a b args)=.inr ks:=by
   rcases p2 with⟨_,e⟩ | ⟨_,p2⟩
   ·subst e;rw[sH];exact h1
   ·exact zl0 R args (d+1) ks p2 h1
  rw[tF,xF,xF,hk,h1];show opK q op _ v.kind (sH a b args).length ks=opK p op name v.kind args.length ks
  rw[yV]
  cases hh:nJ a op name with
  | true=>
   rw[yab rfl,zcr hh];exact ziu (zyv R (z8c R.an p1 hh))
  | false=>
   rw[yaa (by simp)]
   exact ziu (zlj R (zlc h2) hh)
def zl0(R:Ren p q a b):∀(l:List pA) (d:Nat) (ks:List Nat),pK l d=true->iH p l=.inr ks->iH q (sH a b l)=.inr ks
 | [],d,ks,_,h=>by rw[sH];rw[iH]at h ⊢;exact h
 | x::l,d,ks,hP,h=>by
  rw[pK,ybb]at hP;obtain⟨h1,k',h2,rfl⟩:=zbh h
  have e:=zja R x d hP.1 h1
  rw[sH,zrz (by rw[e];exact h1) (zl0 R l d k' hP.2 h2),e]
end
mutual
def zew(ha:a≠[])(lb:kI b=true):∀(x:pA) (d:Nat),kF x d=true->kF (tF a b x) d=true
 | .mk op name v args,d,h=>by
  have p2:=(pZ h).2
  rw[kF]at h;rw[tF,kF,yV];simp only[ybb]at h ⊢
  refine⟨⟨h.1.1,?_⟩,?_⟩
  ·cases hh:nJ a op name with
   | true=>
    rw[yab rfl];have hn:=zg8 h.1.2 (by rw[zcr hh];exact ha)
    have h3:=h.1.2
    unfold uP at h3 ⊢
    rw[hn]at h3 ⊢
    simp only[ybb,if_true]at h3 ⊢
    exact⟨h3.1,lb⟩
   | false=>rw[yaa (by simp)];exact h.1.2
  ·rcases p2 with⟨e,_⟩ | ⟨e,p2⟩
   ·have h2:=h.2
    rw[yab e]at h2 ⊢
    exact h2
   ·have h2:=h.2
    rw[yaa e,ybb]at h2;rw[yaa e,ybb];exact⟨h2.1,zm1 ha lb args (d+1) p2⟩
def zm1(ha:a≠[])(lb:kI b=true):∀(l:List pA) (d:Nat),pK l d=true->pK (sH a b l) d=true
 | [],d,_=>by rw[sH,pK]
 | x::l,d,h=>by
  rw[pK,ybb]at h;rw[sH,pK,zew ha lb x d h.1,zm1 ha lb l d h.2];rfl
end
mutual
def zdu(a b:List Nat):∀(x:pA),rH (tF a b x)=rH x
 | .mk op name v args=>by rw[tF,rH,rH,zgu a b args]
def zgu(a b:List Nat):∀(l:List pA),yN (sH a b l)=yN l
 | []=>by rw[sH]
 | x::l=>by rw[sH,yN,yN,zdu a b x,zgu a b l]
end
def zce(ha:a≠[]){x:pA}(h:jK x=true):tF a b x=x/\znf a x=false:=by
 obtain⟨op,name,v,args⟩:=x
 unfold jK at h;simp only[pA.op,pA.name,pA.args,ybb,decide_eq_true_eq]at h;have h1:=(dJ _ _).1 h.2.1
 have h2:args=[]:=ycc.1 (of_decide_eq_true h.2.2.1)
 subst h1 h2
 have hh:nJ a op []=false:=by
  unfold nJ;rw[decide_eq_false (fun e=>ha e.symm)]
  rfl
 rw[tF,znf,sH,fM,hh];exact⟨rfl,rfl⟩
def yX{x:nC}:aJ p x=0 ↔ jL x=true/\x.from_<x.to/\rH x.when_<=200/\rH x.then_<=200/\∃d,wH p.defs x.name=some d/\mN p x d=0:=by
 unfold aJ;constructor
 ·intro h
  split at h
  ·cases h
  rename_i h1;split at h
  ·cases h
  rename_i h2;split at h
  ·cases h
  rename_i h3;split at h
  ·cases h
  rename_i d hd;exact⟨by simpa using h1,by omega,by omega,by omega,d,hd,h⟩
 ·rintro⟨h1,h2,h3,h4,d,hd,h⟩
  rw[yaa (by rw[h1];simp),yaa (by omega),yaa (by omega),hd]
  exact h
def tP{x:pA}{k:Nat}:iI p x k=0 ↔ (xF p x).2=0/\(xF p x).1=k:=by
 unfold iI;constructor
 ·intro h
  split at h
  ·rename_i h1;exact absurd h h1
  rename_i h1;split at h
  ·cases h
  rename_i h2;exact⟨by omega,by omega⟩
 ·rintro⟨h1,h2⟩
  rw[yaa (by omega),yaa (by omega)]
def xX{x:nC}{d:oC}:mN p x d=0 ↔ d.fact=false/\(x.off=true\/x.off=false/\iI p x.when_ 1=0/\iI p x.then_ d.kind=0):=by
 unfold mN
 cases hf:d.fact with
 | true=>rw[yab rfl];simp
 | false=>
  rw[yaa (by simp)]
  cases ho:x.off with
  | true=>rw[yab rfl];simp
  | false=>
   rw[yaa (by simp)]
   constructor
   ·intro h
    split at h
    ·rename_i h1;exact absurd h h1
    ·rename_i h1;exact⟨rfl,.inr ⟨rfl,by omega,h⟩⟩
   ·rintro⟨_,h | ⟨_,h1,h2⟩⟩
    ·cases h
    ·rw[yaa (by omega)];exact h2
def nZ{x:nC}(h:jL x=true):(x.off=true->jK x.when_=true/\jK x.then_=true)/\(x.off=false->kF x.when_ 1=true/\kF x.then_ 1=true):=by
 unfold jL at h;simp only[ybb]at h;have h2:=h.2.2.2.2.2
 refine⟨fun e=>?_,fun e=>?_⟩
 ·rw[e,yab rfl,ybb]at h2;exact h2
 ·rw[e,yaa (by simp),ybb]at h2;exact h2
def zpz(R:Ren p q a b){x:nC}(h:jL x=true):jL (zog a b x)=true:=by
 obtain⟨z1,z2⟩:=nZ h
 unfold jL at h ⊢
 simp only[ybb]at h ⊢
 refine⟨?_,h.2.1,h.2.2.1,h.2.2.2.1,h.2.2.2.2.1,?_⟩
 ·show kI (if x.name=a then b else x.name)=true
  split
  ·exact R.lb
  ·exact h.1
 ·show(if x.off=true then jK (tF a b x.when_)&&jK (tF a b x.then_)else kF (tF a b x.when_) 1&&kF (tF a b x.then_) 1)=true
  cases ho:x.off with
  | true=>
   obtain⟨w1,w2⟩:=z1 ho
   rw[yab rfl,(zce R.an w1).1,(zce R.an w2).1,w1,w2]
   rfl
  | false=>
   obtain⟨w1,w2⟩:=z2 ho
   rw[yaa (by simp),zew R.an R.lb _ _ w1,zew R.an R.lb _ _ w2]
   rfl
def zu6(R:Ren p q a b){x:nC}(h:aJ p x=0):aJ q (zog a b x)=0:=by
 obtain⟨h1,h2,h3,h4,d,hd,h5⟩:=yX.1 h
 obtain⟨z1,z2⟩:=nZ h1
 refine yX.2 ⟨zpz R h1,h2,by show rH (tF a b x.when_)<=200;rw[zdu];exact h3,by show rH (tF a b x.then_)<=200;rw[zdu];exact h4,?_⟩
 have hd2:∃e,wH q.defs (zog a b x).name=some e/\e.kind=d.kind/\e.fact=d.fact:=by
  show ∃e,wH q.defs (if x.name=a then b else x.name)=some e/\_
  by_cases hn:x.name=a
  ·rw[yab hn]
   obtain⟨d',k1,k2⟩:=R.new
   rw[hn,k1]at hd
   cases hd;exact⟨_,k2,rfl,rfl⟩
  ·rw[yaa hn,R.oth hn (fun e=>by rw[e,R.nb]at hd;cases hd)]
   exact⟨d,hd,rfl,rfl⟩
 obtain⟨e,e1,e2,e3⟩:=hd2
 refine⟨e,e1,xX.2 ?_⟩
 obtain⟨f1,f2⟩:=xX.1 h5
 refine⟨by rw[e3];exact f1,?_⟩
 rcases f2 with f2 | ⟨f2,f3,f4⟩
 ·exact .inl f2
 ·obtain⟨w1,w2⟩:=z2 f2
  obtain⟨g1,g2⟩:=tP.1 f3
  obtain⟨g3,g4⟩:=tP.1 f4
  refine .inr ⟨f2,tP.2 ?_,tP.2 ?_⟩
  ·show(xF q (tF a b x.when_)).2=0/\(xF q (tF a b x.when_)).1=1
   rw[zja R _ _ w1 g1];exact⟨g1,g2⟩
  ·show(xF q (tF a b x.then_)).2=0/\(xF q (tF a b x.then_)).1=e.kind
   rw[zja R _ _ w2 g3,e2];exact⟨g3,g4⟩
def zpy(R:Ren p q a b){x:nC}(h:aJ p x=0)(hu:znu a x=false):aJ q x=0:=by
 obtain⟨h1,h2,h3,h4,d,hd,h5⟩:=yX.1 h
 unfold znu at hu;simp only[yal,decide_eq_false_iff_not]at hu;refine yX.2 ⟨h1,h2,h3,h4,d,by rw[R.oth hu.1 (fun e=>by rw[e,R.nb]at hd;cases hd)];exact hd,xX.2 ?_⟩
 obtain⟨f1,f2⟩:=xX.1 h5
 refine⟨f1,?_⟩
 rcases f2 with f2 | ⟨f2,f3,f4⟩
 ·exact .inl f2
 ·have g1:=tP.1 f3
  have g2:=tP.1 f4
  refine .inr ⟨f2,tP.2 ?_,tP.2 ?_⟩
  ·rw[jW R _ g1.1 hu.2.1];exact g1
  ·rw[jW R _ g2.1 hu.2.2];exact g2
def zpx(R:Ren p q a b){x:nC}(h:aJ p x=0)(hu:znu a x=true):aJ q x=141:=by
 obtain⟨h1,h2,h3,h4,d,hd,h5⟩:=yX.1 h
 obtain⟨z1,z2⟩:=nZ h1
 unfold aJ;rw[yaa (by rw[h1];simp),yaa (by omega),yaa (by omega)]
 by_cases hn:x.name=a
 ·rw[hn,R.old]
 ·rw[R.oth hn (fun e=>by rw[e,R.nb]at hd;cases hd),hd]
  show mN q x d=141
  obtain⟨f1,f2⟩:=xX.1 h5
  unfold znu at hu;rw[decide_eq_false hn,Bool.false_or]at hu;unfold mN;rw[yaa (by rw[f1];simp)]
  rcases f2 with f2 | ⟨f2,f3,f4⟩
  ·obtain⟨w1,w2⟩:=z1 f2
   rw[(zce (b:=b) R.an w1).2,(zce (b:=b) R.an w2).2]at hu
   cases hu
  ·obtain⟨w1,w2⟩:=z2 f2
   have g1:=tP.1 f3
   have g2:=tP.1 f4
   rw[yaa (by rw[f2];simp)]
   cases hw:znf a x.when_ with
   | true=>
    have e:=zea R _ _ w1 g1.1 hw
    have e2:iI q x.when_ 1=141:=by unfold iI;rw[yab (by rw[e];decide),e]
    rw[e2];rfl
   | false=>
    rw[hw,Bool.false_or]at hu;have e:=zea R _ _ w2 g2.1 hu
    have e1:iI q x.when_ 1=0:=tP.2 (by rw[jW R _ g1.1 hw];exact g1)
    have e2:iI q x.then_ d.kind=141:=by unfold iI;rw[yab (by rw[e];decide),e]
    rw[e1,yaa (by simp),e2]
def zma(R:Ren p q a b):∀(l:List nC) (i:Nat),(∀x∈l,aJ p x=0)->(qN q l i).2=if l.any (znu a)=true then 141 else 0
 | [],i,_=>rfl
 | x::l,i,h=>by
  rw[qN,List.any_cons]
  cases hu:znu a x with
  | true=>
   have e:=zpx R (h x (by simp)) hu
   rw[yab (by rw[e];decide),e]
   rfl
  | false=>
   rw[yaa (by rw[zpy R (h x (by simp)) hu];decide),zma R l (i+1) fun y hy=>h y (by simp[hy]),Bool.false_or]
def zhk(R:Ren p q a b)(hq:q.name=p.name)(hl:q.clauses.length=p.clauses.length)(h:rO p=0):rO q=0:=by
 obtain⟨k,d,e,hk,hd,he,hqd⟩:=R.ex
 unfold rO at h ⊢
 split at h
 ·cases h
 rename_i h1;split at h
 ·cases h
 rename_i h2;split at h
 ·cases h
 rename_i h3;split at h
 ·cases h
 rename_i h4;have h1:aN ⟨p.name,p.defs,p.tables,[]⟩=true:=by simpa using h1
 have g1:aN ⟨q.name,q.defs,q.tables,[]⟩=true:=by
  unfold aN at h1 ⊢
  simp only[ybb]at h1 ⊢
  refine⟨by rw[hq];exact h1.1,?_,by rw[R.tabs];exact h1.2.2.1,rfl⟩
  have h5:=ycb.1 h1.2.1
  rw[hqd,ycb];intro x hx;rcases List.mem_or_eq_of_mem_set hx with hx | hx
  ·exact h5 x hx
  ·have h6:=h5 d (ycv hk)
   unfold z8f at h6 ⊢
   rw[hx,he,R.lb];rw[ybb]at h6;rw[ycn];exact h6.2
 have g2:zi6 q=false:=by
  have h2:zi6 p=false:=by simpa using h2
  unfold zi6 zi5 at h2 ⊢
  rw[hl,R.tabs,hqd,ydh];exact h2
 have g3:tK [] (q.defs.map oC.name)=false:=by
  refine zqo _ _ ?_ (fun x _ hx=>by cases hx)
  rw[hqd,List.map_set];refine zli R.nd ?_
  rw[he];exact zpu R.nb
 rw[yaa (by rw[g1];simp),yaa (by rw[g2];simp),yaa (by rw[g3];simp),yaa (by rw[R.tabs];exact h4)]
def zgk(hz:(qK p).2=0)(R:Ren p q a b)(hq:q.name=p.name):(q.clauses=p.clauses->(qK q).2=if p.clauses.any (znu a)=true then 141 else 0)/\(q.clauses=p.clauses.map (zog a b)->(qK q).2=0):=by
 obtain⟨_,z2,z3⟩:=zmr hz
 refine⟨fun e=>?_,fun e=>?_⟩
 ·have hk:=zhk R hq (by rw[e]) z2
  unfold qK;rw[yaa (by omega),e]
  exact zma R _ _ z3
 ·have hk:=zhk R hq (by rw[e,ybf]) z2
  unfold qK;rw[yaa (by omega),e,zbo]
  intro y hy;obtain⟨x,hx,rfl⟩:=yaq.1 hy
  exact zu6 R (z3 x hx)
def Ren.mk'{p q:fC}{b:List Nat}{k:Nat}{d:oC}(hz:(qK p).2=0)(hk:p.defs[k]?=some d)(nb:wH p.defs b=none)(lb:kI b=true)(hd:q.defs=p.defs.set k ⟨b,d.kind,d.fact⟩)(ht:q.tables=p.tables):Ren p q d.name b:=by
 obtain⟨_,z2,_⟩:=zmr hz
 unfold rO at z2;split at z2
 ·cases z2
 rename_i h1;split at z2
 ·cases z2
 split at z2
 ·cases z2
 rename_i h3;have h1:aN ⟨p.name,p.defs,p.tables,[]⟩=true:=by simpa using h1
 refine⟨⟨k,d,_,hk,rfl,rfl,hd⟩,nb,(zqp _ _ (by simpa using h3)).1,ht,?_,lb⟩
 unfold aN at h1;simp only[ybb]at h1;have h6:=ycb.1 h1.2.1 d (ycv hk)
 unfold z8f at h6;rw[ybb]at h6;exact h6.1
end
end
end Go.Proofs
namespace Go.Am
open Go Go.RowKit
section
variable {t tf:Tr rA}{C:oA}
variable {base sz:Nat}{l:List D}{v:zA}
def zp8{T el:Nat}(hT:wK C T el sz){x:zA}(hx:mJ t sz x []){n:Nat}:pF C T T .nilslice x ⟨n,t⟩=some (.nilslice,⟨n,t⟩):=by
 obtain⟨⟨y,hy1,hy2,hy3⟩,⟨z,hz1,hz2,hz3,hz4,hz5⟩,hnb⟩:=hT
 have hcode:=NB.code hnb hz1
 obtain⟨hf,hlen⟩:=hx.first (n:=n)
 unfold pF kP;rw[hy1,sA,sA,hy3];simp only[ycl,lE];rw[hy2,sA,hz1,sA,hlen,sA,hz2,hf,sA];rfl
end
end Go.Am
namespace Go.Am
open Go Go.RowKit
section
variable {t tf:Tr rA}{C:oA}{base:Nat}
def nM.own{sz:Nat}{l:List D}{v:zA}(hl:l≠[])(h:nM base tf t sz l v):(oS base sz l v).ok tf t:=by
 rcases h with⟨_,e⟩ | ⟨b,cl,c,rfl,h1,h2,h3,h4,h5⟩
 ·exact absurd e hl
 have hall:∀(i:Nat) cs,cl[i]?=some cs->cs.length=sz:=fun i cs hi=>(h4 i cs hi).1
 have hlen:=h5.length
 have hfl:=uU hall
 refine zov hl ⟨h1,h2,cl,⟨c,?_,fun j a hj=>?_⟩,hall,h5⟩
 ·rw[hfl,hlen];exact h3
 ·have hjl:j<cl.flatten.length:=(ybc.1 hj).1
  rw[hfl]at hjl;have hs:0<sz:=by
   rcases yav sz with e | e
   ·rw[e,yat]at hjl;omega
   ·exact e
  have hi:j / sz<cl.length:=ycu (by rw[ybh];exact hjl)
  have hm:j%sz<sz:=ycy _ hs
  have hc:cl[j / sz]?=some cl[j / sz]:=ybd hi
  have hcs:=hall _ _ hc
  have ha:cl[j / sz][j%sz]?=some (cl[j / sz][j%sz]'(by rw[hcs];exact hm)):=ybd _
  have e:j / sz*sz+j%sz=j:=by rw[ybh];exact ych j sz
  have h7:=rN hall _ _ _ _ hc ha
  rw[e,hj]at h7;have h6:=(h4 _ _ hc).2 _ _ ha
  rw[e]at h6;rw[h6];exact h7.symm
def zvd{v:zA}:(yI v).Nodup:=by
 unfold yI;split<;>simp
def rB.looseS{A B:List cD}{sz:Nat}{l:List D}{v:zA}(h:rB base tf t (A++jH base sz l v::B)):∃tf',dA tf tf'/\rB base tf' t (A++oS base sz l v::B):=by
 by_cases hl:l=[]
 ·subst hl
  obtain⟨tf',k1,k2,k3⟩:=rB.freezeL h
  exact⟨tf',k1,rB.add (o':=oS base sz [] v) k2 (fun _ _=>rfl) (fun k hk=>by simp[oS]at hk) (z7g k3) (by simp[oS]) k2.tle⟩
 ·refine⟨tf,dA.refl _,rB.upd (o:=jH base sz l v) (o':=oS base sz l v) h (fun _ _ _=>rfl) (fun k hk=>.inl ?_) (nM.own hl (h.ok (jH base sz l v) (by simp))) ?_ h.tle⟩
  ·simp only[oS,yaa hl]at hk
   exact hk
  ·simp only[oS,yaa hl]
   exact zvd
def z2i(base:Nat)(tf:Tr rA)(L:List cD)(sz:Nat)(l:List D)(Q:cB):Prop:=∀tf' t' v,dA tf tf'->rB base tf' t' (oS base sz l v::L)->Q v t'
def z2i.loose{L:List cD}{sz:Nat}{l:List D}{Q:cB}(h:z2i base tf L sz l Q):zzbx base tf L sz l Q:=fun tf' t' v k1 k2=>by
 obtain⟨tf2,m1,m2⟩:=rB.looseS (A:=[]) k2
 exact h tf2 t' v (k1.trans m1) m2
def z1h{W J:vH}{S el sz:Nat}(hT:wK C S el sz){L:List cD}{l:List D}{x:zA}{Q:cB}(hx:lA tf sz l x)(ho:rB C.base tf t L)(hl:l.length<300000)(hQ:z2i C.base tf L sz l Q) :
  qA C.base W J (.heavy (pF C S S .nilslice x) fun a0=>.ret a0) t Q:=by
 refine oG fun n hn hb=>?_
 obtain⟨cl,he,hd⟩:=hx
 have hcl:=hd.length
 by_cases h0:l=[]
 ·subst h0
  have e:cl=[]:=ycc.1 hcl
  subst e;refine⟨_,_,zp8 hT (he.mono ho.tle),?_⟩
  exact hQ tf t .nilslice (dA.refl _) (rB.add (A:=[]) (o':=oS C.base sz [] .nilslice) ho (fun _ _=>rfl) (fun k hk=>by simp[oS]at hk) (z7g ⟨[],.inl ⟨rfl,rfl⟩,kG.2 rfl⟩) (by simp[oS]) ho.tle)
 ·obtain⟨t',a1,a2,a3,a4⟩:=zb9 hT (l:=[]) (v:=.nilslice) (.inl ⟨rfl,rfl⟩) (he.mono ho.tle) hd (sC.ones _ _ hd) (List.length_pos_iff.2 h0) (by simp;omega) hn hb ho.tle
  refine⟨_,_,a1,?_⟩
  have hoff:iD n t t':=fun c hc=>a4 c hc zek
  have e1:([]:List D).length+l.length=l.length:=by simp
  rw[e1]at a2 ⊢
  rw[yah]at a2;have htt:dA t t':=fun k u hk=>by
   have hne:k≠n:=fun e=>by rw[e,hn]at hk;cases hk
   rw[hoff k hne];exact hk
  have h1:=rB.addLoose (A:=[]) ho hn hb a2 htt hoff
  obtain⟨tf2,m1,m2⟩:=rB.looseS (A:=[]) h1
  exact hQ tf2 t' _ m1 m2
def oS_at{A B:List cD}{sz:Nat}{l:List D}{v:zA}{T el:Nat}{agg:Bool}(hT:oE C T el sz agg)(h:rB base tf t (A++oS base sz l v::B)){i:Nat}{d:D}(hi:l[i]?=some d) :
  ∃b cs,qB C T v (.int .i64 (i:Int))=some (.ptr b (0+i*sz))/\cs.length=sz/\RD tf d cs/\At t b (0+i*sz) cs:=by
 have hlt:i<l.length:=(ybc.1 hi).1
 have hne:l≠[]:=by intro e;subst e;simp at hlt
 obtain⟨n,rfl,ho⟩:=zlg hne (h.ok (oS base sz l v) (by simp))
 obtain⟨cs,h1,h2,h3⟩:=ho.cells hi
 exact⟨n,cs,vS hT hlt,h1,h2,by rw[ybw];exact h3⟩
def zM{A B:List cD}{sz:Nat}{l:List D}{v:zA}(h:rB base tf t (A++oS base sz l v::B)):lA t sz l v:=z9w (h.ok (oS base sz l v) (by simp)) h.tle
def At.whole{b off:Nat}{cs:List zA}{ty:Nat}{y:tC}(h:At t b off cs)(hy:C.tys.get ty=some y)(ha:y.desc.isAgg=true)(hn:y.size=cs.length):mA C ty ⟨0,t⟩ (.ptr b off)=some (.agg cs):=by
 have:=At.load (j:=0) h hy ha hn (by omega)
 rw[ycr,yca (by omega)]at this
 exact this
def zyj{cs l:List zA}(h:cs.length=l.length):qI cs 0 l=l:=by
 unfold qI;rw[List.take_zero,yah,ybt (by omega),ycd]
def z3r{α:Type}{A B:List α}{x y:α}{n:Nat}(h:A.length=n):(A++x::B).set n y=A++y::B:=by
 subst h;rw[List.set_append_right _ _ (ybk _),Nat.sub_self,List.set_cons_zero]
def rB.openS{A B:List cD}{sz:Nat}{l:List D}{v:zA}(hl:l≠[])(h:rB base tf t (A++oS base sz l v::B)) :
  ∃n cl,v=.slice n 0 l.length l.length/\(∀(i:Nat) cs,cl[i]?=some cs->cs.length=sz)/\sC tf l cl/\rB base tf t (A++vG n (some (.sz sz)) cl.flatten::B):=by
 obtain⟨n,rfl,h1,h2,cl,h3,h4,h5⟩:=zlg hl (h.ok (oS base sz l v) (by simp))
 refine⟨n,cl,rfl,h4,h5,rB.upd (o:=oS base sz l (.slice n 0 l.length l.length)) (o':=vG n (some (.sz sz)) cl.flatten) h (fun _ _ _=>rfl) (fun k hk=>.inl ?_) h3 (by simp[vG]) h.tle⟩
 have:k=n:=by simpa[vG]using hk
 subst this;simp[oS,hl,yI]
def rB.closeS{A B:List cD}{sz n:Nat}{l:List D}{cl:List (List zA)}(hl:l≠[])(hall:∀(i:Nat) cs,cl[i]?=some cs->cs.length=sz)(hr:sC tf l cl)(h:rB base tf t (A++vG n (some (.sz sz)) cl.flatten::B)) :
  rB base tf t (A++oS base sz l (.slice n 0 l.length l.length)::B):=by
 have hc:gD t n (some (.sz sz)) cl.flatten:=h.ok (vG n (some (.sz sz)) cl.flatten) (by simp)
 have hlow:=h.low n (by simp[vG])
 refine rB.upd (o:=vG n (some (.sz sz)) cl.flatten) (o':=oS base sz l (.slice n 0 l.length l.length)) h (fun _ _ _=>rfl) (fun k hk=>.inl ?_) (zov hl ⟨hlow.1,hlow.2,cl,hc,hall,hr⟩) ?_ h.tle
 ·have:k=n:=by simpa[oS,hl,yI]using hk
  subst this;simp[vG]
 ·simp[oS,hl,yI]
def rB.newCel{A B:List cD}{n:Nat}{t':Tr rA}{lo:Option Lo}{cs:List zA}(h:rB base tf t (A++B))(hn:t.get n=none)(hb:base<=n)(hc:gD t' n lo cs)(ht:dA t t')(ho:iD n t t'):rB base tf t' (A++vG n lo cs::B):=
 rB.add (o':=vG n lo cs) h (fun k hk=>ho k (fun e=>hk (by simp[vG,e]))) (fun k hk=>by
  have:k=n:=by simpa[vG]using hk
  subst this;exact⟨hn,hb⟩) hc (by simp[vG]) (h.tle.trans ht)
def rB.cel{A B:List cD}{n:Nat}{lo:Option Lo}{cs:List zA}(h:rB base tf t (A++vG n lo cs::B)):gD t n lo cs:=h.ok (vG n lo cs) (by simp)
def rB.setCel{A B:List cD}{n j T:Nat}{lo:Option Lo}{cs:List zA}{y:tC}{v:zA}(h:rB C.base tf t (A++vG n lo cs::B))(hT:C.tys.get T=some y)(hl:v.cells.length=y.size)(hj:j+v.cells.length<=cs.length)(hone:kB zA.one v.cells=true) :
  ∃t',(∀q,rC C T (.ptr n j) v ⟨q,t⟩=some (nD,⟨q,t'⟩))/\rB C.base tf t' (A++vG n lo (qI cs j v.cells)::B):=by
 have hlow:=h.low n (by simp[vG])
 obtain⟨t',s1,s2,s3⟩:=h.cel.store (C:=C) hlow.1 (j:=j) (v:=v) hT hl hj hone
 exact⟨t',s1,rB.upd (o:=vG n lo cs) (o':=vG n lo (qI cs j v.cells)) h (fun k h1 _=>s3 k (fun e=>h1 (by simp[vG,e]))) (fun k hk=>.inl hk) s2 (by simp[vG]) (h.tle.off hlow.2 s3)⟩
def gD.elem{n sz:Nat}{lo:Option Lo}{cl:List (List zA)}{i:Nat}{cs:List zA}(h:gD t n lo cl.flatten)(hall:∀(i:Nat) cs,cl[i]?=some cs->cs.length=sz)(hi:cl[i]?=some cs):At t n (0+i*sz) cs:=
 h.atN (n:=0) fun j a hj=>by rw[ybw];exact rN hall i j cs a hi hj
end
end Go.Am
namespace Go.Proofs
open Go Go.Am
variable [lC]
variable {t tf:Tr rA}
def zzbf{op:Nat}{name:List Nat}{v:lG}{args:List pA}{L:List cD}{cs:List zA}{Q:cB}(h:pA.cpy (.mk op name v args))(ho:rB yA.base tf t L)(hd:RD tf (pA.mk op name v args).d cs)
  (hQ:∀tf' t' a b c,dA tf tf'->rB yA.base tf' t' (oS yA.base 9 (args.map pA.d) c::L)->lA tf' 1 (oD v.f.n.limbs) a->lA tf' 1 (oD v.f.d.limbs) b->Q (.agg (xE (.mk op name v args) a b c)) t'):Wc yA F 12 [.agg cs] t Q:=by
 obtain⟨a,b,c,rfl,ha,hb,hc⟩:=kH hd
 simp only[pA.op,pA.name,pA.v,pA.args]at ha hb hc ⊢
 unfold pA.cpy at h;refine w12 _ _ _ _ _ _ _ _ _ ?_
 simp only[t12,qA];refine z1k h.1 ho (zgz (x:=v) ha hb) fun tf1 t1 c1 k1 k2 k3=>?_
 have hz1:=vF k3 (lG.zs _)
 have a1:=k3.all
 obtain⟨u1,v1,rfl,hu1,hv1⟩:=zgl k3
 rw[hz1,wA];refine cG a1 ?_
 rw[q31];refine w31 _ ?_
 simp only[t31,qA];refine zhj (ds:=args.map pA.d) el34 z3l (by decide) (fun d hd=>?_) (fun d hd=>?_) (by rw[ybf];exact h.2.1) (fun v i t hw=>j31_2 _ _ _ hw) (z2i.loose fun tf2 t2 v2 m1 m2=>?_) (hc.mono k1) k2
 ·obtain⟨x,_,rfl⟩:=yaq.1 hd
  exact x.zs
 ·obtain⟨x,hx,rfl⟩:=yaq.1 hd
  exact zjt args h.2.2 x hx
 ·have hrs:=zM (A:=[]) m2
  have hr:RD t2 (pA.mk op name v args).d (xE (.mk op name v args) u1 v1 v2):=zi2 (op:=op) (name:=name) (v:=v) (args:=args) ((hu1.mono m1).mono m2.tle) ((hv1.mono m1).mono m2.tle) hrs
  exact cG (by rw[yG];simp only[ycg,yck,hrs.one];rfl) (cG hr.all (hQ tf2 t2 _ _ _ (k1.trans m1) m2 (hu1.mono m1) (hv1.mono m1)))
section
variable {α:Type}{f:α->α}{g:α->D}{l:List α}{i:Nat}{x:α}
def zvs (f:α->α)(g:α->D)(l:List α)(i:Nat):List D:=((l.take i).map f++l.drop i).map g
def zi3(h:i<=l.length):(zvs f g l i).length=l.length:=by unfold zvs;simp;omega
def zyy(h:l[i]?=some x):(zvs f g l i)[i]?=some (g x):=by
 have hlt:=(ybc.1 h).1
 have e:((l.take i).map f).length=i:=by simp;omega
 unfold zvs;rw[ybu,ybp (by omega),e,Nat.sub_self,yde,yct,h];rfl
def zyx(h:l[i]?=some x):(zvs f g l i).set i (g (f x))=zvs f g l (i+1):=by
 obtain⟨hlt,hx⟩:=ybc.1 h
 unfold zvs;rw[ybl hlt,ydg,h,List.map_append (f:=g),ycm (f:=g),z3r (by simp;omega)]
 simp
def zyz(h:l.length<=i):zvs f g l i=(l.map f).map g:=by
 unfold zvs;rw[yca h,ybt h,ycd]
end
def RenF (a b:List Nat)(x:pA):Prop:=∀ ⦃L:List cD⦄ ⦃tf t:Tr rA⦄ ⦃cs:List zA⦄ ⦃Q:cB⦄,rB yA.base tf t L->RD tf x.d cs->(∀tf' t' cs',dA tf tf'->rB yA.base tf' t' L->RD tf' (tF a b x).d cs'->Q (.agg cs') t')->Wc yA F 20 [.agg cs,.str a,.str b] t Q
def z3z{a b nm:List Nat}{op:Nat}{v:lG}{args:List pA}{L:List cD}{u w vc:zA}{Q:cB}(hall:∀x∈args,RenF a b x)(hlen:args.length<300000){tf0:Tr rA}
  (hQ:∀tf' t' cs',dA tf0 tf'->rB yA.base tf' t' L->RD tf' (pA.mk op nm v (sH a b args)).d cs'->Q (.agg cs') t') :
  ∀(m i:Nat) (tf t:Tr rA),i+m=args.length->dA tf0 tf->lA tf 1 (oD v.f.n.limbs) u->lA tf 1 (oD v.f.d.limbs) w->rB yA.base tf t (oS yA.base 9 (zvs (tF a b) pA.d args i) vc::L) →
   jp 20 2 [.str a,.str b,.int .i64 (i:Int),.int .u8 0,.str [],.int .u8 0,.bool false,.nilslice,.bool false,.nilslice,.int .i64 0,.nilslice,.int .u8 (op:Int),.str nm,.int .u8 v.kind,.bool v.f.n.neg,u,.bool v.f.d.neg,w,.int .i64 v.i,vc] t Q:=by
 intro m;induction m with
 | zero=>
  intro i tf t hi hf hu hw ho;have hsl:=zM (A:=[]) ho
  have hll:=zi3 (f:=tF a b) (g:=pA.d) (show i<=args.length by omega)
  refine j20_2 _ _ _ _ _ _ _ _ _ _ _ _ _ _ _ _ _ _ _ _ _ ?_
  unfold z9c;refine xB hsl.len (pC (lB (nLt (by rw[hll];omega)) ?_))
  rw[zyz (by omega),<- zaf]at ho
  obtain⟨tf',k1,k2,k3⟩:=rB.freezeS (A:=[]) ho
  have hr:=zi2 (op:=op) (name:=nm) (v:=v) (args:=sH a b args) (hu.mono k1) (hw.mono k1) k3
  exact iA hr.all (hQ tf' t _ (hf.trans k1) k2 hr)
 | succ m ih=>
  intro i tf t hi hf hu hw ho;have hlt:i<args.length:=by omega
  have hsl:=zM (A:=[]) ho
  have hll:=zi3 (f:=tF a b) (g:=pA.d) (show i<=args.length by omega)
  have hx:=ybd hlt
  have hget:=zyy (f:=tF a b) (g:=pA.d) hx
  obtain⟨bb,cs,g1,g2,g3,g4⟩:=oS_at (A:=[]) z3l ho hget
  refine j20_2 _ _ _ _ _ _ _ _ _ _ _ _ _ _ _ _ _ _ _ _ _ ?_
  unfold z9c;refine xB hsl.len (pC (iA (yLt (by rw[hll];omega)) (xB g1 (uD (g4.whole zqn rfl g2.symm) (oF (vF g3 (pA.zs _)) (kD ?_))))))
  have g3':=g3
  obtain⟨x1,x2,x3,rfl,_⟩:=kH g3'
  rw[q20];refine hall _ (ycj hlt) ho g3 fun tf1 t1 cs1 k1 k2 k3=>?_
  refine oF (vF k3 (pA.zs _)) (iA (zM (A:=[]) k2).same ?_)
  have k3':=k3
  obtain⟨y1,y2,y3,rfl,_⟩:=kH k3'
  obtain⟨p,f1,t2,f2,f3⟩:=rB.storeS (A:=[]) (w:=.agg (xE (tF a b args[i]) y1 y2 y3)) (o:=0) (S:=36) k2 hget z3l (d':=(tF a b args[i]).d) zqn rfl (by show 0+9<=9;decide) k3.all (fun c hc hrd=>by
   rw[zyj (by rw[hc];rfl)];exact k3)
  refine xB f1 (oG fun n _ _=>⟨_,_,f2 n,lD ?_⟩)
  rw[wrap_i64 (by omega) (by omega),show(i:Int)+1=((i+1:Nat):Int) by omega]
  rw[zyx hx]at f3;exact ih (i+1) tf1 t2 (by omega) (hf.trans k1) (hu.mono k1) (hw.mono k1) f3
def zbk(a b:Int):jA a b=decide (a=b):=by
 cases h:jA a b with
 | true=>exact(decide_eq_true (mG.1 h)).symm
 | false=>exact(decide_eq_false fun e=>by rw[mG.2 e]at h;cases h).symm
mutual
def z9j(a b:List Nat):∀(x:pA),pA.cpy x->RenF a b x
 | .mk op name v args,h=>by
  intro L tf t cs Q ho hd hQ;have hd':=hd
  obtain⟨a0,b0,c0,rfl,_⟩:=kH hd'
  have hall:=z7d a b args (by unfold pA.cpy at h;exact h.2.2)
  have hlen:args.length<300000:=by unfold pA.cpy at h;exact h.2.1
  refine w20 _ _ _ _ _ _ _ _ _ _ _ ?_
  unfold t20;refine kD ?_
  rw[q12];refine zzbf h ho hd fun tf1 t1 u w c k1 k2 k3 k4=>?_
  have hr:RD t1 (pA.mk op name v args).d (xE (.mk op name v args) u w c):=zi2 (op:=op) (name:=name) (v:=v) (args:=args) (k3.mono k2.tle) (k4.mono k2.tle) (zM (A:=[]) k2)
  refine oF (vF hr (pA.zs _)) (iA hr.all ?_)
  have aC:∀nm,nm=(if nJ a op name=true then b else name)->jp 20 9 [.str a,.str b,.int .u8 0,.str [],.int .u8 0,.bool false,.nilslice,.bool false,.nilslice,.int .i64 0,.nilslice,.int .u8 (op:Int),.str nm,.int .u8 v.kind,.bool v.f.n.neg,u,.bool v.f.d.neg,w,.int .i64 v.i,c] t1 Q:=by
   intro nm hnm;refine j20_9 _ _ _ _ _ _ _ _ _ _ _ _ _ _ _ _ _ _ _ _ ?_
   unfold t20_9;refine lD ?_
   refine z3z hall hlen (tf0:=tf1) (fun tf' t' cs' m1 m2 m3=>hQ tf' t' cs' (k1.trans m1) m2 ?_) args.length 0 tf1 t1 (by omega) (dA.refl _) k3 k4 k2
   rw[tF,<- hnm];exact m3
  show qA yA.base _ _ (.ite (wE name a) (.ite (!jA (op:Int) 6) (.ite (!jA (op:Int) 23) (.ite true _ .fail) _) _) _) t1 Q
  by_cases hn:name=a
  ·refine iA (by rw[nR];exact decide_eq_true hn) ?_
   by_cases h6:op=6
   ·refine lB (by rw[zbk,decide_eq_true (by omega)];simp) (lD (aC _ ?_))
    have hf:nJ a op name=false:=by unfold nJ;rw[decide_eq_true h6];simp
    rw[hf];rfl
   ·refine iA (by rw[zbk,decide_eq_false (by omega)];rfl) ?_
    by_cases h23:op=23
    ·refine lB (by rw[zbk,decide_eq_true (by omega)];simp) (lD (aC _ ?_))
     have hf:nJ a op name=false:=by unfold nJ;rw[decide_eq_true h23];simp
     rw[hf];rfl
    ·refine iA (by rw[zbk,decide_eq_false (by omega)];rfl) (iA rfl (lD (aC _ ?_)))
     unfold nJ;rw[decide_eq_false h6,decide_eq_false h23,decide_eq_true hn];rfl
  ·refine lB (by rw[nR,decide_eq_false hn];simp) (lD (aC _ ?_))
   unfold nJ;rw[decide_eq_false hn];rfl
def z7d(a b:List Nat):∀(l:List pA),pA.cpys l->∀x∈l,RenF a b x
 | [],_,x,hx=>by cases hx
 | y::l,h,x,hx=>by
  unfold pA.cpys at h;rcases ybs.1 hx with e | hx
  ·rw[e];exact z9j a b y h.1
  ·exact z7d a b l h.2 x hx
end
mutual
def zik{a b:List Nat}(hab:b≠a):∀(x:pA) (cs ds:List zA) (t:Tr rA) (Q:cB),pA.cpy x->RD t (tF a b x).d cs->RD t x.d ds->Q (.bool (!znf a x)) t->Wc yA F 21 [.agg cs,.agg ds] t Q
 | .mk op name v args,cs,ds,t,Q,h,hc,hd,hQ=>by
  rw[tF]at hc;obtain⟨u,w,c,rfl,hu,hw,he⟩:=kH hc
  obtain⟨u',w',c',rfl,hu',hw',he'⟩:=kH hd
  simp only[pA.op,pA.name,pA.v,pA.args]at hu hw he hu' hw' he' ⊢
  unfold pA.cpy at h;rw[znf]at hQ;refine w21 _ _ _ _ _ _ _ _ _ _ _ _ _ _ _ _ _ _ ?_
  unfold t21;refine iA (mG.2 rfl) ?_
  cases hh:nJ a op name with
  | true=>
   rw[hh]at hQ;have hn:name=a:=zcr hh
   refine lB ?_ hQ
   rw[yab rfl,nR,decide_eq_false (by rw[hn];exact hab)]
   simp
  | false=>
   rw[hh,Bool.false_or]at hQ;refine iA ?_ (kD ?_)
   ·rw[yaa (by simp),nR,decide_eq_true rfl]
   rw[q38];refine same60 (zgz (x:=v) hu hw) (zgz (x:=v) hu' hw') h.1 ?_
   refine pD (iA rfl (kD ?_))
   rw[q39];refine w39 _ _ ?_
   unfold t39;have e1:((sH a b args).map pA.d).length=args.length:=by rw[ybf,yV]
   have e2:(args.map pA.d).length=args.length:=ybf ..
   refine xB he.len (pC (xB he'.len (pC (lB ?_ (lD ?_)))))
   ·rw[e1,e2]
    exact fun e=>absurd rfl (bT.1 e)
   ·exact zkr hab args args c c' 0 t _ he he' rfl h.2.2 h.2.1 (pD hQ)
def zkr{a b:List Nat}(hab:b≠a):∀(l args:List pA) (u v:zA) (i:Nat) (t:Tr rA) (Q:cB),lA t 9 ((sH a b args).map pA.d) u->lA t 9 (args.map pA.d) v->args.drop i=l->pA.cpys l->args.length<300000->Q (.bool (!fM a l)) t->jp 39 2 [u,v,.int .i64 (i:Int)] t Q
 | [],args,u,v,i,t,Q,hu,hv,hl,_,hsz,hQ=>by
  have:=zat hl
  rw[fM]at hQ;refine j39_2 _ _ _ ?_
  unfold z89;have e1:((sH a b args).map pA.d).length=args.length:=by rw[ybf,yV]
  exact xB hu.len (pC (lB (nLt (by rw[e1];omega)) hQ))
 | x::l,args,u,v,i,t,Q,hu,hv,hl,hc,hsz,hQ=>by
  obtain⟨h1,h2,h3⟩:=zX hl
  unfold pA.cpys at hc;have e1:((sH a b args).map pA.d).length=args.length:=by rw[ybf,yV]
  have h1r:(sH a b args)[i]?=some (tF a b x):=by rw[zaf,ybu,h1];rfl
  obtain⟨bb,off,a1,b1,c1,g1,g2,g3,g4,_⟩:=z0r hu h1r
  obtain⟨b',off',a1',b1',c1',g1',g2',g3',g4',_⟩:=z0r hv h1
  refine j39_2 _ _ _ ?_
  unfold z89;refine xB hu.len (pC (iA (yLt (by rw[e1];omega)) (xB g1 (uD g2 (oF g4 (xB g1' (uD g2' (oF g4' (kD ?_)))))))))
  rw[q21];refine zik hab x _ _ t _ hc.1 g3 g3' (pD ?_)
  rw[fM]at hQ
  cases hx:znf a x with
  | true=>
   rw[hx]at hQ;exact iA rfl hQ
  | false=>
   rw[hx,Bool.false_or]at hQ;refine lB (by simp) (lD ?_)
   rw[wrap_i64 (by omega) (by omega)]
   exact zkr hab l args u v (i+1) t Q hu hv h2 hc.2 hsz hQ
end
end Go.Proofs
namespace Go.Proofs
open Go Go.Am
section
variable [lC]
variable {t tf:Tr rA}
def zzbe{p:fC}{L:List cD}{cs:List zA}{Q:cB}(h:fC.cpy p)(ho:rB yA.base tf t L)(hd:RD tf p.d cs)
  (hQ:∀tf' t' a b c,dA tf tf'->rB yA.base tf' t' (oS yA.base 24 (p.clauses.map nC.d) c::oS yA.base 3 (p.defs.map oC.d) a::L)->lA tf' 3 (p.tables.map uE.d) b->Q (.agg [.str p.name,a,b,c]) t'):Wc yA F 17 [.agg cs] t Q:=by
 obtain⟨a,b,c,rfl,ha,hb,hc⟩:=iO hd
 refine w17 _ _ _ _ ?_
 simp only[t17,qA,q35,q36,q37];have one:∀ {tf:Tr rA} {sz:Nat} {l:List D} {v:zA},lA tf sz l v->kB zA.one [v]=true:=fun h=>by rw[yG];simp only[ycg,yck,h.one];rfl
 refine w35 _ (z1h el22 ha ho (by rw[ybf];exact h.defs) fun tf1 t1 a1 k1 k2=>cG (one (zM (A:=[]) k2)) ?_)
 refine w36 _ ?_
 simp only[t36,qA];refine zey (ds:=p.tables.map uE.d) el23 sl23 (by decide) (fun d hd=>?_) (fun d hd=>?_) (by rw[ybf];exact h.tables) (fun v i t hw=>j36_2 _ _ _ hw) (fun tf2 t2 b1 m1 m2 m3=>cG (one m3) ?_) (hb.mono k1) k2
 ·obtain⟨r,_,rfl⟩:=yaq.1 hd
  exact r.zs
 ·obtain⟨r,hm,rfl⟩:=yaq.1 hd
  exact zzbh (h.rows r hm).1 (h.rows r hm).2
 refine w37 _ ?_
 simp only[t37,qA];refine zhj (ds:=p.clauses.map nC.d) el24 z3m (by decide) (fun d hd=>?_) (fun d hd=>?_) (by rw[ybf];exact h.clauses) (fun v i t hw=>j37_2 _ _ _ hw) (z2i.loose fun tf3 t3 c1 n1 n2=>cG (one (zM (A:=[]) n2)) ?_) (hc.mono (k1.trans m1)) m2
 ·obtain⟨r,_,rfl⟩:=yaq.1 hd
  exact r.zs
 ·obtain⟨r,hm,rfl⟩:=yaq.1 hd
  exact zzbg (h.exprs r hm).1 (h.exprs r hm).2
 have hd3:=zM (A:=[oS yA.base 24 (p.clauses.map nC.d) c1]) n2
 refine cG ?_ (hQ tf3 t3 _ _ _ (k1.trans (m1.trans n1)) n2 (m3.mono n1))
 rw[yG];simp only[ycg,yck,m3.one,hd3.one,(zM (A:=[]) n2).one];rfl
abbrev lF:List Nat:=[102,114,101,115,104,95,110,97,109,101]
def zha:kI lF=true:=by kernel_rfl
def z7k{x:oC}:RD t x.d [.str x.name,.int .u8 x.kind,.bool x.fact]:=by
 unfold oC.d;simp only[tI,uF,kG,iP,gP,oM];exact⟨_,rfl,_,_,rfl,rfl,_,_,rfl,rfl,_,_,rfl,rfl,rfl⟩
abbrev zX9:List zA:=[(.int .u8 0),(.str []),(.int .u8 0),(.bool false),.nilslice,(.bool false),.nilslice,(.int .i64 0),.nilslice]
abbrev ag9(X:iL):zA:=.agg [(.int .u8 (X.i 0)),(.str (X.s 1)),(.int .u8 (X.i 2)),(.bool (X.b 3)),(X.v 4),(.bool (X.b 5)),(X.v 6),(.int .i64 (X.i 7)),(X.v 8)]
def z81(a2 a11 jD:zA)(v10:List Nat)(v13:Int)(u:Bool)(v15:Int)(c0:List Nat)(c1 c2 c3:zA):T:=
 .light (fun m=>mA yA 36 ⟨0,m⟩ a11) fun a18=>.asG zX9 a18 fun X19=>
 .light (fun m=>mA yA 36 ⟨0,m⟩ jD) fun a20=>.asG zX9 a20 fun X21=>
 .opt (cC a2) fun a22=>.opt (tB yA 56 6 a22) fun a23=>.heavy (rC yA 36 a23 (ag9 X19)) fun _=>
 .light (fun m=>mA yA 36 ⟨0,m⟩ jD) fun a24=>.ite (same 10 a24 (ag9 X21)) (.opt (cC a2) fun a25=>.opt (tB yA 56 7 a25) fun a26=>.heavy (rC yA 36 a26 (ag9 X21)) fun _=>
 .opt (cC a2) fun a27=>.opt (tB yA 56 0 a27) fun a28=>.light (fun m=>mA yA 9 ⟨0,m⟩ a28) fun a29=>.asS a29 fun s30=>.ite (wE s30 v10)
 (.opt (cC a2) fun a31=>.opt (tB yA 56 0 a31) fun a32=>.heavy (rC yA 9 a32 (.str lF)) fun _=>
 .jump 2 [(.str v10),(.int .i64 v13),(.bool u),(.int .i64 (tA .i64 (v15+1))),(.str c0),c1,c2,c3])
 (.jump 2 [(.str v10),(.int .i64 v13),(.bool u),(.int .i64 (tA .i64 (v15+1))),(.str c0),c1,c2,c3])) .fail
abbrev two(n12 n11:Nat)(c12 c11:List zA):List cD:=[vG n12 none c12,vG n11 none c11]
def zza0{q o:Nat}:tB yA 56 6 (.ptr q o)=some (.ptr q (o+6)):=by
 unfold tB dQ;rw[ty56,sA];rfl
def zzaz{q o:Nat}:tB yA 56 7 (.ptr q o)=some (.ptr q (o+15)):=by
 unfold tB dQ;rw[ty56,sA];rfl
def zza1{q o:Nat}:tB yA 56 0 (.ptr q o)=some (.ptr q (o+0)):=by
 unfold tB dQ;rw[ty56,sA];rfl
def cel9{n:Nat}{cs:List zA}{x:pA}(h:gD t n none cs)(hr:RD tf x.d cs):mA yA 36 ⟨0,t⟩ (.ptr n 0)=some (.agg cs):=by
 obtain⟨a,b,c,rfl,_⟩:=kH hr
 exact h.at.whole zqn rfl rfl
def z23{n11 n12 q i:Nat}{cs11 cs12:List zA}{l:List D}{vc c1 c2 c3:zA}{x:nC}{w u:pA}{a c0:List Nat}{v13 v15:Int}{us:Bool}{Q:cB}
  (o:rB yA.base tf t (two n12 n11 cs12 cs11++oS yA.base 24 l vc::[])) (hx:l[i]?=some x.d) (hq:qB yA 24 vc (.int .i64 (i:Int))=some (.ptr q (0+i*24)))
  (h1:RD tf w.d cs11) (h2:RD tf u.d cs12)
  {l':List D} (hl:l.set i (⟨if x.name=a then lF else x.name,x.label,x.from_,x.to,x.known,x.off,w,u⟩:nC).d=l') (hK:∀t',rB yA.base tf t' (two n12 n11 cs12 cs11++oS yA.base 24 l' vc::[])->jp 6 2 [(.str a),(.int .i64 v13),(.bool us),(.int .i64 (tA .i64 (v15+1))),(.str c0),c1,c2,c3] t' Q) :
  wp 6 (z81 (.ptr q (0+i*24)) (.ptr n11 0) (.ptr n12 0) a v13 us v15 c0 c1 c2 c3) t Q:=by
 subst hl;have h1':=h1
 have h2':=h2
 have hlt:i<l.length:=(ybc.1 hx).1
 obtain⟨y1,y2,y3,rfl,_⟩:=kH h1'
 obtain⟨z1,z2,z3,rfl,_⟩:=kH h2'
 have g11:∀ {t:Tr rA} {l:List D},rB yA.base tf t (two n12 n11 (xE u z1 z2 z3) (xE w y1 y2 y3)++oS yA.base 24 l vc::[])->mA yA 36 ⟨0,t⟩ (.ptr n11 0)=some (.agg (xE w y1 y2 y3)):=fun o=>cel9 (rB.cel (A:=[vG n12 none _]) o) h1
 have g12:∀ {t:Tr rA} {l:List D},rB yA.base tf t (two n12 n11 (xE u z1 z2 z3) (xE w y1 y2 y3)++oS yA.base 24 l vc::[])->mA yA 36 ⟨0,t⟩ (.ptr n12 0)=some (.agg (xE u z1 z2 z3)):=fun o=>cel9 (rB.cel (A:=[]) o) h2
 unfold z81;refine uD (g11 o) (oF (vF h1 (pA.zs _)) (uD (g12 o) (oF (vF h2 (pA.zs _)) (xB rfl (xB zza0 ?_)))))
 obtain⟨p1,e1,t1,e2,e3⟩:=rB.storeS (A:=two n12 n11 _ _) (w:=.agg (xE w y1 y2 y3)) (o:=6) (S:=36) o hx z3m (d':=(⟨x.name,x.label,x.from_,x.to,x.known,x.off,w,x.then_⟩:nC).d) zqn rfl (by show 6+9<=24;decide) h1.all (fun cs hc hrd=>by
  obtain⟨u1,u2,u3,w1,w2,w3,rfl,k1,k2⟩:=xR hrd
  exact zal (x:=⟨x.name,x.label,x.from_,x.to,x.known,x.off,w,x.then_⟩) h1 k2)
 rw[hq]at e1
 cases e1
 refine oG fun n _ _=>⟨_,_,e2 n,uD (g12 e3) (iA h2.sameA (xB rfl (xB zzaz ?_)))⟩
 have hx2:(l.set i (⟨x.name,x.label,x.from_,x.to,x.known,x.off,w,x.then_⟩:nC).d)[i]?=some (⟨x.name,x.label,x.from_,x.to,x.known,x.off,w,x.then_⟩:nC).d:=by rw[ycw,yab rfl,yab hlt]
 obtain⟨p2,e4,t2,e5,e6⟩:=rB.storeS (A:=two n12 n11 _ _) (w:=.agg (xE u z1 z2 z3)) (o:=15) (S:=36) e3 hx2 z3m (d':=(⟨x.name,x.label,x.from_,x.to,x.known,x.off,w,u⟩:nC).d) zqn rfl (by show 15+9<=24;decide) h2.all (fun cs hc hrd=>by
  obtain⟨u1,u2,u3,w1,w2,w3,rfl,k1,k2⟩:=xR hrd
  exact zal (x:=⟨x.name,x.label,x.from_,x.to,x.known,x.off,w,u⟩) k1 h2)
 rw[hq]at e4
 cases e4
 rw[List.set_set]at e6;have hx3:(l.set i (⟨x.name,x.label,x.from_,x.to,x.known,x.off,w,u⟩:nC).d)[i]?=some (⟨x.name,x.label,x.from_,x.to,x.known,x.off,w,u⟩:nC).d:=by rw[ycw,yab rfl,yab hlt]
 obtain⟨p3,cs,f1,f2,f3,f4⟩:=oS_at (A:=two n12 n11 _ _) z3m e6 hx3
 rw[hq]at f1
 cases f1
 have hnm:cs[0]?=some (.str x.name):=by
  obtain⟨u1,u2,u3,w1,w2,w3,rfl,k1,k2⟩:=xR f3
  rfl
 refine oG fun n _ _=>⟨_,_,e5 n,xB rfl (xB zza1 (uD (f4.load1 (j:=0) ty9 rfl hnm) (sS ?_)))⟩
 by_cases hn:x.name=a
 ·refine iA (by rw[nR];exact decide_eq_true hn) (xB rfl (xB zza1 ?_))
  obtain⟨p4,e7,t3,e8,e9⟩:=rB.storeS (A:=two n12 n11 _ _) (w:=.str lF) (o:=0) (S:=9) e6 hx3 z3m (d':=(⟨lF,x.label,x.from_,x.to,x.known,x.off,w,u⟩:nC).d) ty9 rfl (by show 0+1<=24;decide) rfl (fun cs hc hrd=>by
   obtain⟨u1,u2,u3,w1,w2,w3,rfl,k1,k2⟩:=xR hrd
   exact zal (x:=⟨lF,x.label,x.from_,x.to,x.known,x.off,w,u⟩) k1 k2)
  rw[hq]at e7
  cases e7
  rw[List.set_set]at e9;refine oG fun n _ _=>⟨_,_,e8 n,lD (hK t3 ?_)⟩
  rw[yab hn];exact e9
 ·refine lB (by rw[nR,decide_eq_false hn];simp) (lD (hK t2 ?_))
  rw[yaa hn];exact e6
end
section
variable [lC]
variable {t tf:Tr rA}
mutual
def zil{a b:List Nat}(hb:b.length<mC)(hc:∀c∈b,c<256):∀(x:pA),x.fit->(tF a b x).fit
 | .mk op name v args,h=>by
  unfold pA.fit at h;rw[tF];unfold pA.fit;refine⟨h.1,?_,?_,h.2.2.2.1,by rw[yV];exact h.2.2.2.2.1,zky hb hc args h.2.2.2.2.2⟩
  ·split
   ·exact hb
   ·exact h.2.1
  ·split
   ·exact hc
   ·exact h.2.2.1
def zky{a b:List Nat}(hb:b.length<mC)(hc:∀c∈b,c<256):∀(l:List pA),pA.fits l->pA.fits (sH a b l)
 | [],h=>by rw[sH];exact h
 | x::l,h=>by
  unfold pA.fits at h;rw[sH];unfold pA.fits;exact⟨zil hb hc x h.1,zky hb hc l h.2⟩
end
def zaq:lF.length<mC:=by unfold mC;decide
def zhb:∀c∈lF,c<256:=by decide
def zxu (p:fC)(k:Nat)(d:oC)(l:List nC):fC:=⟨p.name,p.defs.set k ⟨lF,d.kind,d.fact⟩,p.tables,l⟩
def zq9{p:fC}{k:Nat}{d:oC}{l:List nC}(hp:p.fit)(hk:p.defs[k]?=some d)(hl:l.length=p.clauses.length)(hc:∀x∈l,x.fit):(zxu p k d l).fit:=by
 refine⟨hp.name,?_,hp.ntables,?_,fun x hx=>?_,hp.tables,hc⟩
 ·show(p.defs.set k _).length<mC
  rw[ydh];exact hp.ndefs
 ·show l.length<mC
  rw[hl];exact hp.nclauses
 ·rcases List.mem_or_eq_of_mem_set hx with hx | hx
  ·exact hp.defs x hx
  ·rw[hx];exact⟨zaq,(hp.defs d (ycv hk)).2⟩
def z30{a:List Nat}{x:nC}(h:x.fit):(zog a lF x).fit:=by
 refine⟨?_,h.2.1,h.2.2.1,h.2.2.2.1,h.2.2.2.2.1,zil zaq zhb _ h.2.2.2.2.2.1,zil zaq zhb _ h.2.2.2.2.2.2⟩
 show(if x.name=a then lF else x.name).length<mC
 split
 ·exact zaq
 ·exact h.1
abbrev znt(p:fC)(d:oC)(i:Nat):Bool:=(p.clauses.take i).any (znu d.name)
def loop6{p:fC}{k:Nat}{d:oC}(hp:p.fit)(hcpy:fC.cpy p)(hk:p.defs[k]?=some d)(nb:wH p.defs lF=none)(hz:(qK p).2=0){va vb vc:zA} :
  ∀(m i:Nat) (tf t:Tr rA),i+m=p.clauses.length->lA tf 3 ((p.defs.set k ⟨lF,d.kind,d.fact⟩).map oC.d) va->lA tf 3 (p.tables.map uE.d) vb →
   rB yA.base tf t ([]++oS yA.base 24 (zvs (zog d.name lF) nC.d p.clauses i) vc::[]) →
   jp 6 2 [.str d.name,.int .i64 ((qK (zxu p k d p.clauses)).2:Nat),.bool (znt p d i),.int .i64 (i:Int),.str p.name,va,vb,vc] t (fun v _=>v=.bool true):=by
 have hncl:=hcpy.clauses
 have R1:Ren p (zxu p k d p.clauses) d.name lF:=Ren.mk' hz hk nb zha rfl rfl
 have R2:Ren p (zxu p k d (p.clauses.map (zog d.name lF))) d.name lF:=Ren.mk' hz hk nb zha rfl rfl
 have L1:=(zgk hz R1 rfl).1 rfl
 have L2:=(zgk hz R2 rfl).2 rfl
 intro m;induction m with
 | zero=>
  intro i tf t hi ha hb ho;have hsl:=zM ho
  have hll:=zi3 (f:=zog d.name lF) (g:=nC.d) (show i<=p.clauses.length by omega)
  refine j6_2 _ _ _ _ _ _ _ _ ?_
  unfold t6_2;refine xB hsl.len (pC (lB (nLt (by rw[hll];omega)) (kD ?_)))
  rw[zyz (by omega)]at hsl
  unfold znt;rw[yca (by omega)]
  have hq:RD t (zxu p k d (p.clauses.map (zog d.name lF))).d [.str p.name,va,vb,vc]:=zon (p:=zxu p k d (p.clauses.map (zog d.name lF))) (ha.mono ho.tle) (hb.mono ho.tle) hsl
  have hqf:(zxu p k d (p.clauses.map (zog d.name lF))).fit:=zq9 hp hk (by simp) (fun x hx=>by
   obtain⟨y,hy,rfl⟩:=yaq.1 hx
   exact z30 (hp.clauses y hy))
  rw[q16,zju hqf hq,wA];refine xB rfl (pC (xB rfl (pC ?_)))
  refine iA (yEq (by rw[L2];rfl)) ?_
  rw[L1]
  cases hu:p.clauses.any (znu d.name)with
  | true=>exact iA rfl (lB (nEq (by simp)) rfl)
  | false=>exact iA rfl (iA (yEq rfl) rfl)
 | succ m ih=>
  intro i tf t hi ha hb ho;have hlt:i<p.clauses.length:=by omega
  obtain⟨x,hx⟩:∃x,p.clauses[i]?=some x:=⟨_,ybd hlt⟩
  have hxm:x∈p.clauses:=ycv hx
  obtain⟨cw,ct⟩:=hcpy.exprs x hxm
  have hget:=zyy (f:=zog d.name lF) (g:=nC.d) hx
  have hll:=zi3 (f:=zog d.name lF) (g:=nC.d) (show i<=p.clauses.length by omega)
  have hnext:(znt p d (i+1))=(znt p d i||znu d.name x):=by
   unfold znt;rw[ydg,hx,List.any_append];simp
  have hren:=zyx (f:=zog d.name lF) (g:=nC.d) hx
  have hsl:=zM ho
  generalize hl:(zvs (zog d.name lF) nC.d p.clauses i)=l at ho hget hll hren hsl
  have hne:l≠[]:=by intro e;rw[e]at hll;simp at hll;omega
  obtain⟨n,cl,rfl,hall,hrs,o1⟩:=rB.openS hne ho
  obtain⟨cs,hc1,hc2⟩:=hrs.get hget
  have hat:∀ {t':Tr rA},gD t' n (some (.sz 24)) cl.flatten->At t' n (0+i*24) cs:=fun h=>h.elem hall hc1
  obtain⟨u1,u2,u3,w1,w2,w3,rfl,hw,ht⟩:=xR hc2
  have ld6:∀ {t':Tr rA},gD t' n (some (.sz 24)) cl.flatten->mA yA 36 ⟨0,t'⟩ (.ptr n (0+i*24+6))=some (.agg (xE x.when_ u1 u2 u3)):=fun h=>(hat h).load (j:=6) (n:=9) zqn rfl rfl (by show 6+9<=24;decide)
  have ld15:∀ {t':Tr rA},gD t' n (some (.sz 24)) cl.flatten->mA yA 36 ⟨0,t'⟩ (.ptr n (0+i*24+15))=some (.agg (xE x.then_ w1 w2 w3)):=fun h=>(hat h).load (j:=15) (n:=9) zqn rfl rfl (by show 15+9<=24;decide)
  have ld0:∀ {t':Tr rA},gD t' n (some (.sz 24)) cl.flatten->mA yA 9 ⟨0,t'⟩ (.ptr n (0+i*24+0))=some (.str x.name):=fun h=>(hat h).load1 (j:=0) ty9 rfl rfl
  have hix:qB yA 24 (.slice n 0 l.length l.length) (.int .i64 (i:Int))=some (.ptr n (0+i*24)):=vS z3m (by rw[hll];omega)
  refine j6_2 _ _ _ _ _ _ _ _ ?_
  unfold t6_2;refine xB hsl.len (pC (iA (yLt (by rw[hll];omega)) (xB hix (xB rfl (xB zza0 (uD (ld6 o1.cel) (oF (vF hw (pA.zs _)) (xB rfl (xB zzaz (uD (ld15 o1.cel) (oF (vF ht (pA.zs _)) (oG fun n11 h11 hb11=>?_))))))))))))
  obtain⟨t1,e1,e2,e3,e4⟩:=bR (C:=yA) zqn h11
  have o2:rB yA.base tf t1 [vG n11 none zX9,vG n (some (.sz 24)) cl.flatten]:=rB.newCel (A:=[]) o1 h11 hb11 e2 e3 e4
  refine⟨_,_,e1,oG fun n12 h12 hb12=>?_⟩
  obtain⟨t2,f1,f2,f3,f4⟩:=bR (C:=yA) zqn h12
  have o3:rB yA.base tf t2 [vG n12 none zX9,vG n11 none zX9,vG n (some (.sz 24)) cl.flatten]:=rB.newCel (A:=[]) o2 h12 hb12 f2 f3 f4
  refine⟨_,_,f1,kD ?_⟩
  rw[q20];refine z9j d.name lF x.when_ cw o3 hw fun tf1 t3 c1 k1 k2 k3=>?_
  refine oF (vF k3 (pA.zs _)) (uD (ld15 (rB.cel (A:=two n12 n11 _ _) k2)) (iA ht.sameA (kD ?_)))
  have k3':=k3
  obtain⟨x1,x2,x3,rfl,_⟩:=kH k3'
  rw[q20];refine z9j d.name lF x.then_ ct k2 (RD.mono k1 _ _ ht) fun tf2 t4 c2 m1 m2 m3=>?_
  refine oF (vF m3 (pA.zs _)) ?_
  have m3':=m3
  obtain⟨y1,y2,y3,rfl,_⟩:=kH m3'
  obtain⟨t5,s1,s2⟩:=rB.setCel (A:=[vG n12 none _]) (n:=n11) (j:=0) (v:=.agg (xE (tF d.name lF x.when_) x1 x2 x3)) m2 zqn rfl (by show 0+9<=9;decide) k3.all
  refine oG fun q _ _=>⟨_,_,s1 q,?_⟩
  obtain⟨t6,r1,r2⟩:=rB.setCel (A:=[]) (n:=n12) (j:=0) (v:=.agg (xE (tF d.name lF x.then_) y1 y2 y3)) s2 zqn rfl (by show 0+9<=9;decide) m3.all
  refine oG fun q _ _=>⟨_,_,r1 q,?_⟩
  have r3:rB yA.base tf2 t6 (two n12 n11 (xE (tF d.name lF x.then_) y1 y2 y3) (xE (tF d.name lF x.when_) x1 x2 x3)++vG n (some (.sz 24)) cl.flatten::[]):=r2
  have o5:=rB.closeS hne hall (sC.mono (k1.trans m1) _ _ hrs) r3
  have k4:RD tf2 (tF d.name lF x.when_).d (xE (tF d.name lF x.when_) x1 x2 x3):=RD.mono m1 _ _ k3
  have aC:∀us,us=(znt p d i||znu d.name x)->wp 6 (z81 (.ptr n (0+i*24)) (.ptr n11 0) (.ptr n12 0) d.name ((qK (zxu p k d p.clauses)).2:Nat) us (i:Int) p.name va vb (.slice n 0 l.length l.length)) t6 (fun v _=>v=.bool true):=by
   intro us hus;refine z23 o5 hget hix k4 m3 hren fun t7 o7=>?_
   rw[wrap_i64 (by omega) (by omega),show(i:Int)+1=((i+1:Nat):Int) by omega,hus,<- hnext]
   exact ih (i+1) tf2 t7 (by omega) (ha.mono (k1.trans m1)) (hb.mono (k1.trans m1)) (rB.drop (A:=[]) (rB.drop (A:=[]) o7))
  have g11:=cel9 (rB.cel (A:=[vG n12 none _]) r3) k4
  have g12:=cel9 (rB.cel (A:=[]) r3) m3
  have gc:gD t6 n (some (.sz 24)) cl.flatten:=rB.cel r3
  have hle:dA tf t6:=(k1.trans m1).trans r3.tle
  cases hU:znt p d i with
  | true=>exact iA rfl (aC true (by rw[hU];rfl))
  | false=>
   refine lB (by simp) (xB rfl (xB zza1 (uD (ld0 gc) (sS ?_))))
   by_cases hn:x.name=d.name
   ·refine iA (by rw[nR];exact decide_eq_true hn) (aC true ?_)
    unfold znu;rw[decide_eq_true hn];simp
   refine lB (by rw[nR,decide_eq_false hn];simp) (uD g11 (oF (vF k4 (pA.zs _)) (xB rfl (xB zza0 (uD (ld6 gc) (oF (vF hw (pA.zs _)) (kD ?_)))))))
   rw[q21];refine zik R1.ne x.when_ _ _ t6 _ cw (RD.mono r3.tle _ _ k4) (RD.mono hle _ _ hw) (pD ?_)
   cases hwu:znf d.name x.when_ with
   | true=>
    refine iA rfl (aC true ?_)
    unfold znu;rw[hwu];simp
   | false=>
    refine lB (by simp) (uD g12 (oF (vF m3 (pA.zs _)) (xB rfl (xB zzaz (uD (ld15 gc) (oF (vF ht (pA.zs _)) (kD ?_)))))))
    rw[q21];refine zik R1.ne x.then_ _ _ t6 _ ct (RD.mono r3.tle _ _ m3) (RD.mono hle _ _ ht) (pD (aC _ ?_))
    have hux:znu d.name x=znf d.name x.then_:=by unfold znu;rw[decide_eq_false hn,hwu];simp
    rw[hU,hux];simp
def ztj{p:fC}{cp:List zA}{n:Int}(hp:p.fit)(hW:GlobW t)(hr:RD t p.d cp):Wc yA F 6 [.agg cp,.int .i64 n] t (fun v _=>v=.bool true):=by
 have hr0:=hr
 obtain⟨u1,u2,u3,rfl,h1,h2,h3⟩:=iO hr
 have h9:uC yA F 9 [] t=some (.bool true):=zoj (g:=z4b) (by kernel_rfl) fun H=>rfl
 refine w6 _ _ _ _ _ ?_
 unfold t6;refine kD ?_
 rw[q9,h9,wA];refine pD (lB (by simp) (kD ?_))
 rw[q15,z3n hp hr0,wA];refine pC ?_
 by_cases hs:2000<z3o p
 ·exact iA (yLt hs) rfl
 refine lB (nLt hs) (kD ?_)
 rw[q16,zju hp hr0,wA];refine xB rfl (pC (xB rfl (pC (kD ?_))))
 rw[q19,z09 hp hr0,wA];have hc:=(z38 hp (by omega)).1
 have hnd:=hp.ndefs
 unfold mC at hnd
 cases nb:wH p.defs lF with
 | some d=>
  refine xB rfl (oF (vF (z7k (t:=t) (x:=d)) (oC.zs _)) (xB rfl (pD (iA rfl ?_))))
  by_cases hz:(qK p).2=0
  ·exact lB (by rw[hz];exact fun e=>by cases e) (iA rfl rfl)
  ·exact iA (by rw[zbk,decide_eq_false (by omega)];rfl) rfl
 | none=>
  refine xB rfl (oF (X:=cellsOf [.str [],.int .u8 0,.bool false]) rfl (xB rfl (pD (iA rfl ?_))))
  by_cases hz:(qK p).2=0
  case neg=>exact iA (by rw[zbk,decide_eq_false (by omega)];rfl) rfl
  refine lB (by rw[hz];exact fun e=>by cases e) (lB (by simp) (xB h1.len (pC ?_)))
  rw[ybf];by_cases h0:p.defs.length=0
  ·exact iA (yEq (by omega)) rfl
  refine lB (nEq (by omega)) (xB h1.len (pC (kD ?_)))
  rw[ybf];obtain⟨k,hk,hpk⟩:=z9o (t:=t) (n:=n) (show 0<p.defs.length by omega) hnd
  rw[q18,hpk,wA];obtain⟨d,hkd⟩:∃d,p.defs[k]?=some d:=⟨_,ybd hk⟩
  have hkm:(p.defs.map oC.d)[k]?=some d.d:=by rw[ybu,hkd];rfl
  obtain⟨bb,off,cs,g1,_,g3,_,g5⟩:=oE.at sl22 (by simp) h1 hkm
  have hcs:=zgm g5
  subst hcs;have f59:∀ {q o:Nat},tB yA 59 0 (.ptr q o)=some (.ptr q (o+0)):=fun {q o}=>by
   unfold tB dQ;rw[z2n,sA];rfl
  refine pC (xB g1 (xB f59 (uD (g3.load1 (j:=0) ty9 rfl rfl) (sS (kD ?_)))))
  have ho:rB yA.base t t []:=⟨dA.refl _,by simp,(fun o h=>by cases h),(fun k h=>by simp at h)⟩
  rw[q17];refine zzbe hc ho hr0 fun tf1 t1 a b c k1 k2 k3=>?_
  have hda:=zM (A:=[oS _ 24 _ c]) k2
  have hca:=zM (A:=[]) k2
  have hag:zK [.str [],.nilslice,.nilslice,.nilslice] (.agg [.str p.name,a,b,c])=some (cellsOf [.str p.name,a,b,c]):=jN (by
   show(true&&(zpb .nilslice a&&(zpb .nilslice b&&(zpb .nilslice c&&true))))=true
   rw[oR hda,oR k3,oR hca];rfl)
  refine oF hag (iA (by rw[yG];simp only[ycg,yck,cellsOf,zxk,zhx,yaz,yba,hda.one,k3.one,hca.one];rfl) ?_)
  obtain⟨q,e1,t2,e2,e3⟩:=rB.storeS (A:=[oS _ 24 _ c]) (B:=[]) (w:=.str lF) (o:=0) (S:=9) k2 hkm sl22 (d':=(⟨lF,d.kind,d.fact⟩:oC).d) ty9 rfl (by show 0+1<=3;decide) rfl (fun cs hc hrd=>by
   have:=zgm hrd
   subst this;exact z7k (x:=⟨lF,d.kind,d.fact⟩))
  refine xB e1 (xB f59 (oG fun n2 _ _=>⟨_,_,e2 n2,kD ?_⟩))
  obtain⟨tf2,r1,r2,r3⟩:=rB.freezeS (A:=[oS _ 24 _ c]) (B:=[]) e3
  have hset:(p.defs.map oC.d).set k (⟨lF,d.kind,d.fact⟩:oC).d=(p.defs.set k ⟨lF,d.kind,d.fact⟩).map oC.d:=by rw[List.map_set]
  rw[hset]at r3;have o4:rB yA.base tf2 t2 ([]++oS yA.base 24 (p.clauses.map nC.d) c::[]):=r2
  have hq:RD t2 (zxu p k d p.clauses).d [.str p.name,a,b,c]:=zon (p:=zxu p k d p.clauses) (r3.mono o4.tle) ((k3.mono r1).mono o4.tle) (zM o4)
  have hqf:(zxu p k d p.clauses).fit:=zq9 hp hkd rfl hp.clauses
  rw[q16];show dD (uC yA F 16 [.agg [.str p.name,a,b,c]] t2) _
  rw[zju hqf hq,wA];refine xB rfl (pC (xB rfl (pC (lD ?_))))
  exact loop6 hp hc hkd nb hz p.clauses.length 0 tf2 t2 (by omega) r3 (k3.mono r1) o4
end
end Go.Proofs
namespace Go.Am
open Go Go.RowKit Go.Proofs
def trename6{w:World}(hL:wG w){cs:Array Value}{p:fC}{n:Int}(hp:p.fit)(hh:Has w.heap.size cs.toList)(hrd:RD (fI w) p.d (cs.toList.map (av w.heap.size))) :
  Calls Tryz.prog 6 #[.agg cs,.int .i64 n] w fun e w'=>e=.returned (.bool true)/\Below w.heap.size w w':=
 zti hL 6 [.agg (cs.toList.map (av w.heap.size)),.int .i64 n] _ (by intro _;kernel_rfl) (.cons (z36 hh) (.single (by rw[vA]))) ⟨_,ztj hp (zsg hL) hrd,fun v t h=>h⟩
end Go.Am
