/- compile.Sound. -/
import Derived.Test.YthmbkdkibhffbaaGreatDoorD17
set_option linter.all false
noncomputable section
set_option maxRecDepth 100000
namespace Go.Proofs
open Go Go.Am
variable [aC]
variable {t tf:Tr lA}
def zgw(x:qA):Bool:=decide (x.op=0)&&decide (x.name=[])&&decide (x.args.length=0)&&zK x.v jH
theorem zqq{x:qA}{cs:List zA}(h:RD t x.d cs)(hx:x.ok):zD yA F 62 [.agg cs] t=some (.bool (zgw x)):=by
 obtain⟨a,b,c,rfl,h1,h2,h3⟩:=jL h
 have hok:x.v.f.ok:=by
  obtain⟨op,name,v,args⟩:=x
  unfold qA.ok at hx;exact hx.2.1
 have hz:oA t 1 (gC jH.f.n.limbs) .nilslice:=yK
 have hs:=zmq (b:=jH) h1 h2 hz hz hok
 have hs':zD yA F 24 [.agg [.int .u8 x.v.kind,.bool x.v.f.n.neg,a,.bool x.v.f.d.neg,b,.int .i64 x.v.i],.agg [.int .u8 0,.bool false,.nilslice,.bool false,.nilslice,.int .i64 0]] t=some (.bool (zK x.v jH)):=hs
 refine wF.2 (w62 _ _ _ _ _ _ _ _ _ ?_)
 simp only[t62,pA,h3.len,xA,zB,yag,q24,hs',qD,if_true];unfold zgw;by_cases e1:x.op=0
 ·refine aA (nE.2 (by omega)) ?_
  by_cases e2:x.name=[]
  ·refine aA ((zO _ _).2 e2) ?_
   by_cases e3:x.args.length=0
   ·refine aA (nE.2 (by omega)) ⟨by rw[decide_eq_true e1,decide_eq_true e2,decide_eq_true e3];rfl,by trivial⟩
   ·exact yC (oE (by omega)) ⟨by rw[decide_eq_false e3];simp,by trivial⟩
  ·exact yC (fun h=>e2 ((zO _ _).1 h)) ⟨by rw[decide_eq_false e2];simp,by trivial⟩
 ·exact yC (oE (by omega)) ⟨by rw[decide_eq_false e1];simp,by trivial⟩
def dL(c:kC):Bool:=zgw c.when_&&zgw c.then_
def xT(p:yH)(names:List (List Nat))(consts:List xB)(whens thens:List (List XIns)):Bool:=
 decide (whens.length=p.clauses.length)&&decide (thens.length=p.clauses.length)&&p.clauses.all dL&&tK p&&consts.all vB &&
  (whens.all (yJ names.length consts.length)&&thens.all (yJ names.length consts.length))
section
variable {p:yH}{names:List (List Nat)}{consts:List xB}{whens thens:List (List XIns)}{a b c vn vc vw vt:zA}
theorem zo1(hp:p.fit)(ha:oA t 3 (p.defs.map lJ.d) a)(hb:oA t 3 (p.tables.map yF.d) b)(hc:oA t 24 (p.clauses.map kC.d) c)(hn:oA t 1 (names.map D.str) vn)(hcs:oA t 6 (consts.map xB.d) vc)(hw:oA t 1 (whens.map sC) vw)(ht:oA t 1 (thens.map sC) vt)(hg:bI t)
  (hfit:∀v∈consts,lF.fit v.f) (hsw:∀l∈whens,l.length<1125899906842624) (hst:∀l∈thens,l.length<1125899906842624) (hncs:consts.length<1000000000) (hnw:whens.length<1000000000) (hnt:thens.length<1000000000) (hrd:RD t p.d [.str p.name,a,b,c]) :
  zD yA F 30 [.agg [.str p.name,a,b,c,vn,vc,vw,vt]] t=some (.bool (xT p names consts whens thens)):=by
 have hlw:rB vw=some (.int .i64 (whens.length:Int)):=by rw[hw.len,yag]
 have hlt:rB vt=some (.int .i64 (thens.length:Int)):=by rw[ht.len,yag]
 have hlc:rB c=some (.int .i64 (p.clauses.length:Int)):=by rw[hc.len,yag]
 have hlcs:rB vc=some (.int .i64 (consts.length:Int)):=by rw[hcs.len,yag]
 refine wF.2 (w30 _ _ _ _ _ _ _ _ ?_)
 simp only[t30,pA,hlw,hlt,hlc,xA,zB];unfold xT;by_cases e1:whens.length=p.clauses.length
 case neg=>exact aA (vJ.2 (by omega)) ⟨by rw[decide_eq_false e1];simp,by trivial⟩
 refine yC (fun e=>absurd (show(whens.length:Int)=p.clauses.length by omega) (vJ.1 e)) ?_
 by_cases e2:thens.length=p.clauses.length
 case neg=>exact aA (vJ.2 (by omega)) ⟨by rw[decide_eq_false e2];simp,by trivial⟩
 refine yC (fun e=>absurd (show(thens.length:Int)=p.clauses.length by omega) (vJ.1 e)) ?_
 rw[decide_eq_true e1,decide_eq_true e2,ybo,ybo];have hncl:=hp.nclauses
 unfold lD at hncl;have codes:∀(m i:Nat),i+m=p.clauses.length->p.clauses.all dL=true->tK p=true->consts.all vB=true->jp 30 10 [.int .i64 (p.clauses.length:Int),.int .i64 (i:Int),.str p.name,a,b,c,vn,vc,vw,vt] t (fun v t'=>v=.bool ((whens.drop i).all (yJ names.length consts.length)&&(thens.drop i).all (yJ names.length consts.length))/\t'=t):=by
  intro m;induction m with
  | zero=>
   intro i hi _ _ _;refine z11 _ _ _ _ _ _ _ _ _ _ ?_
   simp only[zr5,pA];refine yC (fun e=>absurd (jB.1 e) (by omega)) ⟨?_,by trivial⟩
   rw[yau (by omega),yau (by omega)];rfl
  | succ m ih=>
   intro i hi h1 h2 h3;have hwl:i<whens.length:=by omega
   have htl:i<thens.length:=by omega
   have hwx:whens[i]?=some whens[i]:=yae hwl
   have htx:thens[i]?=some thens[i]:=yae htl
   obtain⟨p1,o1,u1,w1,w2,w3⟩:=zwb hw (dA.refl t) hwx
   obtain⟨p2,o2,u2,z1,z2,z3⟩:=zwb ht (dA.refl t) htx
   have s1:=jY (nm:=p.name) (a:=a) (b:=b) (c:=c) (vw:=vw) (vt:=vt) w3 hn hcs hg (hsw _ (ybk hwl))
   have s2:=jY (nm:=p.name) (a:=a) (b:=b) (c:=c) (vw:=vw) (vt:=vt) z3 hn hcs hg (hst _ (ybk htl))
   rw[yam hwl,yam htl];refine z11 _ _ _ _ _ _ _ _ _ _ ?_
   simp only[zr5,pA];refine aA (jB.2 (by omega)) ?_
   rw[w1,xA,w2,xA,q58,s1,xA,qD,xA]
   cases e3:yJ names.length consts.length whens[i]with
   | false=>exact aA (by simp) ⟨by rw[ybh,e3,Bool.false_and,Bool.false_and],by trivial⟩
   | true=>
    refine yC (by simp) ?_
    rw[z1,xA,z2,xA,q58,s2,xA,qD,xA]
    cases e4:yJ names.length consts.length thens[i]with
    | false=>exact aA (by simp) ⟨by rw[ybh,ybh,e3,e4,Bool.false_and,Bool.and_false],by trivial⟩
    | true=>
     refine yC (by simp) ?_
     rw[zC (n:=(i:Int)+1) (by omega) (by omega),show(i:Int)+1=((i+1:Nat):Int) by omega]
     refine Jq.mono (ih (i+1) (by omega) h1 h2 h3) fun v u h=>⟨h.1.trans ?_,h.2⟩
     rw[ybh,ybh,e3,e4,ybo,ybo]
 have cons:∀(m i:Nat),i+m=consts.length->p.clauses.all dL=true->tK p=true->(consts.take i).all vB=true->jp 30 6 [vc,.int .i64 (consts.length:Int),.int .i64 (i:Int),.str p.name,a,b,c,vn,vc,vw,vt] t (fun v t'=>v=.bool (consts.all vB&&(whens.all (yJ names.length consts.length)&&thens.all (yJ names.length consts.length)))/\t'=t):=by
  intro m;induction m with
  | zero=>
   intro i hi h1 h2 h3;rw[ybb (by omega)]at h3
   refine j30_6 _ _ _ _ _ _ _ _ _ _ _ ?_
   simp only[z3f,pA];refine yC (fun e=>absurd (jB.1 e) (by omega)) ?_
   rw[hlc,xA,zB,xA];refine Jq.mono (codes p.clauses.length 0 (by omega) h1 h2 h3) fun v u h=>⟨h.1.trans ?_,h.2⟩
   rw[h3];rfl
  | succ m ih=>
   intro i hi h1 h2 h3;have hil:i<consts.length:=by omega
   have hx:consts[i]?=some consts[i]:=yae hil
   obtain⟨q,o,u,w,g1,g2,g3,g4,g5⟩:=zg2 hcs hx
   refine j30_6 _ _ _ _ _ _ _ _ _ _ _ ?_
   simp only[z3f,pA];refine aA (jB.2 (by omega)) ?_
   rw[g1,xA,g2,xA,g3,xA];simp only[cellsOf,qF,aE,kE,bF,yaa,yab];have hone:iB zA.one [.int .u8 consts[i].kind,.bool consts[i].f.n.neg,u,.bool consts[i].f.d.neg,w,.int .i64 consts[i].i]=true:=by
    rw[iF];simp only[ybh,ybl,g4.one,g5.one];rfl
   refine aA hone ?_
   rw[q25,zbk g4 g5 (hfit _ (ybk hil)),xA,qD,xA]
   cases hv:vB consts[i]with
   | false=>
    refine aA (by simp) ⟨?_,by trivial⟩
    have:consts.all vB=false:=by
     cases ha:consts.all vB with
     | false=>rfl
     | true=>have:=ybc.1 ha _ (ybk hil);rw[hv]at this;cases this
    rw[this];rfl
   | true=>
    refine yC (by simp) ?_
    rw[zC (n:=(i:Int)+1) (by omega) (by omega),show(i:Int)+1=((i+1:Nat):Int) by omega]
    refine ih (i+1) (by omega) h1 h2 ?_
    rw[ych,hx,ycj,h3];simp[hv]
 have cls:∀(m i:Nat),i+m=p.clauses.length->(p.clauses.take i).all dL=true->jp 30 2 [c,.int .i64 (p.clauses.length:Int),.int .i64 (i:Int),.str p.name,a,b,c,vn,vc,vw,vt] t (fun v t'=>v=.bool (p.clauses.all dL&&tK p&&consts.all vB&&(whens.all (yJ names.length consts.length)&&thens.all (yJ names.length consts.length)))/\t'=t):=by
  intro m;induction m with
  | zero=>
   intro i hi h1;rw[ybb (by omega)]at h1
   refine j30_2 _ _ _ _ _ _ _ _ _ _ _ ?_
   simp only[z3g,pA];refine yC (fun e=>absurd (jB.1 e) (by omega)) ?_
   rw[q33,ze2 hp hrd,xA,qD,xA,h1]
   cases hbp:tK p with
   | false=>exact aA (by simp) ⟨rfl,by trivial⟩
   | true=>
    refine yC (by simp) ?_
    rw[hlcs,xA,zB,xA];exact cons consts.length 0 (by omega) h1 hbp rfl
  | succ m ih=>
   intro i hi h1;have hil:i<p.clauses.length:=by omega
   have hx:p.clauses[i]?=some p.clauses[i]:=yae hil
   have hfx:=hp.clauses _ (ybk hil)
   obtain⟨q,off,u1,u2,u3,w1,w2,w3,g1,g2,g3,g4,g5,g6⟩:=tY hc hx
   refine j30_2 _ _ _ _ _ _ _ _ _ _ _ ?_
   simp only[z3g,pA];refine aA (jB.2 (by omega)) ?_
   unfold zbg at g3;rw[g1,xA,g2,xA,g3,xA];unfold gL at g6;simp only[gL,cellsOf,qF,bF,aE,kE,yaa,yab];refine aA g6 ?_
   have s1:=zqq g4 (qA.fit_ok hfx.2.2.2.2.2.1)
   have s2:=zqq g5 (qA.fit_ok hfx.2.2.2.2.2.2)
   unfold iC at s1 s2;have bad:dL p.clauses[i]=false->p.clauses.all dL=false:=fun h=>by
    cases ha:p.clauses.all dL with
    | false=>rfl
    | true=>have:=ybc.1 ha _ (ybk hil);rw[h]at this;cases this
   rw[q62,s1,xA,qD,xA]
   cases hz1:zgw p.clauses[i].when_ with
   | false=>exact aA (by simp) ⟨by rw[bad (by unfold dL;rw[hz1];rfl)];rfl,by trivial⟩
   | true=>
    refine yC (by simp) ?_
    rw[q62,s2,xA,qD,xA]
    cases hz2:zgw p.clauses[i].then_ with
    | false=>exact aA (by simp) ⟨by rw[bad (by unfold dL;rw[hz2];simp)];rfl,by trivial⟩
    | true=>
     refine yC (by simp) ?_
     rw[zC (n:=(i:Int)+1) (by omega) (by omega),show(i:Int)+1=((i+1:Nat):Int) by omega]
     refine ih (i+1) (by omega) ?_
     rw[ych,hx,ycj,h1];simp[dL,hz1,hz2]
 exact cls p.clauses.length 0 (by omega) rfl
end
end Go.Proofs
namespace Go.Am
open Go Go.RowKit
section
variable {base:Nat}{t t0:Tr lA}{X X0:Xt}{HA:rA}{n:Nat}{y:lA}{C:iA}{F:Tr kB}{Q:bB}
def Xt.put(X:Xt)(n:Nat)(y:lA):Xt:=fun b=>if b=n then some y else X b
theorem Xt.put_self{X:Xt}:X.put n y n=some y:=if_pos rfl
theorem Xt.put_ne{X:Xt}{b:Nat}(h:b≠n):X.put n y b=X b:=if_neg h
theorem Ov.hide(h:Ov base t X HA)(hy:t.get n=some y)(h0:t0.get n=none)(ho:cC n t0 t):Ov base t0 (X.put n y) HA:=by
 refine⟨h.base,fun b hb=>?_,fun b z hb=>?_,fun b z hb=>?_⟩
 ·by_cases e:b=n
  ·subst e;rw[Xt.put_self]at hb;cases hb
  ·rw[Xt.put_ne e]at hb
   rw[h.same b hb,ho b e]
 ·by_cases e:b=n
  ·subst e
   rw[Xt.put_self]at hb;cases hb;exact⟨h.up hy,h0,h.lt _ _ hy⟩
  ·rw[Xt.put_ne e]at hb
   obtain⟨h1,h2,h3⟩:=h.ext b z hb
   exact⟨h1,by rw[<- ho b e];exact h2,h3⟩
 ·by_cases e:b=n
  ·subst e;rw[h0]at hb;cases hb
  ·exact h.lt b z (by rw[ho b e];exact hb)
theorem mC.unhide{Q:bB}{d:oB}(hX:X.put n y=X0)(hn:X n=none)(h:mC base X0 Q d):mC base X (fun v t'=>∃t0',Q v t0'/\t0'.get n=none/\t'.get n=some y/\cC n t0' t') d:=by
 obtain⟨v,t',HA',X',h1,h2,h3,h4⟩:=h
 subst hX;have hy:X' n=some y:=h3 n y Xt.put_self
 obtain⟨e1,e2,e3⟩:=h2.ext n y hy
 obtain⟨_,ho⟩:=jI (t:=t') e2 y
 have hs:(t'.set n y).get n=some y:=by rw[Tr.get_set,if_pos rfl]
 refine⟨v,t'.set n y,HA',fun b=>if b=n then none else X' b,h1,⟨h2.base,fun b hb=>?_,fun b z hb=>?_,fun b z hb=>?_⟩,fun b z hb=>?_,t',h4,e2,hs,ho⟩
 ·by_cases e:b=n
  ·subst e;rw[e1,hs]
  ·have hb:(if b=n then none else X' b)=none:=hb
   rw[if_neg e]at hb;rw[h2.same b hb,ho b e]
 ·by_cases e:b=n
  ·have hb:(if b=n then none else X' b)=some z:=hb
   rw[if_pos e]at hb;cases hb
  ·have hb:(if b=n then none else X' b)=some z:=hb
   rw[if_neg e]at hb;obtain⟨k1,k2,k3⟩:=h2.ext b z hb
   exact⟨k1,by rw[ho b e];exact k2,k3⟩
 ·by_cases e:b=n
  ·subst e;exact e3
  ·rw[ho b e]at hb;exact h2.lt b z hb
 ·show(if b=n then none else X' b)=some z
  have e:b≠n:=fun e=>by subst e;rw[hn]at hb;cases hb
  rw[if_neg e];exact h3 b z (by rw[Xt.put_ne e];exact hb)
theorem oF.hide{kf:Nat}{ν:Nat->Nat}{st:xH}{tm:Tm}(h:oF base X0 kf ν X st tm HA t)(hy:t.get n=some y)(h0:t0.get n=none)(ho:cC n t0 t):oF base (X0.put n y) kf ν (X.put n y) st tm HA t0:=by
 have hn:X n=none:=h.ov.notX hy
 refine⟨h.ov.hide hy h0 ho,fun b z hb=>?_,h.k,h.kA,h.tms,h.ads,fun d l hl=>?_,h.inj⟩
 ·by_cases e:b=n
  ·subst e;rw[Xt.put_self]at hb ⊢;exact hb
  ·rw[Xt.put_ne e]at hb ⊢;exact h.le b z hb
 ·obtain⟨g1,g2,c,g3,g4⟩:=h.lo d l hl
  have e:ν d≠n:=fun e=>by rw[e,hn]at g3;cases g3
  exact⟨by rw[Xt.put_ne e];exact g1,g2,c,by rw[Xt.put_ne e];exact g3,g4⟩
theorem Jq.frame{f i:Nat}{vals:List zA}(h:Jq C F f i vals t0 Q)(hy:t.get n=some y)(h0:t0.get n=none)(ho:cC n t0 t) :
  Jq C F f i vals t (fun v t'=>∃t0',Q v t0'/\t0'.get n=none/\t'.get n=some y/\cC n t0' t'):=by
 intro fn kf A hf d hd hi X0 X HA tm ν hs;have hn:X n=none:=hs.ov.notX hy
 refine(h fn kf A hf d hd hi _ _ HA tm ν (hs.hide hy h0 ho)).unhide rfl ?_
 cases e:X0 n with
 | none=>rfl
 | some z=>have:=hs.le n z e;rw[hn]at this;cases this
end
theorem Tr.without(t:Tr lA):∀n:Nat,∃t0:Tr lA,t0.get n=none/\cC n t0 t:=by
 induction t with
 | leaf=>exact fun n=>⟨.leaf,Tr.get_leaf n,fun _ _=>rfl⟩
 | node l v r ihl ihr=>
  intro n;by_cases h0:n=0
  ·subst h0
   refine⟨.node l none r,by rw[Tr.get_node];rfl,fun k hk=>?_⟩
   rw[Tr.get_node,Tr.get_node,if_neg hk,if_neg hk]
  ·by_cases h1:n%2=1
   ·obtain⟨l0,g1,g2⟩:=ihl (n / 2)
    refine⟨.node l0 v r,by rw[Tr.get_node,if_neg h0,if_pos h1];exact g1,fun k hk=>?_⟩
    rw[Tr.get_node,Tr.get_node];split
    ·rfl
    ·split
     ·exact g2 _ (by omega)
     ·rfl
   ·obtain⟨r0,g1,g2⟩:=ihr (n / 2-1)
    refine⟨.node l v r0,by rw[Tr.get_node,if_neg h0,if_neg h1];exact g1,fun k hk=>?_⟩
    rw[Tr.get_node,Tr.get_node];split
    ·rfl
    ·split
     ·rfl
     ·exact g2 _ (by omega)
theorem Objs.hide{base sz:Nat}{tf t:Tr lA}{A:List vD}{l:List D}{v:zA}(hl:l≠[])(h:Objs base tf t (A++[oS base sz l v])):∃n y t0,t.get n=some y/\t0.get n=none/\cC n t0 t/\Objs base tf t0 A ∧
  ∀tf' t0' t' B,dA tf tf'->Objs base tf' t0' B->t0'.get n=none->t'.get n=some y->cC n t0' t'->Objs base tf' t' (B++[oS base sz l v]):=by
 have hok:(oS base sz l v).ok tf t:=h.ok (oS base sz l v) (by simp)
 obtain⟨n,rfl,ho⟩:=nT hl hok
 obtain⟨h1,h2,cl,⟨c,h3,h4⟩,h5,h6⟩:=ho
 obtain⟨t0,k1,k2⟩:=Tr.without t n
 have hd:Objs base tf t A:=by have:=Objs.drop h;rwa [ybe]at this
 have hnA:n∉A.flatMap vD.blks:=by
  have:=Objs.notin (B:=[]) (o:=oS base sz l (.slice n 0 l.length l.length)) (k:=n) h (by simp[oS,hl,mD])
  rwa [ybe]at this
 have tle:dA tf t0:=fun k z hk=>by
  have e:k≠n:=fun e=>by subst e;rw[h2]at hk;cases hk
  rw[<- k2 k e];exact h.tle _ _ hk
 refine⟨n,_,t0,h3,k1,k2,hd.keep (dA.refl _) tle fun k hk=>⟨(k2 k fun e=>hnA (e ▸ hk)).symm,(hd.low k hk).2⟩,?_⟩
 intro tf' t0' t' B hf hB g1 g2 g3;have hB':Objs base tf' t0' (B++[]):=by rw[ybe];exact hB
 have hfn:tf'.get n=none:=hB.tfn g1
 refine Objs.add (o':=oS base sz l (.slice n 0 l.length l.length)) hB' (fun k hk=>g3 k fun e=>hk (by simp[oS,hl,mD,e])) (fun k hk=>?_) ?_ (by simp[oS,hl,mD]) ?_
 ·have:k=n:=by simpa[oS,hl,mD]using hk
  subst this;exact⟨g1,h1⟩
 ·exact zfy hl ⟨h1,hfn,cl,⟨c,by rw[g2],h4⟩,h5,fC.mono hf _ _ h6⟩
 ·intro k z hk
  have e:k≠n:=fun e=>by subst e;rw[hfn]at hk;cases hk
  rw[g3 k e];exact hB.tle _ _ hk
end Go.Am
namespace Go.Proofs
open Go Go.Am
variable [aC]
variable {t tf:Tr lA}
section
variable {L:List vD}{p:yH}{a c:zA}
theorem z0g{cs:List zA}{Q:bB}(hp:p.fit)(hb:tK p=true)(hrd:RD tf p.d cs)(h:Objs yA.base tf t L)
  (hQ:∀tf' t' a' b' c',dA tf tf'->Objs yA.base tf' t' (oS yA.base 24 ((p.clauses.map gG).map kC.d) c'::L)->oA tf' 3 (p.defs.map lJ.d) a'->oA tf' 3 (p.tables.map yF.d) b'->Q (.agg [.str p.name,a',b',c']) t'):Wc yA F 51 [.agg cs] t Q:=by
 obtain⟨a,b,c,rfl,ha,hbb,hc⟩:=zb7 hrd
 have hb':=hb
 unfold tK at hb';simp only[yac,decide_eq_true_eq]at hb'
 obtain⟨⟨⟨⟨hb1,hb2⟩,hb3⟩,hb4⟩,hb5⟩:=hb'
 refine w51 _ _ _ _ ?_
 simp only[t51,pA,q99];refine z5q ha h (by rw[yag];omega) fun tf1 t1 va k1 k2=>?_
 obtain⟨tf2,m1,m2,m3⟩:=Objs.freezeS (A:=[]) k2
 have hone:iB zA.one [va]=true:=by rw[iF];simp only[ybh,ybl,m3.one];rfl
 rw[if_pos hone,q100];refine z0d (hbb.mono (k1.trans m1)) m2 (by rw[yag];omega) fun tf3 t3 vt n1 n2=>?_
 have hsl:oA t3 3 _ vt:=iQ (A:=[]) n2
 have hone2:iB zA.one [vt]=true:=by rw[iF];simp only[ybh,ybl,hsl.one];rfl
 rw[if_pos hone2,hsl.len,xA,yag,zB,xA];refine zln hp hb m3.one p.tables.length 0 t3 tf3 (by omega) n2 (hc.mono (k1.trans (m1.trans n1))) fun tf4 t4 vc q1 q2=>?_
 obtain⟨tf5,r1,r2,r3⟩:=Objs.freezeS (A:=[oS yA.base 24 ((p.clauses.map gG).map kC.d) vc]) q2
 exact hQ tf5 t4 va vt vc (k1.trans (m1.trans (n1.trans (q1.trans r1)))) r2 (m3.mono (n1.trans (q1.trans r1))) r3
end
theorem zlf{p:yH}{cs:List zA}{Q:bB}(hp:p.fit)(hne:p.clauses≠[])(ht:dA tf t)(hg:bI tf)(hrd:RD tf p.d cs)
  (h0:tK p=false->Q (.tup [.agg z2q,.int .i64 2]) t)
  (h1:tK p=true->∀tf' t' a b c vn vc vw vt,dA tf tf'->Objs yA.base tf' t' [wB yA.base 6 ((nG p).1.consts.map xB.d) vc,wB yA.base 1 ((nG p).2.map fun q=>sC q.1) vw,wB yA.base 1 ((nG p).2.map fun q=>sC q.2) vt,oS yA.base 24 ((p.clauses.map gG).map kC.d) c] →
   oA tf' 3 (p.defs.map lJ.d) a->oA tf' 3 (p.tables.map yF.d) b->oA tf' 1 ((nG p).1.names.map D.str) vn->Q (.tup [.agg [.str p.name,a,b,c,vn,vc,vw,vt],.int .i64 0]) t'):Wc yA F 22 [.agg cs] t Q:=by
 have hbd:=ze2 hp (RD.mono ht _ _ hrd)
 obtain⟨ca,cb,cc,rfl,ha,hb,hc⟩:=zb7 hrd
 refine w22 _ _ _ _ ?_
 simp only[t22,pA,q33,hbd,xA,qD]
 cases hbp:tK p with
 | false=>
  simp only[ybm,if_true];exact h0 hbp
 | true=>
  have h1:=h1 hbp
  simp only[Bool.not_true,yar,if_false];rw[q51];refine z0g hp hbp hrd (zyw ht) fun tf1 t1 a b c k1 k2 k3 k4=>?_
  have hcr:oA t1 24 _ c:=iQ (A:=[]) k2
  have hz:mG [(.str []),.nilslice,.nilslice,.nilslice] (.agg [.str p.name,a,b,c])=some (cellsOf [.str p.name,a,b,c]):=cK (by
   show(true&&(pG .nilslice a&&(pG .nilslice b&&(pG .nilslice c&&true))))=true
   rw[eH k3,eH k4,eH hcr];rfl)
  rw[hz,xA];simp only[cellsOf,bF,kE,yaa,yab,if_true];intro m1 hm1 hb1;have e1:wU ⟨m1,t1⟩=some (.map m1,⟨m1+1,t1.set m1 (.map [])⟩):=rfl
  have o1:Objs yA.base tf1 (t1.set m1 (.map [])) ([]++jE m1 (iE 0 [])::[oS yA.base 24 ((p.clauses.map gG).map kC.d) c]):=
   Objs.add (A:=[]) (B:=[oS yA.base 24 ((p.clauses.map gG).map kC.d) c]) (o':=jE m1 (iE 0 [])) k2 (fun k hk=>(jI hm1 _).2 k (fun e=>hk (by simp[jE,e]))) (fun k hk=>by
    have:k=m1:=by simpa[jE]using hk
    subst this;exact⟨hm1,hb1⟩) (by show(t1.set m1 _).get m1=_;rw[Tr.get_set,if_pos rfl];rfl) (by simp[jE]) (k2.tle.trans (jI hm1 _).1)
  rw[e1,xA];intro m2 hm2 hb2;have e2:wU ⟨m2,t1.set m1 (.map [])⟩=some (.map m2,⟨m2+1,(t1.set m1 (.map [])).set m2 (.map [])⟩):=rfl
  have o2:Objs yA.base tf1 ((t1.set m1 (.map [])).set m2 (.map [])) ([jE m1 (iE 0 [])]++jE m2 (iE 0 [])::[oS yA.base 24 ((p.clauses.map gG).map kC.d) c]):=
   Objs.add (A:=[jE m1 (iE 0 [])]) (B:=[oS yA.base 24 ((p.clauses.map gG).map kC.d) c]) (o':=jE m2 (iE 0 [])) o1 (fun k hk=>(jI hm2 _).2 k (fun e=>hk (by simp[jE,e]))) (fun k hk=>by
    have:k=m2:=by simpa[jE]using hk
    subst this;exact⟨hm2,hb2⟩) (by show((t1.set m1 _).set m2 _).get m2=_;rw[Tr.get_set,if_pos rfl];rfl) (by simp[jE]) (o1.tle.trans (jI hm2 _).1)
  rw[e2,xA];have hone2:iB zA.one [.map m1,.map m2]=true:=rfl
  rw[if_pos hone2];intro nb hnb hbb;obtain⟨t3,f1,f2,f3,f4⟩:=zwi (v:=.agg [.str p.name,a,b,c,.nilslice,.nilslice,.nilslice,.nilslice,.map m1,.map m2,.nilslice]) hnb
  have o3:Objs yA.base tf1 t3 ([]++bD nb none [.str p.name,a,b,c,.nilslice,.nilslice,.nilslice,.nilslice,.map m1,.map m2,.nilslice]::[jE m1 (iE 0 []),jE m2 (iE 0 []),oS yA.base 24 ((p.clauses.map gG).map kC.d) c]):=
   Objs.add (A:=[]) (o':=bD nb none [.str p.name,a,b,c,.nilslice,.nilslice,.nilslice,.nilslice,.map m1,.map m2,.nilslice]) o2 (fun k hk=>f4 k (fun e=>hk (by simp[bD,e]))) (fun k hk=>by
    have:k=nb:=by simpa[bD]using hk
    subst this;exact⟨hnb,hbb⟩) f2 (by simp[bD]) (o2.tle.trans f3)
  have hnel:(p.clauses.map gG).map kC.d≠[]:=by
   intro e;exact hne (List.map_eq_nil_iff.1 (List.map_eq_nil_iff.1 e))
  obtain⟨n,y,t0,y1,y2,y3,y4,back⟩:=Objs.hide (A:=[bD nb none [.str p.name,a,b,c,.nilslice,.nilslice,.nilslice,.nilslice,.map m1,.map m2,.nilslice],jE m1 (iE 0 []),jE m2 (iE 0 [])]) hnel o3
  have addL:∀ {A:List vD} {sz:Nat},Objs yA.base tf1 t0 A->Objs yA.base tf1 t0 (A++[wB yA.base sz [] .nilslice]):=fun {A sz} h=>by
   have h':Objs yA.base tf1 t0 (A++[]):=by rw[ybe];exact h
   exact Objs.add (o':=wB yA.base sz ([]:List D) .nilslice) h' (fun _ _=>rfl) (fun k hk=>by simp[wB,mD]at hk) (.inl ⟨rfl,rfl⟩) (by simp[wB,mD]) h'.tle
  have o4:TW tf1 t0 ⟨nb,[.str p.name,a,b,c],.nilslice,.nilslice,.nilslice,.nilslice,.nilslice,m1,m2⟩ ⟨[],[],[],[],[]⟩:=⟨rfl,addL (sz:=1) (addL (sz:=1) (addL (sz:=6) (addL (sz:=1) y4)))⟩
  have hbp':=hbp
  unfold tK at hbp';simp only[yac,decide_eq_true_eq]at hbp'
  obtain⟨⟨⟨⟨hb1',hb2'⟩,hb3'⟩,hb4'⟩,hb5'⟩:=hbp'
  have hbc:∀x∈p.clauses,uN x=true:=fun x hx=>ybc.1 hb4' x hx
  have hpc:=zb8 p.clauses hbc
  rw[f1,xA,hc.len,xA,yag,zB,xA];have fr:=Jq.frame (Q:=fun v t0'=>∃tf5 r5,dA tf1 tf5/\r5.pl=[.str p.name,a,b,c]/\TW tf5 t0' r5 ⟨(nG p).1.names,(nG p).1.consts,(nG p).2.map (fun(q:List XIns × List XIns)=>sC q.1),(nG p).2.map (fun(q:List XIns × List XIns)=>sC q.2),[]⟩/\v=.tup [.agg [.str p.name,a,b,c,r5.vn,r5.vc,r5.vw,r5.vt],.int .i64 0])
   (zwa hb2' hp.clauses hbc p.clauses 0 t0 tf1 ⟨nb,[.str p.name,a,b,c],.nilslice,.nilslice,.nilslice,.nilslice,.nilslice,m1,m2⟩ ⟨[],[],[],[],[]⟩ (ybs) o4 (hg.mono k1) (hc.mono k1) (by simp;omega) (by simp;omega) (by simp;omega) (by simp;omega) (fun tf5 t5 r5 n1 n2 n3 n4=>⟨tf5,r5,n1,n3,n4,by
    have n3':r5.pl=[.str p.name,a,b,c]:=n3
    rw[n3'];rfl⟩) ⟨_,_,_,_,rfl,k3.one,k4.one,hcr.one,eH k3,eH k4,eH hcr⟩) y1 y2 y3
  refine Jq.mono fr fun v t' hh=>?_
  obtain⟨t0',⟨tf5,r5,n1,n3,n4,ev⟩,g1,g2,g3⟩:=hh
  subst ev;have q4:=back tf5 t0' t' _ n1 n4.os g1 g2 g3
  have q5:Objs yA.base tf5 t' ([]++wB yA.base 1 ((nG p).1.names.map D.str) r5.vn::[wB yA.base 6 ((nG p).1.consts.map xB.d) r5.vc,wB yA.base 1 ((nG p).2.map fun q=>sC q.1) r5.vw,wB yA.base 1 ((nG p).2.map fun q=>sC q.2) r5.vt,oS yA.base 24 ((p.clauses.map gG).map kC.d) c]):=
   Objs.drop (A:=[]) (Objs.drop (A:=[]) (Objs.drop (A:=[]) q4))
  obtain⟨tf6,x1,x2,x3⟩:=Objs.freezeL q5
  have T:dA tf1 tf6:=n1.trans x1
  exact h1 tf6 t' a b c r5.vn r5.vc r5.vw r5.vt (k1.trans T) x2 (k3.mono T) (k4.mono T) x3
end Go.Proofs
namespace Go.Am
open Go
section
variable {key:xB->List Nat}{valid:xB->Bool}
theorem zx2{x:qA}(hx:x.fit){s:Nt}{nN nC:Nat}(hN:pK key (fun _=>True) s)(hn:(lB key valid x s 0).1.names.length<=nN)(hc:(lB key valid x s 0).1.consts.length<=nC)(hd:2*zev x<=64){i:XIns}
  (hi:∀d:List Nat,d[(lB key valid x s 0).2.length]?=some 2->dF nN nC ((lB key valid x s 0).2.length+1) i (lB key valid x s 0).2.length d=none):yJ nN nC ((lB key valid x s 0).2++[i])=false:=by
 obtain⟨h1,h2⟩:=(zju (key:=key) (valid:=valid) x hx).2 s 0 nN nC ((lB key valid x s 0).2.length+1) (1::List.replicate ((lB key valid x s 0).2.length+1) 0) 0 hN
 rw[yax]at h2;obtain⟨d',g1,g2,g3,g4⟩:=h2 hn hc (by omega) (by simp) rfl (fun k a b=>by
  obtain⟨j,rfl⟩:∃j,k=j+1:=⟨k-1,by omega⟩
  rw[yab,List.getElem?_replicate,if_pos (by omega)]) (.inl (by
  obtain⟨j,hj⟩:∃j,(lB key valid x s 0).2.length=j+1:=⟨(lB key valid x s 0).2.length-1,by omega⟩
  rw[hj,yab,List.getElem?_replicate,if_pos (by omega)])) (by omega)
 have hl:((lB key valid x s 0).2++[i]).length=(lB key valid x s 0).2.length+1:=by simp
 have e:vI nN nC ((lB key valid x s 0).2.length+1) ((lB key valid x s 0).2++[i]) 0 (1::List.replicate ((lB key valid x s 0).2.length+1) 0)=none:=by
  rw[tR,g1];show(dF nN nC _ i (0+(lB key valid x s 0).2.length) d').bind _=none
  rw[yax,hi d' g3];rfl
 unfold yJ;rw[hl,e,Bool.and_false]
theorem z5w{nN nC len i:Nat}{d:List Nat}(h:d[i]?=some 2):dF nN nC len ⟨7,7,0⟩ i d=none:=by
 unfold dF;rw[h];show(if _ then none else _)=none
 split
 ·rfl
 ·rw[if_pos (.inl (by decide))]
theorem z0h{nN nC len i:Nat}{d:List Nat}(h:d[i]?=some 2):dF nN nC len ⟨9,(i:Int),0⟩ i d=none:=by
 unfold dF;rw[h];show(if _ then none else _)=none
 refine if_pos ?_
 unfold sE;simp
theorem z5v{nN nC len i:Nat}{d:List Nat}(h:d[i]?=some 2):dF nN nC len ⟨5,(nN:Int),0⟩ i d=none:=by
 unfold dF;rw[h];show(if _ then none else _)=none
 refine if_pos ?_
 unfold sE;simp
theorem zae:∀(l:List kC) (s:Nt),(∀x∈l,x.fit)->pK key (fun _=>True) s->s.names.length<=(yG key valid l s).1.names.length/\s.consts.length<=(yG key valid l s).1.consts.length ∧
  ∀q∈(yG key valid l s).2,∃x s',x∈l/\pK key (fun _=>True) s'/\q.2=(lB key valid x.then_ s' 0).2/\(lB key valid x.then_ s' 0).1.names.length<=(yG key valid l s).1.names.length/\(lB key valid x.then_ s' 0).1.consts.length<=(yG key valid l s).1.consts.length
 | [],s,_,_=>by simp[yG]
 | x::l,s,hf,hN=>by
  have hxf:=hf x (by simp)
  obtain⟨n1,r1⟩:=zg9 (key:=key) (valid:=valid) (P:=fun _=>True) trivial trivial (fun _ _ _=>trivial) x.when_ hxf.2.2.2.2.2.1 s 0 hN
  obtain⟨n2,r2⟩:=zg9 (key:=key) (valid:=valid) (P:=fun _=>True) trivial trivial (fun _ _ _=>trivial) x.then_ hxf.2.2.2.2.2.2 (lB key valid x.when_ s 0).1 0 n1
  have m1:=r1.mono
  have m2:=r2.mono
  obtain⟨a1,a2,a3⟩:=zae l (lB key valid x.then_ (lB key valid x.when_ s 0).1 0).1 (fun y hy=>hf y (by simp[hy])) n2
  simp only[yG];refine⟨by omega,by omega,fun q hq=>?_⟩
  rcases yat.1 hq with rfl | hq
  ·exact⟨x,_,by simp,n1,rfl,a1,a2⟩
  ·obtain⟨y,s',b1,b2⟩:=a3 q hq
   exact⟨y,s',by simp[b1],b2⟩
end
end Go.Am
namespace Go.Proofs
open Go Go.Am
variable [aC]
variable {t tf:Tr lA}
mutual
theorem zbz:∀(x:qA) (deep c:Nat),(mK x deep c).1=true->zev x+deep<=25
 | .mk op name v args,deep,c,h=>by
  unfold mK at h;unfold zev;split at h
  ·cases h
  ·split at h
   ·cases h
   ·have:=zai args (deep+1) (c+1) h
    omega
theorem zai:∀(l:List qA) (deep c:Nat),(lK l deep c).1=true->zcx l+deep<=25\/zcx l=0
 | [],deep,c,h=>.inr rfl
 | x::l,deep,c,h=>by
  unfold lK at h;unfold zcx;split at h
  ·rename_i e
   have h1:=zbz x deep c e
   rcases zai l deep _ h with h2 | h2
   ·left;omega
   ·left;omega
  ·cases h
end
theorem zxp{p:yH}(hp:p.fit)(hb:tK p=true){k:Nat}{q:List XIns × List XIns}(hq:(nG p).2[k]?=some q):∀i∈[(⟨7,7,0⟩:XIns),⟨9,(q.2.length:Int),0⟩,⟨5,((nG p).1.names.length:Int),0⟩],yJ (nG p).1.names.length (nG p).1.consts.length (q.2++[i])=false:=by
 have hbp':=hb
 unfold tK at hbp';simp only[yac,decide_eq_true_eq]at hbp'
 obtain⟨⟨⟨⟨hb1',hb2'⟩,hb3'⟩,hb4'⟩,hb5'⟩:=hbp'
 obtain⟨_,_,h3⟩:=zae (key:=cA) (valid:=vB) p.clauses ⟨[],[]⟩ hp.clauses ⟨by simp,by simp,fun _ _=>trivial⟩
 obtain⟨x,s,h4,h5,h6,h7,h8⟩:=h3 q (ybw hq)
 have hxb:uN x=true:=ybc.1 hb4' x h4
 unfold uN at hxb;rw[yac]at hxb;have hd:=zbz x.then_ 1 0 hxb.2
 have hf:=(hp.clauses x h4).2.2.2.2.2.2
 intro i hi;rw[h6];refine zx2 hf h5 h7 h8 (by omega) fun d hd'=>?_
 simp only[yat,List.not_mem_nil,or_false]at hi;rcases hi with rfl | rfl | rfl
 ·exact z5w hd'
 ·rw[h6];exact z0h hd'
 ·exact z5v hd'
theorem tX{p:yH}{names:List (List Nat)}{consts:List xB}{whens thens:List (List XIns)}
  (h:whens.length≠p.clauses.length\/(∃l∈thens,yJ names.length consts.length l=false)\/(∃v∈consts,vB v=false)\/∃c∈p.clauses,dL c=false):xT p names consts whens thens=false:=by
 cases hs:xT p names consts whens thens with
 | false=>rfl
 | true=>
  exfalso
  unfold xT at hs;simp only[yac,decide_eq_true_eq,ybc]at hs;obtain⟨⟨⟨⟨⟨h1,h2⟩,h3⟩,h4⟩,h5⟩,h6,h7⟩:=hs
  rcases h with h | ⟨l,hl,h⟩ | ⟨v,hv,h⟩ | ⟨c,hc,h⟩
  ·exact h h1
  ·rw[h7 l hl]at h;cases h
  ·rw[h5 v hv]at h;cases h
  ·rw[h3 c hc]at h;cases h
theorem znw{sz:Nat}:∀ {cl:List (List zA)},(∀(i:Nat) cs,cl[i]?=some cs->cs.length=sz)->∀ {j:Nat} {a:zA},cl.flatten[j]?=some a->∃i cs j',cl[i]?=some cs/\cs[j']?=some a/\j=i*sz+j'
 | [],_,j,a,h=>by simp at h
 | c::cl,hl,j,a,h=>by
  have hc:=hl 0 c rfl
  rw[List.flatten_cons]at h;by_cases hj:j<c.length
  ·rw[ybp hj]at h
   exact⟨0,c,j,rfl,h,by omega⟩
  ·rw[yaq (by omega)]at h
   obtain⟨i,cs,j',h1,h2,h3⟩:=znw (fun i cs h=>hl (i+1) cs h) h
   refine⟨i+1,cs,j',h1,h2,?_⟩
   rw[yap];omega
theorem znc{base sz:Nat}{l:List D}{v:zA}(hl:l≠[])(h:Loose base tf t sz l v):(oS base sz l v).ok tf t:=by
 rcases h with⟨_,rfl⟩ | ⟨b,cl,c,rfl,h1,h2,h3,h4,h5⟩
 ·exact absurd rfl hl
 ·have hlen:=h5.length
  have hall:∀(i:Nat) cs,cl[i]?=some cs->cs.length=sz:=fun i cs hi=>(h4 i cs hi).1
  refine zfy hl ⟨h1,h2,cl,⟨c,?_,fun j a hj=>?_⟩,hall,h5⟩
  ·rw[h3,yN hall,hlen]
  ·obtain⟨i,cs,j',g1,g2,rfl⟩:=znw hall hj
   exact(h4 i cs g1).2 j' a g2
theorem Objs.toS{base sz:Nat}{A B:List vD}{l:List D}{v:zA}(hl:l≠[])(h:Objs base tf t (A++wB base sz l v::B)):Objs base tf t (A++oS base sz l v::B):=by
 have ho:Loose base tf t sz l v:=h.ok (wB base sz l v) (by simp)
 have e:(oS base sz l v).blks=mD v:=if_neg hl
 refine Objs.upd (o:=wB base sz l v) h (fun _ _ _=>rfl) (fun k hk=>.inl (by rw[e]at hk;exact hk)) (znc hl ho) ?_ h.tle
 rw[e];unfold mD;split<;>simp
end Go.Proofs
namespace Go.Proofs
open Go Go.Am
variable [aC]
variable {t tf:Tr lA}
theorem zs1{sz:Nat}{l:List D}{v:zA}(h:oA t sz l v):v.cells=[v]:=by
 obtain⟨cl,hh,_⟩:=h
 rcases hh with⟨rfl,_⟩ | ⟨_,_,_,rfl,_⟩<;>rfl
theorem z38{p:yH}{a b c:zA}(ha:oA t 3 (p.defs.map lJ.d) a)(hb:oA t 3 (p.tables.map yF.d) b)(hc:oA t 24 (p.clauses.map kC.d) c):RD t p.d [.str p.name,a,b,c]:=by
 unfold yH.d;simp only[nI,fD,lE,rN,cI];exact⟨[[.str p.name],[a],[b],[c]],rfl,_,_,rfl,rfl,_,_,rfl,⟨a,rfl,ha⟩,_,_,rfl,⟨b,rfl,hb⟩,_,_,rfl,⟨c,rfl,hc⟩,rfl⟩
section
variable {p:yH}{names:List (List Nat)}{consts:List xB}{whens thens:List (List XIns)}{code:List XIns}{k:Nat}{p2:Int}{v10 a b c vn vc vw vt:zA}
theorem zok(ho:Objs yA.base tf t [wB yA.base 1 (thens.map sC) vt])(hk:k<thens.length)(hcode:oA tf 3 (code.map XIns.d) v10)(hcl:code.length<1000000)
  (hp:p.fit) (ha:oA tf 3 (p.defs.map lJ.d) a) (hb:oA tf 3 (p.tables.map yF.d) b) (hc:oA tf 24 (p.clauses.map kC.d) c) (hn:oA tf 1 (names.map D.str) vn) (hcs:oA tf 6 (consts.map xB.d) vc) (hw:oA tf 1 (whens.map sC) vw)
  (hg:bI tf) (hz0:∃c n,tf.get 0=some (.cells c n none)) (hsh:∀v∈consts,xB.short v) (hfit:∀v∈consts,lF.fit v.f) (hsw:∀l∈whens,l.length<1000000) (hst:∀l∈thens,l.length<1000000) (hncs:consts.length<1000000000) (hnw:whens.length<1000000000) (hnt:thens.length<1000000000)
  (hbad:xT p names consts whens (thens.set k code)=false) (hex:2<Int.tmod p2 6\/zvs names consts code=none) :
  jp 9 45 [.int .u8 p2,.int .i64 (k:Int),v10,.str p.name,a,b,c,vn,vc,vw,vt] t (fun v _=>v=.bool true):=by
 have hne:thens.map sC≠[]:=by
  intro e;have:=congrArg List.length e;simp at this;simp[this]at hk
 have o1:Objs yA.base tf t ([]++oS yA.base 1 (thens.map sC) vt::[]):=Objs.toS (A:=[]) (B:=[]) hne ho
 have hkx:thens[k]?=some thens[k]:=yae hk
 have hcells:=zs1 hcode
 obtain⟨q,g1,t1,g2,g3⟩:=Objs.storeS (A:=[]) (w:=v10) (o:=0) (S:=37) o1 (i:=k) (d:=sC thens[k]) (by simp[hkx]) sl32 (d':=sC code) zl4 (by rw[hcells];rfl) (by rw[hcells];exact yal 1) (by rw[hcells,iF];simp only[ybh,ybl,hcode.one];rfl) (fun cs hl hr=>by
  rw[hcells];unfold iI;rw[List.take_zero,List.nil_append,yau (by show cs.length<=0+1;omega),ybe]
  unfold sC;rw[cI];exact⟨v10,rfl,hcode⟩)
 have g2':∀n,cD yA 37 (.ptr q (0+k*1)) v10 ⟨n,t⟩=some (zE,⟨n,t1⟩):=g2
 obtain⟨tf2,m1,m2,m3⟩:=Objs.freezeS (A:=[]) (B:=[]) g3
 rw[<- List.map_set]at m3;have snd:∀tf3 t3,dA tf2 tf3->dA tf3 t3->zD yA F 30 [.agg [.str p.name,a,b,c,vn,vc,vw,vt]] t3=some (.bool false):=fun tf3 t3 k1 k2=>by
  have T:dA tf t3:=m1.trans (k1.trans k2)
  have:=zo1 (p:=p) (names:=names) (consts:=consts) (whens:=whens) (thens:=thens.set k code) hp (ha.mono T) (hb.mono T) (hc.mono T) (hn.mono T) (hcs.mono T) (hw.mono T) (m3.mono (k1.trans k2)) (hg.mono T) hfit (fun l hl=>by have:=hsw l hl;omega) (fun l hl=>by
   rcases List.mem_or_eq_of_mem_set hl with h | h
   ·have:=hst l h;omega
   ·subst h;omega) hncs hnw (by rw[yci];exact hnt) (z38 (ha.mono T) (hb.mono T) (hc.mono T))
  rw[hbad]at this;exact this
 refine j9_45 _ _ _ _ _ _ _ _ _ _ _ ?_
 simp only[t9_45,pA];rw[g1,xA];intro n _ _;rw[g2',xA,q28];refine zvt (L:=[]) m2 (hn.mono m1) (hcs.mono m1) (hcode.mono m1) (by omega) hsh hfit (hg.mono m1) (by obtain⟨u,w,h⟩:=hz0;exact⟨u,w,m1 _ _ h⟩) ha.one hb.one hc.one hw.one m3.one ⟨fun x tf3 t3 cs e k1 k2 k3=>?_,fun e tf3 t3 k1 k2=>?_⟩
 ·have hz:=bO k3 (qA.zs _)
  obtain⟨u1,u2,u3,rfl,h1,h2,h3⟩:=jL k3
  simp only[wC,zA.asTup,uA,dD,yaa,yab,xA,zB];rw[hz,xA];simp only[cellsOf,qF,aE,kE,bF,yaa,yab];have hone:iB zA.one [.int .u8 x.op,.str x.name,.int .u8 x.v.kind,.bool x.v.f.n.neg,u1,.bool x.v.f.d.neg,u2,.int .i64 x.v.i,u3]=true:=by
   rw[iF];simp only[ybh,ybl,h1.one,h2.one,h3.one];rfl
  refine aA hone ?_
  rw[q30,snd tf3 t3 k1 k2.tle,xA,qD,xA];refine aA rfl ?_
  rcases hex with hx | hx
  ·exact aA (jB.2 hx) trivial
  ·rw[hx]at e;cases e
 ·have hz:mG [(.int .u8 0),(.str []),(.int .u8 0),(.bool false),.nilslice,(.bool false),.nilslice,(.int .i64 0),.nilslice] (.agg iG)=some (cellsOf iG):=cK rfl
  simp only[wC,zA.asTup,uA,dD,yaa,yab,xA,zB];rw[hz,xA];refine aA rfl ?_
  rw[q30,snd tf3 t3 k1 k2.tle,xA,qD,xA];refine aA rfl ?_
  by_cases hx:2<Int.tmod p2 6
  ·exact aA (jB.2 hx) trivial
  ·exact yC (fun h=>hx (jB.1 h)) (by trivial)
end
end Go.Proofs
namespace Go.Am
open Go Go.RowKit
section
variable {t tf:Tr lA}{C:iA}
theorem zv0{T el sz b:Nat}(hT:aI C T el sz)(hb:t.get b=none):∃t',eD C T 0 [] ⟨b,t⟩=some (.slice b 0 0 0,⟨b+1,t'⟩)/\pD t' b none []/\dA t t'/\cC b t t':=by
 obtain⟨⟨y,hy1,hy2,hy3⟩,⟨z,hz1,hz2,hz3,hz4,hz5⟩⟩:=hT
 have g1:eD C T 0 [] ⟨b,t⟩=some (.slice b 0 0 0,vF ⟨b,t⟩ [] none):=by
  unfold eD;rw[hy1,uA,hy2,uA,hz1,uA];have:(Nat.blt (0*z.size) 1000000&&Nat.beq (uB z.zero) z.size)=true:=by rw[Nat.zero_mul,hz3,hz2,aB.2 rfl];rfl
  rw[this];rfl
 obtain⟨t1,k1,k2,k3,k4⟩:=mT hb ([]:List zA) none
 rw[k1]at g1;exact⟨t1,g1,k2,k3,k4⟩
theorem zjb{T el sz b n:Nat}(hT:aI C T el sz){l:List D}{x:zA}(hl:l≠[])(hx:oA tf sz l x)(hc:pD t b none [])(hlen:l.length<1000000)(ht:dA tf t)(hn:t.get n=none)(hbase:C.base<=n) :
  ∃t',kD C T T (.slice b 0 0 0) x ⟨n,t⟩=some (.slice n 0 l.length l.length,⟨n+1,t'⟩)/\Loose C.base tf t' sz l (.slice n 0 l.length l.length)/\dA t t'/\cC n t t':=by
 obtain⟨⟨y,hy1,hy2,hy3⟩,⟨z,hz1,hz2,hz3,hz4,hz5⟩⟩:=hT
 obtain⟨cl,he,hd⟩:=hx
 have hcl:=hd.length
 rcases he with⟨rfl,rfl⟩ | ⟨bx,off,cap,rfl,hcap,hblk,he'⟩
 ·exact absurd (ybd.1 hcl.symm) hl
 have he1:oG t sz (.slice bx off cl.length cap) cl:=(oG.mono ht (.inr ⟨bx,off,cap,rfl,hcap,hblk,he'⟩))
 obtain⟨hf,hlen'⟩:=he1.first (n:=n)
 have hall:=he1.len
 have hfl:uB cl.flatten=cl.length*sz:=by rw[xE];exact yN hall
 have base1:kD C T T (.slice b 0 0 0) (.slice bx off cl.length cap) ⟨n,t⟩=(bif Nat.ble (0+cl.length) 0 then fN C ⟨n,t⟩ z cl.length cl.flatten (b,0,0,0)else zN C ⟨n,t⟩ z cl.length cl.flatten (b,0,0,0)):=by
  unfold kD eL;rw[hy1,uA,uA,hy3];simp only[ybm,fE];rw[hy2,uA,hz1,uA,hlen',uA,hz2,hf,uA];rfl
 have ok:iL z 0 0 cl.length cl.flatten=true:=by
  unfold iL;have h1:Nat.blt (0+cl.length+0) 1000000000=true:=pC.2 (by omega)
  have h2:Nat.blt ((0+cl.length+0)*z.bytes) 1000000000=true:=pC.2 (by
   have:=ycc (show 0+cl.length+0<=1000000 by omega) hz4
   omega)
  have h3:Nat.blt z.bytes 1000000000=true:=pC.2 (by omega)
  have h4:(!Nat.beq z.size 0)=true:=by
   cases hq:Nat.beq z.size 0 with
   | true=>have:=aB.1 hq;omega
   | false=>rfl
  have h5:Nat.beq (uB cl.flatten) (cl.length*z.size)=true:=by rw[hfl,hz2];exact aB.2 rfl
  have h6:Nat.beq (uB z.zero) z.size=true:=by rw[hz3,hz2];exact aB.2 rfl
  rw[h1,h2,h3,h4,h5,h6];rfl
 obtain⟨cb,hcb,_⟩:=hc
 have h0:cl.length≠0:=by intro e;exact hl (ybd.1 (by omega))
 have ebl:Nat.ble (0+cl.length) 0=false:=by
  cases hq:Nat.ble (0+cl.length) 0 with
  | true=>have:=eE.1 hq;omega
  | false=>rfl
 have e2:kD C T T (.slice b 0 0 0) (.slice bx off cl.length cap) ⟨n,t⟩=some (.slice n 0 l.length l.length,vF ⟨n,t⟩ cl.flatten (some sz)):=by
  rw[base1,ebl,cond_false];unfold zN;simp only[];rw[show ∀x,(!(Nat.beq 0 1&&x))=true from fun _=>rfl,fE,ok,fE]
  unfold oD;rw[hcb,uA];simp only[lA.asCells,uA];unfold dR;simp only[Nat.zero_mul];show ob (cb.many 0 0) _=_
  rw[show cb.many 0 0=some [] from rfl,uA,fH,List.nil_append,yax,hz2,hcl]
 obtain⟨t2,m1,⟨c,m2,m2'⟩,m3,m4⟩:=mT hn cl.flatten (some sz)
 rw[m1]at e2;refine⟨t2,e2,.inr ⟨n,cl,c,rfl,hbase,?_,?_,fun i cs hi=>⟨hall i cs hi,fun j a hj=>m2' _ _ (eO hall i j cs a hi hj)⟩,hd⟩,m3,m4⟩
 ·cases hq:tf.get n with
  | none=>rfl
  | some u=>rw[ht _ _ hq]at hn;cases hn
 ·rw[m2,yN hall,hcl]
theorem Objs.addLoose{A B:List vD}{sz n:Nat}{l:List D}{t':Tr lA}(h:Objs C.base tf t (A++B))(hn:t.get n=none)(hbase:C.base<=n)(hl:Loose C.base tf t' sz l (.slice n 0 l.length l.length))(ht:dA t t')(ho:cC n t t') :
  Objs C.base tf t' (A++wB C.base sz l (.slice n 0 l.length l.length)::B):=
 Objs.add (o':=wB C.base sz l (.slice n 0 l.length l.length)) h (fun k hk=>ho k (fun e=>hk (by simp[wB,mD,e]))) (fun k hk=>by
  have:k=n:=by simpa[wB,mD]using hk
  subst this;exact⟨hn,hbase⟩) hl (by simp[wB,mD]) (h.tle.trans ht)
theorem Objs.pushL{T el sz n:Nat}(hT:aI C T el sz){A B:List vD}{l:List D}{d:D}{cs:List zA}{v x:zA}(h:Objs C.base tf t (A++wB C.base sz l v::B))(hx:oG t sz x [cs])(hd:RD tf d cs)(hone:∀a∈cs,zA.one a=true)(hl:l.length<300000)(hn:t.get n=none)(hbase:C.base<=n) :
  ∃v2 k t2,kD C T T v x ⟨n,t⟩=some (v2,⟨k,t2⟩)/\Objs C.base tf t2 (A++wB C.base sz (l++[d]) v2::B):=by
 have hv:Loose C.base tf t sz l v:=h.ok (wB C.base sz l v) (by simp)
 obtain⟨t2,c1,c2,c3,c4⟩:=rS hT (m:=[d]) hv hx (fD.2 ⟨cs,[],rfl,hd,lE.2 rfl⟩) (by intro a ha;simp at ha;exact hone a ha) (by simp) (by simp;omega) hn hbase h.tle
 refine⟨_,_,t2,c1,?_⟩
 refine Objs.upd (o:=wB C.base sz l v) h (fun k k1 k2=>c4 k ?_ (fun e=>k1 (iK.2 e))) (fun k hk=>?_) c2 (by simp[wB,mD]) c3
 ·intro e;subst e;exact k2 (by simp[wB,mD])
 ·have:k=n:=by simpa[wB,mD]using hk
  subst this;exact .inr ⟨hn,hbase⟩
end
end Go.Am
namespace Go.Proofs
open Go Go.Am
variable [aC]
variable {t tf:Tr lA}
theorem z3t{n:Int}{m:Nat}{Q:bB}(hm:0<m)(hb:m<1000000)(hQ:∀k:Nat,k<m->Q (.int .i64 (k:Int)) t):Wc yA F 26 [.int .i64 n,.int .i64 (m:Int)] t Q:=by
 have h1:n.tmod (m:Int)<m:=Int.tmod_lt_of_pos n (by omega)
 have h2 : -(m:Int)<n.tmod (m:Int):=by
  rcases Int.lt_or_le n 0 with h | h
  ·have h3:(-n).tmod (m:Int)<m:=Int.tmod_lt_of_pos (-n) (by omega)
   rw[Int.neg_tmod]at h3;omega
  ·have:=Int.tmod_nonneg (m:Int) h;omega
 have e:zqn .i64 n (m:Int)=some (.int .i64 (n.tmod (m:Int))):=by
  unfold zqn;have:wA (m:Int) 0=false:=by
   cases hq:wA (m:Int) 0 with
   | false=>rfl
   | true=>have:=(iP _ _).1 hq;omega
  rw[this,cond_false]
 refine w26 _ _ ?_
 simp only[t26,pA];refine yC (fun h=>absurd (jB.1 h) (by omega)) ?_
 rw[e,xA,zB,xA];generalize n.tmod (m:Int)=r at h1 h2
 by_cases h:r<0
 ·refine aA (jB.2 h) ?_
  rw[zC (by omega) (by omega)]
  obtain⟨k,hk⟩:∃k:Nat,r+m=(k:Int):=⟨(r+m).toNat,by omega⟩
  rw[hk];exact hQ k (by omega)
 ·refine yC (fun h'=>h (jB.1 h')) ?_
  obtain⟨k,hk⟩:∃k:Nat,r=(k:Int):=⟨r.toNat,by omega⟩
  rw[hk];exact hQ k (by omega)
def zph:qA:=.mk 0 [] ⟨0,⟨⟨false,[]⟩,⟨false,[]⟩⟩,1⟩ []
def z3x (c:kC):kC:=⟨c.name,c.label,c.from_,c.to,c.known,c.off,qI,zph⟩
theorem znz{i:Int}(h0:0<=i)(h1:i<=1):(qA.mk 0 [] ⟨0,⟨⟨false,[]⟩,⟨false,[]⟩⟩,i⟩ []).fit:=by
 unfold qA.fit;refine⟨by decide,by show 0<lD;decide,fun c hc=>(by cases hc),⟨by show(0:Nat)<256;decide,⟨⟨by show 0<lD;decide,by show 0<lD;decide⟩,fun x hx=>(by cases hx),fun x hx=>(by cases hx)⟩,by show -9223372036854775808<=i;omega,by show i<9223372036854775808;omega⟩,by show 0<lD;decide,by unfold qA.fits;trivial⟩
theorem zi8{c:kC}(h:c.fit):(gG c).fit:=⟨h.1,h.2.1,h.2.2.1,h.2.2.2.1,h.2.2.2.2.1,znz (by decide) (by decide),znz (by decide) (by decide)⟩
theorem zyo{c:kC}(h:c.fit):(z3x c).fit:=⟨h.1,h.2.1,h.2.2.1,h.2.2.2.1,h.2.2.2.2.1,znz (by decide) (by decide),znz (by decide) (by decide)⟩
theorem zyp(c:kC):dL (z3x c)=false:=by
 have:zgw zph=false:=by
  unfold zgw zK jH zph;simp[qA.v]
 unfold dL z3x;rw[this,Bool.and_false]
theorem zl0{p:yH}(hp:p.fit){cl:List kC}(hl:cl.length=p.clauses.length)(hc:∀c∈cl,c.fit):(⟨p.name,p.defs,p.tables,cl⟩:yH).fit:=⟨hp.name,hp.ndefs,hp.ntables,by show cl.length<_;rw[hl];exact hp.nclauses,hp.defs,hp.tables,hc⟩
section
variable {p:yH}{names:List (List Nat)}{consts:List xB}{whens thens:List (List XIns)}{cl:List kC}{code:List XIns}{k:Nat}{p2:Int}{v10 a b c vn vc vw vt:zA}
theorem aW(ho:Objs yA.base tf t [wB yA.base 3 (code.map XIns.d) v10,wB yA.base 6 (consts.map xB.d) vc,wB yA.base 1 (whens.map sC) vw,wB yA.base 1 (thens.map sC) vt,oS yA.base 24 (cl.map kC.d) c])(hk:k<thens.length)(hcl:code.length<1000000)
  (hp:(⟨p.name,p.defs,p.tables,cl⟩:yH).fit) (ha:oA tf 3 (p.defs.map lJ.d) a) (hb:oA tf 3 (p.tables.map yF.d) b) (hn:oA tf 1 (names.map D.str) vn)
  (hg:bI tf) (hz0:∃c n,tf.get 0=some (.cells c n none)) (hsh:∀v∈consts,xB.short v) (hfit:∀v∈consts,lF.fit v.f) (hsw:∀l∈whens,l.length<1000000) (hst:∀l∈thens,l.length<1000000) (hncs:consts.length<1000000000) (hnw:whens.length<1000000000) (hnt:thens.length<1000000000)
  (hbad:xT ⟨p.name,p.defs,p.tables,cl⟩ names consts whens (thens.set k code)=false) (hex:2<Int.tmod p2 6\/zvs names consts code=none) :
  jp 9 45 [.int .u8 p2,.int .i64 (k:Int),v10,.str p.name,a,b,c,vn,vc,vw,vt] t (fun v _=>v=.bool true):=by
 obtain⟨tf1,a1,a2,a3⟩:=Objs.freezeL (A:=[]) ho
 obtain⟨tf2,b1,b2,b3⟩:=Objs.freezeL (A:=[]) a2
 obtain⟨tf3,c1,c2,c3⟩:=Objs.freezeL (A:=[]) b2
 obtain⟨tf4,d1,d2,d3⟩:=Objs.freezeS (A:=[wB yA.base 1 (thens.map sC) vt]) c2
 have T:dA tf tf4:=a1.trans (b1.trans (c1.trans d1))
 exact zok (p:=⟨p.name,p.defs,p.tables,cl⟩) d2 hk (a3.mono (b1.trans (c1.trans d1))) hcl hp (ha.mono T) (hb.mono T) d3 (hn.mono T) (b3.mono (c1.trans d1)) (c3.mono d1) (hg.mono T) (by obtain⟨u,w,h⟩:=hz0;exact⟨u,w,T _ _ h⟩) hsh hfit hsw hst hncs hnw hnt hbad hex
end
end Go.Proofs
namespace Go.Proofs
open Go Go.Am
variable [aC]
variable {t tf:Tr lA}
theorem zn9{l:List (List XIns)}{v:zA}(h:Loose yA.base tf t 1 (l.map sC) v){i:Nat}{x:List XIns}(hx:l[i]?=some x) :
  ∃b u,yB yA 32 v (.int .i64 (i:Int))=some (.ptr b (0+i*1))/\jA yA 37 ⟨0,t⟩ (.ptr b (0+i*1))=some u/\oA tf 3 (x.map XIns.d) u:=by
 have hlt:i<l.length:=(yad.1 hx).1
 have hne:l.map sC≠[]:=by intro e;have:=congrArg List.length e;simp at this;simp[this]at hlt
 obtain⟨nb,rfl,ho⟩:=nT hne (znc hne h)
 obtain⟨cs,hl,hrd,hat⟩:=ho.cells (i:=i) (d:=sC x) (by simp[hx])
 unfold sC at hrd;rw[cI]at hrd;obtain⟨u,rfl,hu⟩:=hrd
 refine⟨nb,u,xL sl32 (by simpa using hlt),?_,hu⟩
 have:=hat.load1 (C:=yA) (j:=0) zl4 rfl rfl
 rw[yax];exact this
def z0j:xB:=⟨1,⟨⟨false,[]⟩,⟨false,[]⟩⟩,2⟩
def zbf:List zA:=[.int .u8 1,.bool false,.nilslice,.bool false,.nilslice,.int .i64 2]
theorem z4h{n:Nat}(hn:t.get n=none):∃t',eD yA 31 1 [(0,.agg zbf)] ⟨n,t⟩=some (.slice n 0 1 1,⟨n+1,t'⟩)/\oG t' 6 (.slice n 0 1 1) [zbf]/\dA t t'/\cC n t t':=
 nO (C:=yA) (T:=31) (el:=47) (sz:=6) (n:=1) (cl:=[zbf]) zxk rfl ty47 rfl rfl (by decide) rfl (fun k cs hk=>by
  match k,hk with
  | 0,hk=>simp at hk;subst hk;rfl
  | k+1,hk=>simp at hk) rfl hn
theorem z0i:vB z0j=false:=by
 unfold vB z0j;rw[if_neg (by show ¬ ((1:Nat)=2\/(1:Nat)=3);decide),if_pos rfl]
 simp
theorem mk_one{a b c:zA}(h:RD t qI.d (iC qI a b c)):RD t zph.d (iC zph a b c):=by
 obtain⟨a',b',c',e,h1,h2,h3⟩:=jL h
 unfold iC at e;injection e with e1 e;injection e with e2 e;injection e with e3 e;injection e with e4 e;injection e with e5 e;injection e with e6 e;injection e with e7 e;injection e with e8 e;injection e with e9 e
 subst e5 e7 e9
 unfold zph qA.d;rw[nI];refine⟨[[.int .u8 0],[.str []],[.int .u8 0,.bool false,a,.bool false,b,.int .i64 1],[c]],rfl,?_⟩
 rw[fD];refine⟨_,_,rfl,bK.2 rfl,?_⟩
 rw[fD];refine⟨_,_,rfl,rN.2 rfl,?_⟩
 rw[fD];refine⟨_,_,rfl,zef (x:=⟨0,⟨⟨false,[]⟩,⟨false,[]⟩⟩,1⟩) h1 h2,?_⟩
 rw[fD];refine⟨_,_,rfl,?_,lE.2 rfl⟩
 rw[cI];exact⟨c,rfl,h3⟩
theorem z24{p:yH}(hp:p.fit){q:List XIns × List XIns}(hq:q∈(nG p).2):q.2≠[]:=by
 obtain⟨_,_,h3⟩:=zae (key:=cA) (valid:=vB) p.clauses ⟨[],[]⟩ hp.clauses ⟨by simp,by simp,fun _ _=>trivial⟩
 obtain⟨x,s,h4,h5,h6,_⟩:=h3 q hq
 have:=((zju (key:=cA) (valid:=vB) x.then_ (hp.clauses x h4).2.2.2.2.2.2).2 s 0 0 0 0 [] 0 h5).1
 intro e;rw[<- h6,e]at this;simp at this
theorem zdg{p:yH}{cs:List zA}{n:Int}{d:Nat}(hp:p.fit)(hg:bI t)(hz0:∃c n,t.get 0=some (.cells c n none))(hrd:RD t p.d cs):Wc yA F 9 [.agg cs,.int .i64 n,.int .u8 (d:Int)] t (fun v _=>v=.bool true):=by
 have hs:=zx6 hp hrd
 obtain⟨ca,cb,cc,rfl,ha,hbb,hc⟩:=zb7 hrd
 have hlc:rB cc=some (.int .i64 (p.clauses.length:Int)):=by rw[hc.len,yag]
 refine w9 _ _ _ _ _ _ ?_
 simp only[t9,pA,q14,z0l,xA,qD,Bool.not_true,yar,if_false,q13,hs,zB,hlc];by_cases h2:(2000:Int)<sizeP p
 ·exact aA (jB.2 h2) (by trivial)
 refine yC (fun e=>h2 (jB.1 e)) ?_
 by_cases h3:p.clauses.length=0
 ·exact aA (nE.2 (by omega)) (by trivial)
 refine yC (oE (by omega)) ?_
 have hne:p.clauses≠[]:=fun e=>h3 (by rw[e];rfl)
 rw[q22];refine zlf hp hne (dA.refl t) hg hrd (fun _=>?_) (fun hbp tf' t' a b c vn vc vw vt k1 k2 r1 r2 r4=>?_)
 ·have hz:mG [(.str []),.nilslice,.nilslice,.nilslice,.nilslice,.nilslice,.nilslice,.nilslice] (.agg z2q)=some (cellsOf z2q):=cK rfl
  simp only[wC,zA.asTup,uA,dD,yaa,yab,xA,zB];rw[hz,xA];refine aA rfl (aA (vJ.2 (by decide)) (by trivial))
 have ew:((nG p).2.map fun q=>sC q.1)=((nG p).2.map Prod.fst).map sC:=by rw[List.map_map];rfl
 have et:((nG p).2.map fun q=>sC q.2)=((nG p).2.map Prod.snd).map sC:=by rw[List.map_map];rfl
 rw[ew,et]at k2;have lenW:((nG p).2.map Prod.fst).length=p.clauses.length:=by rw[yag];exact zc1 _ _
 have lenT:((nG p).2.map Prod.snd).length=p.clauses.length:=by rw[yag];exact zc1 _ _
 have hbp':=hbp
 unfold tK at hbp';simp only[yac,decide_eq_true_eq]at hbp'
 obtain⟨⟨⟨⟨hb1',hb2'⟩,hb3'⟩,hb4'⟩,hb5'⟩:=hbp'
 have hbc:∀x∈p.clauses,uN x=true:=fun x hx=>ybc.1 hb4' x hx
 have hpc:=zb8 p.clauses hbc
 obtain⟨l1,l2⟩:=zy6 hp
 obtain⟨s1,s2⟩:=zhb p.clauses ⟨[],[]⟩
 have s1:(nG p).1.names.length<=0+dM p.clauses:=s1
 have s2:(nG p).1.consts.length<=0+dM p.clauses:=s2
 have hgood:=zey p.clauses ⟨[],[]⟩ hp.clauses hbc
 have q2:∀ {k:Nat} {code:List XIns},((nG p).2.map Prod.snd)[k]?=some code->∃q,(nG p).2[k]?=some q/\q.2=code:=fun {k code} h=>by
  rw[yav]at h
  cases hq:(nG p).2[k]? with
  | none=>rw[hq]at h;cases h
  | some q=>rw[hq]at h;cases h;exact⟨q,rfl,rfl⟩
 obtain⟨names,consts,whens,thens,k2,r4,lenW,lenT,hbad,hge,hst,hsw,hncs,hsh,hfit⟩:∃(names:List (List Nat)) (consts:List xB) (whens thens:List (List XIns)),
   Objs yA.base tf' t' [wB yA.base 6 (consts.map xB.d) vc,wB yA.base 1 (whens.map sC) vw,wB yA.base 1 (thens.map sC) vt,oS yA.base 24 ((p.clauses.map gG).map kC.d) c]/\oA tf' 1 (names.map D.str) vn/\whens.length=p.clauses.length/\thens.length=p.clauses.length ∧
   (∀(k:Nat) (code:List XIns),thens[k]?=some code->∀i∈[(⟨7,7,0⟩:XIns),⟨9,(code.length:Int),0⟩,⟨5,(names.length:Int),0⟩],yJ names.length consts.length (code++[i])=false) ∧
   (∀code∈thens,code≠[])/\(∀l∈thens,l.length<=800)/\(∀l∈whens,l.length<=800)/\consts.length<200000/\(∀v∈consts,xB.short v)/\(∀v∈consts,lF.fit v.f):=by
  refine⟨(nG p).1.names,(nG p).1.consts,(nG p).2.map Prod.fst,(nG p).2.map Prod.snd,k2,r4,lenW,lenT,fun k code hk=>?_,fun code hm=>?_,fun l hm=>?_,fun l hm=>?_,by omega,fun v hv=>zbj (l1.all v hv).1,fun v hv=>(l1.all v hv).2.2.1⟩
  ·obtain⟨q,hq,rfl⟩:=q2 hk
   exact zxp hp hbp hq
  ·obtain⟨q,hq,rfl⟩:=List.mem_map.1 hm
   exact z24 hp hq
  ·obtain⟨q,hq,rfl⟩:=List.mem_map.1 hm
   exact(hgood q hq).2.1
  ·obtain⟨q,hq,rfl⟩:=List.mem_map.1 hm
   exact(hgood q hq).1.1
 clear ew et q2 hgood l1 l2 s1 s2
 have r3:oA t' 24 ((p.clauses.map gG).map kC.d) c:=iQ (A:=[wB yA.base 6 (consts.map xB.d) vc,wB yA.base 1 (whens.map sC) vw,wB yA.base 1 (thens.map sC) vt]) k2
 have lc0:Loose yA.base tf' t' 6 (consts.map xB.d) vc:=k2.ok (wB yA.base 6 (consts.map xB.d) vc) (by simp)
 have lw0:Loose yA.base tf' t' 1 (whens.map sC) vw:=k2.ok (wB yA.base 1 (whens.map sC) vw) (by simp)
 have lt0:Loose yA.base tf' t' 1 (thens.map sC) vt:=k2.ok (wB yA.base 1 (thens.map sC) vt) (by simp)
 have r5:=lc0.read k2.tle
 have r6:=lw0.read k2.tle
 have r7:=lt0.read k2.tle
 have hz:mG [(.str []),.nilslice,.nilslice,.nilslice,.nilslice,.nilslice,.nilslice,.nilslice] (.agg [.str p.name,a,b,c,vn,vc,vw,vt])=some (cellsOf [.str p.name,a,b,c,vn,vc,vw,vt]):=cK (by
  show(true&&(pG .nilslice a&&(pG .nilslice b&&(pG .nilslice c&&(pG .nilslice vn&&(pG .nilslice vc&&(pG .nilslice vw&&(pG .nilslice vt&&true))))))))=true
  rw[eH r1,eH r2,eH r3,eH r4,eH r5,eH r6,eH r7];rfl)
 simp only[wC,zA.asTup,uA,dD,yaa,yab,xA,zB];rw[hz,xA];simp only[cellsOf,bF,kE,yaa,yab];have hone:iB zA.one [.str p.name,a,b,c,vn,vc,vw,vt]=true:=by
  rw[iF];simp only[ybh,ybl,r1.one,r2.one,r3.one,r4.one,r5.one,r6.one,r7.one];rfl
 refine aA hone (yC (fun e=>absurd rfl (vJ.1 e)) ?_)
 have hlt:rB vt=some (.int .i64 (p.clauses.length:Int)):=by rw[r7.len,yag,lenT]
 have hln:rB vn=some (.int .i64 (names.length:Int)):=by rw[r4.len,yag]
 rw[hlt,xA,zB,xA,q26];refine z3t (by omega) (by omega) fun k hk=>?_
 rw[zB,xA];have hkx:thens[k]?=some thens[k]:=yae (by omega)
 have hcx:p.clauses[k]?=some p.clauses[k]:=yae hk
 have hcm:thens[k]∈thens:=ybk (by omega)
 have hcne:=hge _ hcm
 have hcl:=hst _ hcm
 have hb3:=hbad k _ hkx
 generalize hcode:thens[k]=code at hkx hcm hcne hcl hb3
 intro b0 hb0 hbb0;obtain⟨t1,e1,e2,e3,e4⟩:=zv0 el37 hb0
 have o1:=k2.junk hb0 e4
 have lt1:Loose yA.base tf' t1 1 (thens.map sC) vt:=o1.ok (wB yA.base 1 (thens.map sC) vt) (by simp)
 obtain⟨q,u,w1,w2,w3⟩:=zn9 lt1 hkx
 rw[e1,xA,w1,xA,w2,xA];intro n1 hn1 hb1;obtain⟨t2,f1,f2,f3,f4⟩:=zjb (C:=yA) (tf:=tf') el37 (by intro e;exact hcne (List.map_eq_nil_iff.1 e)) w3 e2 (by rw[yag];omega) o1.tle hn1 hb1
 have o2:=Objs.addLoose (A:=[]) o1 hn1 hb1 f2 f3 f4
 rw[f1,xA];have hlv:rB (.slice n1 0 (code.map XIns.d).length (code.map XIns.d).length)=some (.int .i64 (code.length:Int)):=by rw[f2.len,yag]
 generalize (zA.slice n1 0 (code.map XIns.d).length (code.map XIns.d).length)=vk at o2 hlv
 have hmod:Int.tmod (d:Int) 6=((d%6:Nat):Int):=by rw[Int.tmod_eq_emod_of_nonneg (by omega)];omega
 have bfit:=zl0 hp (cl:=p.clauses.map gG) (by simp) (fun x hx=>by
  obtain⟨y,hy,rfl⟩:=List.mem_map.1 hx
  exact zi8 (hp.clauses y hy))
 have hz1:∃c n,tf'.get 0=some (.cells c n none):=by obtain⟨u,w,h⟩:=hz0;exact⟨u,w,k1 _ _ h⟩
 have hgf:=hg.mono k1
 have hkT:k<thens.length:=by omega
 have hsw':∀l∈whens,l.length<1000000:=fun l h=>by have:=hsw l h;omega
 have hst':∀l∈thens,l.length<1000000:=fun l h=>by have:=hst l h;omega
 have fin3:∀(i:XIns) (v2:zA) (t4:Tr lA),i∈[(⟨7,7,0⟩:XIns),⟨9,(code.length:Int),0⟩,⟨5,(names.length:Int),0⟩]->Objs yA.base tf' t4 ([]++wB yA.base 3 (code.map XIns.d++[i.d]) v2::[wB yA.base 6 (consts.map xB.d) vc,wB yA.base 1 (whens.map sC) vw,wB yA.base 1 (thens.map sC) vt,oS yA.base 24 ((p.clauses.map gG).map kC.d) c]) →
   jp 9 45 [.int .u8 (d:Int),.int .i64 (k:Int),v2,.str p.name,a,b,c,vn,vc,vw,vt] t4 (fun v _=>v=.bool true):=fun i v2 t4 hi ho=>by
  have hs:=hb3 i hi
  rw[show code.map XIns.d++[i.d]=(code++[i]).map XIns.d by simp]at ho
  exact aW (p:=p) (cl:=p.clauses.map gG) (code:=code++[i]) ho hkT (by simp;omega) bfit r1 r2 r4 hgf hz1 hsh hfit hsw' hst' (by omega) (by omega) (by omega) (tX (.inr (.inl ⟨code++[i],List.mem_set hkT _,hs⟩))) (.inr (by unfold zvs;rw[if_pos hs]))
 have step:∀(i:XIns) (n2:Nat),t2.get n2=none->∃t3,eD yA 37 1 [(0,.agg [.int .u8 i.op,.int .i64 i.a,.int .i64 i.b])] ⟨n2,t2⟩=some (.slice n2 0 1 1,⟨n2+1,t3⟩)/\∀n3,t3.get n3=none->yA.base<=n3->∃v2 kk t4,kD yA 37 37 vk (.slice n2 0 1 1) ⟨n3,t3⟩=some (v2,⟨kk,t4⟩) ∧
   Objs yA.base tf' t4 ([]++wB yA.base 3 (code.map XIns.d++[i.d]) v2::[wB yA.base 6 (consts.map xB.d) vc,wB yA.base 1 (whens.map sC) vw,wB yA.base 1 (thens.map sC) vt,oS yA.base 24 ((p.clauses.map gG).map kC.d) c]):=fun i n2 hn2=>by
  obtain⟨t3,g1,g2,g3,g4⟩:=zua (t:=t2) (i:=i) hn2
  have o3:=o2.junk hn2 g4
  refine⟨t3,g1,fun n3 hn3 hb3=>?_⟩
  exact Objs.pushL (A:=[]) el37 (d:=i.d) o3 g2 (zmz.2 rfl) (fun a ha=>by
   unfold XIns.cells at ha;simp only[yat,List.not_mem_nil,or_false]at ha;rcases ha with rfl | rfl | rfl<;>rfl) (by rw[yag];omega) hn3 hb3
 by_cases h0:Int.tmod (d:Int) 6=0
 ·refine aA (nE.2 h0) (aA trivial ?_)
  intro n2 hn2 hb2;obtain⟨t3,g1,g2⟩:=step ⟨7,7,0⟩ n2 hn2
  have g1':eD yA 37 1 [(0,.agg [.int .u8 7,.int .i64 7,.int .i64 0])] ⟨n2,t2⟩=some (.slice n2 0 1 1,⟨n2+1,t3⟩):=g1
  rw[g1',xA];intro n3 hn3 hb3;obtain⟨v2,kk,t4,x1,x2⟩:=g2 n3 hn3 hb3
  rw[x1,xA];exact fin3 _ v2 t4 (by simp) x2
 refine yC (oE h0) ?_
 by_cases h1:Int.tmod (d:Int) 6=1
 ·refine aA (nE.2 h1) ?_
  rw[hlv,xA,zB,xA];refine aA trivial ?_
  intro n2 hn2 hb2;obtain⟨t3,g1,g2⟩:=step ⟨9,(code.length:Int),0⟩ n2 hn2
  have g1':eD yA 37 1 [(0,.agg [.int .u8 9,.int .i64 (code.length:Int),.int .i64 0])] ⟨n2,t2⟩=some (.slice n2 0 1 1,⟨n2+1,t3⟩):=g1
  rw[g1',xA];intro n3 hn3 hb3;obtain⟨v2,kk,t4,x1,x2⟩:=g2 n3 hn3 hb3
  rw[x1,xA];exact fin3 _ v2 t4 (by simp) x2
 refine yC (oE h1) ?_
 by_cases h2:Int.tmod (d:Int) 6=2
 ·refine aA (nE.2 h2) ?_
  rw[hln,xA,zB,xA];refine aA trivial ?_
  intro n2 hn2 hb2;obtain⟨t3,g1,g2⟩:=step ⟨5,(names.length:Int),0⟩ n2 hn2
  have g1':eD yA 37 1 [(0,.agg [.int .u8 5,.int .i64 (names.length:Int),.int .i64 0])] ⟨n2,t2⟩=some (.slice n2 0 1 1,⟨n2+1,t3⟩):=g1
  rw[g1',xA];intro n3 hn3 hb3;obtain⟨v2,kk,t4,x1,x2⟩:=g2 n3 hn3 hb3
  rw[x1,xA];exact fin3 _ v2 t4 (by simp) x2
 refine yC (oE h2) ?_
 by_cases h3':Int.tmod (d:Int) 6=3
 ·refine aA (nE.2 h3') (aA trivial ?_)
  intro n2 hn2 hb2;obtain⟨t3,g1,g2,g3,g4⟩:=z4h (t:=t2) hn2
  have g1':eD yA 31 1 [(0,(.agg [(.int .u8 1),(.bool false),.nilslice,(.bool false),.nilslice,(.int .i64 2)]))] ⟨n2,t2⟩=some (.slice n2 0 1 1,⟨n2+1,t3⟩):=g1
  have o3:=o2.junk hn2 g4
  rw[g1',xA];intro n3 hn3 hb3;obtain⟨v2,kk,t4,x1,x2⟩:=Objs.pushL (A:=[wB yA.base 3 (code.map XIns.d) vk]) el31 (d:=z0j.d) o3 g2 (zef (x:=z0j) yK yK) (fun a ha=>by
   unfold zbf at ha;simp only[yat,List.not_mem_nil,or_false]at ha;rcases ha with rfl | rfl | rfl | rfl | rfl | rfl<;>rfl) (by rw[yag];omega) hn3 hb3
  have lo:Loose yA.base tf' t4 6 (consts.map xB.d++[z0j.d]) v2:=x2.ok (wB yA.base 6 (consts.map xB.d++[z0j.d]) v2) (by simp)
  rw[x1,xA];refine aA (by rw[iF];simp only[ybh,ybl,lo.one];rfl) ?_
  rw[show consts.map xB.d++[z0j.d]=(consts++[z0j]).map xB.d by simp]at x2
  exact aW (p:=p) (cl:=p.clauses.map gG) (code:=code) x2 hkT (by omega) bfit r1 r2 r4 hgf hz1 (fun v hv=>by
   rcases List.mem_append.1 hv with h | h
   ·exact hsh v h
   ·rw[yce]at h;subst h
    exact⟨by decide,by decide⟩) (fun v hv=>by
   rcases List.mem_append.1 hv with h | h
   ·exact hfit v h
   ·rw[yce]at h;subst h
    exact⟨⟨by show 0<lD;decide,by show 0<lD;decide⟩,fun x hx=>(by cases hx),fun x hx=>(by cases hx)⟩) hsw' hst' (by simp;omega) (by omega) (by omega) (tX (.inr (.inr (.inl ⟨z0j,by simp,z0i⟩)))) (.inl (by omega))
 refine yC (oE h3') ?_
 by_cases h4:Int.tmod (d:Int) 6=4
 ·refine aA (nE.2 h4) ?_
  have lt2:Loose yA.base tf' t2 1 (thens.map sC) vt:=o2.ok (wB yA.base 1 (thens.map sC) vt) (by simp)
  have lw2:Loose yA.base tf' t2 1 (whens.map sC) vw:=o2.ok (wB yA.base 1 (whens.map sC) vw) (by simp)
  obtain⟨q',u',y1,y2,y3⟩:=zn9 lt2 hkx
  rw[w1]at y1
  cases y1
  simp only[xA];rw[y2,xA];intro n2 hn2 hb2;obtain⟨t3,g1,g2,g3,g4⟩:=zf1 (t:=t2) y3 hn2
  have o3:=o2.junk hn2 g4
  rw[g1,xA];refine aA lw2.same ?_
  intro n3 hn3 hb3;obtain⟨v2,kk,t4,x1,x2⟩:=Objs.pushL (A:=[wB yA.base 3 (code.map XIns.d) vk,wB yA.base 6 (consts.map xB.d) vc]) el32 (d:=sC code) o3 g2 (by
   unfold sC;rw[cI];exact⟨u',rfl,y3⟩) (fun a ha=>by
   rw[yce]at ha;subst ha;exact y3.one) (by rw[yag];omega) hn3 hb3
  have lo:Loose yA.base tf' t4 1 (whens.map sC++[sC code]) v2:=x2.ok (wB yA.base 1 (whens.map sC++[sC code]) v2) (by simp)
  rw[x1,xA];refine aA (by rw[iF];simp only[ybh,ybl,lo.one];rfl) ?_
  rw[show whens.map sC++[sC code]=(whens++[code]).map sC by simp]at x2
  exact aW (p:=p) (cl:=p.clauses.map gG) (code:=code) x2 hkT (by omega) bfit r1 r2 r4 hgf hz1 hsh hfit (fun l hl=>by
   rcases List.mem_append.1 hl with h | h
   ·exact hsw' l h
   ·rw[yce]at h;subst h;omega) hst' (by omega) (by simp;omega) (by omega) (tX (.inl (by simp;omega))) (.inl (by omega))
 refine yC (oE h4) ?_
 have hget:((p.clauses.map gG).map kC.d)[k]?=some (gG p.clauses[k]).d:=by rw[yav,yav,hcx];rfl
 obtain⟨qc,g1,t3,g2,g3⟩:=Objs.storeS (A:=[wB yA.base 3 (code.map XIns.d) vk,wB yA.base 6 (consts.map xB.d) vc,wB yA.base 1 (whens.map sC) vw,wB yA.base 1 (thens.map sC) vt]) (B:=[]) (w:=.int .i64 1) (o:=22) (S:=3) o2 (i:=k) hget sl24 (d':=(z3x p.clauses[k]).d) ty3 rfl (by show 22+1<=24;decide) rfl (fun cs hl hr=>by
  obtain⟨u1,u2,u3,v1,v2,v3,rfl,m1,m2⟩:=jX hr
  exact zce (x:=z3x p.clauses[k]) m1 (mk_one m2))
 have fa:cB yA 52 7 (.ptr qc (0+k*24))=some (.ptr qc (0+k*24+15)):=by
  unfold cB vO;rw[ty52,uA];rfl
 have fb:cB yA 50 2 (.ptr qc (0+k*24+15))=some (.ptr qc (0+k*24+15+2)):=by
  unfold cB vO;rw[zxj,uA];rfl
 have fc:cB yA 47 2 (.ptr qc (0+k*24+15+2))=some (.ptr qc (0+k*24+15+2+5)):=by
  unfold cB vO;rw[ty47,uA];rfl
 rw[g1,xA,fa,xA,fb,xA,fc,xA];intro n2 _ _;have g2':cD yA 3 (.ptr qc (0+k*24+15+2+5)) (.int .i64 1) ⟨n2,t2⟩=some (zE,⟨n2,t3⟩):=g2 n2
 rw[g2',xA];rw[<- List.map_set]at g3;refine aW (p:=p) (cl:=(p.clauses.map gG).set k (z3x p.clauses[k])) (code:=code) g3 hkT (by omega) (zl0 hp (by simp) fun x hx=>?_) r1 r2 r4 hgf hz1 hsh hfit hsw' hst' (by omega) (by omega) (by omega) (tX (.inr (.inr (.inr ⟨z3x p.clauses[k],List.mem_set (by simpa using hk) _,zyp _⟩)))) (.inl (by omega))
 rcases List.mem_or_eq_of_mem_set hx with h | h
 ·obtain⟨y,hy,rfl⟩:=List.mem_map.1 h
  exact zi8 (hp.clauses y hy)
 ·subst h
  exact zyo (hp.clauses _ (ybk hk))
end Go.Proofs
namespace Go.Am
open Go Go.RowKit Go.Proofs
theorem block0{w:World}(h:mI w):∃c n,(zI w).get 0=some (.cells c n none):=by
 obtain⟨t,h⟩:=h.kinds
 have hb:=(yaf.1 h).1
 have e:(zI w).get 0=some (.cells (zfx (fun j=>((zql eK).toArray[j]?).bind (zqo w.heap.size)) (zql eK).toArray.size) (zql eK).toArray.size none):=by
  unfold zI;rw[eP,if_pos (by omega),if_pos (by omega),h]
  rfl
 exact⟨_,_,e⟩
theorem wrong9{w:World}(hL:mI w){cs:Array Value}{p:yH}{n:Int}{d:Nat}(hp:p.fit)(hh:Has w.heap.size cs.toList)(hrd:RD (zI w) p.d (cs.toList.map (av w.heap.size))) :
  Calls Tryz.prog 9 #[.agg cs,.int .i64 n,.int .u8 (d:Int)] w fun e w'=>e=.returned (.bool true)/\Below w.heap.size w w':=
 zot hL 9 [.agg (cs.toList.map (av w.heap.size)),.int .i64 n,.int .u8 (d:Int)] _ (by intro _;kernel_rfl) (.cons (zyl hh) (.cons (by rw[sA]) (.single (by rw[sA]))))
  ⟨_,zdg hp (zvh hL) (block0 hL) hrd,fun v t h=>h⟩
theorem u8_nat{n:Int}(h:(Lit.int .u8 n).wf=true):∃b:Nat,n=(b:Int):=by
 simp only[Lit.wf,yac,decide_eq_true_eq]at h;have h1:IntKind.u8.min=0:=rfl
 rw[h1]at h;exact⟨n.toNat,by omega⟩
end Go.Am
