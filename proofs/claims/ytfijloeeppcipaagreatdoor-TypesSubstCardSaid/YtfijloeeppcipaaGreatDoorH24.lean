/- Sizes of plans. -/
import Derived.Test.YtfijloeeppcipaaGreatDoorH23
set_option linter.all false
noncomputable section
set_option maxRecDepth 100000
namespace Go.Proofs
open Go Go.Am
variable [sC]
variable {t:Tr rA}
def oS(x:aH)(a b c a' b' c':zA):List zA:=[.str x.name,.str x.label,.int .i64 x.from_,.int .i64 x.to,.int .i64 x.known,.bool x.off,.int .u8 x.when_.op,.str x.when_.name,.int .u8 x.when_.v.kind,.bool x.when_.v.f.n.neg,a,.bool x.when_.v.f.d.neg,b,.int .i64 x.when_.v.i,c,.int .u8 x.then_.op,.str x.then_.name,.int .u8 x.then_.v.kind,.bool x.then_.v.f.n.neg,a',.bool x.then_.v.f.d.neg,b',.int .i64 x.then_.v.i,c']
def zvf:List zA:=[(.str []),(.str []),(.int .i64 0),(.int .i64 0),(.int .i64 0),(.bool false),(.int .u8 0),(.str []),(.int .u8 0),(.bool false),.nilslice,(.bool false),.nilslice,(.int .i64 0),.nilslice,(.int .u8 0),(.str []),(.int .u8 0),(.bool false),.nilslice,(.bool false),.nilslice,(.int .i64 0),.nilslice]
def zto{x:aH}{a b c a' b' c':zA}(ha:zA.one a=true)(hb:zA.one b=true)(hc:zA.one c=true)(ha':zA.one a'=true)(hb':zA.one b'=true)(hc':zA.one c'=true):tC zA.one (oS x a b c a' b' c')=true:=by
 rw[iG];simp only[oS,ycg,yck,ha,hb,hc,ha',hb',hc'];rfl
def z1a{l:List aH}{v:zA}(hv:jA t 24 (l.map aH.d) v){i:Nat}{x:aH}(hx:l[i]?=some x) :
  ∃p off a b c a' b' c',lB yA 24 v (.int .i64 (i:Int))=some (.ptr p off)/\mA yA 56 ⟨0,t⟩ (.ptr p off)=some (.agg (oS x a b c a' b' c'))/\kK zvf (.agg (oS x a b c a' b' c'))=some (cellsOf (oS x a b c a' b' c')) ∧
   RD t x.when_.d (mF x.when_ a b c)/\RD t x.then_.d (mF x.then_ a' b' c')/\tC zA.one (oS x a b c a' b' c')=true:=by
 obtain⟨p,off,cs,g1,g2,_,_,g5⟩:=yF.at sl24 (by simp) hv (i:=i) (d:=x.d) (by simp[hx])
 have hz:=dH g5 x.zs
 obtain⟨a,b,c,a',b',c',rfl,h1,h2⟩:=zxm g5
 obtain⟨u1,u2,u3,e1,m1,m2,m3⟩:=xI h1
 obtain⟨w1,w2,w3,e2,n1,n2,n3⟩:=xI h2
 unfold mF at e1 e2
 cases e1
 cases e2
 exact⟨p,off,_,_,_,_,_,_,g1,g2,hz,h1,h2,zto m1.one m2.one m3.one n1.one n2.one n3.one⟩
def zb7:List tI->Int->Int
 | [],n=>n
 | d::l,n=>if n<=2000 then zb7 l (n+(d.name.length:Int) / 30)else n
def kR:List zmr->Int->Int
 | [],n=>n
 | r::l,n=>if n<=2000 then kR l (n+(uL r.f:Nat))else n
def jU:List wH->Int->Int
 | [],n=>n
 | x::l,n=>if n<=2000 then jU l (kR x.rows (n+(x.name.length:Int) / 30))else n
def lQ(c:aH)(n:Int):Int:=n+((c.name.length:Int) / 30+(c.label.length:Int) / 30+zJ c.when_ (2000-n))
def kQ:List aH->Int->Int
 | [],n=>n
 | c::l,n=>if n<=2000 then(if lQ c n<=2000 then kQ l (lQ c n+zJ c.then_ (2000-lQ c n))else kQ l (lQ c n))else n
def zxb(p:rE):Int:=kQ p.clauses (jU p.tables (zb7 p.defs (1+(p.name.length:Int) / 30+p.defs.length+p.tables.length+p.clauses.length)))
def z44(n:Nat):Int.tdiv (n:Int) 30=(n:Int) / 30:=Int.tdiv_eq_ediv_of_nonneg (by omega)
section
variable {p:rE}{a b c:zA}
def zjw{l:List aH}(hc:jA t 24 (l.map aH.d) c)(hn:l.length<1125899906842624)(hf:∀x∈l,x.fit):∀(m i:Nat) (n:Int),i+m=l.length->0<=n->n<1152921504606846976->jp 15 14 [.int .i64 2000,.int .i64 n,.int .i64 (i:Int),.str p.name,a,b,c] t (fun v s=>v=.int .i64 (kQ (l.drop i) n)/\s=t):=by
 intro m;induction m with
 | zero=>
  intro i n hi h0 h1;refine z7d _ _ _ _ _ _ _ ?_
  simp only[zw0,pA,hc.len,tA,qB,ybf,zD];rw[yaa (by omega),ybt (by omega)]
  (first | exact⟨rfl,rfl⟩ | exact⟨rfl,trivial⟩ | trivial)
 | succ m ih=>
  intro i n hi h0 h1;have hlt:i<l.length:=by omega
  obtain⟨q,off,u1,u2,u3,w1,w2,w3,g1,g2,g3,g4,g5,g6⟩:=z1a hc (ybd hlt)
  have hfit:=hf _ (ycj hlt)
  obtain⟨f1,f2,_,_,_,f6,f7⟩:=hfit
  unfold lD at f1 f2;have ok1:=qA.fit_ok f6
  have ok2:=qA.fit_ok f7
  refine z7d _ _ _ _ _ _ _ ?_
  simp only[zw0,pA,hc.len,tA,qB,ybf,zD,yG];rw[yab (by omega),ybl hlt]
  unfold kQ;by_cases h2:n<=2000
  ·rw[yab h2,yab h2]
   unfold zvf at g3;rw[g1,tA,g2,tA,g3,tA];unfold oS at g6;simp only[oS,cellsOf,zzt,z2u,wR,zji,yaz,yba];have s1:=oX l[i].when_ (2000-n) ok1
   have e1:=pv37 l[i].when_ (2000-n) _ ok1 (by omega) (by omega) g4
   unfold mF at e1;have ew:lQ l[i] n=n+((l[i].name.length:Int) / 30+(l[i].label.length:Int) / 30+zJ l[i].when_ (2000-n)):=rfl
   have eN:wA .i64 (n+wA .i64 (wA .i64 (wA .i64 ((l[i].name.length:Int) / 30)+wA .i64 ((l[i].label.length:Int) / 30))+zJ l[i].when_ (2000-n)))=lQ l[i] n:=by
    rw[wrap_i64 (n:=(l[i].name.length:Int) / 30) (by omega) (by omega),wrap_i64 (n:=(l[i].label.length:Int) / 30) (by omega) (by omega),wrap_i64 (n:=(l[i].name.length:Int) / 30+(l[i].label.length:Int) / 30) (by omega) (by omega),
     wrap_i64 (n:=(l[i].name.length:Int) / 30+(l[i].label.length:Int) / 30+zJ l[i].when_ (2000-n)) (by omega) (by omega),wrap_i64 (by omega) (by omega)]
    rfl
   have bw:0<=lQ l[i] n/\lQ l[i] n<1152921504606846976:=by rw[ew];omega
   refine zL g6 ?_
   rw[wrap_i64 (n:=2000-n) (by omega) (by omega),q22,e1,tA,qB,tA]
   simp only[zhv,wW,if_true,oL,z44,eN,yG];have ei:wA .i64 ((i:Int)+1)=((i+1:Nat):Int):=by rw[wrap_i64 (by omega) (by omega)];omega
   generalize lQ l[i] n=k at *
   by_cases h3:k<=2000
   ·rw[yab h3,yab h3]
    have s2:=oX l[i].then_ (2000-k) ok2
    have e2:=pv37 l[i].then_ (2000-k) _ ok2 (by omega) (by omega) g5
    unfold mF at e2;rw[wrap_i64 (n:=2000-k) (by omega) (by omega),q22,e2,tA,qB,tA,ei,wrap_i64 (by omega) (by omega)]
    exact ih (i+1) _ (by omega) (by omega) (by omega)
   ·rw[yaa h3,yaa h3,ei]
    exact ih (i+1) _ (by omega) bw.1 bw.2
  ·rw[yaa h2,yaa h2]
   (first | exact⟨rfl,rfl⟩ | exact⟨rfl,trivial⟩ | trivial)
def zbk:∀(l:List zmr) (n:Int),(∀r∈l,r.fit)->0<=n->0<=kR l n/\kR l n<=max n 4503599627372496
 | [],n,_,h=>by unfold kR;omega
 | r::l,n,hf,h=>by
  unfold kR;split
  ·have:=yW (hf r (by simp)).2.2.2.1
   have:=zbk l (n+(uL r.f:Nat)) (fun x hx=>hf x (by simp[hx])) (by omega)
   omega
  ·omega
def zej{l:List wH}(hb:jA t 3 (l.map wH.d) b){i:Nat}(hi:i<l.length):∃p o v,lB yA 23 b (.int .i64 (i:Int))=some (.ptr p o)/\sB yA 81 0 (.ptr p o)=some (.ptr p (o+0))/\sB yA 81 2 (.ptr p o)=some (.ptr p (o+2))/\mA yA 9 ⟨0,t⟩ (.ptr p (o+0))=some (.str l[i].name)/\mA yA 79 ⟨0,t⟩ (.ptr p (o+2))=some v/\jA t 7 (l[i].rows.map zmr.d) v:=by
 obtain⟨p,o,cs,g1,g2,g3,_,g5⟩:=yF.at sl23 (by simp) hb (i:=i) (d:=l[i].d) (by simp[ybd hi])
 obtain⟨v,rfl,hv⟩:=zqm g5
 exact⟨p,o,v,g1,by kernel_rfl,by kernel_rfl,g3.load1 ty9 rfl rfl,g3.load1 ty79 rfl rfl,hv⟩
def zw9{l:List wH}(hb:jA t 3 (l.map wH.d) b)(hf:∀x∈l,x.fit){i:Nat}(hi:i<l.length)(hil:i<1125899906842624){Q:bB}:∀(m j:Nat) (n:Int),j+m=l[i].rows.length->0<=n->n<1152921504606846976 →
  jp 15 6 [.int .i64 2000,.int .i64 (kR (l[i].rows.drop j) n),.int .i64 ((i+1:Nat):Int),.str p.name,a,b,c] t Q->jp 15 10 [.int .i64 2000,.int .i64 n,.int .i64 (i:Int),.int .i64 (j:Int),.str p.name,a,b,c] t Q:=by
 obtain⟨q,o,v,g1,g2,g3,g4,g5,g6⟩:=zej hb hi
 have hfit:=hf _ (ycj hi)
 obtain⟨f1,f2,f3⟩:=hfit
 unfold lD at f1 f2;have ei:wA .i64 ((i:Int)+1)=((i+1:Nat):Int):=by rw[wrap_i64 (by omega) (by omega)];omega
 intro m;induction m with
 | zero=>
  intro j n hj h0 h1 hQ;rw[ybt (by omega)]at hQ
  refine z7e _ _ _ _ _ _ _ _ ?_
  simp only[zw1,pA];rw[g1,tA,g3,tA,g5,tA,g6.len,tA,ybf,qB,tA];simp only[zD];rw[yaa (by omega),ei]
  exact hQ
 | succ m ih=>
  intro j n hj h0 h1 hQ;have hlt:j<l[i].rows.length:=by omega
  rw[ybl hlt]at hQ;unfold kR at hQ;refine z7e _ _ _ _ _ _ _ _ ?_
  simp only[zw1,pA];rw[g1,tA,g3,tA,g5,tA,g6.len,tA,ybf,qB,tA];simp only[zD,yG];rw[yab (by omega)]
  by_cases h2:n<=2000
  ·rw[yab h2]at hQ ⊢
   obtain⟨q',o',cs,k1,k2,k3,_,k5⟩:=yF.at sl79 (by simp) g6 (i:=j) (d:=l[i].rows[j].d) (by simp[ybd hlt])
   obtain⟨x,y,rfl,hx,hy⟩:=rd_row k5
   have fa:sB yA 84 3 (.ptr q' o')=some (.ptr q' (o'+3)):=by kernel_rfl
   have ld:mA yA 31 ⟨0,t⟩ (.ptr q' (o'+3))=some (.agg [.bool l[i].rows[j].f.n.neg,x,.bool l[i].rows[j].f.d.neg,y]):=k3.load (j:=3) ty31 rfl rfl (by exact(by decide:3+4<=7))
   have fr:(l[i].rows[j]).fit:=f3 _ (ycj hlt)
   have hz:kK [(.bool false),.nilslice,(.bool false),.nilslice] (.agg [.bool l[i].rows[j].f.n.neg,x,.bool l[i].rows[j].f.d.neg,y])=some (cellsOf [.bool l[i].rows[j].f.n.neg,x,.bool l[i].rows[j].f.d.neg,y]):=sQ (by
    show(true&&(zve .nilslice x&&(true&&(zve .nilslice y&&true))))=true
    rw[qV hx,qV hy];rfl)
   have e1:=pv36 hx hy fr.2.2.2.1
   have hs:=yW fr.2.2.2.1
   have ej:wA .i64 ((j:Int)+1)=((j+1:Nat):Int):=by rw[wrap_i64 (by omega) (by omega)];omega
   simp only[tA,g3,g5];rw[k1,tA,fa,tA,ld,tA,hz,tA];simp only[cellsOf,wR,zji,yaz,yba];rw[q32,e1,tA,qB,tA,ej,wrap_i64 (by omega) (by omega)]
   exact ih (j+1) _ (by omega) (by omega) (by omega) hQ
  ·rw[yaa h2]at hQ ⊢
   rw[ei];exact hQ
def znh(hb:jA t 3 (p.tables.map wH.d) b)(hc:jA t 24 (p.clauses.map aH.d) c)(hp:p.fit):∀(m i:Nat) (n:Int),i+m=p.tables.length->0<=n->n<1152921504606846976->jp 15 6 [.int .i64 2000,.int .i64 n,.int .i64 (i:Int),.str p.name,a,b,c] t (fun v s=>v=.int .i64 (kQ p.clauses (jU (p.tables.drop i) n))/\s=t):=by
 have hnt:=hp.ntables
 have hnc:=hp.nclauses
 unfold lD at hnt hnc;have aE:∀n:Int,0<=n->n<1152921504606846976->jp 15 14 [.int .i64 2000,.int .i64 n,.int .i64 0,.str p.name,a,b,c] t (fun v s=>v=.int .i64 (kQ p.clauses n)/\s=t):=by
  intro n h0 h1;have:=zjw (p:=p) (a:=a) (b:=b) hc hnc hp.clauses p.clauses.length 0 n (by omega) h0 h1
  rw[ycr]at this;exact this
 intro m;induction m with
 | zero=>
  intro i n hi h0 h1;refine j15_6 _ _ _ _ _ _ _ ?_
  simp only[z8f,pA,hb.len,tA,qB,ybf,zD];rw[yaa (by omega),ybt (by omega)]
  exact aE n h0 h1
 | succ m ih=>
  intro i n hi h0 h1;have hlt:i<p.tables.length:=by omega
  obtain⟨q,o,v,g1,g2,g3,g4,g5,g6⟩:=zej hb hlt
  have hfit:=hp.tables _ (ycj hlt)
  obtain⟨f1,f2,f3⟩:=hfit
  unfold lD at f1;refine j15_6 _ _ _ _ _ _ _ ?_
  simp only[z8f,pA,hb.len,tA,qB,ybf,zD,yG];rw[yab (by omega),ybl hlt]
  unfold jU;by_cases h2:n<=2000
  ·rw[yab h2,yab h2,g1,tA,g2,tA,g4,tA,zl8,tA,oL,z44,wrap_i64 (n:=(p.tables[i].name.length:Int) / 30) (by omega) (by omega),wrap_i64 (by omega) (by omega)]
   have hr:=zbk p.tables[i].rows (n+(p.tables[i].name.length:Int) / 30) f3 (by omega)
   refine zw9 (p:=p) (a:=a) (c:=c) hb hp.tables hlt (by omega) p.tables[i].rows.length 0 _ (by omega) (by omega) (by omega) ?_
   rw[ycr];exact ih (i+1) _ (by omega) (by omega) (by omega)
  ·rw[yaa h2,yaa h2]
   exact aE n h0 h1
def zxa(ha:jA t 3 (p.defs.map tI.d) a)(hb:jA t 3 (p.tables.map wH.d) b)(hc:jA t 24 (p.clauses.map aH.d) c)(hp:p.fit):∀(m i:Nat) (n:Int),i+m=p.defs.length->0<=n->n<1152921504606846976->jp 15 2 [.int .i64 2000,.int .i64 n,.int .i64 (i:Int),.str p.name,a,b,c] t (fun v s=>v=.int .i64 (kQ p.clauses (jU p.tables (zb7 (p.defs.drop i) n)))/\s=t):=by
 have hnd:=hp.ndefs
 unfold lD at hnd;have aE:∀n:Int,0<=n->n<1152921504606846976->jp 15 6 [.int .i64 2000,.int .i64 n,.int .i64 0,.str p.name,a,b,c] t (fun v s=>v=.int .i64 (kQ p.clauses (jU p.tables n))/\s=t):=by
  intro n h0 h1;have:=znh (a:=a) hb hc hp p.tables.length 0 n (by omega) h0 h1
  rw[ycr]at this;exact this
 intro m;induction m with
 | zero=>
  intro i n hi h0 h1;refine j15_2 _ _ _ _ _ _ _ ?_
  simp only[z8g,pA,ha.len,tA,qB,ybf,zD];rw[yaa (by omega),ybt (by omega)]
  exact aE n h0 h1
 | succ m ih=>
  intro i n hi h0 h1;have hlt:i<p.defs.length:=by omega
  obtain⟨q,o,cs,g1,g2,g3,_,g5⟩:=yF.at sl22 (by simp) ha (i:=i) (d:=p.defs[i].d) (by simp[ybd hlt])
  have g5:=z6o g5
  subst g5;have fa:sB yA 59 0 (.ptr q o)=some (.ptr q (o+0)):=by kernel_rfl
  have ld:mA yA 9 ⟨0,t⟩ (.ptr q (o+0))=some (.str p.defs[i].name):=g3.load1 ty9 rfl rfl
  have hfit:=hp.defs _ (ycj hlt)
  have f1:=hfit.1
  unfold lD at f1;have ei:wA .i64 ((i:Int)+1)=((i+1:Nat):Int):=by rw[wrap_i64 (by omega) (by omega)];omega
  refine j15_2 _ _ _ _ _ _ _ ?_
  simp only[z8g,pA,ha.len,tA,qB,ybf,zD,yG];rw[yab (by omega),ybl hlt]
  unfold zb7;by_cases h2:n<=2000
  ·rw[yab h2,yab h2,g1,tA,fa,tA,ld,tA,zl8,tA,oL,z44,ei,wrap_i64 (n:=(p.defs[i].name.length:Int) / 30) (by omega) (by omega),wrap_i64 (by omega) (by omega)]
   exact ih (i+1) _ (by omega) (by omega) (by omega)
  ·rw[yaa h2,yaa h2]
   exact aE n h0 h1
def z21{cs:List zA}(hp:p.fit)(h:RD t p.d cs):xC yA F 15 [.agg cs,.int .i64 2000] t=some (.int .i64 (zxb p)):=by
 obtain⟨a,b,c,rfl,ha,hb,hc⟩:=fR h
 have p1:=hp.name
 have p2:=hp.ndefs
 have p3:=hp.ntables
 have p4:=hp.nclauses
 unfold lD at p1 p2 p3 p4;refine bC.2 (w15 _ _ _ _ _ ?_)
 simp only[t15,pA,ha.len,hb.len,hc.len,tA,qB,ybf,oL,z44];rw[wrap_i64 (n:=(p.name.length:Int) / 30) (by omega) (by omega),wrap_i64 (n:=1+(p.name.length:Int) / 30) (by omega) (by omega),wrap_i64 (n:=1+(p.name.length:Int) / 30+(p.defs.length:Int)) (by omega) (by omega),wrap_i64 (n:=1+(p.name.length:Int) / 30+(p.defs.length:Int)+(p.tables.length:Int)) (by omega) (by omega),wrap_i64 (by omega) (by omega)]
 have:=zxa ha hb hc hp p.defs.length 0 (1+(p.name.length:Int) / 30+p.defs.length+p.tables.length+p.clauses.length) (by omega) (by omega) (by omega)
 rw[ycr]at this;exact this
end
end Go.Proofs
namespace Go.Proofs
open Go Go.Am
section
variable [sC]
variable {t tf:Tr rA}
def mW{w:bH}{u:zA}(hu:jA t 1 (fD w.limbs) u):RD t w.d [.bool w.neg,u]:=by
 unfold bH.d;rw[sI];refine⟨[[.bool w.neg],[u]],rfl,?_⟩
 simp only[xF,mH,dS,xK];exact⟨_,_,rfl,rfl,_,_,rfl,⟨u,rfl,hu⟩,rfl⟩
def zn9{f:qE}{u v:zA}(hu:jA t 1 (fD f.n.limbs) u)(hv:jA t 1 (fD f.d.limbs) v):RD t f.dd [.bool f.n.neg,u,.bool f.d.neg,v]:=by
 unfold qE.dd;rw[sI];refine⟨[[.bool f.n.neg,u],[.bool f.d.neg,v]],rfl,?_⟩
 rw[xF];refine⟨_,_,rfl,mW hu,?_⟩
 rw[xF];exact⟨_,_,rfl,mW hv,mH.2 rfl⟩
def zq6{x:sF}{u v:zA}(hu:jA t 1 (fD x.f.n.limbs) u)(hv:jA t 1 (fD x.f.d.limbs) v):RD t x.d [.int .u8 x.kind,.bool x.f.n.neg,u,.bool x.f.d.neg,v,.int .i64 x.i]:=by
 unfold sF.d;rw[sI];refine⟨[[.int .u8 x.kind],[.bool x.f.n.neg,u,.bool x.f.d.neg,v],[.int .i64 x.i]],rfl,?_⟩
 rw[xF];refine⟨_,_,rfl,tP.2 rfl,?_⟩
 rw[xF];refine⟨_,_,rfl,zn9 hu hv,?_⟩
 rw[xF];exact⟨_,_,rfl,tP.2 rfl,mH.2 rfl⟩
def el27:zpr yA 27 202 1:=⟨⟨_,ty27,rfl,rfl⟩,⟨_,zm5,rfl,rfl,by decide,by decide⟩,fun y h=>by rw[zm5]at h;cases h;rfl⟩
def z81{op:Nat}{name:List Nat}{v:sF}{args:List qA}{a b c:zA}(ha:jA t 1 (fD v.f.n.limbs) a)(hb:jA t 1 (fD v.f.d.limbs) b)(hc:jA t 9 (args.map qA.d) c):RD t (qA.mk op name v args).d (mF (.mk op name v args) a b c):=by
 unfold qA.d mF;rw[sI,qA.ds_eq];refine⟨[[.int .u8 op],[.str name],[.int .u8 v.kind,.bool v.f.n.neg,a,.bool v.f.d.neg,b,.int .i64 v.i],[c]],rfl,?_⟩
 rw[xF];refine⟨_,_,rfl,rfl,?_⟩
 rw[xF];refine⟨_,_,rfl,rfl,?_⟩
 rw[xF];refine⟨_,_,rfl,zq6 ha hb,?_⟩
 rw[xF];exact⟨_,_,rfl,xK.2 ⟨_,rfl,hc⟩,mH.2 rfl⟩
def zzac{L:List oE}{l:List Nat}{x:zA}{Q:bB}(hx:jA tf 1 (fD l) x)(ho:qC yA.base tf t L)(hl:l.length<1000000)(hQ:z52 yA.base tf L 1 (fD l) Q):Wc yA F 89 [x] t Q:=
 w89 _ (z5d el27 hx ho (by rw[oV];exact hl) hQ)
def z03{w:bH}(hl:w.limbs.length<1000000):zps yA.base (Wq yA F yJ) 67 w.d:=by
 intro L tf t cs Q ho hd hQ;obtain⟨v,rfl,hv⟩:=cU hd
 rw[q67];refine w67 _ _ ?_
 simp only[t67,pA,q89];refine zzac hv ho hl fun tf' t' u k1 k2 k3=>?_
 have hr:=mW (w:=w) k3
 exact zL (by rw[iG];simp only[ycg,yck,k3.one];rfl) (zL hr.all (hQ tf' t' _ k1 k2 hr))
def zzad{f:qE}(hl:f.n.limbs.length<1000000/\f.d.limbs.length<1000000):zps yA.base (Wq yA F yJ) 45 f.dd:=by
 intro L tf t cs Q ho hd hQ;obtain⟨u,v,rfl,hu,hv⟩:=zhw hd
 rw[q45];refine w45 _ _ _ _ ?_
 simp only[t45,pA];refine z03 hl.1 ho (mW (w:=f.n) hu) fun tf1 t1 c1 k1 k2 k3=>?_
 have hz1:=dH k3 (bH.zs _)
 have a1:=k3.all
 obtain⟨u1,rfl,hu1⟩:=cU k3
 rw[hz1,tA];refine zL a1 ?_
 refine z03 hl.2 k2 (mW (w:=f.d) (hv.mono k1)) fun tf2 t2 c2 m1 m2 m3=>?_
 have hz2:=dH m3 (bH.zs _)
 have a2:=m3.all
 obtain⟨v1,rfl,hv1⟩:=cU m3
 rw[hz2,tA];have hr:=zn9 (f:=f) (hu1.mono m1) hv1
 exact zL a2 (zL hr.all (hQ tf2 t2 _ (k1.trans m1) m2 hr))
def z05{x:sF}(hl:x.f.n.limbs.length<1000000/\x.f.d.limbs.length<1000000):zps yA.base (Wq yA F yJ) 30 x.d:=by
 intro L tf t cs Q ho hd hQ;obtain⟨u,v,rfl,hu,hv⟩:=zql hd
 rw[q30];refine w30 _ _ _ _ _ _ ?_
 simp only[t30,pA];refine zzad hl ho (zn9 (f:=x.f) hu hv) fun tf1 t1 c1 k1 k2 k3=>?_
 have hz1:=dH k3 (qE.zs _)
 have a1:=k3.all
 obtain⟨u1,v1,rfl,hu1,hv1⟩:=zhw k3
 rw[hz1,tA];have hr:=zq6 (x:=x) hu1 hv1
 exact zL a1 (zL hr.all (hQ tf1 t1 _ k1 k2 hr))
mutual
def qA.cpy:qA->Prop
 | .mk _ _ v args=>(v.f.n.limbs.length<1000000/\v.f.d.limbs.length<1000000)/\args.length<300000/\qA.cpys args
def qA.cpys:List qA->Prop
 | []=>True
 | x::l=>qA.cpy x/\qA.cpys l
end
mutual
def z04:∀(x:qA),qA.cpy x->zps yA.base (Wq yA F yJ) 12 x.d
 | .mk op name v args,h=>by
  intro L tf t cs Q ho hd hQ;obtain⟨a,b,c,rfl,ha,hb,hc⟩:=xI hd
  simp only[qA.op,qA.name,qA.v,qA.args]at ha hb hc ⊢
  unfold qA.cpy at h;rw[q12];refine w12 _ _ _ _ _ _ _ _ _ ?_
  simp only[t12,pA];refine z05 h.1 ho (zq6 (x:=v) ha hb) fun tf1 t1 c1 k1 k2 k3=>?_
  have hz1:=dH k3 (sF.zs _)
  have a1:=k3.all
  obtain⟨u1,v1,rfl,hu1,hv1⟩:=zql k3
  rw[hz1,tA];refine zL a1 ?_
  rw[q31];refine w31 _ ?_
  simp only[t31,pA];refine z02 (ds:=args.map qA.d) el34 z19 (by decide) (fun d hd=>?_) (fun d hd=>?_) (by rw[ybf];exact h.2.1) (fun v i t hw=>j31_2 _ _ _ hw) (fun tf2 t2 v2 m1 m2 m3=>?_) (hc.mono k1) k2
  ·obtain⟨x,_,rfl⟩:=yaq.1 hd
   exact x.zs
  ·obtain⟨x,hx,rfl⟩:=yaq.1 hd
   exact zsb args h.2.2 x hx
  ·have hr:=z81 (op:=op) (name:=name) (v:=v) (args:=args) (hu1.mono m1) (hv1.mono m1) m3
   exact zL (by rw[iG];simp only[ycg,yck,m3.one];rfl) (zL hr.all (hQ tf2 t2 _ (k1.trans m1) m2 hr))
def zsb:∀(l:List qA),qA.cpys l->∀x∈l,zps yA.base (Wq yA F yJ) 12 x.d
 | [],_,x,hx=>by cases hx
 | y::l,h,x,hx=>by
  unfold qA.cpys at h;rcases ybs.1 hx with e | hx
  ·rw[e];exact z04 y h.1
  ·exact zsb l h.2 x hx
end
structure rE.cpy (p:rE):Prop where
 defs:p.defs.length<300000
 tables:p.tables.length<300000
 clauses:p.clauses.length<300000
 rows:∀x∈p.tables,x.rows.length<300000/\∀r∈x.rows,r.f.n.limbs.length<1000000/\r.f.d.limbs.length<1000000
 exprs:∀x∈p.clauses,qA.cpy x.when_/\qA.cpy x.then_
end
section
variable [sC]
variable {t:Tr rA}
def zrz(f:qE):1<=uL f/\f.n.limbs.length<uL f/\f.d.limbs.length<uL f:=by unfold uL;omega
def zjx:∀(x:qA) (left:Int),x.ok->1<=zJ x left
 | .mk op name v args,left,h=>by
  unfold qA.ok at h;unfold zJ;have:=zrz v.f
  have:=(xW args left (uL v.f+(name.length:Int) / 30) h.2.2.2 (by omega)).1
  omega
mutual
def ziz:∀(x:qA) (left:Int),x.ok->zJ x left<=left->left<=2000->qA.cpy x
 | .mk op name v args,left,h,hs,hl=>by
  unfold qA.ok at h;unfold zJ at hs;unfold qA.cpy;have:=zrz v.f
  have h1:=(xW args left (uL v.f+(name.length:Int) / 30) h.2.2.2 (by omega)).1
  obtain⟨h2,h3⟩:=zsa args left (uL v.f+(name.length:Int) / 30) h.2.2.2 (by omega) hs hl
  exact⟨⟨by omega,by omega⟩,by omega,h3⟩
def zsa:∀(l:List qA) (left n:Int),qA.oks l->0<=n->kN l left n<=left->left<=2000->n+l.length<=left/\qA.cpys l
 | [],left,n,_,_,hs,_=>by
  unfold kN at hs;unfold qA.cpys;exact⟨by simpa using hs,trivial⟩
 | x::l,left,n,h,hn,hs,hl=>by
  unfold qA.oks at h;unfold kN at hs;unfold qA.cpys;by_cases hc:n<=left
  ·rw[yab hc]at hs
   have h1:=zjx x (left-n) h.1
   have h2:=(xW l left (n+zJ x (left-n)) h.2 (by omega)).1
   obtain⟨h3,h4⟩:=zsa l left _ h.2 (by omega) hs hl
   exact⟨by simp only[ybn];omega,ziz x (left-n) h.1 (by omega) (by omega),h4⟩
  ·rw[yaa hc]at hs
   omega
end
def zqb{p:rE}{x:qA}{cp cs:List zA}(hp:p.fit)(hx:x.fit)(hrp:RD t p.d cp)(hr:RD t x.d cs):xC yA F 10 [.agg cp,.agg cs] t=some (.bool (decide (zxb p<=2000)&&decide (zJ x 400<=400))):=by
 have hrp0:=hrp
 have hr0:=hr
 obtain⟨u1,u2,u3,rfl,_⟩:=fR hrp
 obtain⟨a,c,d,rfl,_⟩:=xI hr
 refine bC.2 (w10 _ _ _ _ _ _ _ _ _ _ _ _ _ ?_)
 unfold t10;refine dC ?_
 rw[q15,z21 hp hrp0,tA];refine pC ?_
 by_cases h1:zxb p<=2000
 ·refine uB (yLe h1) (dC ?_)
  have e:=pv37 x 400 _ (qA.fit_ok hx) (by omega) (by omega) hr0
  unfold mF at e;rw[q22,e,tA];refine pC ?_
  rw[decide_eq_true h1,ycn,z4i];exact⟨rfl,rfl⟩
 ·rw[decide_eq_false h1]
  exact yC (nLe h1) ⟨rfl,rfl⟩
mutual
/-- is an expression deeper than that? -/
def yK:qA->Nat->Bool
 | .mk _ _ _ args,d=>if d=0 then true else xL args (d-1)
def xL:List qA->Nat->Bool
 | [],_=>false
 | x::l,d=>yK x d||xL l d
end
mutual
def zlt:∀(x:qA) (d:Nat) (cs:List zA),x.fit->d<1000000->RD t x.d cs->xC yA F 14 [.agg cs,.int .i64 (d:Int)] t=some (.bool (yK x d))
 | .mk op name v args,d,cs,hx,hn,h=>by
  obtain⟨a,b,c,rfl,ha,hb,hc⟩:=xI h
  simp only[qA.op,qA.name,qA.v,qA.args]at ha hb hc ⊢
  have hx':=hx
  unfold qA.fit at hx';unfold yK;refine bC.2 (w14 _ _ _ _ _ _ _ _ _ _ ?_)
  unfold t14;by_cases h0:d=0
  ·rw[yab h0]
   exact uB (yLe (by omega)) ⟨rfl,rfl⟩
  ·rw[yaa h0]
   refine yC (nLe (by omega)) (dE ?_)
   have:=zeo args args (d-1) op name v a b c 0 hc rfl hx'.2.2.2.2.2 hx'.2.2.2.2.1 (by omega) (by omega)
   rw[show d-1+1-0=d by omega]at this;exact this
def zeo:∀(l args:List qA) (d:Nat) (op:Nat) (name:List Nat) (v:sF) (a b c:zA) (i:Nat),jA t 9 (args.map qA.d) c->args.drop i=l->qA.fits l->args.length<lD->d<1000000->0<=d →
  jp 14 2 [.int .i64 ((d+1-0:Nat):Int),.int .i64 (i:Int),.int .u8 (op:Int),.str name,.int .u8 (v.kind:Int),.bool v.f.n.neg,a,.bool v.f.d.neg,b,.int .i64 v.i,c] t (fun r t'=>r=.bool (xL l d)/\t'=t)
 | [],args,d,op,name,v,a,b,c,i,hc,hd,hok,hsz,hn,_=>by
  have:=zem hd
  have hlen:=hc.len
  rw[ybf]at hlen;refine j14_2 _ _ _ _ _ _ _ _ _ _ _ ?_
  unfold z8h;exact iA hlen (pC (yC (nLt (by omega)) ⟨rfl,rfl⟩))
 | x::l,args,d,op,name,v,a,b,c,i,hc,hd,hok,hsz,hn,_=>by
  obtain⟨h1,h2,h3⟩:=oY hd
  unfold lD at hsz;have hok':=hok
  unfold qA.fits at hok';unfold xL;have hlen:=hc.len
  rw[ybf]at hlen;refine j14_2 _ _ _ _ _ _ _ _ _ _ _ ?_
  obtain⟨pb,po,cs,g1,g2,g3,g4,g5⟩:=yF.at z19 (by simp) hc (i:=i) (d:=x.d) (by simp[h1])
  unfold z8h;refine iA hlen (pC (uB (yLt (by omega)) (iA g1 (cC g2 ?_))))
  rw[oP];refine uH (dH g5 x.zs) ?_
  have hmk:=g5.mk x.zs
  have hcs:[zA.int .u8 ((cellsOf cs).i 0),.str ((cellsOf cs).s 1),.int .u8 ((cellsOf cs).i 2),.bool ((cellsOf cs).b 3),(cellsOf cs).v 4,.bool ((cellsOf cs).b 5),(cellsOf cs).v 6,.int .i64 ((cellsOf cs).i 7),(cellsOf cs).v 8]=cs:=hmk
  rw[hcs];refine dC ?_
  rw[wrap_i64 (n:=((d+1-0:Nat):Int)-1) (by omega) (by omega),show((d+1-0:Nat):Int)-1=(d:Int) by omega,q14,zlt x d cs hok'.1 (by omega) g5,tA]
  refine aG ?_
  cases hq:yK x d with
  | true=>exact uB rfl ⟨rfl,rfl⟩
  | false=>
   refine yC (by simp) (dE ?_)
   rw[wrap_i64 (by omega) (by omega),show(i:Int)+1=((i+1:Nat):Int) by omega,Bool.false_or]
   exact zeo l args d op name v a b c (i+1) hc h2 hok'.2 (by unfold lD;omega) hn (by omega)
end
mutual
def zbb:∀(x:qA) (d:Nat),d<=24->gD x (d+1)=(gD x d && !yK x (24-d))
 | .mk op name v args,d,hd=>by
  unfold gD yK;by_cases h0:24-d=0
  ·rw[yab h0,decide_eq_false (show ¬ (d+1<=24) by omega)]
   simp
  ·rw[yaa h0,decide_eq_true (show d+1<=24 by omega),decide_eq_true (show d<=24 by omega)]
   cases hh:fO op name args.length with
   | false=>simp
   | true=>
    simp only[ycn,Bool.and_true];by_cases h1:op=1
    ·rw[yab h1,yab h1]
     have:args=[]:=by
      unfold fO at hh;simp only[ybb,decide_eq_true_eq]at hh;subst h1;have:=hh.1.2
      have e:(tD 1).most=0:=rfl
      rw[e]at this;exact ycc.1 (by omega)
     subst this;unfold xL;simp
    ·rw[yaa h1,yaa h1,zg3 args (d+1) (by omega),show 24-(d+1)=24-d-1 by omega,Bool.and_assoc]
def zg3:∀(l:List qA) (d:Nat),d<=24->iL l (d+1)=(iL l d && !xL l (24-d))
 | [],d,hd=>by unfold iL xL;rfl
 | x::l,d,hd=>by
  unfold iL xL;rw[zbb x d hd,zg3 l d hd]
  cases gD x d<;>cases iL l d<;>cases yK x (24-d)<;>cases xL l (24-d)<;>rfl
end
def z4u(op nm a b c:Nat):(fitK op nm a b c).2=0\/(fitK op nm a b c).2=142/\(fitK op nm a b c).1=0:=by
 unfold fitK;split
 ·split
  ·exact .inl rfl
  ·exact .inr ⟨rfl,rfl⟩
 ·split
  ·split
   ·split
    ·exact .inl rfl
    ·exact .inr ⟨rfl,rfl⟩
   ·split
    ·split
     ·exact .inl rfl
     ·exact .inr ⟨rfl,rfl⟩
    ·exact .inl rfl
  ·exact .inr ⟨rfl,rfl⟩
def z8t{p:rE}{op:Nat}{name:List Nat}{vk n:Nat}{ks:List Nat}:(opK p op name vk n ks).2=0\/((opK p op name vk n ks).2=141\/(opK p op name vk n ks).2=142)/\(opK p op name vk n ks).1=0:=by
 unfold opK;split
 ·exact .inr ⟨.inl rfl,rfl⟩
 ·split
  ·exact .inl rfl
  ·rcases z4u op (sO p op name n).1 (ks.getD 0 0) (ks.getD 1 0) (ks.getD 2 0)with h | ⟨h1,h2⟩
   ·exact .inl h
   ·exact .inr ⟨.inr h1,h2⟩
mutual
def zk7{p:rE}:∀x:qA,(gF p x).2=0\/((gF p x).2=141\/(gF p x).2=142)/\(gF p x).1=0
 | .mk op name v args=>by
  unfold gF
  cases h:wI p args with
  | inl e=>
   have:=zgk args e h
   exact .inr ⟨this,rfl⟩
  | inr ks=>exact z8t
def zgk{p:rE}:∀(l:List qA) (e:Nat),wI p l=.inl e->e=141\/e=142
 | [],e,h=>by unfold wI at h;cases h
 | x::l,e,h=>by
  unfold wI at h;split at h
  ·rename_i h0
   cases h;rcases zk7 (p:=p) x with h1 | ⟨h1,_⟩
   ·exact absurd h1 h0
   ·exact h1
  ·split at h
   ·rename_i e' he
    cases h;exact zgk l _ he
   ·cases h
end
def zt0{p:rE}{x:qA}(h:(rH p x).2≠0):(rH p x).1=0:=by
 unfold rH at h ⊢
 split at h
 ·rename_i hP
  rw[yab hP];rcases zk7 (p:=p) x with h1 | ⟨_,h1⟩
  ·exact absurd h1 h
  ·exact h1
 ·rename_i hP
  rw[yaa hP]
end
end Go.Proofs
namespace Go.Am
open Go Go.RowKit Go.Proofs
end Go.Am
namespace Go.Proofs.YtfijloeeppcipaaGreatDoor
open Go Go.Am Go.RowKit Go.ChangeShapes Go.WideShapes Go.ChangeAt
def open_pair{H:Type}{enc:TypeId × Value->H}{W:World}{base:Nat}{v:Value}{d:DataW H}{ps:List MemPlace}(hL:lF W)(hok:Value.okWide Tryz.prog W .any base 37 v)(h:DataW.Trod enc Tryz.prog W 0 (fun _=>true) true 37 v d ps)(hw:(DataW.weights Tryz.prog 37 d).all (· <= reachBytes)=true) :
  ∃(cs:Array Value) (x y:qA) (a b:List zA),v=.agg cs/\x.fit/\y.fit/\Has W.heap.size cs.toList/\cs.toList.map (av W.heap.size)=a++b/\RD (pG W) x.d a/\RD (pG W) y.d b:=by
 obtain⟨cs,rfl,_,_⟩:∃cs,v=.agg cs/\cs.size=Tryz.prog.cellsOf 37/\Row.okWide Tryz.prog W .any base 37 cs:=by
  unfold Value.okWide at hok;rw[Tryz.underlying37]at hok;exact hok
 obtain⟨fuel,h⟩:=h
 obtain⟨c,n,lo,hc,_⟩:=@zcd W hL ⟨0⟩
 have c36:Tryz.prog.cellsOf 36=9:=by kernel_rfl
 have c37:Tryz.prog.cellsOf 37=18:=by kernel_rfl
 obtain⟨xs,m,_,hx,hlen,hxs,hel⟩:=DataW.trod_array Tryz.underlying37 h
 simp only[Prod.mk.injEq]at hx;obtain⟨rfl,_⟩:=hx
 have hlen:cs.toList.length=18:=by rw[<- c37];exact hlen
 rw[c36]at hel;have hlast:∀i,i<2->Has W.heap.size ((cs.toList.drop (i*9)).take 9)/\∃x:qA,x.fit/\RD (pG W) x.d (((cs.toList.drop (i*9)).take 9).map (av W.heap.size)):=by
  intro i hi;have hxi:xs[i]?=some (xs[i]'(by omega)):=ybd (by omega)
  have h1:=hel i hi
  rw[hxi]at h1;have hwe:(DataW.weights Tryz.prog 36 (xs[i]'(by omega)).1).all (· <= reachBytes)=true:=by
   simp only[DataW.weights,Tryz.underlying37]at hw;exact zZ hw (i:=i) (by simp[hxi])
  obtain⟨g1,d,g2,g3⟩:=znq znv ⟨c,n,lo,hc⟩ m 36 _ _ (by decide) h1 hwe
  obtain⟨x,rfl,hx⟩:=api14.dExpr _ _ g3
  exact⟨g1,x,hx,g2⟩
 obtain⟨a1,x,a2,a3⟩:=hlast 0 (by omega)
 obtain⟨b1,y,b2,b3⟩:=hlast 1 (by omega)
 have e:cs.toList=(cs.toList.drop (0*9)).take 9++(cs.toList.drop (1*9)).take 9:=by
  rw[Nat.zero_mul,ycr,Nat.one_mul,yca (i:=9) (l:=cs.toList.drop 9) (by simp;omega),List.take_append_drop]
 refine⟨cs,x,y,_,_,rfl,a2,b2,?_,?_,a3,b3⟩
 ·rw[e]
  intro u hu;rcases yaf.1 hu with hu | hu
  ·exact a1 u hu
  ·exact b1 u hu
 ·rw[<- List.map_append,<- e]
end Go.Proofs.YtfijloeeppcipaaGreatDoor
namespace Go.Proofs
open Go Go.Am
variable [sC]
section
structure Ren (p q:rE) (a b:List Nat):Prop where
 ex:∃k d e,p.defs[k]?=some d/\d.name=a/\e=(⟨b,d.kind,d.fact⟩:tI)/\q.defs=p.defs.set k e
 nb:defN p.defs b=none
 nd:(p.defs.map tI.name).Nodup
 tabs:q.tables=p.tables
 la:zid a=true
 lb:zid b=true
variable {p q:rE}{a b:List Nat}
abbrev defOp(op:Nat):Prop:=op=3\/op=4\/op=21\/op=22\/op=5
def zrl:∀ {l:List qA} {e:Nat},wI p l=.inl e->e≠0
 | [],e,h=>by rw[wI]at h;cases h
 | x::l,e,h=>by
  rw[wI]at h;split at h
  ·rename_i hx;cases h;exact hx
  ·split at h
   ·rename_i e' he;cases h;exact zrl he
   ·cases h
def zgj{x:qA}{l:List qA}{ks:List Nat}(h:wI p (x::l)=.inr ks):(gF p x).2=0/\∃k',wI p l=.inr k'/\ks=(gF p x).1::k':=by
 rw[wI]at h;split at h
 ·cases h
 ·rename_i hx
  split at h
  ·cases h
  ·rename_i k' he
   cases h;exact⟨by omega,k',he,rfl⟩
def zzd{op:Nat}{name:List Nat}{v:sF}{args:List qA}(h:(gF p (.mk op name v args)).2=0):∃ks,wI p args=.inr ks/\(opK p op name v.kind args.length ks).2=0:=by
 rw[gF]at h
 cases hk:wI p args with
 | inl e=>
  rw[hk]at h;exact absurd h (zrl hk)
 | inr ks=>
  rw[hk]at h;exact⟨ks,rfl,h⟩
def zou{op:Nat}{name:List Nat}{v:sF}{args:List qA}{d:Nat}(h:gD (.mk op name v args) d=true):fO op name args.length=true/\(op=1/\args=[]\/op≠1/\iL args (d+1)=true):=by
 have h0:=h
 rw[gD]at h;simp only[ybb]at h;refine⟨h.1.2,?_⟩
 by_cases ho:op=1
 ·exact .inl ⟨ho,zsh h0 ho⟩
 ·have h2:=h.2
  rw[yaa ho,ybb]at h2;exact .inr ⟨ho,h2.2⟩
end
end Go.Proofs
namespace Go.Am
open Go Go.RowKit
section
variable {t tf:Tr rA}{C:oA}{base:Nat}
def zux{v:zA}:(kG v).Nodup:=by
 unfold kG;split<;>simp
def At.whole{b off:Nat}{cs:List zA}{ty:Nat}{y:uC}(h:At t b off cs)(hy:C.tys.get ty=some y)(ha:y.desc.isAgg=true)(hn:y.size=cs.length):mA C ty ⟨0,t⟩ (.ptr b off)=some (.agg cs):=by
 have:=At.load (j:=0) h hy ha hn (by omega)
 rw[ycr,yca (by omega)]at this
 exact this
def qC.newCel{A B:List oE}{n:Nat}{t':Tr rA}{lo:Option Lo}{cs:List zA}(h:qC base tf t (A++B))(hn:t.get n=none)(hb:base<=n)(hc:jD t' n lo cs)(ht:dA t t')(ho:mD n t t'):qC base tf t' (A++zmp n lo cs::B):=
 qC.add (o':=zmp n lo cs) h (fun k hk=>ho k (fun e=>hk (by simp[zmp,e]))) (fun k hk=>by
  have:k=n:=by simpa[zmp]using hk
  subst this;exact⟨hn,hb⟩) hc (by simp[zmp]) (h.tle.trans ht)
def qC.cel{A B:List oE}{n:Nat}{lo:Option Lo}{cs:List zA}(h:qC base tf t (A++zmp n lo cs::B)):jD t n lo cs:=h.ok (zmp n lo cs) (by simp)
def qC.setCel{A B:List oE}{n j T:Nat}{lo:Option Lo}{cs:List zA}{y:uC}{v:zA}(h:qC C.base tf t (A++zmp n lo cs::B))(hT:C.tys.get T=some y)(hl:v.cells.length=y.size)(hj:j+v.cells.length<=cs.length)(hone:tC zA.one v.cells=true) :
  ∃t',(∀q,eC C T (.ptr n j) v ⟨q,t⟩=some (pD,⟨q,t'⟩))/\qC C.base tf t' (A++zmp n lo (bL cs j v.cells)::B):=by
 have hlow:=h.low n (by simp[zmp])
 obtain⟨t',s1,s2,s3⟩:=h.cel.store (C:=C) hlow.1 (j:=j) (v:=v) hT hl hj hone
 exact⟨t',s1,qC.upd (o:=zmp n lo cs) (o':=zmp n lo (bL cs j v.cells)) h (fun k h1 _=>s3 k (fun e=>h1 (by simp[zmp,e]))) (fun k hk=>.inl hk) s2 (by simp[zmp]) (h.tle.off hlow.2 s3)⟩
end
end Go.Am
namespace Go.Am
open Go Go.RowKit
section
section
variable {t tf:Tr rA}{C:oA}{base:Nat}
def LK (cd:Lo)(base:Nat)(t:Tr rA)(sz:Nat)(cl:List (List zA))(v:zA):Prop:=
 (v=.nilslice/\cl=[])\/∃b c,v=.slice b 0 cl.length cl.length/\base<=b/\t.get b=some (.cells c (cl.length*sz) (some cd)) ∧
  ∀(i:Nat) cs,cl[i]?=some cs->cs.length=sz/\∀(j:Nat) a,cs[j]?=some a->c.get (i*sz+j)=some a
def zmc{T el sz:Nat}(hT:zpr C T el sz){cl cm:List (List zA)}{v x:zA}(hv:LK (.sz sz) C.base t sz cl v)(hx:elems t sz x cm)(hone:∀a∈cm.flatten,zA.one a=true)(hpos:0<cm.length)(hl:cl.length+cm.length<400000){n:Nat}(hn:t.get n=none)(hbase:C.base<=n) :
  ∃t',pF C T T v x ⟨n,t⟩=some (.slice n 0 (cl.length+cm.length) (cl.length+cm.length),⟨n+1,t'⟩)/\LK (.sz sz) C.base t' sz (cl++cm) (.slice n 0 (cl.length+cm.length) (cl.length+cm.length))/\(∀c,c≠n->¬ iI v c->t'.get c=t.get c):=by
 obtain⟨⟨y,hy1,hy2,hy3⟩,⟨z,hz1,hz2,hz3,hz4,hz5⟩,hnb⟩:=hT
 have hcode:eH el z=.sz sz:=by rw[NB.code hnb hz1,hz2]
 have hall:=hx.len
 obtain⟨hf,hlen⟩:=hx.first (n:=n)
 have hflat:=zce hall
 have hfl:aA cm.flatten=cm.length*sz:=by rw[gC];exact hflat
 have base:pF C T T v x ⟨n,t⟩=(match v.asSlice with
  | some s=>bif Nat.ble (s.2.2.1+cm.length) s.2.2.2 then aQ C ⟨n,t⟩ z cm.length cm.flatten s else eO C ⟨n,t⟩ el z cm.length cm.flatten s
  | none=>cA (Nat.beq v.tag 5) (nK ⟨n,t⟩ el z cm.length cm.flatten)):=by
  unfold pF vP;rw[hy1,uA,uA,hy3];simp only[ycl,oD];rw[hy2,uA,hz1,uA,hlen,uA,hz2,hf,uA];rfl
 have ok:uM z cl.length cl.length cm.length cm.flatten=true:=by
  unfold uM;have h1:Nat.blt (cl.length+cm.length+cl.length) 1000000000=true:=kB.2 (by omega)
  have h2:Nat.blt ((cl.length+cm.length+cl.length)*z.bytes) 1000000000=true:=kB.2 (by
   have:=ydb (show cl.length+cm.length+cl.length<=800000 by omega) hz4
   omega)
  have h3:Nat.blt z.bytes 1000000000=true:=kB.2 (by omega)
  have h4:(!Nat.beq z.size 0)=true:=by
   cases hq:Nat.beq z.size 0 with
   | true=>have:=oB.1 hq;omega
   | false=>rfl
  have h5:Nat.beq (aA cm.flatten) (cm.length*z.size)=true:=by rw[hfl,hz2];exact oB.2 rfl
  have h6:Nat.beq (aA z.zero) z.size=true:=by rw[hz3,hz2];exact oB.2 rfl
  rw[h1,h2,h3,h4,h5,h6];rfl
 rcases hv with⟨rfl,rfl⟩ | ⟨b,c,rfl,hb0,hb2,hb3⟩
 ·refine⟨t.set n (.cells (Tr.ofList cm.flatten) (aA cm.flatten) (some (.sz sz))),?_,.inr ⟨n,Tr.ofList cm.flatten,by simp,hbase,?_,fun i cs hi=>⟨hall i cs hi,fun j a hj=>?_⟩⟩,fun c hc _=>(oJ hn _).2 c hc⟩
  ·rw[base]
   simp only[zA.asSlice];show cA true (nK ⟨n,t⟩ el z cm.length cm.flatten)=_
   rw[oD];unfold nK;have:Nat.beq cm.length 0=false:=by
    cases hq:Nat.beq cm.length 0 with
    | true=>have:=oB.1 hq;omega
    | false=>rfl
   have ok:uM z 0 0 cm.length cm.flatten=true:=ok
   rw[this,cond_false,ok,oD,hcode];simp only[ybx,ybw];rfl
  ·rw[Tr.get_set,yab rfl,hfl];simp
  ·rw[Tr.get_ofList];exact pS hall i j cs a hi hj
 ·have hbn:b≠n:=by intro e;rw[e,hn]at hb2;cases hb2
  refine⟨(t.del b).set n (.cells (c.setMany cm.flatten (cl.length*z.size)) ((cl.length+cm.length)*z.size) (some (.sz sz))),?_,.inr ⟨n,c.setMany cm.flatten (cl.length*z.size),by simp,hbase,?_,fun i cs hi=>?_⟩,fun k hk1 hk2=>?_⟩
  ·rw[base]
   simp only[zA.asSlice];have:Nat.ble (cl.length+cm.length) cl.length=false:=by
    cases hq:Nat.ble (cl.length+cm.length) cl.length with
    | true=>have:=dD.1 hq;omega
    | false=>rfl
   rw[this,cond_false];unfold eO;simp only[];rw[show ∀x,(!(Nat.beq 0 1&&x))=true from fun _=>rfl,oD,ok,oD]
   unfold xD;rw[hb2,uA];simp only[rA.asCells,uA];unfold iT;simp only[];have g1:loEq (.sz sz) (eH el z)=true:=by rw[hcode];exact zoc.2 rfl
   have g2:Nat.ble (cl.length*z.size) (cl.length*sz)=true:=dD.2 (by rw[hz2];exact ybk _)
   have g3:Nat.ble (cl.length*sz) ((cl.length+cm.length)*z.size)=true:=dD.2 (by rw[hz2];exact ybi _ (by omega))
   have g4:tC zA.one cm.flatten=true:=by rw[iG];exact ycb.2 hone
   have g5:(!Nat.blt b C.base)=true:=by
    cases hq:Nat.blt b C.base with
    | true=>have:=kB.1 hq;omega
    | false=>rfl
   rw[g1,g2,g3,g4,g5];simp only[hz2];rfl
  ·rw[Tr.get_set,yab rfl,hz2,ybg]
  ·rw[List.getElem?_append]at hi
   split at hi
   ·rename_i hlt
    obtain⟨k1,k2⟩:=hb3 i cs hi
    refine⟨k1,fun j a hj=>?_⟩
    have hjl:j<sz:=by rw[<- k1];exact(ybc.1 hj).1
    have:i*sz+j<cl.length*sz:=by
     have:=ybi sz (show i+1<=cl.length by omega)
     rw[ybo]at this;omega
    rw[Tr.get_setMany,hz2,yaa (by omega)]
    exact k2 j a hj
   ·rename_i hge
    have k1:=hall _ cs hi
    refine⟨k1,fun j a hj=>?_⟩
    have hf1:=pS hall _ j cs a hi hj
    have hlt:=(ybc.1 hf1).1
    have e:i*sz=cl.length*sz+(i-cl.length)*sz:=by rw[<- ybo];congr 1;omega
    rw[Tr.get_setMany,hz2,yab (by omega),show i*sz+j-cl.length*sz=(i-cl.length)*sz+j by omega]
    exact hf1
  ·rw[Tr.get_set,yaa hk1,Tr.get_del,yaa (fun e=>hk2 (hO.2 e))]
def LK.at{cd:Lo}{sz:Nat}{cl:List (List zA)}{b o k c:Nat}(h:LK cd base t sz cl (.slice b o k c)){i:Nat}{cs:List zA}(hi:cl[i]?=some cs):At t b (0+i*sz) cs:=by
 rcases h with⟨h,_⟩ | ⟨b',c',e,h1,h2,h3⟩
 ·cases h
 ·cases e
  exact⟨_,_,_,h2,fun j a hj=>by rw[ybw];exact(h3 i cs hi).2 j a hj⟩
def LK.elems{cd:Lo}{sz:Nat}{cl:List (List zA)}{v:zA}(hcd:cd.es=sz)(h:LK cd base t sz cl v):elems t sz v cl:=by
 rcases h with h | ⟨b,c,rfl,h1,h2,h3⟩
 ·exact .inl h
 ·exact .inr ⟨b,0,_,rfl,ybk _,⟨_,_,_,h2,.inr ⟨_,rfl,hcd⟩⟩,fun i cs hi=>⟨(h3 i cs hi).1,_,_,_,h2,fun j a hj=>by rw[ybw];exact(h3 i cs hi).2 j a hj⟩⟩
def LK.off{cd:Lo}{sz:Nat}{cl:List (List zA)}{v:zA}(h:LK cd base t sz cl v){t':Tr rA}(hk:∀k∈kG v,t'.get k=t.get k):LK cd base t' sz cl v:=by
 rcases h with h | ⟨b,c,rfl,h1,h2,h3⟩
 ·exact .inl h
 ·exact .inr ⟨b,c,rfl,h1,by rw[hk b (by simp[kG])];exact h2,h3⟩
def LK.live{cd:Lo}{sz:Nat}{cl:List (List zA)}{v:zA}(h:LK cd base t sz cl v):∀k∈kG v,∃y,t.get k=some y:=by
 intro k hk;rcases h with⟨rfl,_⟩ | ⟨b,c,rfl,h1,h2,h3⟩
 ·cases hk
 ·have:k=b:=by simpa[kG]using hk
  subst this;exact⟨_,h2⟩
mutual
/-- an expression's cells; its lists lie in blocks of their own -/
def xG (base:Nat)(tf t:Tr rA):qA->List zA->List Nat->Prop
 | .mk op name v args,cs,bs=>∃a b c cl bss,cs=mF (.mk op name v args) a b c/\jA tf 1 (fD v.f.n.limbs) a/\jA tf 1 (fD v.f.d.limbs) b/\LK (.sz 9) base t 9 cl c/\aD base tf t args cl bss/\bs=kG c++bss
def aD(base:Nat)(tf t:Tr rA):List qA->List (List zA)->List Nat->Prop
 | [],cl,bs=>cl=[]/\bs=[]
 | x::l,cl,bs=>∃cs r b1 b2,cl=cs::r/\bs=b1++b2/\xG base tf t x cs b1/\aD base tf t l r b2
end
mutual
def xG.keep{tf' t':Tr rA}(hf:dA tf tf'):∀(x:qA) (cs:List zA) (bs:List Nat),xG base tf t x cs bs->(∀k∈bs,t'.get k=t.get k)->xG base tf' t' x cs bs
 | .mk op name v args,cs,bs,h,hk=>by
  unfold xG at h ⊢
  obtain⟨a,b,c,cl,bss,h1,h2,h3,h4,h5,rfl⟩:=h
  exact⟨a,b,c,cl,bss,h1,h2.mono hf,h3.mono hf,h4.off (fun k hm=>hk k (ydc _ hm)),aD.keep hf args cl bss h5 (fun k hm=>hk k (ycf _ hm)),rfl⟩
def aD.keep{tf' t':Tr rA}(hf:dA tf tf'):∀(l:List qA) (cl:List (List zA)) (bs:List Nat),aD base tf t l cl bs->(∀k∈bs,t'.get k=t.get k)->aD base tf' t' l cl bs
 | [],cl,bs,h,_=>by unfold aD at h ⊢;exact h
 | x::l,cl,bs,h,hk=>by
  unfold aD at h ⊢
  obtain⟨cs,r,b1,b2,rfl,rfl,h1,h2⟩:=h
  exact⟨cs,r,b1,b2,rfl,rfl,xG.keep hf x cs b1 h1 (fun k hm=>hk k (ydc _ hm)),aD.keep hf l r b2 h2 (fun k hm=>hk k (ycf _ hm))⟩
end
mutual
def xG.live:∀(x:qA) (cs:List zA) (bs:List Nat),xG base tf t x cs bs->∀k∈bs,∃y,t.get k=some y
 | .mk op name v args,cs,bs,h,k,hk=>by
  unfold xG at h;obtain⟨a,b,c,cl,bss,h1,h2,h3,h4,h5,rfl⟩:=h
  rcases yaf.1 hk with hk | hk
  ·exact h4.live k hk
  ·exact aD.live args cl bss h5 k hk
def aD.live:∀(l:List qA) (cl:List (List zA)) (bs:List Nat),aD base tf t l cl bs->∀k∈bs,∃y,t.get k=some y
 | [],cl,bs,h,k,hk=>by unfold aD at h;rw[h.2]at hk;cases hk
 | x::l,cl,bs,h,k,hk=>by
  unfold aD at h;obtain⟨cs,r,b1,b2,rfl,rfl,h1,h2⟩:=h
  rcases yaf.1 hk with hk | hk
  ·exact xG.live x cs b1 h1 k hk
  ·exact aD.live l r b2 h2 k hk
end
def zq7{op:Nat}{name:List Nat}{v:sF}{args:List qA}{a b c:zA}(ha:jA t 1 (fD v.f.n.limbs) a)(hb:jA t 1 (fD v.f.d.limbs) b)(hc:jA t 9 (args.map qA.d) c):RD t (qA.mk op name v args).d (mF (.mk op name v args) a b c):=by
 unfold qA.d mF;rw[sI,qA.ds_eq];refine⟨[[.int .u8 op],[.str name],[.int .u8 v.kind,.bool v.f.n.neg,a,.bool v.f.d.neg,b,.int .i64 v.i],[c]],rfl,?_⟩
 rw[xF];refine⟨_,_,rfl,rfl,?_⟩
 rw[xF];refine⟨_,_,rfl,rfl,?_⟩
 rw[xF];refine⟨_,_,rfl,?_,xF.2 ⟨_,_,rfl,xK.2 ⟨_,rfl,hc⟩,mH.2 rfl⟩⟩
 unfold sF.d;rw[sI];refine⟨[[.int .u8 v.kind],[.bool v.f.n.neg,a,.bool v.f.d.neg,b],[.int .i64 v.i]],rfl,?_⟩
 rw[xF];refine⟨_,_,rfl,rfl,?_⟩
 rw[xF];refine⟨_,_,rfl,?_,xF.2 ⟨_,_,rfl,rfl,mH.2 rfl⟩⟩
 unfold qE.dd bH.d;rw[sI];refine⟨[[.bool v.f.n.neg,a],[.bool v.f.d.neg,b]],rfl,xF.2 ⟨_,_,rfl,?_,xF.2 ⟨_,_,rfl,?_,mH.2 rfl⟩⟩⟩
 ·rw[sI]
  exact⟨[[.bool v.f.n.neg],[a]],rfl,xF.2 ⟨_,_,rfl,rfl,xF.2 ⟨_,_,rfl,xK.2 ⟨_,rfl,ha⟩,mH.2 rfl⟩⟩⟩
 ·rw[sI]
  exact⟨[[.bool v.f.d.neg],[b]],rfl,xF.2 ⟨_,_,rfl,rfl,xF.2 ⟨_,_,rfl,xK.2 ⟨_,rfl,hb⟩,mH.2 rfl⟩⟩⟩
mutual
def xG.rd(hle:dA tf t):∀(x:qA) (cs:List zA) (bs:List Nat),xG base tf t x cs bs->RD t x.d cs
 | .mk op name v args,cs,bs,h=>by
  unfold xG at h;obtain⟨a,b,c,cl,bss,rfl,h2,h3,h4,h5,rfl⟩:=h
  exact zq7 (h2.mono hle) (h3.mono hle) ⟨cl,h4.elems rfl,aD.rd hle args cl bss h5⟩
def aD.rd(hle:dA tf t):∀(l:List qA) (cl:List (List zA)) (bs:List Nat),aD base tf t l cl bs->jC t (l.map qA.d) cl
 | [],cl,bs,h=>by unfold aD at h;exact mH.2 h.1
 | x::l,cl,bs,h=>by
  unfold aD at h;obtain⟨cs,r,b1,b2,rfl,rfl,h1,h2⟩:=h
  exact xF.2 ⟨cs,r,rfl,xG.rd hle x cs b1 h1,aD.rd hle l r b2 h2⟩
end
def qL(base:Nat)(x:qA)(cs:List zA)(bs:List Nat):oE where
 blks:=bs
 ok:=fun tf t=>xG base tf t x cs bs
 keep:=fun h hf hk=>xG.keep hf x cs bs h fun k hm=>(hk k hm).1
 live:=fun h=>xG.live x cs bs h
def tJ(base:Nat)(l:List qA)(cl cm:List (List zA))(v:zA)(bs:List Nat):oE where
 blks:=kG v++bs
 ok:=fun tf t=>LK (.sz 9) base t 9 (cl++cm) v/\aD base tf t l cl bs
 keep:=fun h hf hk=>⟨h.1.off fun k hm=>(hk k (ydc _ hm)).1,aD.keep hf l cl bs h.2 fun k hm=>(hk k (ycf _ hm)).1⟩
 live:=fun h k hk=>by
  rcases yaf.1 hk with hk | hk
  ·exact h.1.live k hk
  ·exact aD.live l cl bs h.2 k hk
def qC.join{o1 o2 o3:oE}{B:List oE}(h:qC base tf t (o1::o2::B))(hp:o3.blks.Perm (o1.blks++o2.blks))(hok:o1.ok tf t->o2.ok tf t->o3.ok tf t):qC base tf t (o3::B):=by
 have e:((o3::B).flatMap oE.blks).Perm ((o1::o2::B).flatMap oE.blks):=by
  simp only[List.flatMap_cons,<- ybz];exact hp.append_right _
 refine⟨h.tle,e.nodup_iff.2 h.nodup,fun o ho=>?_,fun k hk=>h.low k (e.mem_iff.1 hk)⟩
 rcases ybs.1 ho with ho | ho
 ·rw[ho];exact hok (h.ok o1 (by simp)) (h.ok o2 (by simp))
 ·exact h.ok o (by simp[ho])
def qC.conv{o1 o3:oE}{B:List oE}(h:qC base tf t (o1::B))(hp:o3.blks=o1.blks)(hok:o1.ok tf t->o3.ok tf t):qC base tf t (o3::B):=by
 refine⟨h.tle,by rw[List.flatMap_cons,hp,<- List.flatMap_cons];exact h.nodup,fun o ho=>?_,fun k hk=>h.low k (by rw[List.flatMap_cons,hp,<- List.flatMap_cons]at hk;exact hk)⟩
 rcases ybs.1 ho with ho | ho
 ·rw[ho];exact hok (h.ok o1 (by simp))
 ·exact h.ok o (by simp[ho])
def aD.snoc:∀ {l:List qA} {cl:List (List zA)} {bs:List Nat} {x:qA} {cs:List zA} {b1:List Nat},aD base tf t l cl bs->xG base tf t x cs b1->aD base tf t (l++[x]) (cl++[cs]) (bs++b1)
 | [],cl,bs,x,cs,b1,h,k=>by
  unfold aD at h;obtain⟨rfl,rfl⟩:=h
  show aD base tf t [x] [cs] b1
  unfold aD;exact⟨cs,[],b1,[],rfl,by simp,k,by unfold aD;exact⟨rfl,rfl⟩⟩
 | y::l,cl,bs,x,cs,b1,h,k=>by
  unfold aD at h;obtain⟨c0,r,b0,b2,rfl,rfl,h1,h2⟩:=h
  show aD base tf t (y::(l++[x])) (c0::(r++[cs])) (b0++b2++b1)
  unfold aD;exact⟨c0,_,b0,b2++b1,rfl,by simp,h1,aD.snoc h2 k⟩
def aD.length:∀ {l:List qA} {cl:List (List zA)} {bs:List Nat},aD base tf t l cl bs->cl.length=l.length
 | [],cl,bs,h=>by unfold aD at h;rw[h.1];rfl
 | y::l,cl,bs,h=>by
  unfold aD at h;obtain⟨c0,r,b0,b2,rfl,rfl,h1,h2⟩:=h
  simp[aD.length h2]
def qC.pushT{T el n:Nat}(hT:zpr C T el 9){B:List oE}{l:List qA}{x:qA}{cl:List (List zA)}{cs:List zA}{v w:zA}{bs b1:List Nat}(h:qC C.base tf t (qL C.base x cs b1::tJ C.base l cl [] v bs::B))(hx:elems t 9 w [cs])(hl:l.length<300000)(hn:t.get n=none)(hbase:C.base<=n) :
  ∃v2 k t2,pF C T T v w ⟨n,t⟩=some (v2,⟨k,t2⟩)/\qC C.base tf t2 (tJ C.base (l++[x]) (cl++[cs]) [] v2 (bs++b1)::B):=by
 obtain⟨hv,hk⟩:LK (.sz 9) C.base t 9 (cl++[]) v/\aD C.base tf t l cl bs:=h.ok (tJ C.base l cl [] v bs) (by simp)
 rw[ycd]at hv;have hrd:RD t x.d cs:=xG.rd h.tle x cs b1 (h.ok (qL C.base x cs b1) (by simp))
 have hcl:=hk.length
 obtain⟨t2,c1,c2,c3⟩:=zmc hT hv hx (by intro a ha;simp at ha;exact RD.ones _ _ hrd a ha) (by simp) (by simp;omega) hn hbase
 refine⟨_,_,t2,c1,?_⟩
 have hnm:n∉(qL C.base x cs b1::tJ C.base l cl [] v bs::B).flatMap oE.blks:=h.fresh hn
 have hvk:∀k∈kG v,tf.get k=none:=fun k hk=>(h.low k (by simp[tJ,hk])).2
 have htle:dA tf t2:=fun k u hu=>by
  have e1:k≠n:=fun e=>by rw[e,h.tfn hn]at hu;cases hu
  have e2:¬ iI v k:=fun e=>by rw[hvk k (lT.2 e)]at hu;cases hu
  rw[c3 k e1 e2];exact h.tle _ _ hu
 have hnd:=h.nodup
 have hsep:∀k∈bs,k∉kG v:=fun k hk hv=>by
  simp only[List.flatMap_cons,qL,tJ]at hnd;rw[List.nodup_append]at hnd;have h2:=hnd.2.1
  rw[List.nodup_append]at h2;have h3:=h2.1
  rw[List.nodup_append]at h3;exact h3.2.2 k hv k hk rfl
 have hbs:∀k∈bs,t2.get k=t.get k:=fun k hm=>c3 k (fun e=>hnm (by rw[<- e];simp[tJ,hm])) (fun e=>hsep k hm (lT.2 e))
 have h1:qC C.base tf t2 ([qL C.base x cs b1]++tJ C.base l cl [cs] (.slice n 0 (cl.length+[cs].length) (cl.length+[cs].length)) bs::B):=by
  refine qC.upd (o:=tJ C.base l cl [] v bs) h (fun k k1 k2=>c3 k (fun e=>k2 (by simp[tJ,kG,e])) (fun e=>k1 (by simp[tJ,lT.2 e]))) (fun k hk=>?_) ⟨c2,aD.keep (dA.refl _) l cl bs hk hbs⟩ ?_ htle
  ·rcases yaf.1 hk with hk | hk
   ·have:k=n:=by simpa[kG]using hk
    subst this;exact .inr ⟨hn,hbase⟩
   ·exact .inl (by simp[tJ,hk])
  ·show(kG _++bs).Nodup
   rw[List.nodup_append];refine⟨zux,?_,fun a ha b hb e=>?_⟩
   ·simp only[List.flatMap_cons,qL,tJ]at hnd
    rw[List.nodup_append]at hnd;have h2:=hnd.2.1
    rw[List.nodup_append]at h2;have h3:=h2.1
    rw[List.nodup_append]at h3;exact h3.2.1
   ·have:a=n:=by simpa[kG]using ha
    subst this;exact hnm (by rw[e];simp[tJ,hb])
 refine qC.join (o1:=qL C.base x cs b1) h1 ?_ (fun k1 k2=>?_)
 ·show(kG _++(bs++b1)).Perm (b1++(kG _++bs))
  rw[<- ybz];exact List.perm_append_comm
 ·refine⟨?_,aD.snoc k2.2 k1⟩
  rw[ycd];exact k2.1
end
end
section
section
variable {t tf:Tr rA}{C:oA}{base:Nat}
def z5w(base:Nat)(W:bG)(g:Nat)(x:qA):Prop:=∀ ⦃L:List oE⦄ ⦃tf t:Tr rA⦄ ⦃cs:List zA⦄ ⦃Q:bB⦄,qC base tf t L->RD tf x.d cs->(∀tf' t' cs' bs,dA tf tf'->qC base tf' t' (qL base x cs' bs::L)->Q (.agg cs') t')->W g [.agg cs] t Q
def zuo{W J:bG}{S el g p:Nat}(hT:zpr C S el 9)(hS:yF C S el 9 true){zs:List zA}{L:List oE}{l:List qA}{v0:zA}{Q:bB}{tf0:Tr rA}
  (hz:∀x∈l,x.d.zs=zs) (hg:∀x∈l,z5w C.base W g x) (hlen:l.length<300000)
  (hj:∀v i t,pA C.base W J (zlw C S el g p zs v0 v i) t Q->J p [v0,v,.int .i64 i] t Q)
  (hQ:∀tf' t' v cl bs,dA tf0 tf'->qC C.base tf' t' (tJ C.base l cl [] v bs::L)->Q v t') (h0:jA tf0 9 (l.map qA.d) v0) :
  ∀(m i:Nat) (tf t:Tr rA) (v:zA) (cl:List (List zA)) (bs:List Nat),i+m=l.length->dA tf0 tf->qC C.base tf t (tJ C.base (l.take i) cl [] v bs::L)->J p [v0,v,.int .i64 (i:Int)] t Q:=by
 intro m;induction m with
 | zero=>
  intro i tf t v cl bs hi hf ho;refine hj _ _ _ ?_
  unfold zlw;refine iA h0.len (pC (yC (fun e=>by have:=zD.1 e;rw[ybf]at this;omega) ?_))
  rw[yca (by omega)]at ho
  exact hQ tf t v cl bs hf ho
 | succ m ih=>
  intro i tf t v cl bs hi hf ho;have hlt:i<l.length:=by omega
  have hx:l[i]?=some l[i]:=ybd hlt
  have hd:(l.map qA.d)[i]?=some l[i].d:=by rw[ybu,hx];rfl
  have hm:l[i]∈l:=ycj hlt
  obtain⟨b,off,cs,g1,g2,g3,g4,g5⟩:=yF.at (t:=tf) hS (by simp) (h0.mono hf) hd
  have hag:zA.agg cs=(if true=true then zA.agg cs else cs.headD pD):=rfl
  obtain⟨b',off',cs',f1,f2,f3,f4,f5⟩:=yF.at (t:=t) hS (by simp) (h0.mono (hf.trans ho.tle)) hd
  rw[g1]at f1;cases f1
  have ecs:cs'=cs:=by
   obtain⟨c,n,lo,q1,q2⟩:=g3
   obtain⟨c',n',lo',q3,q4⟩:=f3
   rw[ho.tle _ _ q1]at q3
   cases q3
   refine List.ext_getElem? fun j=>?_
   rcases yau j 9 with hjs | hjs
   ·have a1:cs[j]?=some cs[j]:=ybd (by omega)
    have a2:cs'[j]?=some cs'[j]:=ybd (by omega)
    have b1:=q2 _ _ a1
    have b2:=q4 _ _ a2
    rw[b1]at b2;rw[a1,a2,yci b2]
   ·rw[List.getElem?_eq_none (by omega),List.getElem?_eq_none (by omega)]
  subst ecs;have hzz:=hz _ hm
  refine hj _ _ _ ?_
  unfold zlw;refine iA h0.len (pC (uB (zD.2 (by rw[ybf];omega)) (iA g1 (cC f2 (uH (dH g5 hzz) (dC ?_))))))
  rw[g5.mk hzz];refine hg _ hm ho g5 fun tf' t' cs2 b1 k1 k2=>?_
  have k3:RD t' l[i].d cs2:=xG.rd k2.tle _ _ _ (k2.ok (qL C.base l[i] cs2 b1) (by simp))
  refine uH (dH k3 hzz) ?_
  rw[k3.mk hzz];refine uB k3.all (kH fun n hn _=>?_)
  have hl2:cs2.length=9:=by
   have h1:=k2.ok (qL C.base l[i] cs2 b1) (by simp)
   revert h1
   generalize l[i]=y
   intro h1
   cases y with
   | mk op name v args=>
    unfold qL xG at h1;obtain⟨_,_,_,_,_,e,_⟩:=h1
    rw[e];rfl
  obtain⟨t1,a1,a2,a3,a4⟩:=lit1 (C:=C) hT hl2 (by decide) hn
  refine⟨_,_,a1,kH fun n2 hn2 hb2=>?_⟩
  obtain⟨v2,k,t2,c1,c2⟩:=qC.pushT hT (k2.junk hn a4) a2 (by rw[yda];omega) hn2 hb2
  refine⟨_,_,c1,dE ?_⟩
  rw[wrap_i64 (by omega) (by omega)]
  have e:l.take i++[l[i]]=l.take (i+1):=by rw[ydg,hx];rfl
  rw[e]at c2;exact ih (i+1) tf' t2 v2 _ _ (by omega) (hf.trans k1) c2
def zup{W J:bG}{S el g p:Nat}(hT:zpr C S el 9)(hS:yF C S el 9 true){zs:List zA}{L:List oE}{l:List qA}{v0:zA}{Q:bB}
  (hz:∀x∈l,x.d.zs=zs) (hg:∀x∈l,z5w C.base W g x) (hlen:l.length<300000)
  (hj:∀v i t,pA C.base W J (zlw C S el g p zs v0 v i) t Q->J p [v0,v,.int .i64 i] t Q)
  (hQ:∀tf' t' v cl bs,dA tf tf'->qC C.base tf' t' (tJ C.base l cl [] v bs::L)->Q v t') (h0:jA tf 9 (l.map qA.d) v0) (ho:qC C.base tf t L):J p [v0,.nilslice,.int .i64 0] t Q:=by
 refine zuo hT hS hz hg hlen hj hQ h0 l.length 0 tf t .nilslice [] [] (by omega) (dA.refl _) ?_
 rw[List.take_zero];exact qC.add (A:=[]) (o':=tJ C.base [] [] [] .nilslice []) ho (fun _ _=>rfl) (fun k hk=>by simp[tJ,kG]at hk) ⟨.inl ⟨rfl,rfl⟩,by unfold aD;exact⟨rfl,rfl⟩⟩ (by simp[tJ,kG]) ho.tle
def kI:List Nat->qA->qA
 | [],x=>x
 | w::ws,x=>match x.args[w%x.args.length]? with
  | none=>x
  | some y=>kI ws y
def sH (y:qA):List Nat->qA->qA
 | [],_=>y
 | w::ws,x=>match x.args[w%x.args.length]? with
  | none=>y
  | some z=>.mk x.op x.name x.v (x.args.set (w%x.args.length) (sH y ws z))
def zzar (t:Tr rA)(b' off':Nat):List Nat->qA->Nat->Nat->Prop
 | [],_,b,off=>b'=b/\off'=off
 | w::ws,x,b,off=>match x.args[w%x.args.length]? with
  | none=>b'=b/\off'=off
  | some y=>∃n,At t b (off+8) [.slice n 0 x.args.length x.args.length]/\zzar t b' off' ws y n (0+w%x.args.length*9)
def aD.hole:∀ {l:List qA} {cl:List (List zA)} {bs:List Nat} {i:Nat} {y:qA},aD base tf t l cl bs->bs.Nodup->l[i]?=some y →
  ∃cs b1,cl[i]?=some cs/\xG base tf t y cs b1/\b1.Nodup/\(∀k∈b1,k∈bs)/\∀(t':Tr rA) (z:qA) (cs':List zA),dA tf t'->(∀k∈bs,k∉b1->t'.get k=t.get k)->RD t' z.d cs'->jC t' ((l.set i z).map qA.d) (cl.set i cs')
 | [],cl,bs,i,y,h,_,hi=>by rw[List.getElem?_nil]at hi;cases hi
 | x::l,cl,bs,0,y,h,hn,hi=>by
  unfold aD at h;obtain⟨c0,r,b0,b2,rfl,rfl,h1,h2⟩:=h
  rw[yaz]at hi
  cases hi;rw[List.nodup_append]at hn;refine⟨c0,b0,rfl,h1,hn.1,fun k hk=>ydc _ hk,fun t' z cs' hle hk hz=>xF.2 ⟨cs',r,rfl,hz,?_⟩⟩
  exact aD.rd hle l r b2 (aD.keep (t':=t') (dA.refl _) l r b2 h2 fun k hm=>hk k (ycf _ hm) fun e=>hn.2.2 k e k hm rfl)
 | x::l,cl,bs,i+1,y,h,hn,hi=>by
  unfold aD at h;obtain⟨c0,r,b0,b2,rfl,rfl,h1,h2⟩:=h
  rw[yba]at hi;rw[List.nodup_append]at hn;obtain⟨cs,b1,e1,e2,e3,e4,e5⟩:=aD.hole h2 hn.2.1 hi
  refine⟨cs,b1,by rw[yba];exact e1,e2,e3,fun k hk=>ycf _ (e4 k hk),fun t' z cs' hle hk hz=>xF.2 ⟨c0,r.set i cs',rfl,?_,e5 t' z cs' hle (fun k hm hm2=>hk k (ycf _ hm) hm2) hz⟩⟩
  exact xG.rd hle x c0 b0 (xG.keep (t':=t') (dA.refl _) x c0 b0 h1 fun k hm=>hk k (ydc _ hm) fun e=>hn.2.2 k hm k (e4 k e) rfl)
def zcl(t t':Tr rA)(b off:Nat)(l:List zA):Prop:=∀c n lo,t.get b=some (.cells c n lo)->∃c',t'.get b=some (.cells c' n lo)/\∀j,c'.get j=if off<=j/\j<off+l.length then l[j-off]? else c.get j
def zcl.at{t':Tr rA}{b off:Nat}{l cs:List zA}(h:zcl t t' b off l)(k:At t b off cs):At t' b off l:=by
 obtain⟨c,n,lo,h1,h2⟩:=k
 obtain⟨c',h3,h4⟩:=h c n lo h1
 refine⟨c',n,lo,h3,fun j a hj=>?_⟩
 have hlt:=(ybc.1 hj).1
 rw[h4,yab ⟨by omega,by omega⟩,show off+j-off=j by omega];exact hj
def zxl{x:qA}{cs:List zA}(h:RD t x.d cs):cs.length=9:=by
 obtain⟨a,b,c,rfl,_⟩:=xI h
 rfl
def Room (t:Tr rA)(b off:Nat):Prop:=∃c n lo,t.get b=some (.cells c n lo)/\off+9<=n
def zqy:∀(ws:List Nat) (x:qA) (cs:List zA) (bs:List Nat) (b off:Nat),xG base tf t x cs bs->At t b off cs->b∉bs->bs.Nodup->Room t b off →
  ∃b' off' cs' bs',Room t b' off'/\zzar t b' off' ws x b off/\xG base tf t (kI ws x) cs' bs'/\At t b' off' cs'/\((b'=b/\off'=off)\/b'∈bs)/\(∀k∈bs',k∈bs)/\b'∉bs'/\bs'.Nodup ∧
   ∀(t':Tr rA) (y:qA) (csn:List zA),dA tf t'->(∀k,k=b\/k∈bs->k≠b'->k∉bs'->t'.get k=t.get k)->zcl t t' b' off' csn->RD t' y.d csn->∃cr,At t' b off cr/\RD t' (sH y ws x).d cr
 | [],x,cs,bs,b,off,h,ha,hb,hn,hr=>⟨b,off,cs,bs,hr,⟨rfl,rfl⟩,h,ha,.inl ⟨rfl,rfl⟩,fun k hk=>hk,hb,hn,fun t' y csn _ _ hc hy=>⟨csn,hc.at ha,hy⟩⟩
 | w::ws,x,cs,bs,b,off,h,ha,hb,hn,hr=>by
  cases hi:x.args[w%x.args.length]? with
  | none=>
   refine⟨b,off,cs,bs,hr,?_,?_,ha,.inl ⟨rfl,rfl⟩,fun k hk=>hk,hb,hn,fun t' y csn _ _ hc hy=>⟨csn,hc.at ha,?_⟩⟩
   ·unfold zzar;rw[hi];exact⟨rfl,rfl⟩
   ·unfold kI;rw[hi];exact h
   ·unfold sH;rw[hi];exact hy
  | some y0=>
   obtain⟨op,name,v,args⟩:=x
   simp only[qA.args]at hi;have hlt:=(ybc.1 hi).1
   unfold xG at h;obtain⟨a0,b0,c,cl,bss,rfl,h2,h3,h4,h5,rfl⟩:=h
   have hcl:=h5.length
   rw[List.nodup_append]at hn;obtain⟨csi,b1,e1,e2,e3,e4,e5⟩:=aD.hole h5 hn.2.1 hi
   rcases h4 with⟨rfl,rfl⟩ | ⟨n,c4,rfl,f1,f2,f3⟩
   ·simp at hcl;omega
   have hnb:n∉bss:=fun e=>hn.2.2 n (by simp[kG]) n e rfl
   have hat:At t n (0+w%args.length*9) csi:=LK.at (base:=base) (.inr ⟨n,c4,rfl,f1,f2,f3⟩) e1
   obtain⟨b',off',cs',bs',g0,g1,g2,g3,g4,g5,g6,g8,g7⟩:=zqy ws y0 csi b1 n (0+w%args.length*9) e2 hat (fun e=>hnb (e4 n e)) e3 ⟨_,_,_,f2,by
    have:=ybi 9 (show w%args.length+1<=cl.length by omega)
    omega⟩
   have hbb:b'=n\/b'∈b1:=by
    rcases g4 with g4 | g4
    ·exact .inl g4.1
    ·exact .inr g4
   have hbm:b'∈kG (.slice n 0 cl.length cl.length)++bss:=by
    rcases hbb with e | e
    ·rw[e];simp[kG]
    ·exact ycf _ (e4 b' e)
   refine⟨b',off',cs',bs',g0,?_,?_,g3,.inr hbm,fun k hk=>ycf _ (e4 k (g5 k hk)),g6,g8,fun t' y csn hle hk hc hy=>?_⟩
   ·unfold zzar
    simp only[qA.args];rw[hi];refine⟨n,?_,g1⟩
    obtain⟨c1,n1,lo1,k1,k2⟩:=ha
    refine⟨c1,n1,lo1,k1,fun j q hj=>?_⟩
    rcases j with _ | j
    ·have hq:q=.slice n 0 args.length args.length:=by simpa using hj.symm
     rw[hq,<- hcl];exact k2 8 _ rfl
    ·simp at hj
   ·unfold kI
    simp only[qA.args];rw[hi];exact g2
   ·have hne:b≠b':=fun e=>hb (e ▸ hbm)
    have hbsame:t'.get b=t.get b:=hk b (.inl rfl) hne fun e=>hb (ycf _ (e4 b (g5 b e)))
    obtain⟨cr,q1,q2⟩:=g7 t' y csn hle (fun k hm h1 h2=>hk k (.inr (by
     rcases hm with e | e
     ·rw[e];simp[kG]
     ·exact ycf _ (e4 k e))) h1 h2) hc hy
    refine⟨mF (.mk op name v args) a0 b0 (.slice n 0 cl.length cl.length),?_,?_⟩
    ·obtain⟨c1,n1,lo1,k1,k2⟩:=ha
     exact⟨c1,n1,lo1,by rw[hbsame];exact k1,k2⟩
    ·unfold sH
     simp only[qA.args];rw[hi];refine zq7 (op:=op) (name:=name) (v:=v) (args:=args.set (w%args.length) (sH y ws y0)) (h2.mono hle) (h3.mono hle) ⟨cl.set (w%args.length) cr,?_,e5 t' _ cr hle (fun k hm hm2=>hk k (.inr (ycf _ hm)) (fun e=>?_) (fun e=>hm2 (g5 k e))) q2⟩
     ·-- the list's own block
      have hblk:∃c' ,t'.get n=some (.cells c' (cl.length*9) (some (.sz 9)))/\∀(j:Nat) q,j≠w%args.length->cl[j]?=some q->∀(m:Nat) a,q[m]?=some a->c'.get (0+j*9+m)=some a:=by
       by_cases e:n=b'
       ·subst e
        have ho:off'=0+w%args.length*9:=by
         rcases g4 with g4 | g4
         ·exact g4.2
         ·exact absurd (e4 n g4) hnb
        obtain⟨c',p1,p2⟩:=hc _ _ _ f2
        refine⟨c',p1,fun j q hj hq m a hm=>?_⟩
        have hq9:=(f3 j q hq).1
        have hm9:=(ybc.1 hm).1
        have hc9:=zxl hy
        rw[p2,yaa,ybw]
        ·exact(f3 j q hq).2 m a hm
        ·rw[ho,hc9]
         rintro⟨z1,z2⟩
         rcases yau j (w%args.length)with z | z
         ·have:=ybi 9 (show j+1<=w%args.length by omega)
          omega
         ·have:=ybi 9 (show w%args.length+1<=j by omega)
          omega
       ·refine⟨c4,by rw[hk n (.inr (by simp[kG])) e (fun e2=>hnb (e4 n (g5 n e2)))];exact f2,fun j q _ hq m a hm=>?_⟩
        rw[ybw];exact(f3 j q hq).2 m a hm
      obtain⟨c',p1,p2⟩:=hblk
      refine .inr ⟨n,0,cl.length,by rw[ydh],by rw[ydh];exact ybk _,⟨c',_,_,p1,.inr ⟨_,rfl,rfl⟩⟩,fun j q hj=>?_⟩
      rw[ycw]at hj;split at hj
      ·rename_i e
       rw[yab (by omega)]at hj
       cases hj;rw[<- e];exact⟨zxl q2,q1⟩
      ·rename_i e
       exact⟨(f3 j q hj).1,c',_,_,p1,fun m a hm=>p2 j q (fun e2=>e e2.symm) hj m a hm⟩
     ·rcases hbb with e2 | e2
      ·rw[e,e2]at hm;exact hnb hm
      ·exact hm2 (e ▸ e2)
def oPin (bs:List Nat)(t0:Tr rA):oE where
 blks:=bs
 ok:=fun _ t=>∀k∈bs,t.get k=t0.get k/\∃y,t.get k=some y
 keep:=fun h _ hk k hm=>by rw[(hk k hm).1];exact h k hm
 live:=fun h k hk=>(h k hk).2
def zx0{t0:Tr rA}{b off n T:Nat}{c:Tr zA}{lo:Option Lo}{l:List zA}{y:uC}(hp:t.get b=t0.get b)(h0:t0.get b=some (.cells c n lo))(hb:C.base<=b)(hT:C.tys.get T=some y)(hl:l.length=y.size)(hoff:off+l.length<=n)(hone:tC zA.one l=true) :
  ∃t',(∀q,eC C T (.ptr b off) (.agg l) ⟨q,t⟩=some (pD,⟨q,t'⟩))/\zcl t0 t' b off l/\mD b t t':=by
 refine⟨t.set b (.cells (c.setMany l off) n lo),fun q=>?_,fun c1 n1 lo1 h=>?_,fun d hd=>by rw[Tr.get_set,yaa hd]⟩
 ·unfold eC
  rw[hT,uA];simp only[zA.asPtr,uA];have e0:(zA.agg l).cells=l:=rfl
  have e1:Nat.beq (aA l) y.size=true:=by rw[gC,hl];exact oB.2 rfl
  rw[e0,e1,oD];unfold pI xD;have e2:(!Nat.blt b C.base)=true:=by
   cases hq:Nat.blt b C.base with
   | true=>have:=kB.1 hq;omega
   | false=>rfl
  rw[e2,oD,hp,h0,uA];simp only[rA.asCells,uA];have e3:Nat.ble (off+aA l) n=true:=by rw[gC];exact dD.2 hoff
  rw[e3,hone];rfl
 ·rw[h0]at h
  cases h;exact⟨_,by rw[Tr.get_set,yab rfl],fun j=>by rw[Tr.get_setMany]⟩
end
end
end Go.Am
namespace Go.Proofs
open Go Go.Am
variable [sC]
mutual
def z0w:∀(x:qA) (d:Nat),yK x (d+1)=true->yK x d=true
 | .mk op name v args,d,h=>by
  unfold yK at h ⊢
  rw[yaa (by omega),Nat.add_sub_cancel]at h
  split
  ·rfl
  ·rename_i h0
   exact zr9 args (d-1) (by rw[show d-1+1=d by omega];exact h)
def zr9:∀(l:List qA) (d:Nat),xL l (d+1)=true->xL l d=true
 | [],d,h=>by unfold xL at h;cases h
 | x::l,d,h=>by
  unfold xL at h ⊢
  rw[ycq]at h ⊢
  rcases h with h | h
  ·exact .inl (z0w x d h)
  ·exact .inr (zr9 l d h)
end
def zbc{x:qA}{d:Nat}(h:gD x d=true):d<=24:=by
 obtain⟨op,name,v,args⟩:=x
 unfold gD at h;simp only[ybb,decide_eq_true_eq]at h;exact h.1.1
def zek:∀(d:Nat) {x:qA},gD x (d+1)=true->gD x 1=true
 | 0,x,h=>h
 | d+1,x,h=>by
  have h1:=zbc h
  rw[zbb x (d+1) (by omega),ybb]at h
  exact zek d h.1
def zo8{x:qA}(h:gD x 1=true):∀(d:Nat),d<=24->gD x (d+1)=true\/yK x (24-d)=true
 | 0,_=>.inl h
 | d+1,hd=>by
  rcases zo8 h d (by omega)with h1 | h1
  ·rw[zbb x (d+1) (by omega),h1,ycn]
   cases yK x (24-(d+1))with
   | true=>exact .inr rfl
   | false=>exact .inl rfl
  ·exact .inr (z0w x _ (by rw[show 24-(d+1)+1=24-d by omega];exact h1))
def zg2{op:Nat}{name:List Nat}{v:sF}{args:List qA}{d i:Nat}{y:qA}(h:gD (.mk op name v args) d=true)(hi:args[i]?=some y):op≠1/\gD y (d+1)=true:=by
 have hm:=ycv hi
 rcases(zou h).2 with⟨_,e⟩ | ⟨e,k⟩
 ·rw[e]at hm;cases hm
 ·rw[kV]at k
  exact⟨e,ycb.1 k y hm⟩
def zju:∀(ws:List Nat) (x:qA) (d:Nat),gD x (d+1)=true->gD (kI ws x) 1=true
 | [],x,d,h=>zek d h
 | w::ws,x,d,h=>by
  unfold kI
  cases hi:x.args[w%x.args.length]? with
  | none=>exact zek d h
  | some y=>
   obtain⟨op,name,v,args⟩:=x
   exact zju ws y (d+1) (zg2 h hi).2
section
variable {p:rE}
def zk6:∀ {l:List qA} {ks:List Nat} {i:Nat} {y:qA},wI p l=.inr ks->l[i]?=some y->(gF p y).2=0
 | [],ks,i,y,_,hi=>by rw[List.getElem?_nil]at hi;cases hi
 | x::l,ks,0,y,h,hi=>by
  rw[yaz]at hi
  cases hi;exact(zgj h).1
 | x::l,ks,i+1,y,h,hi=>by
  rw[yba]at hi;obtain⟨_,k',h2,_⟩:=zgj h
  exact zk6 h2 hi
def zp7:∀(ws:List Nat) (x:qA),(gF p x).2=0->(gF p (kI ws x)).2=0
 | [],x,h=>h
 | w::ws,x,h=>by
  unfold kI
  cases hi:x.args[w%x.args.length]? with
  | none=>exact h
  | some y=>
   obtain⟨op,name,v,args⟩:=x
   obtain⟨ks,h1,_⟩:=zzd h
   exact zp7 ws y (zk6 h1 hi)
def zk5:∀ {l:List qA} {i:Nat} {y z:qA},l[i]?=some y->gF p z=gF p y->wI p (l.set i z)=wI p l
 | [],i,y,z,hi,_=>by rw[List.getElem?_nil]at hi;cases hi
 | x::l,0,y,z,hi,h=>by
  rw[yaz]at hi
  cases hi;rw[List.set_cons_zero,wI,wI,h]
 | x::l,i+1,y,z,hi,h=>by
  rw[yba]at hi;rw[List.set_cons_succ,wI,wI,zk5 hi h]
def zhz{y:qA}:∀(ws:List Nat) (x:qA),gF p y=gF p (kI ws x)->gF p (sH y ws x)=gF p x
 | [],x,h=>h
 | w::ws,x,h=>by
  unfold kI at h;unfold sH
  cases hi:x.args[w%x.args.length]? with
  | none=>rw[hi]at h;exact h
  | some z=>
   rw[hi]at h;obtain⟨op,name,v,args⟩:=x
   have e:=zhz ws z h
   have hi':args[w%args.length]?=some z:=hi
   show gF p (.mk op name v (args.set (w%args.length) (sH y ws z)))=_
   rw[gF,gF,zk5 hi' e,ydh]
def zls:∀ {l:List qA} {i d:Nat} {y z:qA},l[i]?=some y->yK z d=true->xL (l.set i z) d=true
 | [],i,d,y,z,hi,_=>by rw[List.getElem?_nil]at hi;cases hi
 | x::l,0,d,y,z,hi,h=>by
  rw[List.set_cons_zero];unfold xL;rw[h];rfl
 | x::l,i+1,d,y,z,hi,h=>by
  rw[yba]at hi;rw[List.set_cons_succ];unfold xL;rw[zls hi h,Bool.or_true]
def zkd{y:qA}(hy:gD y 1=true):∀(ws:List Nat) (x:qA) (d:Nat),gD x (d+1)=true->gD (sH y ws x) (d+1)=true\/yK (sH y ws x) (24-d)=true
 | [],x,d,h=>zo8 hy d (by have:=zbc h;omega)
 | w::ws,x,d,h=>by
  have hd:=zbc h
  unfold sH
  cases hi:x.args[w%x.args.length]? with
  | none=>exact zo8 hy d (by omega)
  | some z=>
   obtain⟨op,name,v,args⟩:=x
   obtain⟨h1,h2⟩:=zg2 h hi
   show gD (.mk op name v (args.set (w%args.length) (sH y ws z))) (d+1)=true\/yK (.mk op name v (args.set (w%args.length) (sH y ws z))) (24-d)=true
   rcases zkd hy ws z (d+1) h2 with k | k
   ·left
    rw[gD,ybb]at h ⊢
    have h3:=h.2
    rw[yaa h1,ybb]at h3;rw[yaa h1,ydh];refine⟨h.1,?_⟩
    rw[ybb];refine⟨h3.1,?_⟩
    have h3:=h3.2
    rw[kV,ycb]at h3 ⊢
    intro a ha;rcases List.mem_or_eq_of_mem_set ha with ha | ha
    ·exact h3 a ha
    ·rw[ha];exact k
   ·right
    unfold yK;rw[yaa (by omega),show 24-d-1=24-(d+1) by omega]
    exact zls hi k
def zw4{x y:qA}{ws:List Nat}(hx:gD x 1=true)(hy:gD y 1=true)(he:gF p y=gF p (kI ws x)) :
  rH p (sH y ws x)=gF p x\/(rH p (sH y ws x)=(0,140)/\yK (sH y ws x) 24=true):=by
 unfold rH;rcases zkd hy ws x 0 hx with k | k
 ·left
  rw[yab k];exact zhz ws x he
 ·cases hq:gD (sH y ws x) 1 with
  | true=>left;rw[yab rfl];exact zhz ws x he
  | false=>right;exact⟨by rw[yaa (by simp)],k⟩
end
def zr1:∀ {l:List qA} {i:Nat} {z:qA},qA.fits l->z.fit->qA.fits (l.set i z)
 | [],i,z,h,_=>h
 | x::l,0,z,h,hz=>by
  unfold qA.fits at h;rw[List.set_cons_zero];unfold qA.fits;exact⟨hz,h.2⟩
 | x::l,i+1,z,h,hz=>by
  unfold qA.fits at h;rw[List.set_cons_succ];unfold qA.fits;exact⟨h.1,zr1 h.2 hz⟩
def zxu{y:qA}(hy:y.fit):∀(ws:List Nat) (x:qA),x.fit->(sH y ws x).fit
 | [],x,_=>hy
 | w::ws,x,h=>by
  unfold sH
  cases hi:x.args[w%x.args.length]? with
  | none=>exact hy
  | some z=>
   obtain⟨op,name,v,args⟩:=x
   unfold qA.fit at h;have hz:=zxu hy ws z (qA.fits_mem h.2.2.2.2.2 z (ycv hi))
   show(qA.mk op name v (args.set (w%args.length) (sH y ws z))).fit
   unfold qA.fit;exact⟨h.1,h.2.1,h.2.2.1,h.2.2.2.1,by rw[ydh];exact h.2.2.2.2.1,zr1 h.2.2.2.2.2 hz⟩
def zw5:∀(ws:List Nat) (x:qA),x.fit->(kI ws x).fit
 | [],x,h=>h
 | w::ws,x,h=>by
  unfold kI
  cases hi:x.args[w%x.args.length]? with
  | none=>exact h
  | some z=>
   obtain⟨op,name,v,args⟩:=x
   unfold qA.fit at h;exact zw5 ws z (qA.fits_mem h.2.2.2.2.2 z (ycv hi))
end Go.Proofs
namespace Go.Proofs
open Go Go.Am
section
variable [sC]
variable {t tf:Tr rA}
mutual
def z56:∀(x:qA),qA.cpy x->z5w yA.base (Wq yA F yJ) 12 x
 | .mk op name v args,h=>by
  intro L tf t cs Q ho hd hQ;obtain⟨a,b,c,rfl,ha,hb,hc⟩:=xI hd
  simp only[qA.op,qA.name,qA.v,qA.args]at ha hb hc ⊢
  unfold qA.cpy at h;rw[q12];refine w12 _ _ _ _ _ _ _ _ _ ?_
  simp only[t12,pA];refine z05 h.1 ho (zq6 (x:=v) ha hb) fun tf1 t1 c1 k1 k2 k3=>?_
  have hz1:=dH k3 (sF.zs _)
  have a1:=k3.all
  obtain⟨u1,v1,rfl,hu1,hv1⟩:=zql k3
  rw[hz1,tA];refine zL a1 ?_
  rw[q31];refine w31 _ ?_
  simp only[t31,pA];refine zup (l:=args) el34 z19 (fun x _=>x.zs) (fun x hx=>zv5 args h.2.2 x hx) h.2.1 (fun v i t hw=>j31_2 _ _ _ hw) (fun tf2 t2 v2 cl bs m1 m2=>?_) (hc.mono k1) k2
  have m3:qC yA.base tf2 t2 (qL yA.base (.mk op name v args) (mF (.mk op name v args) u1 v1 v2) (kG v2++bs)::L):=m2.conv rfl (fun⟨q1,q2⟩=>by
   rw[ycd]at q1;show xG yA.base tf2 t2 (.mk op name v args) _ _
   unfold xG;exact⟨u1,v1,v2,cl,bs,rfl,hu1.mono m1,hv1.mono m1,q1,q2,rfl⟩)
  have hr:RD t2 (qA.mk op name v args).d (mF (.mk op name v args) u1 v1 v2):=xG.rd m3.tle _ _ _ (m3.ok _ (yby ..))
  have h1:zA.one v2=true:=RD.ones _ _ hr v2 (by simp[mF])
  exact zL (by rw[iG];simp only[ycg,yck,h1];rfl) (zL hr.all (hQ tf2 t2 _ _ (k1.trans m1) m3))
def zv5:∀(l:List qA),qA.cpys l->∀x∈l,z5w yA.base (Wq yA F yJ) 12 x
 | [],_,x,hx=>by cases hx
 | y::l,h,x,hx=>by
  unfold qA.cpys at h;rcases ybs.1 hx with e | hx
  ·rw[e];exact z56 y h.1
  ·exact zv5 l h.2 x hx
end
def z90{q o:Nat}:sB yA 36 3 (.ptr q o)=some (.ptr q (o+8)):=by
 unfold sB nU;rw[z2i,uA];rfl
def znx{way:List Nat}{vw:zA}(hw:jA t 1 (pB .u8 way) vw)(hb8:∀w∈way,w<256)(hwl:way.length<lD){b' off':Nat}{Q:bB}(hQ:Q (.ptr b' off') t):∀(ws:List Nat) (i:Nat) (x:qA) (b off:Nat) (cs:List zA),way.drop i=ws->x.fit->At t b off cs->RD t x.d cs->zzar t b' off' ws x b off →
  jp 13 2 [.ptr b off,vw,.int .i64 (i:Int)] t Q:=by
 unfold lD at hwl;have hlen:zC vw=some (.int .i64 (way.length:Int)):=by rw[hw.len,iE]
 intro ws;induction ws with
 | nil=>
  intro i x b off cs hd hx ha hr hl;obtain⟨rfl,rfl⟩:=hl
  have hi:way.length<=i:=yak.1 hd
  refine j13_2 _ _ _ ?_
  unfold z8i;exact iA hlen (pC (yC (nLt (by omega)) hQ))
 | cons w ws ih=>
  intro i x b off cs hd hx ha hr hl;have hi:way[i]?=some w:=by
   have:=congrArg (fun l=>l[0]?) hd
   simpa[yde]using this
  have hlt:=(ybc.1 hi).1
  have hd2:way.drop (i+1)=ws:=by
   have:=congrArg List.tail hd
   simpa[List.tail_drop]using this
  have hw8:=hb8 w (ycv hi)
  obtain⟨op,name,v,args⟩:=x
  obtain⟨a0,b0,c,rfl,_,_,hc⟩:=xI hr
  simp only[qA.args]at hc;have hx':=hx
  unfold qA.fit at hx';have hbig:=hx'.2.2.2.2.1
  unfold lD at hbig;have hclen:zC c=some (.int .i64 (args.length:Int)):=by rw[hc.len,ybf]
  have hld:mA yA 34 ⟨0,t⟩ (.ptr b (off+8))=some c:=ha.load1 (j:=8) ty34 rfl rfl
  refine j13_2 _ _ _ ?_
  unfold z8i;refine iA hlen (pC (uB (yLt (by omega)) (iA rfl (iA z90 (cC hld (iA hclen (pC ?_)))))))
  unfold zzar at hl;simp only[qA.args]at hl;by_cases h0:args.length=0
  ·have e:args=[]:=ycc.1 h0
   rw[e]at hl;simp only[List.getElem?_nil]at hl;obtain⟨rfl,rfl⟩:=hl
   exact yC (nLt (by omega)) hQ
  have hk:w%args.length<args.length:=ycy _ (by omega)
  have hy:args[w%args.length]?=some args[w%args.length]:=ybd hk
  rw[hy]at hl;obtain⟨n,hn1,hn2⟩:=hl
  have hcn:c=.slice n 0 args.length args.length:=by
   obtain⟨c1,n1,lo1,k1,k2⟩:=hn1
   obtain⟨c2,n2,lo2,k3,k4⟩:=ha
   rw[k1]at k3
   cases k3
   have e1:=k2 0 _ rfl
   have e2:=k4 8 c rfl
   rw[yct]at e1;rw[e1]at e2;exact(yci e2).symm
  have hyd:(args.map qA.d)[w%args.length]?=some args[w%args.length].d:=by rw[ybu,hy];rfl
  obtain⟨pb,po,csy,g1,g2,g3,g4,g5⟩:=yF.at z19 (by simp) hc hyd
  have g6:lB yA 34 c (.int .i64 ((w%args.length:Nat):Int))=some (.ptr n (0+w%args.length*9)):=by
   rw[hcn];exact oU z19 hk
  rw[g1]at g6
  cases g6
  obtain⟨qb,qo,q1,q2⟩:=jA.idx (C:=yA) sl38 hw (i:=i) (x:=w) hi
  refine uB (yLt (by omega)) (iA rfl (iA z90 (cC hld (iA q1 (cC q2 (pC (iA rfl (iA z90 (cC hld (iA hclen (pC ?_)))))))))))
  rw[wrap_i64 (by omega) (by omega)]
  refine iA (eW (by omega)) (pC (iA g1 (dE ?_)))
  rw[wrap_i64 (by omega) (by omega),show(i:Int)+1=((i+1:Nat):Int) by omega]
  exact ih (i+1) args[w%args.length] n (0+w%args.length*9) csy hd2 (qA.fits_mem hx'.2.2.2.2.2 _ (ycj hk)) g3 g5 hn2
end
section
variable [sC]
variable {t tf:Tr rA}
def part13{way:List Nat}{vw:zA}(hw:jA t 1 (pB .u8 way) vw)(hb8:∀w∈way,w<256)(hwl:way.length<lD){b' off':Nat}{x:qA}{b off:Nat}{cs:List zA}{Q:bB}(hx:x.fit)(ha:At t b off cs)(hr:RD t x.d cs)(hl:zzar t b' off' way x b off)(hQ:Q (.ptr b' off') t):Wc yA F 13 [.ptr b off,vw] t Q:=by
 refine w13 _ _ ?_
 unfold t13;exact dE (znx hw hb8 hwl hQ way 0 x b off cs rfl hx ha hr hl)
def zol(a b:Nat):lA (a:Int) (b:Int)=decide (a=b):=by
 cases h:lA (a:Int) (b:Int)with
 | true=>have:=gH.1 h;exact(decide_eq_true (by omega)).symm
 | false=>exact(decide_eq_false fun e=>by rw[gH.2 (by omega)]at h;cases h).symm
def nE{a b:Nat}(h:a=b):(!lA (a:Int) (b:Int))≠true:=by rw[zol,decide_eq_true h];simp
def yE{a b:Nat}(h:a≠b):(!lA (a:Int) (b:Int))=true:=by rw[zol,decide_eq_false h];rfl
def zv2{p:rE}{x y:qA}{way:List Nat}{cp cx cy:List zA}{vw:zA}(hp:p.fit)(hx:x.fit)(hy:y.fit)(hM:eJ t)(hW:pN t)(hrp:RD t p.d cp)(hrx:RD t x.d cx)(hry:RD t y.d cy)
  (hw:jA t 1 (pB .u8 way) vw) (hb8:∀w∈way,w<256) (hwl:way.length<lD) :
  Wc yA F 3 [.agg cp,.agg (cx++cy),vw] t (fun v _=>v=.bool true):=by
 have hrp0:=hrp
 have hrx0:=hrx
 have hry0:=hry
 obtain⟨u1,u2,u3,rfl,_⟩:=fR hrp
 obtain⟨a,b,c,rfl,_⟩:=xI hrx
 obtain⟨a',b',c',rfl,_⟩:=xI hry
 have h9:xC yA F 9 [] t=some (.bool true):=zhy (g:=z3i) (by kernel_rfl) fun H=>rfl
 refine w3 _ _ _ _ _ _ _ _ _ _ _ _ _ _ _ _ _ _ _ _ _ _ _ ?_
 unfold t3;refine dC ?_
 rw[q9,h9,tA];refine aG (yC (by simp) (dC ?_))
 have s1:=zqb hp hx hrp0 hrx0
 have s2:=zqb hp hy hrp0 hry0
 unfold mF at s1 s2;rw[q10,s1,tA];refine aG ?_
 by_cases g1:(decide (zxb p<=2000)&&decide (zJ x 400<=400))=true
 case neg=>exact uB (by rw[Bool.eq_false_iff.2 g1];rfl) rfl
 refine yC (by rw[g1];simp) (dC ?_)
 rw[q10,s2,tA];refine aG ?_
 by_cases g2:(decide (zxb p<=2000)&&decide (zJ y 400<=400))=true
 case neg=>exact uB (by rw[Bool.eq_false_iff.2 g2];rfl) rfl
 refine yC (by rw[g2];simp) (dC ?_)
 have hcx:qA.cpy x:=by
  rw[ybb,decide_eq_true_eq,decide_eq_true_eq]at g1;exact ziz x 400 (qA.fit_ok hx) g1.2 (by omega)
 have hcy:qA.cpy y:=by
  rw[ybb,decide_eq_true_eq,decide_eq_true_eq]at g2;exact ziz y 400 (qA.fit_ok hy) g2.2 (by omega)
 have k1:xC yA F 11 [.agg [.str p.name,u1,u2,u3],.agg (mF x a b c)] t=some (kdV (rH p x)):=zig hp hx hM hW hrp0 hrx0
 have hx0:[zA.int .u8 x.op,.str x.name,.int .u8 x.v.kind,.bool x.v.f.n.neg,a,.bool x.v.f.d.neg,b,.int .i64 x.v.i,c]=mF x a b c:=rfl
 have hy0:[zA.int .u8 y.op,.str y.name,.int .u8 y.v.kind,.bool y.v.f.n.neg,a',.bool y.v.f.d.neg,b',.int .i64 y.v.i,c']=mF y a' b' c':=rfl
 rw[q11,hx0,k1,tA];refine iA rfl (pC (iA rfl (pC ?_)))
 by_cases e1:(rH p x).2=0
 case neg=>
  refine uB (yE e1) ?_
  show zA.bool (lA ((rH p x).1:Int) 0)=.bool true
  rw[zt0 e1];rfl
 have px:gD x 1=true:=by
  unfold rH at e1;split at e1
  ·assumption
  ·cases e1
 have ex:rH p x=gF p x:=by unfold rH;rw[yab px]
 refine yC (nE e1) (dC ?_)
 have ho:qC yA.base t t []:=⟨dA.refl _,by simp,(fun o h=>by cases h),(fun k h=>by simp at h)⟩
 rw[q12];refine z56 x hcx ho hrx0 fun tf1 t1 cs1 bs m1 m2=>?_
 have r1:RD t1 x.d cs1:=xG.rd m2.tle _ _ _ (m2.ok _ (yby ..))
 refine uH (dH r1 (qA.zs _)) (kH fun n hn hbn=>?_)
 have r1':=r1
 obtain⟨x1,x2,x3,rfl,_⟩:=xI r1'
 obtain⟨t2,f1,f2,f3,f4⟩:=rU (C:=yA) z2i hn
 have o2:=qC.newCel (A:=[]) m2 hn hbn f2 f3 f4
 refine⟨_,_,f1,kH fun q _ _=>?_⟩
 obtain⟨t3,s3,o3⟩:=qC.setCel (A:=[]) (n:=n) (j:=0) (v:=.agg (mF x x1 x2 x3)) o2 z2i rfl (by show 0+9<=9;decide) r1.all
 refine⟨_,_,s3 q,dC ?_⟩
 have o3:qC yA.base tf1 t3 [zmp n none (mF x x1 x2 x3),qL yA.base x (mF x x1 x2 x3) bs]:=o3
 have hown:xG yA.base tf1 t3 x (mF x x1 x2 x3) bs:=o3.ok (qL yA.base x (mF x x1 x2 x3) bs) (by simp)
 have hcel:jD t3 n none (mF x x1 x2 x3):=qC.cel (A:=[]) o3
 have hnd:=o3.nodup
 simp only[List.flatMap_cons,zmp,qL,List.flatMap_nil,ycd]at hnd;rw[List.singleton_append,List.nodup_cons]at hnd;have hroom:Room t3 n 0:=by
  obtain⟨c0,q0,_⟩:=hcel
  exact⟨c0,_,none,q0,by show 0+9<=9;decide⟩
 obtain⟨bb,oo,cs',bs',⟨c5,n5,lo5,hb1,hb2⟩,hloc,hsub,hat,hwh,hin,hnin,_,close⟩:=zqy way x _ bs n 0 hown hcel.at hnd.1 hnd.2 hroom
 have t03:dA t t3:=m1.trans o3.tle
 rw[q13];refine part13 (hw.mono t03) hb8 hwl hx hcel.at (xG.rd o3.tle _ _ _ hown) hloc ?_
 have rs:RD t3 (kI way x).d cs':=xG.rd o3.tle _ _ _ hsub
 have rs':=rs
 obtain⟨z1,z2,z3,rfl,_⟩:=xI rs'
 refine iA rfl (cC (hat.whole z2i rfl rfl) (uH (dH rs (qA.zs _)) (dC ?_)))
 have hsf:=zw5 way x hx
 have k2:xC yA F 11 [.agg [.str p.name,u1,u2,u3],.agg (mF (kI way x) z1 z2 z3)] t3=some (kdV (rH p (kI way x))):=zig hp hsf (hM.mono t03) (hW.mono t03) (RD.mono t03 _ _ hrp0) rs
 rw[q11];show sE (xC yA F 11 [.agg [.str p.name,u1,u2,u3],.agg (mF (kI way x) z1 z2 z3)] t3) _
 rw[k2,tA];refine iA rfl (pC (iA rfl (pC (dC ?_))))
 have k3:xC yA F 11 [.agg [.str p.name,u1,u2,u3],.agg (mF y a' b' c')] t3=some (kdV (rH p y)):=zig hp hy (hM.mono t03) (hW.mono t03) (RD.mono t03 _ _ hrp0) (RD.mono t03 _ _ hry0)
 rw[q11,hy0,k3,tA];refine iA rfl (pC (iA rfl (pC ?_)))
 have ps:gD (kI way x) 1=true:=zju way x 0 px
 have es:rH p (kI way x)=gF p (kI way x):=by unfold rH;rw[yab ps]
 have e2:(rH p (kI way x)).2=0:=by rw[es];exact zp7 way x (by rw[<- ex];exact e1)
 refine yC (nE e2) ?_
 by_cases e3:(rH p y).2=0
 case neg=>exact uB (yE e3) rfl
 refine yC (nE e3) ?_
 by_cases e4:(rH p (kI way x)).1=(rH p y).1
 case neg=>exact uB (yE e4) rfl
 refine yC (nE e4) (dC ?_)
 have py:gD y 1=true:=by
  unfold rH at e3;split at e3
  ·assumption
  ·cases e3
 have ey:rH p y=gF p y:=by unfold rH;rw[yab py]
 have law:=zw4 (p:=p) (ws:=way) px py (by rw[<- ey,<- es];exact Prod.ext e4.symm (by rw[e2,e3]))
 have o4:qC yA.base tf1 t3 [oPin (n::bs) t3]:=qC.join (o3:=oPin (n::bs) t3) o3 (List.Perm.refl _) fun q1 q2 k hk=>⟨rfl,by
  rcases ybs.1 hk with e | hk
  ·subst e
   obtain⟨c0,q0,_⟩:=hcel
   exact⟨_,q0⟩
  ·exact xG.live _ _ _ hown k hk⟩
 rw[q12];refine z04 y hcy o4 (RD.mono m1 _ _ hry0) fun tf2 t4 c2 d1 d2 d3=>?_
 refine uH (dH d3 (qA.zs _)) ?_
 have d3':=d3
 obtain⟨y1,y2,y3,rfl,_⟩:=xI d3'
 have hpin:∀k∈n::bs,t4.get k=t3.get k/\∃y,t4.get k=some y:=d2.ok (oPin (n::bs) t3) (by simp)
 have hbm:bb∈n::bs:=by
  rcases hwh with e | e
  ·rw[e.1];exact yby ..
  ·exact ybr _ e
 have hlow:=d2.low bb (by simpa[oPin]using hbm)
 obtain⟨t5,p1,p2,p3⟩:=zx0 (C:=yA) (T:=36) (l:=mF y y1 y2 y3) (hpin bb hbm).1 hb1 hlow.1 z2i rfl hb2 d3.all
 refine iA rfl (kH fun q _ _=>⟨_,_,p1 q,?_⟩)
 have t25:dA tf2 t5:=d2.tle.off hlow.2 p3
 obtain⟨cr,v1,v2⟩:=close t5 y (mF y y1 y2 y3) (d1.trans t25) (fun k hk hne _=>by
  rw[p3 k hne];refine(hpin k ?_).1
  rcases hk with e | e
  ·rw[e];exact yby ..
  ·exact ybr _ e) p2 (RD.mono t25 _ _ d3)
 have v2':=v2
 obtain⟨w1,w2,w3,rfl,_⟩:=xI v2'
 have hld:=v1.whole (C:=yA) z2i rfl rfl
 refine cC hld (uH (dH v2 (qA.zs _)) (dC ?_))
 have hpf:=zxu hy way x hx
 have t05:dA t t5:=m1.trans (d1.trans t25)
 have k4:xC yA F 11 [.agg [.str p.name,u1,u2,u3],.agg (mF (sH y way x) w1 w2 w3)] t5=some (kdV (rH p (sH y way x))):=zig hp hpf (hM.mono t05) (hW.mono t05) (RD.mono t05 _ _ hrp0) v2
 rw[q11];show sE (xC yA F 11 [.agg [.str p.name,u1,u2,u3],.agg (mF (sH y way x) w1 w2 w3)] t5) _
 rw[k4,tA];refine iA rfl (pC (iA rfl (pC ?_)))
 rcases law with hl | ⟨hl,hd⟩
 ·rw[hl,<- ex]
  refine yC ?_ (uB ?_ ?_)
  ·rw[e1];exact fun e=>by cases e
  ·rw[e1];rfl
  ·show zA.bool (lA _ _)=.bool true
   rw[zol,decide_eq_true rfl]
 ·rw[hl]
  refine uB rfl (cC hld (uH (dH v2 (qA.zs _)) (dC ?_)))
  have k5:=zlt (sH y way x) 24 _ hpf (by omega) v2
  rw[q14];show sE (xC yA F 14 [.agg (mF (sH y way x) w1 w2 w3),.int .i64 24] t5) _
  have k5:xC yA F 14 [.agg (mF (sH y way x) w1 w2 w3),.int .i64 24] t5=some (.bool (yK (sH y way x) 24)):=k5
  rw[k5,tA,hd];exact aG (uB rfl rfl)
end
end Go.Proofs
namespace Go.Am
open Go Go.RowKit Go.Proofs
def tsubst3{w:World}(hL:lF w){cs ds:Array Value}{u:Value}{p:rE}{x y:qA}{a b:List zA}{l:List Nat}{vw:zA}(hp:p.fit)(hx:x.fit)(hy:y.fit)(hh:Has w.heap.size cs.toList)(hrd:RD (pG w) p.d (cs.toList.map (av w.heap.size)))
  (hk:Has w.heap.size ds.toList) (hab:ds.toList.map (av w.heap.size)=a++b) (ha:RD (pG w) x.d a) (hb:RD (pG w) y.d b) (hl:l.length<lD) (h8:∀c∈l,c<256) (hv:vA (muW w) vw u) (hr:jA (pG w) 1 (pB .u8 l) vw) :
  Calls Tryz.prog 3 #[.agg cs,.agg ds,u] w fun e w'=>e=.returned (.bool true)/\Below w.heap.size w w':=by
 have h2:=zqt hk
 rw[hab]at h2;exact zs2 hL 3 [.agg (cs.toList.map (av w.heap.size)),.agg (a++b),vw] _ (by intro _;kernel_rfl) (.cons (zqt hh) (.cons h2 (.single hv))) ⟨_,zv2 hp hx hy (z9v hL) (zcd hL) hrd ha hb hr h8 hl,fun v t h=>h⟩
end Go.Am
namespace Go.Proofs.YtfijloeeppcipaaGreatDoor
open Go Go.Am Go.RowKit Go.ChangeShapes Go.WideShapes Go.ChangeAt
def plainB:zzaq Tryz.prog (fun t=>t=38\/t∈zkh):=⟨fun t ht=>by
 rcases ht with rfl | ht
 ·rw[Tryz.underlying38]
  exact⟨.inr (by decide),of_decide_eq_true (by kernel_rfl)⟩
 ·have h:=znv.part t ht
  revert h
  cases Tryz.prog.underlying t with
  | none=>exact id
  | some d=>
   cases d with
   | slice e=>exact fun⟨a,b⟩=>⟨.inr a,b⟩
   | struct fs=>exact fun⟨a,b⟩=>⟨fun f hf=>.inr (a f hf),b⟩
   | _=>exact id⟩
def open_bytes{H:Type}{enc:TypeId × Value->H}{W:World}{base:Nat}{v:Value}{d:DataW H}{ps:List MemPlace}(hL:lF W)(hok:Value.okWide Tryz.prog W .any base 38 v)(h:DataW.Trod enc Tryz.prog W 0 (fun _=>true) true 38 v d ps)(hw:(DataW.weights Tryz.prog 38 d).all (· <= reachBytes)=true) :
  ∃(l:List Nat) (a:zA),l.length<lD/\(∀c∈l,c<256)/\vA (muW W) a v/\jA (pG W) 1 (pB .u8 l) a:=by
 have hv:v.cells.toList=[v]:=by
  cases v with
  | agg cs=>
   unfold Value.okWide at hok;rw[Tryz.underlying38]at hok;have hok:Cell.okWide Tryz.prog W .any base 38 (.agg cs):=hok
   unfold Cell.okWide at hok;rw[Tryz.underlying38]at hok;have hok:Cell.ok Tryz.prog W .any base 38 (.agg cs):=hok
   unfold Cell.ok at hok;rw[Tryz.underlying38]at hok;exact hok.elim
  | _=>rfl
 obtain⟨fuel,h⟩:=h
 obtain⟨c,n,lo,hc,_⟩:=@zcd W hL ⟨0⟩
 rw[hv]at h;obtain⟨h1,x,h2,h3⟩:=znq plainB ⟨c,n,lo,hc⟩ fuel 38 [v] (d,ps) (.inl rfl) h hw
 obtain⟨l,g,rfl,rfl,hl,hm⟩:=wT (sz:=1) Tryz.underlying38 (by kernel_rfl) (of_decide_eq_true (by kernel_rfl)) h3
 obtain⟨m,rfl,hq⟩:=dR (g:=fun(n:Nat)=>D.int .u8 (n:Int)) (Q:=fun n=>n<256) fun y hy=>by
  obtain⟨o,rfl,ho⟩:=zb1 Tryz.underlying5 (hm y hy)
  exact⟨o,rfl,ho⟩
 obtain⟨a,e,hr⟩:=xK.1 h2
 have e:av W.heap.size v=a:=by simpa using e
 refine⟨m,a,by simpa using hl,hq,?_,hr⟩
 rw[<- e];exact zi6 (h1 v (by simp))
end Go.Proofs.YtfijloeeppcipaaGreatDoor
