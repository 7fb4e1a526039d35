/- The reference writes the same text of an expression. -/
import Derived.Test.YtmmedgeabnpnhaaGreatDoorB22
set_option linter.all false
noncomputable section
set_option maxRecDepth 100000
namespace Go.Proofs
open Go Go.Am
variable [kC]
variable {t tf:Tr sA}
def BQ{v:xE}(hv:v.fit)(hp:wH v=true):(mI v).length<=300:=by
 obtain⟨_,hff,hi1,hi2⟩:=hv;have hil:=Kz hi1 hi2;have hsl:=Ff (mH v.i);have hc:=dN v.i;have hF:gM v.f=true->(lF (mE v.f)).length<=220:=fun h=>by
  rw[Xa hff,ybb,decide_eq_true_eq]at h;have h:=h.2;unfold lF;by_cases hh:tK (mE v.f) [45]=true
  ·rw[yab hh]at h ⊢;simp at h ⊢;omega
  ·rw[yaa hh]at h ⊢;omega
 unfold wH at hp;unfold mI uO;split
 ·split<;>simp
 ·split
  ·rename_i k;rw[yab (.inl k),ybb]at hp;have:=hF hp.2;omega
  ·split
   ·rename_i k;rw[yab (.inr k),ybb]at hp;have:=hF hp.2;simp;omega
   ·split
    ·omega
    ·split
     ·simp;omega
     ·split<;>simp<;>omega
def Le{lev:Nat}{p:Nat × List Nat}:(sM lev p).length<=p.2.length+2:=by
 unfold sM;split<;>simp
def JR:∀(b:Bool) (l:List (Nat × List Nat)) (B:Nat),(∀p∈l,p.2.length<=B)->(tM b l).length<=l.length*(B+2)
 | _,[],_,_=>by simp[tM]
 | b,p::l,B,h=>by
  have h1:=JR false l B fun q hq=>h q (.tail _ hq);have h2:=h p (.head _);rw[tM,ybg,ybg,ybn,ybo];have h3:(if b=true then []else [44,32]:List Nat).length<=2:=by split<;>simp
  omega
def Xr(n:Nat):(zY n).length<=10:=by
 unfold zY;split
 ·have:∀k,k<7->(dT.getD k []).length<=10:=by decide
  exact this n (by assumption)
 ·simp
def Zh{l:List (Nat × List Nat)}{i B:Nat}(h:∀p∈l,p.2.length<=B):(l.getD i (0,[])).2.length<=B:=by
 by_cases hi:i<l.length
 ·have e:l.getD i (0,[])=l[i]:=by simp[hi]
  rw[e];exact h _ (ycj hi)
 ·have e:l.getD i (0,[])=(0,[]):=by simp[List.getElem?_eq_none (Nat.le_of_not_lt hi)]
  rw[e];exact yaw _
def zc9{op:Nat}{name:List Nat}{v:xE}{l:List (Nat × List Nat)}{B:Nat}(hop:op<27)(hn:name.length<=24)(hv:(oB op).style=1->(mI v).length<=300)(hl:l.length<=3)(h:∀p∈l,p.2.length<=B):(lH op name v l).length<=3*B+400:=by
 have hw:=(Qv hop).1;have hm:=Xr v.i.toNat;have h0:=Zh (i:=0) h;have h1:=Zh (i:=1) h;have i0:=Le (lev:=(oB op).left) (p:=l.getD 0 (0,[]));have i1:=Le (lev:=(oB op).right) (p:=l.getD 1 (0,[]));have hj:=JR true l B h;have hj2:l.length*(B+2)<=3*(B+2):=ybi _ hl;have ht:(bR op v.i).length<=13:=by
  unfold bR;split<;>simp<;>omega
 unfold lH;split
 ·rename_i e;have:=hv e;omega
 ·split
  ·omega
  ·split
   ·simp only[ybg,ybn,ybx];omega
   ·split
    ·simp only[ybg,ybn,ybx];omega
    ·split
     ·simp only[ybg];omega
     ·have:(if (oB op).named=true then name++[44,32]else []:List Nat).length<=26:=by split<;>simp<;>omega
      simp only[ybg,ybn,ybx];omega
mutual
def CA:∀(x:qA) (d:Nat),x.fit->tG x d=true->(aH x).length<=400*4^(25-d)
 | .mk op name v args,d,hf,hP=>by
  unfold tG kN at hP;simp only[ybb,decide_eq_true_eq]at hP;obtain⟨⟨hd,⟨⟨⟨h27,hs0⟩,hl⟩,hm⟩,hnm⟩,hrest⟩:=hP;obtain⟨f1,f2,f3,f4,f5,f6,f7,f8⟩:=Ll h27;unfold qA.fit at hf;have hn:name.length<=24:=by
   by_cases hh:(oB op).named=true
   ·rw[yab hh]at hnm;exact uK hnm
   ·rw[yaa hh]at hnm;have:=(rH _ _).1 hnm;rw[this];simp
  have hB:∀p∈iE args,p.2.length<=400*4^(25-(d+1)):=by
   by_cases h1:op=1
   ·have:args=[]:=by
     have:(oB op).most=0:=by rw[h1];decide
     exact List.eq_nil_of_length_eq_zero (by omega)
    rw[this];intro p hp;cases hp
   ·rw[yaa h1,ybb]at hrest;exact BY args (d+1) hf.2.2.2.2.2 hrest.2
  have hv:(oB op).style=1->(mI v).length<=300:=fun e=>by
   have h1:=f1 e;rw[yab h1]at hrest;exact BQ hf.2.2.2.1 hrest
  have hh:=zc9 (v:=v) h27 hn hv (by rw[dR,ybf];omega) hB;rw[aH];have e:25-d=(25-(d+1))+1:=by omega
  rw[e,yag];have:0<4^(25-(d+1)):=Nat.pow_pos (by omega);omega
def BY:∀(l:List qA) (d:Nat),qA.fits l->rK l d=true->∀p∈iE l,p.2.length<=400*4^(25-d)
 | [],_,_,_,p,hp=>by rw[iE]at hp;cases hp
 | x::l,d,hf,hP,p,hp=>by
  unfold qA.fits at hf;rw[rK,ybb]at hP;rw[iE]at hp;rcases ybs.1 hp with e | hp
  ·rw[e];exact CA x d hf.1 hP.1
  ·exact BY l d hf.2 hP.2 p hp
end
def QL{x:qA}{d:Nat}(hf:x.fit)(hP:tG x d=true):(aH x).length<=450359962737049600:=by
 have h:=CA x d hf hP;have:4^(25-d)<=4^25:=yao (by omega) (by omega);have e:400*4^25=450359962737049600:=by decide
 omega
end Go.Proofs
namespace Go.Proofs
open Go Go.Am
section
variable [kC]
variable {t:Tr sA}
def pv36{f:fC}{u v:zA}(h1:mA t 1 (jC f.n.limbs) u)(h2:mA t 1 (jC f.d.limbs) v)(hf:f.ok):vB yA F 16 [.agg [.bool f.n.neg,u,.bool f.d.neg,v]] t=some (.int .i64 (zM f:Nat)):=by
 have hs:=Ji hf;refine bB.2 (w16 ?_);unfold zM at hs  ⊢;simp (disch:=omega) only[uI,uZ,uW,t16,lA,h1.len,h2.len,xA,aB,fN,wrap_i64];simp
mutual
theorem pv37:∀(x:qA) (left:Int) (cs:List zA),x.ok -> -9007199254740992<=left->left<=9007199254740992->RD t x.d cs->vB yA F 9 [.agg cs,.int .i64 left] t=some (.int .i64 (kI x left))
 | .mk op name v args,left,cs,hx,hl1,hl2,h=>by
  obtain⟨a,b,c,rfl,ha,hb,hc⟩:=xJ h;simp only[qA.op,qA.name,qA.v,qA.args]at ha hb hc ⊢;have hx':=hx;unfold qA.ok at hx';have hf:=Ji hx'.2.1;have hn:=hx'.1;unfold dD at hn;refine bB.2 (w9 ?_);simp (disch:=omega) only[uI,uZ,uY,uW,t9,lA,q16,pv36 ha hb hx'.2.1,xA,aB,nO,lT,if_true,vJ,wrap_i64,Int.tdiv_eq_ediv_of_nonneg];unfold kI;exact ze9 args args left _ op name v _ _ c 0 hc rfl hx'.2.2.2 hx'.2.2.1 (by omega) hl1 hl2 (by omega)
theorem ze9:∀(l args:List qA) (left n:Int) (op:Nat) (name:List Nat) (v:xE) (a b c:zA) (i:Nat),mA t 9 (args.map qA.d) c->args.drop i=l->qA.oks l->args.length<dD->0<=n -> -9007199254740992<=left->left<=9007199254740992->n<=27021597764222976 →
  jp 9 2 [.int .i64 left,.int .i64 n,.int .i64 i,.int .u8 op,.str name,.int .u8 v.kind,.bool v.f.n.neg,a,.bool v.f.d.neg,b,.int .i64 v.i,c] t (fun v' t'=>v'=.int .i64 (yM l left n)/\t'=t)
 | [],args,left,n,op,name,v,a,b,c,i,hc,hd,hok,hsz,hn,hl1,hl2,hn2=>by
  have:=Zu hd;refine j9_2 ?_;simp only[uI,uG,qB,uZ,uY,uW,aG,t9_2,lA,hc.len,xA,aB,ybf,uC];grind [yM]
 | x::l,args,left,n,op,name,v,a,b,c,i,hc,hd,hok,hsz,hn,hl1,hl2,hn2=>by
  obtain⟨h1,h2,h3⟩:=Zv hd;unfold dD at hsz;have hok':=hok;unfold qA.oks at hok';refine j9_2 ?_;obtain⟨pb,po,cs,g1,g2,g3,g4,g5⟩:=rD.at nT (by simp) hc (i:=i) (d:=x.d) (by simp[h1]);simp only[uI,uG,qB,uZ,uY,uW,aG,t9_2,lA,hc.len,xA,aB,ybf,uC,mD,g1,g2,qL];rw[yab (by omega)];unfold yM;split
  ·rename_i hle;obtain⟨a1,b1,c1,rfl,ha1,hb1,hc1⟩:=xJ g5;have hs:=Nv x (left-n) hok'.1;rw[aF g5 x.zs];simp only[xA,cellsOf,Lc,Nn,xZ,gZ];simp (disch:=omega) only[q9,yaz,yba,wrap_i64];rw[pv37 x (left-n) _ hok'.1 (by omega) (by omega) g5];simp (disch:=omega) only[xA,aB,wrap_i64];have:=ze9 l args left (n+kI x (left-n)) op name v a b c (i+1) hc h2 hok'.2 hsz (by omega) hl1 hl2 (by omega)
   simp_all
  ·simp
end
end
section
variable [kC]
variable {t:Tr sA}
def Bd(x:gC)(a b c a' b' c':zA):List zA:=[.str x.name,.str x.label,.int .i64 x.from_,.int .i64 x.to,.int .i64 x.known,.bool x.off,.int .u8 x.when_.op,.str x.when_.name,.int .u8 x.when_.v.kind,.bool x.when_.v.f.n.neg,a,.bool x.when_.v.f.d.neg,b,.int .i64 x.when_.v.i,c,.int .u8 x.then_.op,.str x.then_.name,.int .u8 x.then_.v.kind,.bool x.then_.v.f.n.neg,a',.bool x.then_.v.f.d.neg,b',.int .i64 x.then_.v.i,c']
def BE:List zA:=[(.str []),(.str []),(.int .i64 0),(.int .i64 0),(.int .i64 0),(.bool false),(.int .u8 0),(.str []),(.int .u8 0),(.bool false),.nilslice,(.bool false),.nilslice,(.int .i64 0),.nilslice,(.int .u8 0),(.str []),(.int .u8 0),(.bool false),.nilslice,(.bool false),.nilslice,(.int .i64 0),.nilslice]
def UR{x:gC}{a b c a' b' c':zA}(ha:zA.one a=true)(hb:zA.one b=true)(hc:zA.one c=true)(ha':zA.one a'=true)(hb':zA.one b'=true)(hc':zA.one c'=true):nE zA.one (Bd x a b c a' b' c')=true:=by
 rw[iI];simp only[Bd,ycg,yck,ha,hb,hc,ha',hb',hc'];rfl
def zaw{l:List gC}{v:zA}(hv:mA t 24 (l.map gC.d) v){i:Nat}{x:gC}(hx:l[i]?=some x) :
  ∃p off a b c a' b' c',rB yA 24 v (.int .i64 (i:Int))=some (.ptr p off)/\dA yA 55 ⟨0,t⟩ (.ptr p off)=some (.agg (Bd x a b c a' b' c'))/\cN BE (.agg (Bd x a b c a' b' c'))=some (cellsOf (Bd x a b c a' b' c')) ∧
   RD t x.when_.d (qH x.when_ a b c)/\RD t x.then_.d (qH x.then_ a' b' c')/\nE zA.one (Bd x a b c a' b' c')=true:=by
 obtain⟨p,off,cs,g1,g2,_,_,g5⟩:=rD.at mV (by simp) hv (i:=i) (d:=x.d) (by simp[hx]);have hz:=aF g5 x.zs;obtain⟨a,b,c,a',b',c',rfl,h1,h2⟩:=jX g5;obtain⟨u1,u2,u3,e1,m1,m2,m3⟩:=xJ h1;obtain⟨w1,w2,w3,e2,n1,n2,n3⟩:=xJ h2;unfold qH at e1 e2;cases e1;cases e2;exact⟨p,off,_,_,_,_,_,_,g1,g2,hz,h1,h2,UR m1.one m2.one m3.one n1.one n2.one n3.one⟩
def kV:List cE->Int->Int
 | [],n=>n
 | d::l,n=>if n<=2000 then kV l (n+(d.name.length:Int) / 30)else n
def cQ:List vD->Int->Int
 | [],n=>n
 | r::l,n=>if n<=2000 then cQ l (n+(zM r.f:Nat))else n
def mT:List tD->Int->Int
 | [],n=>n
 | x::l,n=>if n<=2000 then mT l (cQ x.rows (n+(x.name.length:Int) / 30))else n
def yJ(c:gC)(n:Int):Int:=n+((c.name.length:Int) / 30+(c.label.length:Int) / 30+kI c.when_ (2000-n))
def iM:List gC->Int->Int
 | [],n=>n
 | c::l,n=>if n<=2000 then(if yJ c n<=2000 then iM l (yJ c n+kI c.then_ (2000-yJ c n))else iM l (yJ c n))else n
def qX(p:wF):Int:=iM p.clauses (mT p.tables (kV p.defs (1+(p.name.length:Int) / 30+p.defs.length+p.tables.length+p.clauses.length)))
def Rh(n:Nat):Int.tdiv (n:Int) 30=(n:Int) / 30:=Int.tdiv_eq_ediv_of_nonneg (by omega)
section
variable {p:wF}{a b c:zA}
theorem RV{l:List gC}(hc:mA t 24 (l.map gC.d) c)(hn:l.length<1125899906842624)(hf:∀x∈l,x.fit):∀(m i:Nat) (n:Int),i+m=l.length->0<=n->n<1152921504606846976->jp 6 14 [.int .i64 2000,.int .i64 n,.int .i64 (i:Int),.str p.name,a,b,c] t (fun v s=>v=.int .i64 (iM (l.drop i) n)/\s=t):=by
 intro m;induction m with
 | zero=>
  intro i n hi h0 h1;refine j6_14 ?_;simp only[uI,uG,mC,qB,uZ,uY,uW,uM1,zhe,lA,hc.len,xA,aB,ybf,uC];rw[yaa (by omega),ybt (by omega)]
  (first | exact⟨rfl,rfl⟩ | exact⟨rfl,trivial⟩ | trivial)
 | succ m ih=>
  intro i n hi h0 h1;have hlt:i<l.length:=by omega
  obtain⟨q,off,u1,u2,u3,w1,w2,w3,g1,g2,g3,g4,g5,g6⟩:=zaw hc (ybd hlt);have hfit:=hf _ (ycj hlt);obtain⟨f1,f2,_,_,_,f6,f7⟩:=hfit;unfold dD at f1 f2;have ok1:=qA.fit_ok f6;have ok2:=qA.fit_ok f7;refine j6_14 ?_;simp only[uI,uG,mC,qB,uZ,uY,uW,uM1,zhe,lA,hc.len,xA,aB,ybf,uC,mD];rw[yab (by omega),ybl hlt];unfold iM;by_cases h2:n<=2000
  ·rw[yab h2,yab h2];unfold BE at g3;rw[g1,xA,g2,xA,g3,xA];unfold Bd at g6;simp only[Bd,cellsOf,Lc,Nn,xZ,gZ,yaz,yba];have s1:=Nv l[i].when_ (2000-n) ok1;have e1:=pv37 l[i].when_ (2000-n) _ ok1 (by omega) (by omega) g4;unfold qH at e1;have ew:yJ l[i] n=n+((l[i].name.length:Int) / 30+(l[i].label.length:Int) / 30+kI l[i].when_ (2000-n)):=rfl
   have eN:iA .i64 (n+iA .i64 (iA .i64 (iA .i64 ((l[i].name.length:Int) / 30)+iA .i64 ((l[i].label.length:Int) / 30))+kI l[i].when_ (2000-n)))=yJ l[i] n:=by
    rw[wrap_i64 (n:=(l[i].name.length:Int) / 30) (by omega) (by omega),wrap_i64 (n:=(l[i].label.length:Int) / 30) (by omega) (by omega),wrap_i64 (n:=(l[i].name.length:Int) / 30+(l[i].label.length:Int) / 30) (by omega) (by omega),
     wrap_i64 (n:=(l[i].name.length:Int) / 30+(l[i].label.length:Int) / 30+kI l[i].when_ (2000-n)) (by omega) (by omega),wrap_i64 (by omega) (by omega)]
    rfl
   have bw:0<=yJ l[i] n/\yJ l[i] n<1152921504606846976:=by omega
   refine Yv g6 ?_;rw[wrap_i64 (n:=2000-n) (by omega) (by omega),q9,e1,xA,aB,xA];simp only[nO,lT,if_true,vJ,Rh,eN,mD];have ei:iA .i64 ((i:Int)+1)=((i+1:Nat):Int):=by grind [wrap_i64]
   generalize yJ l[i] n=k at *;by_cases h3:k<=2000
   ·rw[yab h3,yab h3];have s2:=Nv l[i].then_ (2000-k) ok2;have e2:=pv37 l[i].then_ (2000-k) _ ok2 (by omega) (by omega) g5;unfold qH at e2;rw[wrap_i64 (n:=2000-k) (by omega) (by omega),q9,e2,xA,aB,xA,ei,wrap_i64 (by omega) (by omega)];exact ih (i+1) _ (by omega) (by omega) (by omega)
   ·rw[yaa h3,yaa h3,ei];exact ih (i+1) _ (by omega) bw.1 bw.2
  grind
theorem DS:∀(l:List vD) (n:Int),(∀r∈l,r.fit)->0<=n->0<=cQ l n/\cQ l n<=max n 4503599627372496
 | [],n,_,h=>by grind [cQ]
 | r::l,n,hf,h=>by
  unfold cQ;split
  ·have:=Ji (hf r (by simp)).2.2.2.1;have:=DS l (n+(zM r.f:Nat)) (fun x hx=>hf x (by simp[hx])) (by omega);omega
  ·omega
theorem LR{l:List tD}(hb:mA t 3 (l.map tD.d) b){i:Nat}(hi:i<l.length):∃p o v,rB yA 23 b (.int .i64 (i:Int))=some (.ptr p o)/\dC yA 50 0 (.ptr p o)=some (.ptr p (o+0))/\dC yA 50 2 (.ptr p o)=some (.ptr p (o+2))/\dA yA 9 ⟨0,t⟩ (.ptr p (o+0))=some (.str l[i].name)/\dA yA 48 ⟨0,t⟩ (.ptr p (o+2))=some v/\mA t 7 (l[i].rows.map vD.d) v:=by
 obtain⟨p,o,cs,g1,g2,g3,_,g5⟩:=rD.at lV (by simp) hb (i:=i) (d:=l[i].d) (by simp_all);obtain⟨v,rfl,hv⟩:=lX g5;exact⟨p,o,v,g1,by kernel_rfl,by kernel_rfl,g3.load1 gH rfl rfl,g3.load1 ty48 rfl rfl,hv⟩
theorem RT{l:List tD}(hb:mA t 3 (l.map tD.d) b)(hf:∀x∈l,x.fit){i:Nat}(hi:i<l.length)(hil:i<1125899906842624){Q:wC}:∀(m j:Nat) (n:Int),j+m=l[i].rows.length->0<=n->n<1152921504606846976 →
  jp 6 6 [.int .i64 2000,.int .i64 (cQ (l[i].rows.drop j) n),.int .i64 ((i+1:Nat):Int),.str p.name,a,b,c] t Q->jp 6 10 [.int .i64 2000,.int .i64 n,.int .i64 (i:Int),.int .i64 (j:Int),.str p.name,a,b,c] t Q:=by
 obtain⟨q,o,v,g1,g2,g3,g4,g5,g6⟩:=LR hb hi;have hfit:=hf _ (ycj hi);obtain⟨f1,f2,f3⟩:=hfit;unfold dD at f1 f2;have ei:iA .i64 ((i:Int)+1)=((i+1:Nat):Int):=by grind [wrap_i64]
 intro m;induction m with
 | zero=>
  intro j n hj h0 h1 hQ;rw[ybt (by omega)]at hQ;refine j6_10 ?_;simp only[uI,uG,qB,uZ,uW,uA8,zhf,lA];rw[g1,xA,g3,xA,g5,xA,g6.len,xA,ybf,aB,xA];simp only[uC];rw[yaa (by omega),ei];exact hQ
 | succ m ih=>
  intro j n hj h0 h1 hQ;have hlt:j<l[i].rows.length:=by omega
  rw[ybl hlt]at hQ;unfold cQ at hQ;refine j6_10 ?_;simp only[uI,uG,qB,uZ,uW,uA8,zhf,lA];rw[g1,xA,g3,xA,g5,xA,g6.len,xA,ybf,aB,xA];simp only[uC,mD];rw[yab (by omega)];by_cases h2:n<=2000
  ·rw[yab h2]at hQ ⊢;obtain⟨q',o',cs,k1,k2,k3,_,k5⟩:=rD.at nV (by simp) g6 (i:=j) (d:=l[i].rows[j].d) (by simp_all);obtain⟨x,y,rfl,hx,hy⟩:=kX k5;have fa:dC yA 53 3 (.ptr q' o')=some (.ptr q' (o'+3)):=by kernel_rfl
   have ld:dA yA 34 ⟨0,t⟩ (.ptr q' (o'+3))=some (.agg [.bool l[i].rows[j].f.n.neg,x,.bool l[i].rows[j].f.d.neg,y]):=k3.load (j:=3) ty34 rfl rfl (by simp_all);have fr:(l[i].rows[j]).fit:=f3 _ (ycj hlt);have hz:cN [(.bool false),.nilslice,(.bool false),.nilslice] (.agg [.bool l[i].rows[j].f.n.neg,x,.bool l[i].rows[j].f.d.neg,y])=some (cellsOf [.bool l[i].rows[j].f.n.neg,x,.bool l[i].rows[j].f.d.neg,y]):=Hq (by
    show(true&&(fU .nilslice x&&(true&&(fU .nilslice y&&true))))=true
    grind [Ra])
   have e1:=pv36 hx hy fr.2.2.2.1;have hs:=Ji fr.2.2.2.1;have ej:iA .i64 ((j:Int)+1)=((j+1:Nat):Int):=by grind [wrap_i64]
   simp only[xA,g3,g5];rw[k1,xA,fa,xA,ld,xA,hz,xA];simp only[cellsOf,xZ,gZ,yaz,yba];rw[q16,e1,xA,aB,xA,ej,wrap_i64 (by omega) (by omega)]
   grind
  grind
theorem RS(hb:mA t 3 (p.tables.map tD.d) b)(hc:mA t 24 (p.clauses.map gC.d) c)(hp:p.fit):∀(m i:Nat) (n:Int),i+m=p.tables.length->0<=n->n<1152921504606846976->jp 6 6 [.int .i64 2000,.int .i64 n,.int .i64 (i:Int),.str p.name,a,b,c] t (fun v s=>v=.int .i64 (iM p.clauses (mT (p.tables.drop i) n))/\s=t):=by
 have hnt:=hp.ntables;have hnc:=hp.nclauses;unfold dD at hnt hnc;have cC:∀n:Int,0<=n->n<1152921504606846976->jp 6 14 [.int .i64 2000,.int .i64 n,.int .i64 0,.str p.name,a,b,c] t (fun v s=>v=.int .i64 (iM p.clauses n)/\s=t):=by
  intro n h0 h1;have:=RV (p:=p) (a:=a) (b:=b) hc hnc hp.clauses p.clauses.length 0 n (by omega) h0 h1
  simp_all
 intro m;induction m with
 | zero=>
  intro i n hi h0 h1;refine j6_6 ?_;simp only[uI,uS,uZ,uW,t6_6,lA,hb.len,xA,aB,ybf,uC];rw[yaa (by omega),ybt (by omega)];exact cC n h0 h1
 | succ m ih=>
  intro i n hi h0 h1;have hlt:i<p.tables.length:=by omega
  obtain⟨q,o,v,g1,g2,g3,g4,g5,g6⟩:=LR hb hlt;have hfit:=hp.tables _ (ycj hlt);obtain⟨f1,f2,f3⟩:=hfit;unfold dD at f1;refine j6_6 ?_;simp only[uI,uS,uZ,uW,t6_6,lA,hb.len,xA,aB,ybf,uC,mD];rw[yab (by omega),ybl hlt];unfold mT;by_cases h2:n<=2000
  ·rw[yab h2,yab h2,g1,xA,g2,xA,g4,xA,NU,xA,vJ,Rh,wrap_i64 (n:=(p.tables[i].name.length:Int) / 30) (by omega) (by omega),wrap_i64 (by omega) (by omega)];have hr:=DS p.tables[i].rows (n+(p.tables[i].name.length:Int) / 30) f3 (by omega);refine RT (p:=p) (a:=a) (c:=c) hb hp.tables hlt (by omega) p.tables[i].rows.length 0 _ (by omega) (by omega) (by omega) ?_
   rw[ycr];exact ih (i+1) _ (by omega) (by omega) (by omega)
  simp_all [yaa]
def RU(ha:mA t 3 (p.defs.map cE.d) a)(hb:mA t 3 (p.tables.map tD.d) b)(hc:mA t 24 (p.clauses.map gC.d) c)(hp:p.fit):∀(m i:Nat) (n:Int),i+m=p.defs.length->0<=n->n<1152921504606846976->jp 6 2 [.int .i64 2000,.int .i64 n,.int .i64 (i:Int),.str p.name,a,b,c] t (fun v s=>v=.int .i64 (iM p.clauses (mT p.tables (kV (p.defs.drop i) n)))/\s=t):=by
 have hnd:=hp.ndefs;unfold dD at hnd;have cC:∀n:Int,0<=n->n<1152921504606846976->jp 6 6 [.int .i64 2000,.int .i64 n,.int .i64 0,.str p.name,a,b,c] t (fun v s=>v=.int .i64 (iM p.clauses (mT p.tables n))/\s=t):=by
  intro n h0 h1;have:=RS (a:=a) hb hc hp p.tables.length 0 n (by omega) h0 h1;rw[ycr]at this;exact this
 intro m;induction m with
 | zero=>
  intro i n hi h0 h1;refine j6_2 ?_;simp only[uI,uS,qB,uZ,uW,t6_2,lA,ha.len,xA,aB,ybf,uC];rw[yaa (by omega),ybt (by omega)];exact cC n h0 h1
 | succ m ih=>
  intro i n hi h0 h1;have hlt:i<p.defs.length:=by omega
  obtain⟨q,o,cs,g1,g2,g3,_,g5⟩:=rD.at rX (by simp) ha (i:=i) (d:=p.defs[i].d) (by simp[ybd hlt]);have g5:=gT g5;subst g5;have fa:dC yA 47 0 (.ptr q o)=some (.ptr q (o+0)):=by kernel_rfl
  have ld:dA yA 9 ⟨0,t⟩ (.ptr q (o+0))=some (.str p.defs[i].name):=g3.load1 gH rfl rfl;have hfit:=hp.defs _ (ycj hlt);have f1:=hfit.1;unfold dD at f1;have ei:iA .i64 ((i:Int)+1)=((i+1:Nat):Int):=by rw[wrap_i64 (by omega) (by omega)];omega
  refine j6_2 ?_;simp only[uI,uS,qB,uZ,uW,t6_2,lA,ha.len,xA,aB,ybf,uC,mD];rw[yab (by omega),ybl hlt];unfold kV;by_cases h2:n<=2000
  ·rw[yab h2,yab h2,g1,xA,fa,xA,ld,xA,NU,xA,vJ,Rh,ei,wrap_i64 (n:=(p.defs[i].name.length:Int) / 30) (by omega) (by omega),wrap_i64 (by omega) (by omega)];exact ih (i+1) _ (by omega) (by omega) (by omega)
  ·rw[yaa h2,yaa h2];exact cC n h0 h1
def zbw{cs:List zA}(hp:p.fit)(h:RD t p.d cs):vB yA F 6 [.agg cs,.int .i64 2000] t=some (.int .i64 (qX p)):=by
 obtain⟨a,b,c,rfl,ha,hb,hc⟩:=zR h;have p1:=hp.name;have p2:=hp.ndefs;have p3:=hp.ntables;have p4:=hp.nclauses;unfold dD at p1 p2 p3 p4;refine bB.2 (w6 ?_);simp only[uI,uZ,uW,t6,lA,ha.len,hb.len,hc.len,xA,aB,ybf,vJ,Rh];rw[wrap_i64 (n:=(p.name.length:Int) / 30) (by omega) (by omega),wrap_i64 (n:=1+(p.name.length:Int) / 30) (by omega) (by omega),wrap_i64 (n:=1+(p.name.length:Int) / 30+(p.defs.length:Int)) (by omega) (by omega),wrap_i64 (n:=1+(p.name.length:Int) / 30+(p.defs.length:Int)+(p.tables.length:Int)) (by omega) (by omega),wrap_i64 (by omega) (by omega)]
 have:=RU ha hb hc hp p.defs.length 0 (1+(p.name.length:Int) / 30+p.defs.length+p.tables.length+p.clauses.length) (by omega) (by omega) (by omega);rw[ycr]at this;exact this
end
end
section
mutual
def qA.cpy:qA->Prop
 | .mk _ _ v args=>(v.f.n.limbs.length<300000/\v.f.d.limbs.length<300000)/\args.length<300000/\qA.cpys args
def qA.cpys:List qA->Prop
 | []=>True
 | x::l=>qA.cpy x/\qA.cpys l
end
structure wF.cpy (p:wF):Prop where
 defs:p.defs.length<300000
 tables:p.tables.length<300000
 clauses:p.clauses.length<300000
 rows:∀x∈p.tables,x.rows.length<300000/\∀r∈x.rows,r.f.n.limbs.length<300000/\r.f.d.limbs.length<300000
 exprs:∀x∈p.clauses,qA.cpy x.when_/\qA.cpy x.then_
theorem Qt(f:fC):1<=zM f/\f.n.limbs.length<zM f/\f.d.limbs.length<zM f:=by grind [zM]
def Fdzx:∀(x:qA) (left:Int),x.ok->1<=kI x left
 | .mk op name v args,left,h=>by
  unfold qA.ok at h;unfold kI;have:=Qt v.f;have:=(Fe args left (zM v.f+(name.length:Int) / 30) h.2.2.2 (by omega)).1;omega
mutual
def AC:∀(x:qA) (left:Int),x.ok->kI x left<=left->left<=2000->qA.cpy x
 | .mk op name v args,left,h,hs,hl=>by
  unfold qA.ok at h;unfold kI at hs;unfold qA.cpy;have:=Qt v.f;have h1:=(Fe args left (zM v.f+(name.length:Int) / 30) h.2.2.2 (by omega)).1;obtain⟨h2,h3⟩:=MN args left (zM v.f+(name.length:Int) / 30) h.2.2.2 (by omega) hs hl
  grind
def MN:∀(l:List qA) (left n:Int),qA.oks l->0<=n->yM l left n<=left->left<=2000->n+l.length<=left/\qA.cpys l
 | [],left,n,_,_,hs,_=>by
  grind [yM,qA.cpys]
 | x::l,left,n,h,hn,hs,hl=>by
  unfold qA.oks at h;unfold yM at hs;unfold qA.cpys;by_cases hc:n<=left
  ·rw[yab hc]at hs;have h1:=Fdzx x (left-n) h.1;have h2:=(Fe l left (n+kI x (left-n)) h.2 (by omega)).1;obtain⟨h3,h4⟩:=MN l left _ h.2 (by omega) hs hl;exact⟨by grind,AC x (left-n) h.1 (by omega) (by omega),h4⟩
  omega
end
def Vn:∀(l:List cE) (n:Int),n<=kV l n
 | [],n=>by grind [kV]
 | d::l,n=>by
  unfold kV;split
  ·have:=Vn l (n+(d.name.length:Int) / 30);omega
  ·omega
def EQ:∀(l:List vD) (n:Int),n<=cQ l n/\(cQ l n<=2000->0<=n->l.length+n<=2000/\∀r∈l,r.f.n.limbs.length<300000/\r.f.d.limbs.length<300000)
 | [],n=>by grind [cQ]
 | r::l,n=>by
  obtain⟨h1,h2⟩:=EQ l (n+(zM r.f:Nat))
  grind [Qt,cQ]
def Tg:∀(l:List tD) (n:Int),n<=mT l n/\(mT l n<=2000->0<=n->∀x∈l,x.rows.length<300000/\∀r∈x.rows,r.f.n.limbs.length<300000/\r.f.d.limbs.length<300000)
 | [],n=>by grind [mT]
 | x::l,n=>by
  obtain⟨r1,r2⟩:=EQ x.rows (n+(x.name.length:Int) / 30);obtain⟨h1,h2⟩:=Tg l (cQ x.rows (n+(x.name.length:Int) / 30))
  grind [mT]
def AG:∀(l:List gC) (n:Int),(∀x∈l,x.fit)->0<=n->n<=iM l n/\(iM l n<=2000->∀x∈l,qA.cpy x.when_/\qA.cpy x.then_)
 | [],n,_,_=>by grind [iM]
 | x::l,n,hf,hn=>by
  have hx:=hf x (by simp);have p1:=Fdzx x.when_ (2000-n) (qA.fit_ok hx.2.2.2.2.2.1);have p2:=Fdzx x.then_ (2000-yJ x n) (qA.fit_ok hx.2.2.2.2.2.2);have hw:n<=yJ x n/\kI x.when_ (2000-n)<=yJ x n-n:=by grind [yJ]
  unfold iM;split
  ·split
   ·obtain⟨h1,h2⟩:=AG l (yJ x n+kI x.then_ (2000-yJ x n)) (fun y hy=>hf y (by simp[hy])) (by omega);refine⟨by omega,fun h q hq=>?_⟩;rcases ybs.1 hq with rfl | hq
    ·exact⟨AC _ (2000-n) (qA.fit_ok hx.2.2.2.2.2.1) (by omega) (by omega),AC _ (2000-yJ q n) (qA.fit_ok hx.2.2.2.2.2.2) (by omega) (by omega)⟩
    simp_all
   ·obtain⟨h1,_⟩:=AG l (yJ x n) (fun y hy=>hf y (by simp[hy])) (by omega);omega
  omega
def GH{p:wF}(hp:p.fit)(h:qX p<=2000):wF.cpy p/\p.clauses.length<=2000:=by
 unfold qX at h;have h1:=Vn p.defs (1+(p.name.length:Int) / 30+p.defs.length+p.tables.length+p.clauses.length);obtain⟨h2,h3⟩:=Tg p.tables (kV p.defs (1+(p.name.length:Int) / 30+p.defs.length+p.tables.length+p.clauses.length));obtain⟨h4,h5⟩:=AG p.clauses (mT p.tables (kV p.defs (1+(p.name.length:Int) / 30+p.defs.length+p.tables.length+p.clauses.length))) hp.clauses (by omega)
 exact⟨⟨by omega,by omega,by omega,h3 (by omega) (by omega),h5 h⟩,by omega⟩
end
section
variable [kC]
def pS(k:Nat):List Nat:=qS.getD k []
def gS (d:cE):List Nat:=(if d.fact=true then [102,97,99,116,32]else [100,101,102,32])++d.name++[32]++pS d.kind
def Jw(s:List Nat):List Nat:=[112,108,97,110,32]++s
def rT (x:tD):List Nat:=[116,97,98,108,101,32]++x.name++(if x.two=true then [32,116,119,111]else [32,111,110,101])
def nU(two:Bool)(r:vD):List Nat:=lF (mH r.a)++(if two=true then [32]++lF (mH r.b)else [])
def iP (two:Bool)(r:vD):List Nat:=[114,111,119,32]++nU two r++[32,107,110,111,119,110,32]++lJ r.known++[32,105,115,32]++lF (mE r.f)
def toS (n:Int):List Nat:=if n<65536 then lJ n else [101,110,100]
def gU(c:gC):List Nat:=[99,108,97,117,115,101,32]++c.name++[32]++c.label++[32,102,114,111,109,32]++lJ c.from_++[32,116,111,32]++toS c.to++[32,107,110,111,119,110,32]++lJ c.known
def xL(c:gC):List Nat:=gU c++(if c.off=true then [32,111,102,102]else [32,119,104,101,110,32]++aH c.when_++[32,116,104,101,110,32]++aH c.then_)
def lP(x:tD):List (List Nat):=rT x::x.rows.map (iP x.two)
def uJ(p:wF):List (List Nat):=Jw p.name::(p.defs.map gS++(p.tables.flatMap lP++p.clauses.map xL))
def sF:List (List Nat)->List Nat
 | []=>[]
 | x::l=>x++[10]++sF l
def Qy:∀(a b:List (List Nat)),sF (a++b)=sF a++sF b
 | [],b=>rfl
 | x::a,b=>by rw[List.cons_append,sF,sF,Qy a b];simp
def LD(x:List Nat):sF [x]=x++[10]:=by simp[sF]
def Av(a:List (List Nat))(x:List Nat):sF (a++[x])=sF a++(x++[10]):=by rw[Qy,LD]
def kM (p:wF):List Nat:=sF (uJ p)
def As(p:wF):zA:=if eP p=true then(if 65536<(kM p).length then .tup [.str [],.int .i64 3]else .tup [.str (kM p),.int .i64 0])else .tup [.str [],.int .i64 2]
def zhu:∀ {p:Nat->Bool} {s:List Nat},zL p s=s->∀x∈s,p x=true:=by
 intro p s h x hx;unfold zL at h;rw[<- h]at hx;exact ycb.1 List.all_takeWhile x hx
def Kj{s:List Nat}(h:nH s=true):wB 256 s:=by
 intro x hx;unfold nH at h;split at h
 ·cases hx
 ·simp only[ybb]at h;have:=zhu ((rH _ _).1 h.1.2) x hx;unfold cM mL Db at this;simp only[ycq,ybb,decide_eq_true_eq]at this;omega
def pZ(x:qA):Prop:=∃left,left<=2000/\kI x left<=left
theorem AF:∀(l:List gC) (n:Int),(∀x∈l,x.fit)->0<=n->n<=iM l n/\(iM l n<=2000->∀x∈l,pZ x.when_/\pZ x.then_)
 | [],n,_,_=>by grind [iM]
 | x::l,n,hf,hn=>by
  have hx:=hf x (by simp);have p1:=Fdzx x.when_ (2000-n) (qA.fit_ok hx.2.2.2.2.2.1);have p2:=Fdzx x.then_ (2000-yJ x n) (qA.fit_ok hx.2.2.2.2.2.2);have hw:n<=yJ x n/\kI x.when_ (2000-n)<=yJ x n-n:=by grind [yJ]
  unfold iM;split
  ·split
   ·obtain⟨h1,h2⟩:=AF l (yJ x n+kI x.then_ (2000-yJ x n)) (fun y hy=>hf y (by simp[hy])) (by omega);refine⟨by omega,fun h q hq=>?_⟩;rcases ybs.1 hq with rfl | hq
    ·exact⟨⟨2000-n,by omega,by omega⟩,⟨2000-yJ q n,by omega,by omega⟩⟩
    ·exact h2 h q hq
   ·obtain⟨h1,_⟩:=AF l (yJ x n) (fun y hy=>hf y (by simp[hy])) (by omega);omega
  omega
def GG{p:wF}(hp:p.fit)(h:qX p<=2000):∀x∈p.clauses,pZ x.when_/\pZ x.then_:=by
 unfold qX at h;have h1:=Vn p.defs (1+(p.name.length:Int) / 30+p.defs.length+p.tables.length+p.clauses.length);obtain⟨h2,_⟩:=Tg p.tables (kV p.defs (1+(p.name.length:Int) / 30+p.defs.length+p.tables.length+p.clauses.length));exact(AF p.clauses _ hp.clauses (by omega)).2 h
def qT:List (Nat × List Nat)->Nat
 | []=>0
 | p::l=>p.2.length+qT l
def zdh(l:List (Nat × List Nat)):(l.getD 0 (0,[])).2.length+(l.getD 1 (0,[])).2.length<=qT l:=by
 rcases l with _ | ⟨a,_ | ⟨b,l⟩⟩<;>simp[qT]<;>omega
def JQ:∀(b:Bool) (l:List (Nat × List Nat)),(tM b l).length<=qT l+2*l.length
 | _,[]=>by simp[tM]
 | b,p::l=>by
  have h1:=JQ false l;rw[tM,ybg,ybg,ybn,qT];have h3:(if b=true then []else [44,32]:List Nat).length<=2:=by split<;>simp
  omega
def zc8{op:Nat}{name:List Nat}{v:xE}{l:List (Nat × List Nat)}(hop:op<27)(hn:name.length<=24)(hv:(oB op).style=1->(mI v).length<=300)(hl:l.length<=3):(lH op name v l).length<=qT l+400:=by
 have hw:=(Qv hop).1;have hm:=Xr v.i.toNat;have h0:=zdh l;have i0:=Le (lev:=(oB op).left) (p:=l.getD 0 (0,[]));have i1:=Le (lev:=(oB op).right) (p:=l.getD 1 (0,[]));have hj:=JQ true l;have ht:(bR op v.i).length<=13:=by
  unfold bR;split<;>simp<;>omega
 unfold lH;split
 ·rename_i e;have:=hv e;omega
 ·split
  ·omega
  ·split
   ·simp only[ybg,ybn,ybx];omega
   ·split
    ·simp only[ybg,ybn,ybx];omega
    ·split
     ·simp only[ybg];omega
     ·have:(if (oB op).named=true then name++[44,32]else []:List Nat).length<=26:=by split<;>simp<;>omega
      simp only[ybg,ybn,ybx];omega
mutual
def BZ:∀(x:qA) (d:Nat) (left:Int),x.fit->tG x d=true->kI x left<=left->((aH x).length:Int)<=400*kI x left
 | .mk op name v args,d,left,hf,hP,hs=>by
  have hok:=qA.fit_ok hf;unfold tG kN at hP;simp only[ybb,decide_eq_true_eq]at hP;obtain⟨⟨hd,⟨⟨⟨h27,hs0⟩,hl⟩,hm⟩,hnm⟩,hrest⟩:=hP;obtain⟨f1,f2,f3,f4,f5,f6,f7,f8⟩:=Ll h27;unfold qA.fit at hf;unfold qA.ok at hok;have hn:name.length<=24:=by
   by_cases hh:(oB op).named=true
   ·rw[yab hh]at hnm;exact uK hnm
   ·rw[yaa hh]at hnm;have:=(rH _ _).1 hnm;rw[this];simp
  unfold kI at hs ⊢;have hfr:=Qt v.f;have hB:(qT (iE args):Int)<=400*(yM args left (zM v.f+(name.length:Int) / 30)-(zM v.f+(name.length:Int) / 30)):=by
   by_cases h1:op=1
   ·have:args=[]:=by
     have:(oB op).most=0:=by rw[h1];decide
     exact List.eq_nil_of_length_eq_zero (by omega)
    rw[this,iE,yM,qT];omega
   ·rw[yaa h1,ybb]at hrest;exact BW args (d+1) left _ hf.2.2.2.2.2 hrest.2 (by omega) hs
  have hv:(oB op).style=1->(mI v).length<=300:=fun e=>by
   have h1:=f1 e;rw[yab h1]at hrest;exact BQ hf.2.2.2.1 hrest
  have hh:=zc8 (v:=v) (l:=iE args) h27 hn hv (by rw[dR,ybf];omega);rw[aH];omega
def BW:∀(l:List qA) (d:Nat) (left n:Int),qA.fits l->rK l d=true->0<=n->yM l left n<=left->(qT (iE l):Int)<=400*(yM l left n-n)
 | [],_,_,_,_,_,_,_=>by rw[iE,yM,qT];omega
 | x::l,d,left,n,hf,hP,hn,hs=>by
  unfold qA.fits at hf;rw[rK,ybb]at hP;unfold yM at hs ⊢;rw[iE,qT];by_cases hc:n<=left
  ·rw[yab hc]at hs ⊢;have h1:=Fdzx x (left-n) (qA.fit_ok hf.1);have h2:=(Fe l left (n+kI x (left-n)) (qA.fits_oks hf.2) (by omega)).1;have h3:=BZ x d (left-n) hf.1 hP.1 (by omega);have h4:=BW l d left _ hf.2 hP.2 (by omega) hs;have e:((oB x.op).level,aH x).2.length=(aH x).length:=rfl;rw[e];omega
  ·rw[yaa hc]at hs;omega
end
def Nr{x:qA}(hf:x.fit)(hP:tG x 1=true)(hs:pZ x):(aH x).length<=800000:=by
 obtain⟨left,h1,h2⟩:=hs;have:=BZ x 1 left hf hP h2;omega
end
section
variable [kC]
variable {t tf:Tr sA}
def yX(op:Nat):List Nat:=bif Nat.beq (oB op).style 4 then [32]++(oB op).word++[32]else(oB op).word
def xX:List Nat:=[3,4,5,6,7,8,9,10,11,12,13,14,15,16,18,19,20,21,22,23,24,25,26]
def zb5:((List.range 26).map fun op=>bM nC nC (t142 ((op+1:Nat):Int)))=(List.range 26).map fun op=>some (.int .i64 ((oB (op+1)).level:Nat)):=by kernel_rfl
def zbe:(xX.map fun(op:Nat)=>bM nC nC (t140 (op:Int)))=xX.map fun op=>some (.str (yX op)):=by kernel_rfl
def zcn:((List.range 256).map fun(n:Nat)=>bM nC nC (t143 (n:Int)))=(List.range 256).map fun n=>some (.str (zY n)):=by kernel_rfl
def Wj{op:Nat}(h0:op≠0)(h:op<27){name:List Nat}{k i:Int}{n1 n2:Bool}{a b c:zA}:vB yA F 142 [.agg [.int .u8 (op:Int),.str name,.int .u8 k,.bool n1,a,.bool n2,b,.int .i64 i,c]] t=some (.int .i64 ((oB op).level:Nat)):=by
 obtain⟨o,rfl⟩:∃o,op=o+1:=⟨op-1,by omega⟩;exact bB.2 (w142 (Gv (List.map_inj_left.1 zb5 o (List.mem_range.2 (by omega)))))
def zb2{op:Nat}(h:op∈xX):vB yA F 140 [.int .u8 (op:Int)] t=some (.str (yX op)):=bB.2 (w140 (Gv (List.map_inj_left.1 zbe op h)))
def zb8{n:Nat}(h:n<256):vB yA F 143 [.int .u8 (n:Int)] t=some (.str (zY n)):=bB.2 (w143 (Gv (List.map_inj_left.1 zcn n (List.mem_range.2 h))))
abbrev zE9:List zA:=[.int .u8 0,.str [],.int .u8 0,.bool false,.nilslice,.bool false,.nilslice,.int .i64 0,.nilslice]
abbrev dV(X:kG):zA:=.agg [.int .u8 (X.i 0),.str (X.s 1),.int .u8 (X.i 2),.bool (X.b 3),X.v 4,.bool (X.b 5),X.v 6,.int .i64 (X.i 7),X.v 8]
def smT (x:zA)(k:T):T:=.ite (same 10 x x) k .fail
def agT (c:zA)(i:Int)(k:zA->kG->T):T:=.opt (rB yA 37 c (.int .i64 i)) fun a=>.light (fun m=>dA yA 39 ⟨0,m⟩ a) fun v=>.asG zE9 v fun X=>k a X
def anT (c a:zA)(X:kG)(k:T):T:=smT c (.light (fun m=>dA yA 39 ⟨0,m⟩ a) fun v=>.ite (same 10 v (dV X)) k .fail)
def adT (a b:List Nat)(k:List Nat->T):T:=.opt (xC a b) fun x=>.asS x k
def inT (e:zA)(n:Int)(k:List Nat->T):T:=.call 141 [e,.int .i64 n] fun x=>.asS x k
def wdT (op:Nat)(k:List Nat->T):T:=.call 140 [.int .u8 op] fun x=>.asS x k
def rtT (s:List Nat):T:=.ret (.str s)
def atT (op:Nat)(name:List Nat)(c:zA):T:=agT c 0 fun a X=>wdT op fun s=>smT (.str name) (anT c a X (adT s name fun s=>adT s [32,97,116,32] fun s=>inT (dV X) 7 fun z=>smT (.str name) (adT s z rtT)))
def ntT (c:zA):T:=agT c 0 fun _ X=>inT (dV X) 3 fun z=>adT [110,111,116,32] z rtT
def cmT (op:Nat)(c:zA):T:=agT c 0 fun _ X=>agT c 1 fun b Y=>inT (dV X) 5 fun z=>smT (.int .u8 op) (anT c b Y (wdT op fun s=>anT c b Y (adT z s fun s=>inT (dV Y) 5 fun y=>adT s y rtT)))
def opT (op:Nat)(self c:zA):T:=agT c 0 fun a X=>agT c 1 fun b Y=>.call 142 [self] fun n=>.asI .i64 n fun n=>anT c a X (smT (.int .u8 op) (anT c b Y (smT self (inT (dV X) n fun z=>smT (.int .u8 op) (anT c b Y (smT self (wdT op fun s=>anT c b Y (smT self (adT z s fun s=>.call 142 [self] fun n=>.asI .i64 n fun n=>anT c b Y (inT (dV Y) (iA .i64 (n+1)) fun y=>adT s y rtT))))))))))
def caT (op:Nat)(name:List Nat)(r:List zA):T:=wdT op fun s=>adT s [40] fun s=>.ite (!zD name []) (adT s name fun s=>adT s [44,32] fun s=>.jump 51 (.str s::r)) (.jump 51 (.str s::r))
def hZ (op:Nat)(name:List Nat)(k:Int)(n1:Bool)(a:zA)(n2:Bool)(b:zA)(i:Int)(c:zA)(t:Tr sA)(Q:wC):Prop:=
 wp 71 (entT yA (fo 71) (ko 71) 71 (ao 71) [.agg [.int .u8 op,.str name,.int .u8 k,.bool n1,a,.bool n2,b,.int .i64 i,c]]) t Q
section
variable {name:List Nat}{k:Int}{n1:Bool}{a:zA}{n2:Bool}{b:zA}{i:Int}{c:zA}{Q:wC}
def n71_1:hZ 1 name k n1 a n2 b i c t Q=wp 71 (.call 30 [.agg [.int .u8 k,.bool n1,a,.bool n2,b,.int .i64 i]] fun x=>.asS x rtT) t Q:=by kernel_rfl
def n71_2:hZ 2 name k n1 a n2 b i c t Q=Q (.str [116,111,100,97,121]) t:=by kernel_rfl
def n71_3:([3,4,5].map fun op=>hZ op name k n1 a n2 b i c t Q)=[3,4,5].map fun op=>wp 71 (atT op name c) t Q:=by kernel_rfl
def n71_17:([17].map fun op=>hZ op name k n1 a n2 b i c t Q)=[17].map fun(_:Nat)=>wp 71 (ntT c) t Q:=by kernel_rfl
def n71_13:([13,14].map fun op=>hZ op name k n1 a n2 b i c t Q)=[13,14].map fun op=>wp 71 (cmT op c) t Q:=by kernel_rfl
def n71_7:([7,8,9,10,15,16].map fun op=>hZ op name k n1 a n2 b i c t Q)=[7,8,9,10,15,16].map fun(op:Nat)=>wp 71 (opT op (.agg [.int .u8 op,.str name,.int .u8 k,.bool n1,a,.bool n2,b,.int .i64 i,c]) c) t Q:=by kernel_rfl
def n71_6:([6,11,12,18,19,20,21,22,23,24,25,26].map fun op=>hZ op name k n1 a n2 b i c t Q)=[6,11,12,18,19,20,21,22,23,24,25,26].map fun(op:Nat)=>wp 71 (caT op name [.int .u8 op,.str name,.int .u8 k,.bool n1,a,.bool n2,b,.int .i64 i,c]) t Q:=by kernel_rfl
end
end
section
variable [kC]
variable {t tf:Tr sA}
section
variable {Q:wC}{c a:zA}{args:List qA}{X:kG}{cs:List zA}
structure AtE (t:Tr sA) (a:zA) (X:kG) (cs:List zA) (x:qA):Prop where
 ld:dA yA 39 ⟨0,t⟩ a=some (.agg cs)
 ag:dV X=.agg cs
 rd:RD t x.d cs
def sX{x:zA}{k:T}(hx:same 10 x x=true)(h:wp 71 k t Q):wp 71 (smT x k) t Q:=tA hx h
def Ea{i:Nat}{k:zA->kG->T}(hc:mA t 9 (args.map qA.d) c)(hi:i<args.length)(h:∀a X cs,AtE t a X cs args[i]->wp 71 (k a X) t Q):wp 71 (agT c (i:Int) k) t Q:=by
 obtain⟨b0,off0,cs,g1,g2,_,_,g5⟩:=rD.at nT (by simp) hc (i:=i) (d:=args[i].d) (by simp[hi]);have ld:dA yA 39 ⟨0,t⟩ (.ptr b0 off0)=some (En true cs):=g2;have ld':=ld;rw[qL]at ld';refine vA g1 (sC ld ?_);rw[qL];refine dF (aF g5 (qA.zs _)) ?_;have hmk:=g5.mk (qA.zs args[i]);have hcs:[zA.int .u8 ((cellsOf cs).i 0),.str ((cellsOf cs).s 1),.int .u8 ((cellsOf cs).i 2),.bool ((cellsOf cs).b 3),(cellsOf cs).v 4,.bool ((cellsOf cs).b 5),(cellsOf cs).v 6,.int .i64 ((cellsOf cs).i 7),(cellsOf cs).v 8]=cs:=hmk
 exact h _ _ cs ⟨ld',by show zA.agg _=_;rw[hcs],g5⟩
def Bi{x:qA}{k:T}(hc:mA t 9 (args.map qA.d) c)(hx:AtE t a X cs x)(h:wp 71 k t Q):wp 71 (anT c a X k) t Q:=by
 refine sX hc.same (sC hx.ld (tA ?_ h));rw[hx.ag];exact hx.rd.sameA
def zT{s z:List Nat}{k:List Nat->T}(hl:s.length+z.length<4611686018427387904)(h:wp 71 (k (s++z)) t Q):wp 71 (adT s z k) t Q:=vA (pC hl) (pB h)
def Mn{op:Nat}{k:List Nat->T}(hw:op∈xX)(h:wp 71 (k (yX op)) t Q):wp 71 (wdT op k) t Q:=by
 refine cA ?_;rw[q140,zb2 hw,xA];exact pB h
def Gp{x:qA}{lev:Nat}{s:List Nat}{k:List Nat->T}(hx:AtE t a X cs x)(hp:vB yA F 141 [.agg cs,.int .i64 (lev:Int)] t=some (.str s))(h:wp 71 (k s) t Q):wp 71 (inT (dV X) (lev:Int) k) t Q:=by
 refine cA ?_;rw[hx.ag,q141,hp,xA];exact pB h
def PA{op:Nat}(h:op<27):(yX op).length<=12:=by
 have:∀k,k<27->(yX k).length<=12:=by decide +kernel
 exact this op h
end
def SZ{y:qA}{cs:List zA}{lev:Nat}(hr:RD t y.d cs)(hop0:y.op≠0)(hop:y.op<27)(hl:(aH y).length<=450359962737049600)(hy:vB yA F 71 [.agg cs] t=some (.str (aH y))) :
  vB yA F 141 [.agg cs,.int .i64 (lev:Int)] t=some (.str (sM lev ((oB y.op).level,aH y))):=by
 have hy0:=hy;obtain⟨a,b,c,rfl,ha,hb,hc⟩:=xJ hr;refine bB.2 (w141 ?_);unfold t141 uI uS uZ uY;refine cA ?_;rw[q142,Wj hop0 hop,xA];refine tB ?_;unfold sM;by_cases h:lev<=(oB y.op).level
 ·rw[yab h];refine bA (fE (by omega)) (cA ?_);rw[q71,hy0,xA];exact pB ⟨rfl,rfl⟩
 ·rw[yaa h];refine tA (qE (by omega)) (cA ?_);rw[q71,hy0,xA];exact pB (vA (pC (by simp;omega)) (pB (vA (pC (by simp;omega)) (pB ⟨rfl,rfl⟩))))
end
section
variable [kC]
variable {t tf:Tr sA}
def Sg(t:Tr sA)(y:qA):Prop:=∀cs,RD t y.d cs->vB yA F 71 [.agg cs] t=some (.str (aH y))
section
variable {args:List qA}{c:zA}
theorem zay{op:Nat}{name:List Nat}{k i0:Int}{n1 n2:Bool}{a b:zA}(hc:mA t 9 (args.map qA.d) c)(hall:∀y∈args,Sg t y)(hlen:∀y∈args,(aH y).length<=450359962737049600)(hn:args.length<=3)
  (h19:op=19->0<=i0/\i0<256):∀(m i:Nat) (s:List Nat),i+m=args.length->s.length<=100+i*450359962737049602 →
  jp 71 4 [.str s,.int .i64 (i:Int),.int .u8 (op:Int),.str name,.int .u8 k,.bool n1,a,.bool n2,b,.int .i64 i0,c] t (fun v t'=>v=.str (s++(tM (decide (i=0)) ((iE args).drop i)++bR op i0))/\t'=t):=by
 intro m;have hcl:=hc.len
 rw[ybf]at hcl;induction m with
 | zero=>
  intro i s hi hs;have hdrop:(iE args).drop i=[]:=ybt (by rw[dR,ybf];omega);rw[hdrop,tM,yah];have hs:s.length<=1500000000000000000:=by
   have:i<=3:=by omega
   have:=ybi 450359962737049602 this;omega
  refine j71_4 ?_;unfold zhc uI uS uZ uY;refine vA hcl (tB (bA (fE (by omega)) ?_));unfold bR;by_cases h:op=19
  ·rw[yab h];obtain⟨n,hn1,hn2,hn3⟩:∃n:Nat,iA .u8 i0=(n:Int)/\n<256/\i0.toNat=n:=⟨i0.toNat,by grind [Eg],by omega,rfl⟩;have hm:=Xr n;refine tA (bG (by omega)) (vA (pC (by simp;omega)) (pB (cA ?_)));rw[hn1,q143,zb8 hn2,xA,hn3];refine pB (vA (pC (by simp;omega)) (pB (vA (pC (by simp;omega)) (pB ⟨?_,rfl⟩))));simp[ybz]
  ·rw[yaa h];refine bA (cF (by omega)) (vA (pC (by simp;omega)) (pB ⟨by simp,rfl⟩))
 | succ m ih=>
  intro i s hi hs;have hlt:i<args.length:=by omega
  have hm:args[i]∈args:=ycj hlt;have hs2:s.length<=1500000000000000000:=by
   have:i<=3:=by omega
   have:=ybi 450359962737049602 this;omega
  have hl:=hlen _ hm;have hli:i<(iE args).length:=by rw[dR,ybf];exact hlt
  have hgi:(iE args)[i]=((oB args[i].op).level,aH args[i]):=by simp[dR]
  have hj:=JS hli;rw[hgi]at hj;have next:∀s':List Nat,s'.length<=s.length+2->s'=s++(if i=0 then []else [44,32])->jp 71 61 [.str s',.int .i64 (i:Int),.int .u8 (op:Int),.str name,.int .u8 k,.bool n1,a,.bool n2,b,.int .i64 i0,c] t (fun v t'=>v=.str (s++(tM (decide (i=0)) ((iE args).drop i)++bR op i0))/\t'=t):=by
   intro s' h1 h2;refine j71_61 ?_;have go:=Ea (Q:=fun v t'=>v=.str (s++(tM (decide (i=0)) ((iE args).drop i)++bR op i0))/\t'=t) (k:=fun _ X=>.call 71 [dV X] fun x=>.asS x fun z=>adT s' z fun s6=>.jump 4 [.str s6,.int .i64 (iA .i64 ((i:Int)+1)),.int .u8 (op:Int),.str name,.int .u8 k,.bool n1,a,.bool n2,b,.int .i64 i0,c]) hc hlt fun a' X cs hx=>by
    refine cA ?_;rw[hx.ag,q71,hall _ hm cs hx.rd,xA];refine pB (zT (by omega) (zC ?_));rw[wrap_i64 (by omega) (by omega),show(i:Int)+1=((i+1:Nat):Int) by omega];refine Jq.mono (ih (i+1) (s'++aH args[i]) (by omega) ?_) fun v t' h=>⟨?_,h.2⟩
    ·rw[ybg,ybo];omega
    ·rw[h.1,hj,h2];simp[ybz]
   exact go
  refine j71_4 ?_;unfold zhc uI uS uZ uY;refine vA hcl (tB (tA (qE (by omega)) ?_));by_cases h0:0<i
  ·refine tA (qE (by omega)) (vA (pC (by simp;omega)) (pB (zC (next _ (by simp) ?_))));rw[yaa (by omega)]
  ·refine bA (fE (by omega)) (zC (next _ (by omega) ?_));rw[yab (by omega),ycd]
end
def f3:∀k∈[3,4,5],(oB k).style=3/\(oB k).left=7/\yX k=(oB k).word/\1<=(oB k).least:=by decide +kernel
def f13:∀k∈[13,14],(oB k).style=4/\(oB k).left=5/\(oB k).right=5/\yX k=[32]++(oB k).word++[32]/\2<=(oB k).least:=by decide +kernel
def f7:∀k∈[7,8,9,10,15,16],(oB k).style=4/\(oB k).left=(oB k).level/\(oB k).right=(oB k).level+1/\yX k=[32]++(oB k).word++[32]/\2<=(oB k).least:=by decide +kernel
def f6:∀k∈[6,11,12,18,19,20,21,22,23,24,25,26],(oB k).style=6/\yX k=(oB k).word:=by decide +kernel
def f17:∀k∈[17],(oB k).style=5/\(oB k).left=3/\(oB k).word=[110,111,116,32]/\1<=(oB k).least:=by decide +kernel
def f12:(oB 1).style=1/\(oB 2).style=2/\(oB 2).word=[116,111,100,97,121]/\(oB 0).style=0:=by decide +kernel
def Mo:∀k∈[3,4,5]++[13,14]++[7,8,9,10,15,16]++[6,11,12,18,19,20,21,22,23,24,25,26],k∈xX:=by decide
set_option maxHeartbeats 2000000 in
mutual
def Wd:∀(x:qA) (d:Nat),x.fit->tG x d=true->Sg t x
 | .mk op name v args,d,hfit,hP=>by
  have hP0:=hP;intro cs hr;obtain⟨a,b,c,rfl,ha,hb,hc⟩:=xJ hr;simp only[qA.op,qA.name,qA.v,qA.args]at ha hb hc ⊢;unfold tG kN at hP;simp only[ybb,decide_eq_true_eq]at hP;obtain⟨⟨hd,⟨⟨⟨h27,hs0⟩,hl⟩,hm⟩,hnm⟩,hrest⟩:=hP;simp only[ycp,decide_eq_false_iff_not]at hs0;obtain⟨_,_,_,_,_,_,f7',_⟩:=Ll h27;have hw:=PA h27;unfold qA.fit at hfit;have hn:name.length<=24:=by
   by_cases hh:(oB op).named=true
   ·rw[yab hh]at hnm;exact uK hnm
   ·rw[yaa hh]at hnm;have:=(rH _ _).1 hnm;rw[this];simp
  have hfits:=qA.fits_mem hfit.2.2.2.2.2;have hargs:op≠1->rK args (d+1)=true:=fun h1=>by
   rw[yaa h1,ybb]at hrest;exact hrest.2
  have hyP:op≠1->∀y∈args,tG y (d+1)=true:=fun h1=>by
   have:=hargs h1;rwa [Sc,ycb]at this
  have hall:op≠1->∀y∈args,Sg t y:=fun h1=>EG args (d+1) hfit.2.2.2.2.2 (hargs h1);have hlen:op≠1->∀y∈args,(aH y).length<=450359962737049600:=fun h1 y hy=>QL (hfits y hy) (hyP h1 y hy);have hself:same 10 (.agg [.int .u8 (op:Int),.str name,.int .u8 (v.kind:Int),.bool v.f.n.neg,a,.bool v.f.d.neg,b,.int .i64 v.i,c]) (.agg [.int .u8 (op:Int),.str name,.int .u8 (v.kind:Int),.bool v.f.n.neg,a,.bool v.f.d.neg,b,.int .i64 v.i,c])=true:=hr.sameA
  have inner:op≠1->∀(i lev:Nat) (hi:i<args.length) (cs:List zA),RD t args[i].d cs->vB yA F 141 [.agg cs,.int .i64 (lev:Int)] t=some (.str (sM lev ((iE args).getD i (0,[])))):=fun h1 i lev hi cs hr=>by
   have hm:=ycj hi;have e:(iE args).getD i (0,[])=((oB args[i].op).level,aH args[i]):=by simp[dR,hi]
   rw[e];have hy:=hyP h1 _ hm;have hop:args[i].op<27/\args[i].op≠0:=by
    generalize args[i]=y at hy;obtain⟨o,nm,w,l⟩:=y;unfold tG kN at hy;simp only[ybb,decide_eq_true_eq,ycp,decide_eq_false_iff_not]at hy;refine⟨hy.1.2.1.1.1.1,fun e=>hy.1.2.1.1.1.2 ?_⟩;have e:o=0:=e;rw[e];exact f12.2.2.2
   exact SZ hr hop.2 hop.1 (hlen h1 _ hm) (hall h1 _ hm cs hr)
  have inl:op≠1->∀(i lev:Nat),(sM lev ((iE args).getD i (0,[]))).length<=450359962737049602:=fun h1 i lev=>by
   have h:=Le (lev:=lev) (p:=(iE args).getD i (0,[]));have h2:((iE args).getD i (0,[])).2.length<=450359962737049600:=Zh fun p hp=>by
    rw[dR]at hp;obtain⟨y,hy,rfl⟩:=yaq.1 hp;exact hlen h1 y hy
   omega
  refine bB.2 (zj7 (pure:=gE) (oA 71) (by kernel_rfl) ?_);rw[aH];show hZ op name (v.kind:Int) v.f.n.neg a v.f.d.neg b v.i c t _;have cases:op=1\/op=2\/op∈[3,4,5]\/op∈[17]\/op∈[13,14]\/op∈[7,8,9,10,15,16]\/op∈[6,11,12,18,19,20,21,22,23,24,25,26]:=by
   have:op≠0:=fun e=>hs0 (by rw[e];exact f12.2.2.2);simp only[ybs,List.not_mem_nil,or_false];omega
  rcases cases with e | e | e | e | e | e | e
  ·subst e;rw[yab rfl]at hrest;rw[n71_1];obtain⟨s,h1,_,h3⟩:=EH (a:=v) ha hb hfit.2.2.2.1.2.1;refine cA ?_;rw[q30,h1,xA];refine pB ⟨?_,rfl⟩;rw[h3 hrest];unfold lH;rw[yab f12.1]
  ·subst e;rw[n71_2];refine⟨?_,rfl⟩;unfold lH;rw[yaa (by rw[f12.2.1];decide),yab f12.2.1,f12.2.2.1]
  ·have h1:op≠1:=by rintro rfl;revert e;decide
   have hwo:op∈xX:=Mo op (by simp only[yaf];exact .inl (.inl (.inl e)));obtain⟨g1,g2,g3,g4⟩:=f3 op e;rw[List.map_inj_left.1 (n71_3 (name:=name) (k:=(v.kind:Int)) (n1:=v.f.n.neg) (a:=a) (n2:=v.f.d.neg) (b:=b) (i:=v.i) (c:=c) (t:=t) (Q:=fun w m=>w=.str (lH op name v (iE args))/\m=t)) op e];have il:=inl h1 0 7;refine Ea (i:=0) hc (by omega) fun a' X cs hx=>Mn hwo (sX nO (Bi hc hx (zT (by omega) (zT (by simp only[ybg,ybn,ybx];omega) (Gp (lev:=7) hx (inner h1 0 7 _ cs hx.rd) (sX nO (zT (by simp only[ybg,ybn,ybx];omega) ⟨?_,rfl⟩)))))))
   unfold lH;rw[yaa (by omega),yaa (by omega),yab g1,g2,g3]
  ·have h1:op≠1:=by rintro rfl;revert e;decide
   obtain⟨g1,g2,g3,g4⟩:=f17 op e;rw[List.map_inj_left.1 (n71_17 (name:=name) (k:=(v.kind:Int)) (n1:=v.f.n.neg) (a:=a) (n2:=v.f.d.neg) (b:=b) (i:=v.i) (c:=c) (t:=t) (Q:=fun w m=>w=.str (lH op name v (iE args))/\m=t)) op e];have il:=inl h1 0 3;refine Ea (i:=0) hc (by omega) fun a' X cs hx=>Gp (lev:=3) hx (inner h1 0 3 _ cs hx.rd) (zT (by simp only[ybg,ybn,ybx];omega) ⟨?_,rfl⟩);unfold lH;rw[yaa (by omega),yaa (by omega),yaa (by omega),yaa (by omega),yab g1,g2,g3]
  ·have h1:op≠1:=by rintro rfl;revert e;decide
   have hwo:op∈xX:=Mo op (by simp only[yaf];exact .inl (.inl (.inr e)));obtain⟨g1,g2,g3,g4,g5⟩:=f13 op e;rw[List.map_inj_left.1 (n71_13 (name:=name) (k:=(v.kind:Int)) (n1:=v.f.n.neg) (a:=a) (n2:=v.f.d.neg) (b:=b) (i:=v.i) (c:=c) (t:=t) (Q:=fun w m=>w=.str (lH op name v (iE args))/\m=t)) op e];have il:=inl h1 0 5;have il1:=inl h1 1 5;refine Ea (i:=0) hc (by omega) fun a' X cs hx=>Ea (i:=1) hc (by omega) fun b' Y ds hy=>Gp (lev:=5) hx (inner h1 0 5 _ cs hx.rd) (sX lT (Bi hc hy (Mn hwo (Bi hc hy (zT (by omega) (Gp (lev:=5) hy (inner h1 1 5 _ ds hy.rd) (zT (by simp only[ybg,ybn,ybx];omega) ⟨?_,rfl⟩)))))))
   unfold lH;rw[yaa (by omega),yaa (by omega),yaa (by omega),yab g1,g2,g3,g4];simp[ybz]
  ·have h1:op≠1:=by rintro rfl;revert e;decide
   have h0:op≠0:=by rintro rfl;revert e;decide
   have hwo:op∈xX:=Mo op (by simp only[yaf];exact .inl (.inr e));obtain⟨g1,g2,g3,g4,g5⟩:=f7 op e;rw[List.map_inj_left.1 (n71_7 (name:=name) (k:=(v.kind:Int)) (n1:=v.f.n.neg) (a:=a) (n2:=v.f.d.neg) (b:=b) (i:=v.i) (c:=c) (t:=t) (Q:=fun w m=>w=.str (lH op name v (iE args))/\m=t)) op e];have il:=inl h1 0 (oB op).level;have il1:=inl h1 1 ((oB op).level+1);have hlv:(oB op).level<=10:=by
    have:∀k,k<27->(oB k).level<=10:=by decide +kernel
    exact this op h27
   refine Ea (i:=0) hc (by omega) fun a' X cs hx=>Ea (i:=1) hc (by omega) fun b' Y ds hy=>cA ?_;rw[q142,Wj h0 h27,xA];refine tB (Bi hc hx (sX lT (Bi hc hy (sX hself (Gp hx (inner h1 0 _ _ cs hx.rd) (sX lT (Bi hc hy (sX hself (Mn hwo (Bi hc hy (sX hself (zT (by omega) (cA ?_)))))))))))));rw[q142,Wj h0 h27,xA];refine tB ?_
   rw[wrap_i64 (by omega) (by omega),show((oB op).level:Int)+1=(((oB op).level+1:Nat):Int) by omega];refine Bi hc hy (Gp hy (inner h1 1 _ _ ds hy.rd) (zT (by simp only[ybg,ybn,ybx];omega) ⟨?_,rfl⟩));unfold lH;rw[yaa (by omega),yaa (by omega),yaa (by omega),yab g1,g2,g3,g4];simp[ybz]
  ·have h1:op≠1:=by rintro rfl;revert e;decide
   have hwo:op∈xX:=Mo op (by simp only[yaf];exact .inr e);obtain⟨g1,g2⟩:=f6 op e;rw[List.map_inj_left.1 (n71_6 (name:=name) (k:=(v.kind:Int)) (n1:=v.f.n.neg) (a:=a) (n2:=v.f.d.neg) (b:=b) (i:=v.i) (c:=c) (t:=t) (Q:=fun w m=>w=.str (lH op name v (iE args))/\m=t)) op e];have h19:op=19->0<=v.i/\v.i<256:=fun h=>by
    rw[yaa h1,ybb]at hrest;have:=hrest.1;unfold oW at this;rw[yab h]at this;simp only[ybb,decide_eq_true_eq]at this;omega
   have cC:∀s:List Nat,s.length<=100->s=(oB op).word++[40]++(if (oB op).named=true then name++[44,32]else [])->jp 71 51 (.str s::[.int .u8 (op:Int),.str name,.int .u8 (v.kind:Int),.bool v.f.n.neg,a,.bool v.f.d.neg,b,.int .i64 v.i,c]) t (fun w m=>w=.str (lH op name v (iE args))/\m=t):=fun s hs es=>by
    refine j71_51 ?_;unfold zej uZ uY;refine zC (Jq.mono (zay hc (hall h1) (hlen h1) (by omega) h19 args.length 0 s (by omega) (by omega)) fun w m h=>⟨?_,h.2⟩);have hh:lH op name v (iE args)=(oB op).word++[40]++((if (oB op).named=true then name++[44,32]else [])++(tM true (iE args)++bR op v.i)):=by
     unfold lH;rw[yaa (by omega),yaa (by omega),yaa (by omega),yaa (by omega),yaa (by omega)]
    rw[h.1,hh,es];simp[ybz]
   refine Mn hwo (zT (by simp only[ybg,ybn,ybx];omega) ?_);by_cases hh:(oB op).named=true
   ·rw[yab hh]at hnm;have hne:name≠[]:=fun e=>by rw[e]at hnm;revert hnm;decide
    refine tA (by rw[Bool.eq_false_iff.2 fun h=>hne ((rH _ _).1 h)];rfl) (zT (by simp only[ybg,ybn,ybx];omega) (zT (by simp only[ybg,ybn,ybx];omega) (zC (cC _ (by simp;omega) ?_))));rw[yab hh,g2];simp[ybz]
   ·rw[yaa hh]at hnm;refine bA (by rw[hnm];simp) (zC (cC _ (by simp;omega) ?_));rw[yaa hh,g2,ycd]
def EG:∀(l:List qA) (d:Nat),qA.fits l->rK l d=true->∀y∈l,Sg t y
 | [],_,_,_,y,hy=>by cases hy
 | x::l,d,hf,hP,y,hy=>by
  unfold qA.fits at hf;rw[rK,ybb]at hP;rcases ybs.1 hy with e | hy
  ·rw[e];exact Wd x d hf.1 hP.1
  ·exact EG l d hf.2 hP.2 y hy
end
end
section
variable [kC]
variable {t tf:Tr sA}
def vL (s L:List Nat):Prop:=s=L\/(65536<s.length/\65536<L.length)
theorem vL.refl(s:List Nat):vL s s:=.inl rfl
theorem vL.app{s L u U:List Nat}(h:vL s L)(k:vL u U):vL (s++u) (L++U):=by
 rcases h with rfl | ⟨h1,h2⟩
 ·rcases k with rfl | ⟨k1,k2⟩
  ·exact .inl rfl
  ·exact .inr ⟨by simp;omega,by simp;omega⟩
 ·exact .inr ⟨by simp;omega,by simp;omega⟩
def Wr.ln{s T:List Nat}(h:Wr [] T s):vL s T:=by
 rcases h with rfl | ⟨h1,h2⟩
 ·exact .inl (by simp)
 ·exact .inr ⟨h2,by simpa using h1⟩
def Qf(n:Nat):(pS n).length<=10:=by
 unfold pS;by_cases h:n<7
 ·have:∀k,k<7->(qS.getD k []).length<=10:=by decide
  exact this n h
 ·rw[List.getD_eq_getElem?_getD,List.getElem?_eq_none (show qS.length<=n by show 7<=n;omega)];simp
theorem JF(hG:bW t){n:Nat}(hn:n<7):vB yA F 101 [.int .u8 (n:Int)] t=some (.str (pS n))/\wB 256 (pS n):=by
 have hx:(qS.map zA.str)[n]?=some (.str (qS.getD n [])):=by
  have:n<qS.length:=hn
  simp_all
 refine⟨bB.2 (w101 (tA (by grind [wrap_i64,qE]) (vA (v:=.ptr 0 n) ?_ (sC (v:=.str (qS.getD n [])) ?_ (pB ⟨rfl,rfl⟩))))),?_⟩
 ·unfold rB;rw[ty194,pA];have e:(zA.int .u8 (n:Int)).asNat=some n:=rfl;rw[e,pA];grind [zA.asSlice,zA.asPtr,pA,lD.asArr,gH,lC,sE]
 ·have:=hG.load1 gH rfl hx;rw[ybw]at this;exact this
 ·have:∀k,k<7->∀x∈qS.getD k [],x<256:=by decide
  exact this n hn
structure RowF (two:Bool) (r:vD):Prop where
 a:(lF (mH r.a)).length<=40/\wB 256 (lF (mH r.a))
 b:(lF (mH r.b)).length<=40/\wB 256 (lF (mH r.b))
 f:(lF (mE r.f)).length<=220/\wB 256 (lF (mE r.f))/\iH r.f=true
 known:0<=r.known/\r.known<65536
def KH{n:Int}(h:i64 n):(lF (mH n)).length<=40/\wB 256 (lF (mH n)):=by
 have h1:=Kz h.1 h.2;have h2:=Ff (mH n);exact⟨by omega,(Pm Pn.1 Pn.2).1⟩
def XA{f:fC}(hf:f.fit)(h:gM f=true):(lF (mE f)).length<=220/\wB 256 (lF (mE f))/\iH f=true:=by
 rw[Xa hf,ybb,decide_eq_true_eq]at h;refine⟨?_,(Pm Po.1 Po.2).1,h.1⟩;have h:=h.2;unfold lF;by_cases hh:tK (mE f) [45]=true
 ·rw[yab hh]at h ⊢;simp at h ⊢;omega
 ·rw[yaa hh]at h ⊢;omega
def Od{two:Bool}{r:vD}(hf:r.fit)(hP:aR two r=true):RowF two r:=by
 unfold aR rM at hP;simp only[ybb,decide_eq_true_eq]at hP;exact⟨KH hf.1,KH hf.2.1,XA hf.2.2.2 hP.2.2.2.2,hP.2.2.2.1⟩
def Yh{two:Bool}{r:vD}(h:RowF two r):(nU two r).length<=81:=by
 have h1:=h.a.1;have h2:=h.b.1;unfold nU;split<;>simp<;>omega
def ER{two:Bool}{r:vD}(h:RowF two r):(iP two r).length<=330:=by
 have h1:=Yh h;have h2:=h.f.1;have h3:=(dN r.known).1;unfold iP;simp only[ybg,ybn,ybx];omega
def zhx{two:Bool}{r:vD}(h:RowF two r):wB 256 (iP two r):=by
 have hk:wB 256 (nU two r):=by
  unfold nU;refine vG h.a.2 ?_;split
  ·exact vG (by intro x hx;simp at hx;omega) h.b.2
  ·intro x hx;cases hx
 unfold iP;refine vG (vG (vG (vG (vG ?_ hk) ?_) (dN _).2) ?_) h.f.2.1
 all_goals (intro x hx;simp at hx;omega)
def STzx(hG:pK t){r:vD}{two:Bool}{cs:List zA}(hf:r.fit)(hP:aR two r=true)(h:RD t r.d cs):vB yA F 102 [.agg cs,.bool two] t=some (.str (iP two r)):=by
 have hF:=Od hf hP;have h1:=hF.a.1;have h2:=hF.b.1;have h3:=hF.f.1;have hkl:=Yh hF;have hcl:=(dN r.known).1;obtain⟨u,v,rfl,hu,hv⟩:=kX h;have hs:Am.same 10 (.agg [zA.bool r.f.n.neg,u,.bool r.f.d.neg,v]) (.agg [zA.bool r.f.n.neg,u,.bool r.f.d.neg,v])=true:=by
  show Am.same.sames 9 [zA.bool r.f.n.neg,u,.bool r.f.d.neg,v] [zA.bool r.f.n.neg,u,.bool r.f.d.neg,v]=true;simp only[Am.same.sames,Vx,hu.same,hv.same,Bool.and_self]
 have cC:jp 102 9 [.str (nU two r),.int .i64 r.a,.int .i64 r.b,.int .i64 r.known,.bool r.f.n.neg,u,.bool r.f.d.neg,v] t (fun v t'=>v=.str (iP two r)/\t'=t):=by
  refine j102_9 ?_;unfold ze2 uS uZ;refine vA (pC (by simp;omega)) (pB (vA (pC (by simp;omega)) (pB (cA ?_))));rw[q94,Lu hG hF.known.1 hF.known.2,xA];refine pB (tA hs (vA (pC (by simp;omega)) (pB (vA (pC (by simp;omega)) (pB (cA ?_))))));rw[q93,Zi hu hv hf.2.2.2 hF.f.2.2,xA];refine pB (vA (pC (by simp;omega)) (pB ⟨?_,rfl⟩))
  unfold iP;rfl
 refine bB.2 (w102 ?_);unfold t102 uS uZ;refine cA ?_;rw[q95,Ql hf.1.1 hf.1.2,xA];refine pB ?_
 cases two with
 | true=>
  refine tA rfl (cA ?_);rw[q95,Ql hf.2.1.1 hf.2.1.2,xA];exact pB (vA (pC (by simp;omega)) (pB (vA (pC (by simp;omega)) (pB (zC cC)))))
 | false=>
  have e:nU false r=lF (mH r.a):=by simp[nU]
  rw[e]at cC;exact bA (by simp) (zC cC)
structure ClF (c:gC):Prop where
 name:nH c.name=true
 label:nH c.label=true
 from_:0<=c.from_/\c.from_<65536
 known:0<=c.known/\c.known<65536
 to:c.to<65536->0<=c.to
 ex:c.off=false->tG c.when_ 1=true/\tG c.then_ 1=true
def Rn{c:gC}(h:aM c=true):ClF c:=by
 unfold aM rM at h;simp only[ybb,ycq,decide_eq_true_eq]at h;refine⟨h.1,h.2.1,h.2.2.1,h.2.2.2.1,fun k=>by omega,fun k=>?_⟩;have:=h.2.2.2.2.2;rw[k,yaa (by simp),ybb]at this;exact this
def Mz(n:Int):(toS n).length<=10/\wB 256 (toS n):=by
 have:=dN n;unfold toS;split
 ·exact⟨by omega,this.2⟩
 ·exact⟨by simp,by intro x hx;simp at hx;omega⟩
def Zd{c:gC}(h:ClF c):(gU c).length<=120:=by
 have h1:=uK h.name;have h2:=uK h.label;have h3:=(dN c.from_).1;have h4:=(dN c.known).1;have h5:=(Mz c.to).1;unfold gU;simp only[ybg,ybn,ybx];omega
def zda{c:gC}(h:ClF c):wB 256 (gU c):=by
 unfold gU;refine vG (vG (vG (vG (vG (vG (vG (vG (vG ?_ (Kj h.name)) ?_) (Kj h.label)) ?_) (dN _).2) ?_) (Mz _).2) ?_) (dN _).2
 all_goals (intro x hx;simp at hx;omega)
def YP(hM:pK t)(hW:sP t){x:gC}{cs:List zA}{Q:wC}(hx:x.fit)(hP:aM x=true)(hr:RD t x.d cs)
  (hQ:∀t' s,yB t t'->vL s (xL x)->s≠[]->s.length<200000->wB 256 s->Q (.str s) t'):Wc yA F 103 [.agg cs] t Q:=by
 have hF:=Rn hP;have hl:=Zd hF;have n1:=uK hF.name;have n2:=uK hF.label;have n3:=(dN x.from_).1;have n4:=(dN x.known).1;have n5:=(Mz x.to).1;have hlt:=zda hF;obtain⟨a,b,c,a',b',c',rfl,hw,ht⟩:=jX hr;have hsame:same 10 (.agg (qH x.then_ a' b' c')) (.agg (qH x.then_ a' b' c'))=true:=ht.sameA;simp only[qH,List.cons_append,yah]at hw ht hsame ⊢
 have cC:jp 103 9 [.str (toS x.to),.str x.name,.str x.label,.int .i64 x.from_,.int .i64 x.to,.int .i64 x.known,.bool x.off,.int .u8 x.when_.op,.str x.when_.name,.int .u8 x.when_.v.kind,.bool x.when_.v.f.n.neg,a,.bool x.when_.v.f.d.neg,b,.int .i64 x.when_.v.i,c,.int .u8 x.then_.op,.str x.then_.name,.int .u8 x.then_.v.kind,.bool x.then_.v.f.n.neg,a',.bool x.then_.v.f.d.neg,b',.int .i64 x.then_.v.i,c'] t Q:=by
  refine j103_9 ?_;unfold ze1 uS uZ uY;refine vA (pC (by simp;omega)) (pB (vA (pC (by simp;omega)) (pB (vA (pC (by simp;omega)) (pB (vA (pC (by simp;omega)) (pB (cA ?_))))))));rw[q94,Lu hM hF.from_.1 hF.from_.2,xA];refine pB (tA nO (tA nO (tA lT (vA (pC (by simp;omega)) (pB (vA (pC (by simp;omega)) (pB (vA (pC (by simp;omega)) (pB (vA (pC (by simp;omega)) (pB (cA ?_))))))))))))
  rw[q94,Lu hM hF.known.1 hF.known.2,xA];refine pB (tA nO (tA nO (vA (pC (by simp;omega)) (pB ?_))));have eh:[99,108,97,117,115,101,32]++x.name++[32]++x.label++[32,102,114,111,109,32]++lJ x.from_++[32,116,111,32]++toS x.to++[32,107,110,111,119,110,32]++lJ x.known=gU x:=rfl;rw[eh];have hne:gU x≠[]:=fun e=>by unfold gU at e;simp at e
  have ne2:∀l:List Nat,gU x++l≠[]:=fun l e=>hne (List.append_eq_nil_iff.1 e).1
  cases hoff:x.off with
  | true=>
   refine tA rfl (vA (pC (by simp;omega)) (pB ?_));refine hQ _ _ (yB.refl _) ?_ (ne2 _) (by simp;omega) (vG hlt (by intro x hx;simp at hx;omega));unfold xL;rw[yab hoff];exact vL.refl _
  | false=>
   obtain⟨pw,pt⟩:=hF.ex hoff;refine bA (by simp) (vA (pC (by simp;omega)) (pB (cA ?_)));rw[q69];refine LU hx.2.2.2.2.2.1 pw hM hW hw fun t1 s1 l1 _ w1 b1 lt1=>?_;refine pB (tA hsame (vA (pC (by simp;omega)) (pB (vA (pC (by simp;omega)) (pB (cA ?_))))));rw[q69];refine LU hx.2.2.2.2.2.2 pt (hM.mono l1) (hW.mono l1) (ht.mono l1) fun t2 s2 l2 _ w2 b2 lt2=>?_
   refine pB (vA (pC (by simp;omega)) (pB ?_));refine hQ _ _ (l1.trans l2) ?_ ?_ (by simp;omega) ?_
   ·unfold xL;rw[yaa (by rw[hoff];simp)];have:=((((vL.refl (gU x)).app (vL.refl [32,119,104,101,110,32])).app w1.ln).app (vL.refl [32,116,104,101,110,32])).app w2.ln;simpa[ybz]using this
   ·simp only[ybz];exact ne2 _
   ·exact vG (vG (vG (vG hlt (by intro x hx;simp at hx;omega)) lt1) (by intro x hx;simp at hx;omega)) lt2
 refine w103 ?_;unfold t103 uS uZ uY;by_cases h:x.to<65536
 ·refine tA (qE h) (cA ?_);rw[q94,Lu hM (hF.to h) h,xA];unfold toS at cC;rw[yab h]at cC;exact pB (zC cC)
 ·unfold toS at cC;rw[yaa h]at cC;exact bA (fE h) (zC cC)
end
section
variable [kC]
variable {t tf:Tr sA}
def fa26_0{b:Nat}:dC yA 26 0 (.ptr b 0)=some (.ptr b 0):=by kernel_rfl
def fa26_1{b:Nat}:dC yA 26 1 (.ptr b 0)=some (.ptr b 1):=by kernel_rfl
def fa26_2{b:Nat}:dC yA 26 2 (.ptr b 0)=some (.ptr b 2):=by kernel_rfl
def fa26_3{b:Nat}:dC yA 26 3 (.ptr b 0)=some (.ptr b 3):=by kernel_rfl
def JE{d:cE}(h:zP d=true):nH d.name=true/\1<=d.kind/\d.kind<7:=by
 unfold zP at h;simp only[ybb,decide_eq_true_eq]at h;exact⟨h.1,h.2.1,by omega⟩
def YJ{t:Tr sA}(hK:bW t){d:cE}(h:zP d=true):(gS d).length<=50/\wB 256 (gS d):=by
 obtain⟨h1,h2,h3⟩:=JE h;have n1:=uK h1;have k1:=Qf d.kind;unfold gS;constructor
 ·have:(if d.fact=true then [102,97,99,116,32]else [100,101,102,32]:List Nat).length<=5:=by split<;>simp
  simp only[ybg,ybn,ybx];omega
 ·refine vG (vG (vG ?_ (Kj h1)) (by intro x hx;simp at hx;omega)) (JF hK h3).2;split <;> (intro x hx;simp at hx;omega)
def QW{x:tD}(h:nH x.name=true):(rT x).length<=50/\wB 256 (rT x):=by
 have n1:=uK h;unfold rT;constructor
 ·have:(if x.two=true then [32,116,119,111]else [32,111,110,101]:List Nat).length<=4:=by split<;>simp
  simp only[ybg,ybn,ybx];omega
 ·refine vG (vG (by intro x hx;simp at hx;omega) (Kj h)) ?_;split <;> (intro x hx;simp at hx;omega)
def zct{l w:Nat}{p:wF}{a b c:zA}{I:List (List Nat)->Tr sA->Prop}{E:Tr sA->Prop}{Q:wC}(hp:p.fit)(hP:eP p=true)(hI:∀ls t,I ls t->yB tf t)(hI2:∀ls t t',I ls t->yB t t'->I ls t')
  (hM:pK tf) (hW:sP tf) (hK:bW tf) (c0:wD tf w none [.str p.name,a,b,c]) (ra:mA tf 3 (p.defs.map cE.d) a) (rb:mA tf 3 (p.tables.map tD.d) b) (rc:mA tf 24 (p.clauses.map gC.d) c)
  (hy:∀ls L rest t ln Q1,uJ p=ls++L::rest->I ls t->vL ln L->ln≠[]->ln.length<200000->wB 256 ln->(∀t',E t'->Q1 (.bool false) t')->(∀t',I (ls++[L]) t'->Q1 (.bool true) t')->Wq yA F gE (yo+l) [.str ln] t Q1)
  (hE:∀t,E t->Q (.tup []) t) (hF:∀t,I (uJ p) t->Q (.tup []) t) (h0:I [] t):Wc yA F 100 [.func (.yld l) [] [],.ptr w 0] t Q:=by
 have cy:∀(f:Nat) (s:List Nat) (K:zA->T) (t:Tr sA),Wq yA F gE (yo+l) [.str s] t (fun v t'=>lA yA.base (Wq yA F gE) (Jq yA F f) (K v) t' Q)->wp f (.callv (.func (.yld l) [] []) [.str s] K) t Q:=by
  intro f s K t h;exact h
 have step:∀(ls:List (List Nat)) (L:List Nat) (rest:List (List Nat)) (t:Tr sA) (ln:List Nat) (N:T),uJ p=ls++L::rest->I ls t->vL ln L->ln≠[]->ln.length<200000->wB 256 ln->(∀t',I (ls++[L]) t'->wp 100 N t' Q)->wp 100 (.callv (.func (.yld l) [] []) [.str ln] fun v=>.asB v fun b=>.ite (!b) (.ret (.tup [])) N) t Q:=by
  intro ls L rest t ln N h1 h2 h3 h4 h5 h6 h7;refine cy _ _ _ _ ?_;exact hy ls L rest t ln _ h1 h2 h3 h4 h5 h6 (fun t' he=>yC (tA rfl (hE t' he))) fun t' hi=>yC (bA (by simp) (h7 t' hi))
 have hP0:=hP;unfold eP at hP;simp only[ybb,ycb]at hP;obtain⟨pn,pd,pt,pc⟩:=hP;have hnd:=hp.ndefs;have hnt:=hp.ntables;have hnc:=hp.nclauses;unfold dD at hnd hnt hnc;have nn:=uK pn;have loopC:∀(m i:Nat) (ls:List (List Nat)) (t:Tr sA),i+m=p.clauses.length->uJ p=ls++(p.clauses.drop i).map xL->I ls t->jp 100 14 [.func (.yld l) [] [],c,.int .i64 (p.clauses.length:Int),.int .i64 (i:Int)] t Q:=by
  intro m;induction m with
  | zero=>
   intro i ls t hi hls h;refine JW ?_;unfold Vc;refine bA (fE (by omega)) (hF t ?_);rw[ybt (by omega),List.map_nil,ycd]at hls;rw[hls];exact h
  | succ m ih=>
   intro i ls t hi hls h;have hlt:i<p.clauses.length:=by omega
   have hm:=ycj hlt;rw[ybl hlt,ycm]at hls;obtain⟨b',off,cs,g1,g2,g3,g4,g5⟩:=rD.at mV (by simp) (rc.mono (hI _ t h)) (i:=i) (d:=p.clauses[i].d) (by simp[hlt]);refine JW ?_;unfold Vc uG mC uS uB qB uZ;refine tA (qE (by omega)) (vA g1 (sC g2 ?_));rw[qL];refine dF (aF g5 (gC.zs _)) ?_;have hmk:uM1 (cellsOf cs)=cs:=g5.mk (gC.zs p.clauses[i]);have hA:wK (cellsOf cs)=.agg cs:=congrArg zA.agg hmk
   rw[hmk];refine tA g5.all (cA ?_);rw[hA,q103];have hle:=hI _ t h;refine YP (hM.mono hle) (hW.mono hle) (hp.clauses _ hm) (pc _ hm) g5 fun t1 s hle1 k1 k2 k3 k4=>pB ?_;refine step ls _ _ _ _ _ hls (hI2 _ _ _ h hle1) k1 k2 k3 k4 fun t2 h2=>zC ?_;rw[wrap_i64 (by omega) (by omega),show(i:Int)+1=((i+1:Nat):Int) by omega];exact ih (i+1) _ t2 (by omega) (by rw[hls];simp) h2
 have loopT:∀(m i:Nat) (ls:List (List Nat)) (t:Tr sA),i+m=p.tables.length->uJ p=ls++((p.tables.drop i).flatMap lP++p.clauses.map xL)->I ls t->jp 100 6 [.func (.yld l) [] [],.ptr w 0,b,.int .i64 (p.tables.length:Int),.int .i64 (i:Int)] t Q:=by
  intro m;induction m with
  | zero=>
   intro i ls t hi hls h;refine zgg ?_;unfold Uy uI uZ;rw[ybt (by omega),List.flatMap_nil,yah]at hls;have hle:=hI _ t h;have hlen:=(rc.mono hle).len;rw[ybf]at hlen;refine bA (fE (by omega)) (vA fa26_3 (sC ((c0.up hle).load1 (j:=3) ty24 rfl rfl) (vA hlen (tB (zC ?_)))));exact loopC p.clauses.length 0 ls t (by omega) (by rw[ycr];exact hls) h
  | succ m ih=>
   intro i ls t hi hls h;have hlt:i<p.tables.length:=by omega
   have hm:=ycj hlt;have hfit:=hp.tables _ hm;have hPt:=pt _ hm;unfold qO at hPt;rw[ybb,ycb]at hPt;have hnr:=hfit.2.1;unfold dD at hnr;have tl:=QW hPt.1;have tn:=uK hPt.1;rw[ybl hlt,List.flatMap_cons]at hls;obtain⟨b',off,cs,g1,g2,_,_,g5⟩:=rD.at lV (by simp) rb (i:=i) (d:=p.tables[i].d) (by simp[hlt]);obtain⟨rows,rfl,hr0⟩:=lX g5;have hro:rows.one=true:=hr0.one;have hle:=hI _ t h
   have ld:dA yA 50 ⟨0,t⟩ (.ptr b' off)=some (En true [.str p.tables[i].name,.bool p.tables[i].two,rows]):=It (H:=⟨0,tf⟩) (HA:=⟨0,t⟩) hle g2;have loopR:∀(m j:Nat) (ls:List (List Nat)) (t:Tr sA),j+m=p.tables[i].rows.length->uJ p=ls++((p.tables[i].rows.drop j).map (iP p.tables[i].two)++((p.tables.drop (i+1)).flatMap lP++p.clauses.map xL))->I ls t->jp 100 10 [.func (.yld l) [] [],.ptr w 0,b,.int .i64 (p.tables.length:Int),.int .i64 (i:Int),rows,.int .i64 (p.tables[i].rows.length:Int),.int .i64 (j:Int),.str p.tables[i].name,.bool p.tables[i].two,rows] t Q:=by
    intro m';induction m' with
    | zero=>
     intro j ls t hj hls h;refine JX ?_;unfold Vd qB uZ;refine bA (fE (by omega)) (zC ?_);rw[wrap_i64 (by omega) (by omega),show(i:Int)+1=((i+1:Nat):Int) by omega];exact ih (i+1) ls t (by omega) (by rw[hls,ybt (by omega),List.map_nil,yah]) h
    | succ m' ihr=>
     intro j ls t hj hls h;have hltj:j<p.tables[i].rows.length:=by omega
     have hmj:=ycj hltj;rw[ybl hltj,ycm,List.cons_append]at hls;have hle:=hI _ t h;obtain⟨b'',off',cs,k1,k2,k3,k4,k5⟩:=rD.at nV (by simp) (hr0.mono hle) (i:=j) (d:=p.tables[i].rows[j].d) (by simp[hltj]);refine JX ?_;unfold Vd uG mC uS uB qB uZ;refine tA (qE (by omega)) (vA k1 (sC k2 ?_));rw[qL];refine dF (aF k5 (vD.zs _)) ?_;have hmk:uM2 (cellsOf cs)=cs:=k5.mk (vD.zs p.tables[i].rows[j])
     have hA:dL (cellsOf cs)=.agg cs:=congrArg zA.agg hmk;rw[hmk];have hrf:=Od (hfit.2.2 _ hmj) (hPt.2 _ hmj);have hrl:=ER hrf;refine tA k5.all (cA ?_);rw[hA,q102,STzx (hM.mono hle) (hfit.2.2 _ hmj) (hPt.2 _ hmj) k5,xA];refine pB (step ls _ _ _ _ _ hls h (vL.refl _) (fun e=>by unfold iP at e;simp at e) (by omega) (zhx hrf) fun t2 h2=>zC ?_);rw[wrap_i64 (by omega) (by omega),show(j:Int)+1=((j+1:Nat):Int) by omega]
     exact ihr (j+1) _ t2 (by omega) (by rw[hls];simp) h2
   have next:jp 100 31 [.func (.yld l) [] [],.ptr w 0,.str (if p.tables[i].two=true then [32,116,119,111]else [32,111,110,101]),b,.int .i64 (p.tables.length:Int),.int .i64 (i:Int),.str p.tables[i].name,.bool p.tables[i].two,rows] t Q:=by
    refine zi2 ?_;unfold DB uS uB uI uZ;have hl4:(if p.tables[i].two=true then [32,116,119,111]else [32,111,110,101]:List Nat).length<=4:=by split<;>simp
    refine vA (pC (by simp;omega)) (pB (vA (pC (by simp only[ybg,ybn,ybx];omega)) (pB ?_)));have hls':uJ p=ls++rT p.tables[i]::(p.tables[i].rows.map (iP p.tables[i].two)++((p.tables.drop (i+1)).flatMap lP++p.clauses.map xL)):=by
     rw[hls];simp[lP]
    refine step ls _ _ _ _ _ hls' h (vL.refl _) (fun e=>by simp at e) (by have:=tl.1;unfold rT at this;omega) tl.2 fun t2 h2=>?_;have hlen:=(hr0.mono (hI _ _ h2)).len;rw[ybf]at hlen;refine vA hlen (tB (zC ?_));exact loopR p.tables[i].rows.length 0 _ t2 (by omega) (by rw[hls'];simp) h2
   refine zgg ?_;unfold Uy uG mC uZ;refine tA (qE (by omega)) (vA g1 (sC ld ?_));rw[qL];refine dF (aF g5 (tD.zs _)) ?_;refine tA ?_ ?_
   ·show nE zA.one [.str p.tables[i].name,.bool p.tables[i].two,rows]=true;rw[iI];simp only[ycg,yck,hro];rfl
   show wp 100 (.ite p.tables[i].two (.jump 31 [.func (.yld l) [] [],.ptr w 0,.str [32,116,119,111],b,.int .i64 (p.tables.length:Int),.int .i64 (i:Int),.str p.tables[i].name,.bool p.tables[i].two,rows]) (.jump 31 [.func (.yld l) [] [],.ptr w 0,.str [32,111,110,101],b,.int .i64 (p.tables.length:Int),.int .i64 (i:Int),.str p.tables[i].name,.bool p.tables[i].two,rows])) t Q;by_cases htwo:p.tables[i].two=true
   ·rw[yab htwo]at next;exact tA htwo (zC next)
   ·rw[yaa htwo]at next;exact bA htwo (zC next)
 have loopD:∀(m i:Nat) (ls:List (List Nat)) (t:Tr sA),i+m=p.defs.length->uJ p=ls++((p.defs.drop i).map gS++(p.tables.flatMap lP++p.clauses.map xL))->I ls t->jp 100 2 [.func (.yld l) [] [],.ptr w 0,a,.int .i64 (p.defs.length:Int),.int .i64 (i:Int)] t Q:=by
  intro m;induction m with
  | zero=>
   intro i ls t hi hls h;refine zgh ?_;unfold Uz uI uZ;rw[ybt (by omega),List.map_nil,yah]at hls;have hle:=hI _ t h;have hlen:=(rb.mono hle).len;rw[ybf]at hlen;refine bA (fE (by omega)) (vA fa26_2 (sC ((c0.up hle).load1 (j:=2) ty23 rfl rfl) (vA hlen (tB (zC ?_)))));exact loopT p.tables.length 0 ls t (by omega) (by rw[ycr];exact hls) h
  | succ m ih=>
   intro i ls t hi hls h;have hlt:i<p.defs.length:=by omega
   have hm:=ycj hlt;have hPd:=pd _ hm;have df:=YJ hK hPd;obtain⟨dn,dk1,dk2⟩:=JE hPd;have dl:=uK dn;rw[ybl hlt,ycm,List.cons_append]at hls;have hle:=hI _ t h;obtain⟨b',off,cs,g1,g2,_,_,g5⟩:=rD.at rX (by simp) (ra.mono hle) (i:=i) (d:=p.defs[i].d) (by simp[hlt]);obtain rfl:=gT g5;have next:jp 100 15 [.func (.yld l) [] [],.ptr w 0,.str (if p.defs[i].fact=true then [102,97,99,116,32]else [100,101,102,32]),a,.int .i64 (p.defs.length:Int),.int .i64 (i:Int),.str p.defs[i].name,.int .u8 (p.defs[i].kind:Int),.bool p.defs[i].fact] t Q:=by
    refine zi3 ?_;unfold DC uS uB qB uZ uY;have hl4:(if p.defs[i].fact=true then [102,97,99,116,32]else [100,101,102,32]:List Nat).length<=5:=by split<;>simp
    have kl:=Qf p.defs[i].kind;refine vA (pC (by omega)) (pB (vA (pC (by simp only[ybg,ybn,ybx];omega)) (pB (cA ?_))));rw[q101,(JF (hK.mono hle) dk2).1,xA];refine pB (tA nO (vA (pC (by simp only[ybg,ybn,ybx];omega)) (pB ?_)));refine step ls _ _ _ _ _ hls h (vL.refl _) (fun e=>by simp at e) (by have:=df.1;unfold gS at this;omega) df.2 fun t2 h2=>zC ?_
    rw[wrap_i64 (by omega) (by omega),show(i:Int)+1=((i+1:Nat):Int) by omega];exact ih (i+1) _ t2 (by omega) (by rw[hls];simp) h2
   refine zgh ?_;unfold Uz uG uZ;refine tA (qE (by omega)) (vA g1 (sC g2 ?_));rw[qL];refine dF (aF g5 (cE.zs _)) (tA rfl ?_);show wp 100 (.ite p.defs[i].fact (.jump 15 [.func (.yld l) [] [],.ptr w 0,.str [102,97,99,116,32],a,.int .i64 (p.defs.length:Int),.int .i64 (i:Int),.str p.defs[i].name,.int .u8 (p.defs[i].kind:Int),.bool p.defs[i].fact]) (.jump 15 [.func (.yld l) [] [],.ptr w 0,.str [100,101,102,32],a,.int .i64 (p.defs.length:Int),.int .i64 (i:Int),.str p.defs[i].name,.int .u8 (p.defs[i].kind:Int),.bool p.defs[i].fact])) t Q
   by_cases hf:p.defs[i].fact=true
   ·rw[yab hf]at next;exact tA hf (zC next)
   ·rw[yaa hf]at next;exact bA hf (zC next)
 have hle:=hI _ t h0;refine w100 ?_;unfold t100 uS uB uI uZ;refine vA fa26_0 (sC ((c0.up hle).load1 (j:=0) gH rfl rfl) (pB (vA (pC (by simp;omega)) (pB ?_))));have hls:uJ p=[]++Jw p.name::(p.defs.map gS++(p.tables.flatMap lP++p.clauses.map xL)):=rfl;refine step [] _ _ _ _ _ hls h0 (vL.refl _) (fun e=>by simp at e) (by simp;omega) (vG (by intro x hx;simp at hx;omega) (Kj pn)) fun t2 h2=>?_
 have hlen:=(ra.mono (hI _ _ h2)).len;rw[ybf]at hlen;refine vA fa26_1 (sC ((c0.up (hI _ _ h2)).load1 (j:=1) ty22 rfl rfl) (vA hlen (tB (zC ?_))));exact loopD p.defs.length 0 _ t2 (by omega) (by rw[hls];simp) h2
end
section
variable [kC]
variable {t tf:Tr sA}
def ZO{b T:Nat}{y:eC}{lo:Option Lo}(hT:yA.tys.get T=some y)(hlo:vK yA T=lo)(hb:t.get b=none):∃t',Cc yA T ⟨b,t⟩=some (.ptr b 0,⟨b+1,t'⟩)/\wD t' b lo y.zero/\yB t t'/\rE b t t':=by
 obtain⟨t',h1,h2,h3,h4⟩:=aX hb y.zero lo;refine⟨t',?_,h2,h3,h4⟩;unfold Cc;rw[hT,pA,hlo,h1]
def WB{r:yO}(h1:r.state=.ready)(h2:r.pending=none):aT true r=r:=by
 obtain⟨a,b,c,d,e,f,g,h,i⟩:=r;have h1:a=.ready:=h1;have h2:b=none:=h2;subst h1;subst h2;rfl
theorem BX.up{T bx:Nat}{ex:List zA}{s:List Nat}{t':Tr sA}(h:BX T ex tf t bx s)(hle:yB t t'):BX T ex tf t' bx s:=by
 refine h.keep (h.le.trans hle) fun b hb=>?_;have:∃y,t.get b=some y:=by
  obtain⟨h1,h2,h3,ha,hM,p,tv,hp,h4,h5,h6⟩:=h;rcases hb with rfl | ⟨p',tv',k1,k2⟩
  ·obtain⟨c,h4,_⟩:=h4;exact⟨_,h4⟩
  ·have e:tv'=tv:=by
    obtain⟨c,k1,k1'⟩:=k1;obtain⟨c2,h4,h4'⟩:=h4;rw[k1]at h4;have ec:c=c2:=by
     have:=yci h4;injection this
    have:=k1' 1 tv' rfl;rw[ec,h4' 1 tv rfl]at this;exact(yci this).symm
   subst e
   cases hg:t.get b with
   | none=>exact absurd hg (Za h5 k2)
   | some y=>exact⟨y,rfl⟩
 obtain⟨y,hy⟩:=this;rw[hy,hle _ _ hy]
def vL.short{s L:List Nat}(h:vL s L)(hs:¬ 65536<s.length):s=L:=by
 rcases h with h | h
 ·exact h
 ·exact absurd h.1 hs
def zad{p:wF}{cs:List zA}{Q:wC}(hp:p.fit)(hM:pK t)(hW:sP t)(hK:bW t)(hr:RD t p.d cs)(hQ:∀t',yB t t'->Q (As p) t'):Wc yA F 20 [.agg cs] t Q:=by
 have hr0:=hr;obtain⟨a,b,c,rfl,ra,rb,rc⟩:=zR hr;refine w20 ?_;unfold t20 uB uS uZ;refine jG fun p0 hp0 hb0=>?_;obtain⟨t1,e1,c1,l1,o1⟩:=Hp (C:=yA) gH hp0;refine⟨_,_,e1,jG fun p1 hp1 hb1=>?_⟩;obtain⟨t2,e2,c2,l2,o2⟩:=Hp (C:=yA) Cf hp1;refine⟨_,_,e2,cA ?_⟩;have l02:yB t t2:=l1.trans l2;have hrd:=hr0.mono l02;rw[q21,FT hp hrd,xA];refine yC ?_
 have n01:p0≠p1:=by intro e;obtain⟨c,h,_⟩:=c1;rw[e,hp1]at h;cases h
 have hp0t:t.get p0=none:=hp0;have hp1t:t.get p1=none:=Ad l1 hp1;have keep2:∀ {u v1 v2:Tr sA},yB t u->rE p0 u v1->rE p1 v1 v2->yB t v2:=fun h d f b y hb=>by
  have hb0':b≠p0:=fun e=>by rw[e,hp0t]at hb;cases hb
  have hb1':b≠p1:=fun e=>by rw[e,hp1t]at hb;cases hb
  rw[f b hb1',d b hb0'];exact h _ _ hb
 cases hP:eP p with
 | false=>
  refine tA rfl (jG fun m1 _ _=>?_);have cp0:wD t2 p0 none [.str []]:=c1.off (o2 p0 n01);obtain⟨v1,d1,d2,d3⟩:=cp0.store1 (v:=.str []) hb0 gH rfl rfl rfl (j:=0) (by simp);refine⟨_,_,d1 m1,jG fun m2 _ _=>?_⟩;have cp1':wD v1 p1 none [.int .i64 0]:=wD.off c2 (d3 p1 n01.symm);obtain⟨v2,f1,f2,f3⟩:=cp1'.store1 (v:=.int .i64 2) hb1 Cf rfl rfl rfl (j:=0) (by simp);refine⟨_,_,f1 m2,?_⟩
  have d2':wD v2 p0 none [.str []]:=d2.off (f3 p0 n01);refine sC (d2'.load1 (j:=0) gH rfl rfl) (sC (f2.load1 (j:=0) Cf rfl rfl) ?_);have:=hQ v2 (keep2 l02 d3 f3);unfold As at this;rw[hP]at this;exact this
 | true=>
 have hN:As p=if 65536<(kM p).length then .tup [.str [],.int .i64 3]else .tup [.str (kM p),.int .i64 0]:=by unfold As;rw[yab hP]
 refine bA (by simp) (jG fun bx hbx hbb=>?_);obtain⟨t3,e3,c3,l3,o3⟩:=ZO (T:=92) (lo:=some (.ty 92)) ty92 (by kernel_rfl) hbx;refine⟨_,_,e3,cA ?_⟩;have n0x:p0≠bx:=by intro e;obtain⟨c,h,_⟩:=c1;have h:=l2 _ _ h;rw[e,hbx]at h;cases h
 have n1x:p1≠bx:=by intro e;obtain⟨c,h,_⟩:=c2;rw[e,hbx]at h;cases h
 rw[q44];refine w44 ?_;unfold t44;refine jG fun w hw hwb=>?_;generalize hyw:(sA.cells (Tr.ofList [.str p.name,a,b,c]) 4 none)=yw;have ew:tO (.agg [.str p.name,a,b,c]) ⟨w,t3⟩=some (.ptr w 0,⟨w+1,t3.set w yw⟩):=by rw[<- hyw];rfl
 refine⟨_,_,ew,?_⟩;show wp 20 _ (t3.set w yw) Q;have nwx:w≠bx:=by intro e;obtain⟨c,h,_⟩:=c3;rw[<- e,hw]at h;cases h
 have hB0:BX 92 [] t2 t3 bx []:=⟨hbb,hbx,l3,(by intro x hx;cases hx),rfl,.nilptr,.nilslice,.inl rfl,c3,.inl ⟨rfl,rfl⟩,Qj⟩;have hB1:=hB0.both hw yw;have h2w:t2.get w=none:=Ad l3 hw;have l2f:yB t2 (t2.set w yw):=(iK h2w yw).1;generalize hf:t2.set w yw=tF at hB1 l2f;generalize t3.set w yw=tR at hB1;have cw:wD tF w none [.str p.name,a,b,c]:=by
  rw[<- hf];exact⟨_,by rw[Tr.get_set,yab rfl,<- hyw];rfl,fun j a hj=>by rw[Tr.get_ofList];exact hj⟩
 have cp0:wD tF p0 none [.str []]:=(c1.off (o2 p0 n01)).up l2f;have cp1:wD tF p1 none [.int .i64 0]:=wD.up c2 l2f;have l0f:yB t tF:=l02.trans l2f;refine⟨Nat.le_add_right _ _,fun l r hl0 hlb hr1 hr2 hyR=>?_⟩;have hra:Fu (npC yA) (.func (.func 100) [] [.ptr w 0]) l=some (100,[.func (.yld l) [] [],.ptr w 0]):=by
  unfold Fu;simp only[zA.asFunc,pA];have:npC yA 100=true:=by kernel_rfl
  rw[this];rfl
 rw[hra,xA];have hfl:tF.get l=none:=Ad hB1.le hl0;have lfl:yB tF (tF.set l (.loop r)):=(iK hfl _).1;have lal:=l0f.trans lfl;rw[show Wq yA F gE 100=Wc yA F 100 by funext a m R;exact q100 a m R];have nl:∀ {b:Nat} {lo:Option Lo} {cs:List zA},wD tF b lo cs->b≠l:=fun h e=>by obtain⟨c,h,_⟩:=h;rw[e,hfl]at h;cases h
 refine zct (tf:=tF.set l (.loop r)) (p:=p)
  (I:=fun ls t'=>(sF ls).length<=65536/\BX 92 [] (tF.set l (.loop r)) t' bx (sF ls))
  (E:=fun t'=>65536<(kM p).length/\t'.get l=some (.loop (aT false r))/\wD t' p0 none [.str []]/\wD t' p1 none [.int .i64 3]/\∀b y,t.get b=some y->t'.get b=some y/\b≠l) hp hP
  (fun ls t' h=>h.2.le) (fun ls t' t'' h k=>⟨h.1,h.2.up k⟩) (hM.mono lal) (hW.mono lal) (hK.mono lal) (cw.up lfl) (ra.mono lal) (rb.mono lal) (rc.mono lal) ?_ ?_ ?_ ⟨by simp[sF],hB1.both hl0 (.loop r)⟩
 ·intro ls L rest t' ln Q1 hls hI hln hne hlen hlt hE hT;obtain⟨hs,hB⟩:=hI;have hgl:t'.get l=some (.loop r):=hB.le _ _ (by rw[Tr.get_set,yab rfl]);have hBo:=BX.out hfl hB;have htot:(kM p).length=(sF ls).length+(L.length+1)+(sF rest).length:=by
   unfold kM;rw[hls,show ls++L::rest=(ls++[L])++rest by simp,Qy,Av];simp only[ybg,ybn,ybx];try omega
  refine hyR [.str ln] t' Q1 rfl hgl ?_;show jp 20 2 [.ptr p0 0,.ptr p1 0,.ptr bx 0,.str ln] _ _;refine j20_2 ?_;unfold t20_2 uI cD uZ;refine cA ?_;rw[mO];refine hBo.write hne hlt (by omega) fun _ u1 hB2=>cA ?_;rw[mO];refine hB2.write (m:=[10]) (by simp) (fun x hx=>by simp at hx;omega) (by simp;omega) fun _ u2 hB3=>cA ?_;rw[q46,hB3.len,xA];have hl3:(sF ls++ln++[10]).length=(sF ls).length+ln.length+1:=by simp only[ybg,ybn,ybx]
  rw[hl3];refine tB ?_;by_cases hbig:65536<(sF ls).length+ln.length+1
  ·refine tA (qE (by omega)) (jG fun m1 _ _=>?_);obtain⟨v1,d1,d2,d3⟩:=(cp0.up hB3.le).store1 (v:=.str []) hb0 gH rfl rfl rfl (j:=0) (by simp);refine⟨_,_,d1 m1,jG fun m2 _ _=>?_⟩;have cp1':wD v1 p1 none [.int .i64 0]:=(cp1.up hB3.le).off (d3 p1 n01.symm);obtain⟨v2,f1,f2,f3⟩:=cp1'.store1 (v:=.int .i64 3) hb1 Cf rfl rfl rfl (j:=0) (by simp);refine⟨_,_,f1 m2,fun hnl=>⟨false,rfl,hE _ ?_⟩⟩
   refine⟨?_,by rw[Tr.get_set,yab rfl],(d2.off (f3 p0 n01)).setOff (nl cp0) _,f2.setOff (nl cp1) _,fun b y hb=>?_⟩
   ·rw[htot];rcases hln with rfl | h
    ·omega
    ·omega
   ·have hbl:b≠l:=fun e=>by have:=l0f _ _ hb;rw[e,hfl]at this;cases this
    refine⟨?_,hbl⟩;rw[Tr.get_set,yaa hbl];exact keep2 (l0f.trans hB3.le) d3 f3 _ _ hb
  ·obtain rfl:=hln.short (by omega);refine bA (fE (by omega)) fun hnl=>⟨true,rfl,?_⟩;rw[WB hr1 hr2];have hB4:=hB3.both hnl (.loop r);rw[show sF ls++ln++[10]=sF (ls++[ln]) by rw[Av,ybz]]at hB4;exact hT _ ⟨by rw[Av];simp;omega,hB4⟩
 ·intro t' ⟨h1,h2,h3,h4,h5⟩;refine .inr ⟨h2,?_⟩;have h3':wD (t'.del l) p0 none [.str []]:=h3.off (by rw[Tr.get_del,yaa (nl cp0)]);have h4':wD (t'.del l) p1 none [.int .i64 3]:=h4.off (by rw[Tr.get_del,yaa (nl cp1)]);refine sC (h3'.load1 (j:=0) gH rfl rfl) (sC (h4'.load1 (j:=0) Cf rfl rfl) ?_);have:=hQ (t'.del l) fun b y hb=>by
   rw[Tr.get_del,yaa (h5 b y hb).2];exact(h5 b y hb).1
  rw[hN,yab h1]at this;exact this
 ·intro t' ⟨h1,hB⟩;have hgl:t'.get l=some (.loop r):=hB.le _ _ (by rw[Tr.get_set,yab rfl]);refine .inl ⟨hgl,?_⟩;have hBo:=BX.out hfl hB;have hs:sF (uJ p)≠[]:=fun e=>by unfold uJ Jw sF at e;simp at e
  refine cA ?_;rw[q47];refine hBo.string hs (by omega) fun u hle=>?_;refine pB (jG fun m1 _ _=>?_);obtain⟨v1,d1,d2,d3⟩:=(cp0.up hle).store1 (v:=.str (sF (uJ p))) hb0 gH rfl rfl rfl (j:=0) (by simp);refine⟨_,_,d1 m1,jG fun m2 _ _=>?_⟩;have cp1':wD v1 p1 none [.int .i64 0]:=(cp1.up hle).off (d3 p1 n01.symm);obtain⟨v2,f1,f2,f3⟩:=cp1'.store1 (v:=.int .i64 0) hb1 Cf rfl rfl rfl (j:=0) (by simp)
  refine⟨_,_,f1 m2,?_⟩;have d2':wD v2 p0 none [.str (sF (uJ p))]:=d2.off (f3 p0 n01);refine sC (d2'.load1 (j:=0) gH rfl rfl) (sC (f2.load1 (j:=0) Cf rfl rfl) ?_);have:=hQ v2 (keep2 (l0f.trans hle) d3 f3);rw[hN,yaa (by unfold kM;omega)]at this;exact this
end
section
variable [kC]
variable {t tf:Tr sA}
def zc4:((List.range 256).map fun(n:Nat)=>bM nC nC (t53 (n:Int)))=(List.range 256).map fun n=>some (.str (pS n)):=by kernel_rfl
def EV{n:Nat}(h:n<256):vB yA F 53 [.int .u8 (n:Int)] t=some (.str (pS n)):=bB.2 (w53 (Gv (List.map_inj_left.1 zc4 n (List.mem_range.2 h))))
def zc3{n:Nat}:zD (pS n) [] = !(decide (1<=n)&&decide (n<=6)):=by
 by_cases h:n<7
 ·have:∀k,k<7->zD (pS k) [] = !(decide (1<=k)&&decide (k<=6)):=by decide
  exact this n h
 ·have e:pS n=[]:=by
   unfold pS;rw[List.getD_eq_getElem?_getD,List.getElem?_eq_none (show qS.length<=n by show 7<=n;omega)];rfl
  rw[e,decide_eq_false (show ¬ n<=6 by omega),yay];rfl
def EW{n:Int}:vB yA F 59 [.int .i64 n] t=some (.bool (uR n)):=by
 refine bB.2 (w59 ?_);unfold t59 uR jA;by_cases h : -2147483648<=n
 ·refine tA (yLe h) ?_;rw[decide_eq_true h,ycn,<- Ao];exact⟨rfl,rfl⟩
 ·refine bA (nLe h) ?_;rw[decide_eq_false h,Bool.false_and];exact⟨rfl,rfl⟩
def Of{n:Int}:vB yA F 60 [.int .i64 n] t=some (.bool (rM n)):=ze4
theorem FE{x:qA}{a b c:zA}(ha:mA t 1 (jC x.v.f.n.limbs) a)(hb:mA t 1 (jC x.v.f.d.limbs) b)(hc:mA t 9 (x.args.map qA.d) c):vB yA F 126 [.agg (qH x a b c)] t=some (.bool (jR x)):=by
 obtain⟨op,name,v,args⟩:=x;simp only[qA.op,qA.name,qA.v,qA.args,jR,lZ,qH]at ha hb hc ⊢;have hl:aA c=some (.int .i64 (args.length:Int)):=by rw[hc.len,ybf]
 refine bB.2 (w126 ?_);unfold t126 uI uB jA;by_cases h1:op=0
 case neg=>grind [cF,lA]
 refine tA (bG (by omega)) ?_
 cases h2:zD name []with
 | false=>grind [lA]
 | true=>
  refine tA rfl (vA hl (tB ?_));by_cases h3:args.length=0
  case neg=>grind [cF,lA]
  refine tA (bG (by omega)) ?_;by_cases h4:v.kind=0
  case neg=>grind [cF,lA]
  refine tA (bG (by omega)) ?_;by_cases h5:v.i=0
  case neg=>grind [cF,lA]
  refine tA (bG (by omega)) (cA ?_);rw[q72,Wb ha hb,xA];grind [yC,lA]
theorem TQ{x:gC}{cs:List zA}(hx:x.fit)(hr:RD t x.d cs):vB yA F 61 [.agg cs] t=some (.bool (aM x)):=by
 obtain⟨a,b,c,a',b',c',rfl,hw,ht⟩:=jX hr;have hxw:=hx.2.2.2.2.2.1;have hxt:=hx.2.2.2.2.2.2;obtain⟨a1,b1,c1,e1,ha,hb,hc⟩:=xJ hw;obtain⟨a2,b2,c2,e2,ha',hb',hc'⟩:=xJ ht;simp only[qH,List.cons.injEq,true_and,and_true]at e1 e2;obtain⟨rfl,rfl,rfl⟩:=e1;obtain⟨rfl,rfl,rfl⟩:=e2;have cC:∀(cw ct:List zA),cw=qH x.when_ a b c->ct=qH x.then_ a' b' c'->wp 61 (.ite x.off
 (.call 126 [(.agg cw)] fun a10=>
 .asB a10 fun b11=>.ite b11
 (.call 126 [(.agg ct)] fun a12=>
 .asB a12 fun b13=>.ret (.bool b13))
 (.ret (.bool false)))
 (.call 70 [(.agg cw),(.int .i64 24)] fun a14=>
 .asB a14 fun b15=>.ite b15
 (.call 70 [(.agg ct),(.int .i64 24)] fun a16=>
 .asB a16 fun b17=>.ret (.bool b17))
 (.ret (.bool false)))) t (fun v t'=>v=.bool (if x.off=true then jR x.when_&&jR x.then_ else tG x.when_ 1&&tG x.then_ 1)/\t'=t):=by
  intro cw ct ew et;subst ew;subst et
  cases hoff:x.off with
  | true=>
   refine tA rfl (cA ?_);rw[q126,FE ha hb hc,xA];refine yC ?_;rw[yab rfl]
   cases h:jR x.when_ with
   | false=>exact bA (by simp) ⟨rfl,rfl⟩
   | true=>
    refine tA rfl (cA ?_);rw[q126,FE ha' hb' hc',xA];exact yC ⟨rfl,rfl⟩
  | false=>
   refine bA (by simp) (cA ?_);have e1:=Vr (t:=t) x.when_ 1 _ hxw (by omega) hw;have e2:=Vr (t:=t) x.then_ 1 _ hxt (by omega) ht;rw[show((25-1:Nat):Int)=24 from rfl]at e1 e2;rw[q70,e1,xA];refine yC ?_;rw[yaa (by simp)]
   cases h:tG x.when_ 1 with
   | false=>exact bA (by simp) ⟨rfl,rfl⟩
   | true=>
    refine tA rfl (cA ?_);rw[q70,e2,xA];exact yC ⟨rfl,rfl⟩
 refine bB.2 ?_;unfold qH;refine w61 ?_;unfold t61 aM uQ11 uB jA uZ uY;refine cA ?_;rw[q58,Fl,xA];refine yC ?_
 cases h1:nH x.name with
 | false=>exact tA rfl ⟨rfl,rfl⟩
 | true=>
  refine bA (by simp) (cA ?_);rw[q58,Fl,xA];refine yC ?_
  cases h2:nH x.label with
  | false=>exact tA rfl ⟨rfl,rfl⟩
  | true=>
   refine bA (by simp) (cA ?_);rw[q60,Of,xA];refine yC ?_
   cases h3:rM x.from_ with
   | false=>exact tA rfl ⟨rfl,rfl⟩
   | true=>
    refine bA (by simp) (cA ?_);rw[q60,Of,xA];refine yC ?_
    cases h4:rM x.known with
    | false=>exact tA rfl ⟨rfl,rfl⟩
    | true=>
     refine bA (by simp) (cA ?_);rw[q60,Of,xA];refine yC ?_;simp only[ycn]
     cases h5:rM x.to with
     | false=>
      refine tA rfl ?_;by_cases h6:x.to=65536
      ·refine bA (by grind [bG]) ?_;rw[decide_eq_true h6,Bool.or_true,ycn];exact cC _ _ rfl rfl
      ·refine tA (by grind [cF]) ?_;rw[decide_eq_false h6];exact⟨rfl,rfl⟩
     | true=>
      refine bA (by simp) ?_;rw[Bool.true_or,ycn];exact cC _ _ rfl rfl
def EO{p:wF}{cs:List zA}(hp:p.fit)(hr:RD t p.d cs):vB yA F 25 [.agg cs] t=some (.bool (eP p)):=by
 obtain⟨a,b,c,rfl,ra,rb,rc⟩:=zR hr;have hnd:=hp.ndefs;have hnt:=hp.ntables;have hnc:=hp.nclauses;unfold dD at hnd hnt hnc;have la:=ra.len;have lb:=rb.len;have lc:=rc.len;rw[ybf]at la lb lc;have loopC:∀(m i:Nat),i+m=p.clauses.length->jp 25 14 [.int .i64 (i:Int),.str p.name,a,b,c] t (fun v t'=>v=.bool ((p.clauses.drop i).all aM)/\t'=t):=by
  intro m;induction m with
  | zero=>
   intro i hi;refine zfr ?_;unfold Tx uI cD uZ;rw[ybt (by omega)];exact vA lc (tB (bA (fE (by omega)) ⟨rfl,rfl⟩))
  | succ m ih=>
   intro i hi;have hlt:i<p.clauses.length:=by omega
   have hm:=ycj hlt;obtain⟨b',off,cs,g1,g2,g3,g4,g5⟩:=rD.at mV (by simp) rc (i:=i) (d:=p.clauses[i].d) (by simp[hlt]);refine zfr ?_;unfold Tx uI uG uB jA qB uZ;refine vA lc (tB (tA (qE (by omega)) (vA g1 (sC g2 ?_))));rw[qL];have hmk:uM1 (cellsOf cs)=cs:=g5.mk (gC.zs p.clauses[i]);have hA:wK (cellsOf cs)=.agg cs:=congrArg zA.agg hmk;refine dF (aF g5 (gC.zs _)) (cA ?_)
   rw[hA,q61,TQ (hp.clauses _ hm) g5,xA];refine yC ?_;rw[ybl hlt,ycg]
   cases h:aM p.clauses[i]with
   | false=>exact tA rfl ⟨rfl,rfl⟩
   | true=>
    refine bA (by simp) (zC ?_);rw[wrap_i64 (by omega) (by omega),show(i:Int)+1=((i+1:Nat):Int) by omega,ycn];exact ih (i+1) (by omega)
 have loopT:∀(m i:Nat),i+m=p.tables.length->jp 25 6 [.int .i64 (i:Int),.str p.name,a,b,c] t (fun v t'=>v=.bool ((p.tables.drop i).all qO&&p.clauses.all aM)/\t'=t):=by
  intro m;induction m with
  | zero=>
   intro i hi;refine j25_6 ?_;unfold zhl uI uZ;rw[ybt (by omega),yck,ycn];exact vA lb (tB (bA (fE (by omega)) (zC (loopC p.clauses.length 0 (by omega)))))
  | succ m ih=>
   intro i hi;have hlt:i<p.tables.length:=by omega
   have hm:=ycj hlt;have hfit:=hp.tables _ hm;have hnr:=hfit.2.1;unfold dD at hnr;obtain⟨b',off,cs,g1,g2,_,_,g5⟩:=rD.at lV (by simp) rb (i:=i) (d:=p.tables[i].d) (by simp[hlt]);obtain⟨rows,rfl,hr0⟩:=lX g5;have hro:rows.one=true:=hr0.one;have hlen:=hr0.len;rw[ybf]at hlen;have loopR:∀(m j:Nat),j+m=p.tables[i].rows.length->jp 25 10 [.int .i64 (i:Int),.int .i64 (j:Int),.str p.name,a,b,c,.str p.tables[i].name,.bool p.tables[i].two,rows] t (fun v t'=>v=.bool ((p.tables[i].rows.drop j).all (aR p.tables[i].two)&&((p.tables.drop (i+1)).all qO&&p.clauses.all aM))/\t'=t):=by
    intro m';induction m' with
    | zero=>
     intro j hj;refine zfs ?_;unfold Tz uI qB uZ;rw[ybt (by omega),yck,ycn];refine vA hlen (tB (bA (fE (by omega)) (zC ?_)));rw[wrap_i64 (by omega) (by omega),show(i:Int)+1=((i+1:Nat):Int) by omega];exact ih (i+1) (by omega)
    | succ m' ihr=>
     intro j hj;have hltj:j<p.tables[i].rows.length:=by omega
     have hmj:=ycj hltj;have hrf:=hfit.2.2 _ hmj;obtain⟨b'',off',cs,k1,k2,k3,k4,k5⟩:=rD.at nV (by simp) hr0 (i:=j) (d:=p.tables[i].rows[j].d) (by simp[hltj]);have k5':=k5;obtain⟨u,v,rfl,hu,hv⟩:=kX k5';rw[ybl hltj,ycg];generalize hR:p.tables[i].rows[j]=r at *;refine zfs ?_;unfold Tz uI uG mC uB jA uZ;refine vA hlen (tB (tA (qE (by omega)) (vA k1 (sC k2 ?_))))
     rw[qL];refine dF (aF k5 (vD.zs _)) (tA ?_ ?_)
     ·have hmk:uM2 (cellsOf [.int .i64 r.a,.int .i64 r.b,.int .i64 r.known,.bool r.f.n.neg,u,.bool r.f.d.neg,v])=_:=k5.mk (vD.zs r);rw[hmk];exact k5.all
     show wp 25 (.call 59 [.int .i64 r.a] fun a'=>.asB a' fun b'=>.ite (!b') (.ret (.bool false)) (.call 59 [.int .i64 r.b] fun a'=>.asB a' fun b'=>.ite (!b') (.ret (.bool false)) (.ite (!p.tables[i].two) (.ite (!zB r.b 0) (.ret (.bool false)) (Et (cellsOf [.int .i64 r.a,.int .i64 r.b,.int .i64 r.known,.bool r.f.n.neg,u,.bool r.f.d.neg,v]) i j p.name a b c p.tables[i].name p.tables[i].two rows)) (Et (cellsOf [.int .i64 r.a,.int .i64 r.b,.int .i64 r.known,.bool r.f.n.neg,u,.bool r.f.d.neg,v]) i j p.name a b c p.tables[i].name p.tables[i].two rows)))) t _
     have last:wp 25 (Et (cellsOf [.int .i64 r.a,.int .i64 r.b,.int .i64 r.known,.bool r.f.n.neg,u,.bool r.f.d.neg,v]) i j p.name a b c p.tables[i].name p.tables[i].two rows) t (fun w t'=>w=.bool ((rM r.known&&gM r.f)&&(p.tables[i].rows.drop (j+1)).all (aR p.tables[i].two)&&((p.tables.drop (i+1)).all qO&&p.clauses.all aM))/\t'=t):=by
      unfold Et uB uS jA qB uZ;show wp 25 (.call 60 [.int .i64 r.known] fun a'=>.asB a' fun b'=>.ite (!b') (.ret (.bool false)) (.call 56 [.agg [.bool r.f.n.neg,u,.bool r.f.d.neg,v]] fun a'=>.asS a' fun s=>.ite (zD s []) (.ret (.bool false)) (.jump 10 [.int .i64 i,.int .i64 (iA .i64 ((j:Int)+1)),.str p.name,a,b,c,.str p.tables[i].name,.bool p.tables[i].two,rows]))) t _;refine cA ?_;rw[q60,Of,xA];refine yC ?_
      cases h3:rM r.known with
      | false=>exact tA rfl ⟨rfl,rfl⟩
      | true=>
       refine bA (by simp) (cA ?_);rw[q56,Vo hu hv hrf.2.2.2,xA];refine pB ?_;rw[Vp hrf.2.2.2]
       cases h4:gM r.f with
       | false=>exact tA rfl ⟨rfl,rfl⟩
       | true=>
        refine bA (by simp) (zC ?_);rw[wrap_i64 (by omega) (by omega),show(j:Int)+1=((j+1:Nat):Int) by omega];exact ihr (j+1) (by omega)
     unfold aR;refine cA ?_;rw[q59,EW,xA];refine yC ?_
     cases h1:uR r.a with
     | false=>exact tA rfl ⟨rfl,rfl⟩
     | true=>
      refine bA (by simp) (cA ?_);rw[q59,EW,xA];refine yC ?_
      cases h2:uR r.b with
      | false=>exact tA rfl ⟨rfl,rfl⟩
      | true=>
       refine bA (by simp) ?_;simp only[ycn]
       cases htwo:p.tables[i].two with
       | true=>
        rw[htwo]at last;refine bA (by simp) ?_;exact last
       | false=>
        rw[htwo]at last;refine tA rfl ?_;by_cases hb0:r.b=0
        ·refine bA (by rw[bG hb0];simp) ?_;rw[decide_eq_true hb0];exact last
        ·refine tA (by rw[Bool.eq_false_iff.2 (cF hb0)];rfl) ?_;rw[decide_eq_false hb0];exact⟨rfl,rfl⟩
   refine j25_6 ?_;unfold zhl uI uG mC uB jA uZ;refine vA lb (tB (tA (qE (by omega)) (vA g1 (sC g2 ?_))));rw[qL];refine dF (aF g5 (tD.zs _)) (tA ?_ ?_)
   ·show nE zA.one [.str p.tables[i].name,.bool p.tables[i].two,rows]=true;rw[iI];simp only[ycg,yck,hro];rfl
   show wp 25 (.call 58 [.str p.tables[i].name] fun a'=>.asB a' fun b'=>.ite (!b') (.ret (.bool false)) (.jump 10 [.int .i64 i,.int .i64 0,.str p.name,a,b,c,.str p.tables[i].name,.bool p.tables[i].two,rows])) t _;refine cA ?_;rw[q58,Fl,xA];refine yC ?_;rw[ybl hlt,ycg];unfold qO
   cases h:nH p.tables[i].name with
   | false=>exact tA rfl ⟨rfl,rfl⟩
   | true=>
    refine bA (by simp) (zC ?_);have:=loopR p.tables[i].rows.length 0 (by omega);unfold qO at this;simp only[ycn,Bool.and_assoc];exact this
 have loopD:∀(m i:Nat),i+m=p.defs.length->jp 25 2 [.int .i64 (i:Int),.str p.name,a,b,c] t (fun v t'=>v=.bool ((p.defs.drop i).all zP&&(p.tables.all qO&&p.clauses.all aM))/\t'=t):=by
  intro m;induction m with
  | zero=>
   intro i hi;refine j25_2 ?_;unfold zhm uI uZ;rw[ybt (by omega),yck,ycn];exact vA la (tB (bA (fE (by omega)) (zC (loopT p.tables.length 0 (by omega)))))
  | succ m ih=>
   intro i hi;have hlt:i<p.defs.length:=by omega
   have hm:=ycj hlt;have hk:=(hp.defs _ hm).2;obtain⟨q,o,cs,g1,g2,g3,_,g5⟩:=rD.at rX (by simp) ra (i:=i) (d:=p.defs[i].d) (by simp[hlt]);obtain rfl:=gT g5;have fa0:dC yA 47 0 (.ptr q o)=some (.ptr q (o+0)):=by kernel_rfl
   have fa1:dC yA 47 1 (.ptr q o)=some (.ptr q (o+1)):=by kernel_rfl
   have ld0:dA yA 9 ⟨0,t⟩ (.ptr q (o+0))=some (.str p.defs[i].name):=g3.load1 gH rfl rfl;have ld1:dA yA 5 ⟨0,t⟩ (.ptr q (o+1))=some (.int .u8 (p.defs[i].kind:Int)):=g3.load1 tN rfl rfl;refine j25_2 ?_;unfold zhm uI uU uS uB jA qB uZ uY;refine vA la (tB (tA (qE (by omega)) (vA g1 (vA fa0 (sC ld0 (pB (cA ?_)))))));rw[q58,Fl,xA];refine yC ?_
   rw[ybl hlt,ycg];unfold zP
   cases h1:nH p.defs[i].name with
   | false=>exact tA rfl ⟨rfl,rfl⟩
   | true=>
    refine bA (by simp) (vA g1 (vA fa1 (sC ld1 (tB (cA ?_)))));rw[q53,EV hk,xA];refine pB ?_;rw[zc3,ycn]
    cases h2:(decide (1<=p.defs[i].kind)&&decide (p.defs[i].kind<=6))with
    | false=>exact tA rfl ⟨rfl,rfl⟩
    | true=>
     refine bA (by simp) (zC ?_);rw[wrap_i64 (by omega) (by omega),show(i:Int)+1=((i+1:Nat):Int) by omega,ycn];have:=ih (i+1) (by omega);unfold zP at this;exact this
 refine bB.2 (w25 ?_);unfold t25 uB jA uZ eP;refine cA ?_;rw[q58,Fl,xA];refine yC ?_
 cases h:nH p.name with
 | false=>exact tA rfl ⟨rfl,rfl⟩
 | true=>exact bA (by simp) (zC (loopD p.defs.length 0 (by omega)))
end
section
variable [kC]
variable {t tf:Tr sA}
def Og{n:Int}(h0:0<=n)(h1:n<65536):vB yA F 55 [.int .i64 n] t=some (.str (lJ n)):=by
 obtain⟨k,rfl⟩:∃k:Nat,n=k:=⟨n.toNat,by omega⟩;rw[FG,yab ⟨h0,h1⟩,NL (by omega),Int.toNat_natCast]
def EX{n:Int}(h:uR n=true):vB yA F 54 [.int .i64 n] t=some (.str (lF (mH n))):=by
 unfold uR at h;simp only[ybb,decide_eq_true_eq]at h;rw[KG (by omega) (by omega),Zb]
def zhw{f:fC}{u v:zA}(hu:mA t 1 (jC f.n.limbs) u)(hv:mA t 1 (jC f.d.limbs) v)(hf:fC.fit f)(h:gM f=true):vB yA F 56 [.agg [.bool f.n.neg,u,.bool f.d.neg,v]] t=some (.str (lF (mE f))):=by
 rw[Vo hu hv hf,Vq (by rw[Vp hf,h];rfl)]
def MW{x:gC}(hx:x.fit)(hF:ClF x)(hs:pZ x.when_/\pZ x.then_):(xL x).length<=1700000:=by
 have h1:=Zd hF;unfold xL;by_cases h:x.off=true
 ·rw[yab h];simp only[ybg,ybn,ybx];omega
 ·rw[yaa h];obtain⟨pw,pt⟩:=hF.ex (Bool.eq_false_iff.2 h);have h2:=Nr hx.2.2.2.2.2.1 pw hs.1;have h3:=Nr hx.2.2.2.2.2.2 pt hs.2;simp only[ybg,ybn,ybx];omega
def LF:∀(ls:List (List Nat)) (B:Nat),(∀x∈ls,x.length<=B)->(sF ls).length<=ls.length*(B+1)
 | [],_,_=>by simp[sF]
 | x::l,B,h=>by
  have h1:=LF l B fun y hy=>h y (.tail _ hy);have h2:=h x (.head _);rw[sF,ybn,ybo];simp only[ybg,ybn,ybx];omega
def LC{α:Type}(f:α->List (List Nat)):∀(l:List α) (B:Nat),(∀x∈l,(f x).length<=B)->(l.flatMap f).length<=l.length*B
 | [],_,_=>by simp
 | x::l,B,h=>by
  have h1:=LC f l B fun y hy=>h y (.tail _ hy);have h2:=h x (.head _);rw[List.flatMap_cons,ybg,ybn,ybo];omega
def zg7{x:tD}(h:nH x.name=true):(rT x).length<=50:=by
 have n1:=uK h;unfold rT;have:(if x.two=true then [32,116,119,111]else [32,111,110,101]:List Nat).length<=4:=by split<;>simp
 simp only[ybg,ybn,ybx];omega
def zjs{d:cE}(h:zP d=true):(gS d).length<=50:=by
 unfold zP at h;rw[ybb]at h;have n1:=uK h.1;have k1:=Qf d.kind;unfold gS;have:(if d.fact=true then [102,97,99,116,32]else [100,101,102,32]:List Nat).length<=5:=by split<;>simp
 simp only[ybg,ybn,ybx];omega
def zbk{p:wF}(hp:p.fit)(hP:eP p=true)(hs:qX p<=2000):(kM p).length<=1000000000000000000:=by
 have hc:=(GH hp hs).1;have hsm:=GG hp hs;unfold eP at hP;simp only[ybb,ycb]at hP;obtain⟨pn,pd,pt,pc⟩:=hP;have nn:=uK pn;have hl:∀x∈uJ p,x.length<=1700000:=by
  intro x hx;unfold uJ at hx;simp only[ybs,yaf,yaq,List.mem_flatMap]at hx;rcases hx with rfl | ⟨d,hd,rfl⟩ | ⟨y,hy,hx⟩ | ⟨y,hy,rfl⟩
  ·unfold Jw;simp;omega
  ·have:=zjs (pd d hd);omega
  ·have hPt:=pt y hy;unfold qO at hPt;rw[ybb,ycb]at hPt;unfold lP at hx;rcases ybs.1 hx with rfl | hx
   ·have:=zg7 hPt.1;omega
   ·obtain⟨r,hr,rfl⟩:=yaq.1 hx;have:=ER (Od ((hp.tables y hy).2.2 r hr) (hPt.2 r hr));omega
  ·exact MW (hp.clauses y hy) (Rn (pc y hy)) (hsm y hy)
 have h1:=LF (uJ p) 1700000 hl;have h2:=LC lP p.tables 300001 fun x hx=>by
  have:=(hc.rows x hx).1;unfold lP;simp;omega
 have h3:(uJ p).length<=100000000000:=by
  have a1:=hc.defs;have a2:=hc.tables;have a3:=hc.clauses;have a4:p.tables.length*300001<=300000*300001:=ybi _ (by omega);unfold uJ;simp only[ybn,ybg,ybf];omega
 have h4:(uJ p).length*(1700000+1)<=100000000000*1700001:=ybi _ h3;unfold kM;omega
set_option maxHeartbeats 2000000 in
def TR{x:gC}{cs:List zA}(hx:x.fit)(hP:aM x=true)(hs:pZ x.when_/\pZ x.then_)(hr:RD t x.d cs):vB yA F 57 [.agg cs] t=some (.str (xL x++[10])):=by
 have hF:=Rn hP;have hl:=Zd hF;have n1:=uK hF.name;have n2:=uK hF.label;have n3:=(dN x.from_).1;have n4:=(dN x.known).1;have n5:=(Mz x.to).1;obtain⟨a,b,c,a',b',c',rfl,hw,ht⟩:=jX hr;have hsame:same 10 (.agg (qH x.then_ a' b' c')) (.agg (qH x.then_ a' b' c'))=true:=ht.sameA;simp only[qH,List.cons_append,yah]at hw ht hsame ⊢;have cC:jp 57 9 [.str (toS x.to),.str x.name,.str x.label,.int .i64 x.from_,.int .i64 x.to,.int .i64 x.known,.bool x.off,.int .u8 x.when_.op,.str x.when_.name,.int .u8 x.when_.v.kind,.bool x.when_.v.f.n.neg,a,.bool x.when_.v.f.d.neg,b,.int .i64 x.when_.v.i,c,.int .u8 x.then_.op,.str x.then_.name,.int .u8 x.then_.v.kind,.bool x.then_.v.f.n.neg,a',.bool x.then_.v.f.d.neg,b',.int .i64 x.then_.v.i,c'] t (fun v t'=>v=.str (xL x++[10])/\t'=t):=by
  refine j57_9 ?_;unfold t57_9 uS uZ uY;refine vA (pC (by simp;omega)) (pB (vA (pC (by simp;omega)) (pB (vA (pC (by simp;omega)) (pB (vA (pC (by simp;omega)) (pB (cA ?_))))))));rw[q55,Og hF.from_.1 hF.from_.2,xA];refine pB (tA nO (tA nO (tA lT (vA (pC (by simp;omega)) (pB (vA (pC (by simp;omega)) (pB (vA (pC (by simp;omega)) (pB (vA (pC (by simp;omega)) (pB (cA ?_))))))))))))
  rw[q55,Og hF.known.1 hF.known.2,xA];refine pB (tA nO (tA nO (vA (pC (by simp;omega)) (pB ?_))));have eh:[99,108,97,117,115,101,32]++x.name++[32]++x.label++[32,102,114,111,109,32]++lJ x.from_++[32,116,111,32]++toS x.to++[32,107,110,111,119,110,32]++lJ x.known=gU x:=rfl;rw[eh]
  cases hoff:x.off with
  | true=>
   refine tA rfl (vA (pC (by simp;omega)) (pB ⟨?_,rfl⟩));unfold xL;rw[yab hoff];simp
  | false=>
   obtain⟨pw,pt⟩:=hF.ex hoff;have lw:=Nr hx.2.2.2.2.2.1 pw hs.1;have lt:=Nr hx.2.2.2.2.2.2 pt hs.2;refine bA (by simp) (vA (pC (by simp;omega)) (pB (cA ?_)));rw[q71,Wd x.when_ 1 hx.2.2.2.2.2.1 pw _ hw,xA];refine pB (tA hsame (vA (pC (by simp;omega)) (pB (vA (pC (by simp;omega)) (pB (cA ?_))))));rw[q71,Wd x.then_ 1 hx.2.2.2.2.2.2 pt _ ht,xA];refine pB (vA (pC (by simp;omega)) (pB (vA (pC (by simp;omega)) (pB ⟨?_,rfl⟩))))
   unfold xL;rw[yaa (by rw[hoff];simp)];simp
 refine bB.2 (w57 ?_);unfold t57 uS uZ uY;by_cases h:x.to<65536
 ·refine tA (qE h) (cA ?_);rw[q55,Og (hF.to h) h,xA];unfold toS at cC;rw[yab h]at cC;exact pB (zC cC)
 ·unfold toS at cC;rw[yaa h]at cC;exact bA (fE h) (zC cC)
set_option maxHeartbeats 4000000 in
def TB{p:wF}{cs:List zA}(hp:p.fit)(hs:qX p<=2000)(hr:RD t p.d cs):vB yA F 24 [.agg cs] t=some (As p):=by
 have hr0:=hr;obtain⟨a,b,c,rfl,ra,rb,rc⟩:=zR hr;refine bB.2 (w24 ?_);unfold t24 uB uS uZ;refine cA ?_;rw[q25,EO hp hr0,xA];refine yC ?_;unfold As
 cases hP:eP p with
 | false=>exact tA rfl ⟨by simp,rfl⟩
 | true=>
 rw[yab rfl];have hB:=zbk hp hP hs;have hsm:=GG hp hs;unfold eP at hP;simp only[ybb,ycb]at hP;obtain⟨pn,pd,pt,pc⟩:=hP;have hnd:=hp.ndefs;have hnt:=hp.ntables;have hnc:=hp.nclauses;unfold dD at hnd hnt hnc;have nn:=uK pn;have la:=ra.len;have lb:=rb.len;have lc:=rc.len;rw[ybf]at la lb lc;have hlen:∀ {ls r:List (List Nat)},uJ p=ls++r->(sF ls).length<=1000000000000000000:=fun {ls r} h=>by
  have e:kM p=sF ls++sF r:=by unfold kM;rw[h,Qy]
  have:=congrArg List.length e;rw[ybg]at this;omega
 generalize hfin:(if 65536<(kM p).length then zA.tup [.str [],.int .i64 3]else zA.tup [.str (kM p),.int .i64 0])=cC;have loopC:∀(m i:Nat) (ls:List (List Nat)),i+m=p.clauses.length->uJ p=ls++(p.clauses.drop i).map xL->jp 24 14 [.str (sF ls),.int .i64 (i:Int),.str p.name,a,b,c] t (fun v t'=>v=cC/\t'=t):=by
  intro m;induction m with
  | zero=>
   intro i ls hi hls;refine zfx ?_;unfold Ue uI uZ;rw[ybt (by omega),List.map_nil,ycd]at hls;have e:sF ls=kM p:=by unfold kM;rw[hls]
   rw[e];refine vA lc (tB (bA (fE (by omega)) ?_));rw[<- hfin];by_cases h:65536<(kM p).length
   ·rw[yab h];exact tA (qE (by rw[vJ];omega)) ⟨rfl,rfl⟩
   ·rw[yaa h];exact bA (fE (by rw[vJ];omega)) ⟨rfl,rfl⟩
  | succ m ih=>
   intro i ls hi hls;have hlt:i<p.clauses.length:=by omega
   have hm:=ycj hlt;have hl0:=hlen hls;rw[ybl hlt,ycm]at hls;obtain⟨b',off,cs,g1,g2,g3,g4,g5⟩:=rD.at mV (by simp) rc (i:=i) (d:=p.clauses[i].d) (by simp[hlt]);refine zfx ?_;unfold Ue uI uG uS qB uZ;refine vA lc (tB (tA (qE (by omega)) (vA g1 (sC g2 ?_))));rw[qL];refine dF (aF g5 (gC.zs _)) (cA ?_);have hmk:uM1 (cellsOf cs)=cs:=g5.mk (gC.zs p.clauses[i])
   have hA:wK (cellsOf cs)=.agg cs:=congrArg zA.agg hmk;have hcl:=MW (hp.clauses _ hm) (Rn (pc _ hm)) (hsm _ hm);rw[hA,q57,TR (hp.clauses _ hm) (pc _ hm) (hsm _ hm) g5,xA];refine pB (vA (pC (by simp;omega)) (pB (zC ?_)));rw[wrap_i64 (by omega) (by omega),show(i:Int)+1=((i+1:Nat):Int) by omega,<- Av];exact ih (i+1) _ (by omega) (by rw[hls];simp)
 have loopT:∀(m i:Nat) (ls:List (List Nat)),i+m=p.tables.length->uJ p=ls++((p.tables.drop i).flatMap lP++p.clauses.map xL)->jp 24 6 [.str (sF ls),.int .i64 (i:Int),.str p.name,a,b,c] t (fun v t'=>v=cC/\t'=t):=by
  intro m;induction m with
  | zero=>
   intro i ls hi hls;refine j24_6 ?_;unfold zhn uI uZ;rw[ybt (by omega),List.flatMap_nil,yah]at hls;exact vA lb (tB (bA (fE (by omega)) (zC (loopC p.clauses.length 0 ls (by omega) (by rw[ycr];exact hls)))))
  | succ m ih=>
   intro i ls hi hls;have hlt:i<p.tables.length:=by omega
   have hm:=ycj hlt;have hfit:=hp.tables _ hm;have hPt:=pt _ hm;unfold qO at hPt;rw[ybb,ycb]at hPt;have hnr:=hfit.2.1;unfold dD at hnr;have tn:=uK hPt.1;have hl0:=hlen hls;rw[ybl hlt,List.flatMap_cons]at hls;obtain⟨b',off,cs,g1,g2,_,_,g5⟩:=rD.at lV (by simp) rb (i:=i) (d:=p.tables[i].d) (by simp[hlt]);obtain⟨rows,rfl,hr0⟩:=lX g5;have hro:rows.one=true:=hr0.one;have hlr:=hr0.len
   rw[ybf]at hlr;have loopR:∀(m j:Nat) (ls:List (List Nat)),j+m=p.tables[i].rows.length->uJ p=ls++((p.tables[i].rows.drop j).map (iP p.tables[i].two)++((p.tables.drop (i+1)).flatMap lP++p.clauses.map xL))->jp 24 10 [.str (sF ls),.int .i64 (i:Int),.int .i64 (j:Int),.str p.name,a,b,c,.str p.tables[i].name,.bool p.tables[i].two,rows] t (fun v t'=>v=cC/\t'=t):=by
    intro m';induction m' with
    | zero=>
     intro j ls hj hls;refine zfy ?_;unfold Uf uI qB uZ;refine vA hlr (tB (bA (fE (by omega)) (zC ?_)));rw[wrap_i64 (by omega) (by omega),show(i:Int)+1=((i+1:Nat):Int) by omega];exact ih (i+1) ls (by omega) (by rw[hls,ybt (by omega),List.map_nil,yah])
    | succ m' ihr=>
     intro j ls hj hls;have hltj:j<p.tables[i].rows.length:=by omega
     have hmj:=ycj hltj;have hrf:=hfit.2.2 _ hmj;have hrp:=hPt.2 _ hmj;have hl1:=hlen hls;rw[ybl hltj,ycm,List.cons_append]at hls;obtain⟨b'',off',cs,k1,k2,k3,k4,k5⟩:=rD.at nV (by simp) hr0 (i:=j) (d:=p.tables[i].rows[j].d) (by simp[hltj]);have k5':=k5;obtain⟨u,v,rfl,hu,hv⟩:=kX k5';have hRF:=Od hrf hrp;have r1:=hRF.a.1;have r2:=hRF.b.1;have r3:=hRF.f.1;have r4:=Yh hRF;have r5:=(dN p.tables[i].rows[j].known).1
     have hrp':=hrp;unfold aR at hrp';simp only[ybb]at hrp';have hsame:same 10 (.agg [zA.bool p.tables[i].rows[j].f.n.neg,u,.bool p.tables[i].rows[j].f.d.neg,v]) (.agg [zA.bool p.tables[i].rows[j].f.n.neg,u,.bool p.tables[i].rows[j].f.d.neg,v])=true:=by
      show Am.same.sames 9 [zA.bool p.tables[i].rows[j].f.n.neg,u,.bool p.tables[i].rows[j].f.d.neg,v] [zA.bool p.tables[i].rows[j].f.n.neg,u,.bool p.tables[i].rows[j].f.d.neg,v]=true;simp only[Am.same.sames,Vx,hu.same,hv.same,Bool.and_self]
     generalize hR:p.tables[i].rows[j]=r at *;have last:jp 24 51 [.str (sF ls++[114,111,119,32]++nU p.tables[i].two r),.int .i64 (i:Int),.int .i64 (j:Int),.str p.name,a,b,c,.str p.tables[i].name,.bool p.tables[i].two,rows,.int .i64 r.a,.int .i64 r.b,.int .i64 r.known,.bool r.f.n.neg,u,.bool r.f.d.neg,v] t (fun v t'=>v=cC/\t'=t):=by
      refine j24_51 ?_;unfold zet uS qB uZ;refine vA (pC (by simp;omega)) (pB (cA ?_));rw[q55,Og hRF.known.1 hRF.known.2,xA];refine pB (tA hsame (vA (pC (by simp;omega)) (pB (vA (pC (by simp;omega)) (pB (cA ?_))))));rw[q56,zhw hu hv hrf.2.2.2 hrp'.2.2.2.2,xA];refine pB (vA (pC (by simp;omega)) (pB (vA (pC (by simp;omega)) (pB (zC ?_)))))
      rw[wrap_i64 (by omega) (by omega),show(j:Int)+1=((j+1:Nat):Int) by omega];have e:sF ls++[114,111,119,32]++nU p.tables[i].two r++[32,107,110,111,119,110,32]++lJ r.known++[32,105,115,32]++lF (mE r.f)++[10]=sF (ls++[iP p.tables[i].two r]):=by
       rw[Av];simp[iP]
      rw[e];exact ihr (j+1) _ (by omega) (by rw[hls];simp)
     refine zfy ?_;unfold Uf uI uG mC uS uZ;refine vA hlr (tB (tA (qE (by omega)) (vA k1 (sC k2 ?_))));rw[qL];refine dF (aF k5 (vD.zs _)) (tA ?_ ?_)
     ·have hmk:uM2 (cellsOf [.int .i64 r.a,.int .i64 r.b,.int .i64 r.known,.bool r.f.n.neg,u,.bool r.f.d.neg,v])=_:=k5.mk (vD.zs r);rw[hmk];exact k5.all
     have rest:List zA:=[.int .i64 (i:Int),.int .i64 (j:Int),.str p.name,a,b,c,.str p.tables[i].name,.bool p.tables[i].two,rows,.int .i64 r.a,.int .i64 r.b,.int .i64 r.known,.bool r.f.n.neg,u,.bool r.f.d.neg,v];show wp 24 (.opt (xC (sF ls) [114,111,119,32]) fun x=>.asS x fun s6=>.call 54 [.int .i64 r.a] fun x=>.asS x fun s=>.opt (xC s6 s) fun x=>.asS x fun s10=>.ite p.tables[i].two (.opt (xC s10 [32]) fun x=>.asS x fun s12=>.call 54 [.int .i64 r.b] fun x=>.asS x fun s=>.opt (xC s12 s) fun x=>.asS x fun s=>.jump 51 [.str s,.int .i64 (i:Int),.int .i64 (j:Int),.str p.name,a,b,c,.str p.tables[i].name,.bool p.tables[i].two,rows,.int .i64 r.a,.int .i64 r.b,.int .i64 r.known,.bool r.f.n.neg,u,.bool r.f.d.neg,v]) (.jump 51 [.str s10,.int .i64 (i:Int),.int .i64 (j:Int),.str p.name,a,b,c,.str p.tables[i].name,.bool p.tables[i].two,rows,.int .i64 r.a,.int .i64 r.b,.int .i64 r.known,.bool r.f.n.neg,u,.bool r.f.d.neg,v])) t _
     refine vA (pC (by simp;omega)) (pB (cA ?_));rw[q54,EX hrp'.1,xA];refine pB (vA (pC (by simp;omega)) (pB ?_));unfold nU at last;by_cases htwo:p.tables[i].two=true
     ·rw[yab htwo]at last;refine tA htwo (vA (pC (by simp;omega)) (pB (cA ?_)));rw[q54,EX hrp'.2.1,xA];refine pB (vA (pC (by simp;omega)) (pB (zC ?_)));simpa[ybz]using last
     ·rw[yaa htwo,ycd]at last;exact bA htwo (zC last)
   have next:∀s,s=sF (ls++[rT p.tables[i]])->jp 24 37 [.str s,.int .i64 (i:Int),.str p.name,a,b,c,.str p.tables[i].name,.bool p.tables[i].two,rows] t (fun v t'=>v=cC/\t'=t):=by
    intro s es;refine j24_37 ?_;unfold zeu uZ;rw[es];refine zC (loopR p.tables[i].rows.length 0 _ (by omega) ?_);rw[hls];simp[lP]
   refine j24_6 ?_;unfold zhn uI uG mC uS uZ;refine vA lb (tB (tA (qE (by omega)) (vA g1 (sC g2 ?_))));rw[qL];refine dF (aF g5 (tD.zs _)) (tA ?_ ?_)
   ·show nE zA.one [.str p.tables[i].name,.bool p.tables[i].two,rows]=true;rw[iI];simp only[ycg,yck,hro];rfl
   show wp 24 (.ite p.tables[i].two (.opt (xC (sF ls) [116,97,98,108,101,32]) fun x=>.asS x fun s=>.opt (xC s p.tables[i].name) fun x=>.asS x fun s=>.opt (xC s [32,116,119,111,10]) fun x=>.asS x fun s=>.jump 37 [.str s,.int .i64 (i:Int),.str p.name,a,b,c,.str p.tables[i].name,.bool p.tables[i].two,rows]) (.opt (xC (sF ls) [116,97,98,108,101,32]) fun x=>.asS x fun s=>.opt (xC s p.tables[i].name) fun x=>.asS x fun s=>.opt (xC s [32,111,110,101,10]) fun x=>.asS x fun s=>.jump 37 [.str s,.int .i64 (i:Int),.str p.name,a,b,c,.str p.tables[i].name,.bool p.tables[i].two,rows])) t _
   by_cases htwo:p.tables[i].two=true
   ·refine tA htwo (vA (pC (by simp;omega)) (pB (vA (pC (by simp;omega)) (pB (vA (pC (by simp;omega)) (pB (zC (next _ ?_))))))));rw[Av];simp[rT,htwo]
   ·refine bA htwo (vA (pC (by simp;omega)) (pB (vA (pC (by simp;omega)) (pB (vA (pC (by simp;omega)) (pB (zC (next _ ?_))))))));rw[Av];simp[rT,htwo]
 have loopD:∀(m i:Nat) (ls:List (List Nat)),i+m=p.defs.length->uJ p=ls++((p.defs.drop i).map gS++(p.tables.flatMap lP++p.clauses.map xL))->jp 24 2 [.str (sF ls),.int .i64 (i:Int),.str p.name,a,b,c] t (fun v t'=>v=cC/\t'=t):=by
  intro m;induction m with
  | zero=>
   intro i ls hi hls;refine j24_2 ?_;unfold zho uI uZ;rw[ybt (by omega),List.map_nil,yah]at hls;exact vA la (tB (bA (fE (by omega)) (zC (loopT p.tables.length 0 ls (by omega) (by rw[ycr];exact hls)))))
  | succ m ih=>
   intro i ls hi hls;have hlt:i<p.defs.length:=by omega
   have hm:=ycj hlt;have hk:=(hp.defs _ hm).2;have hPd:=pd _ hm;have hdl:=hPd;unfold zP at hdl;rw[ybb]at hdl;have dl:=uK hdl.1;have kl:=Qf p.defs[i].kind;have hl0:=hlen hls;rw[ybl hlt,ycm,List.cons_append]at hls;obtain⟨q,o,cs,g1,g2,g3,_,g5⟩:=rD.at rX (by simp) ra (i:=i) (d:=p.defs[i].d) (by simp[hlt]);obtain rfl:=gT g5;have fa0:dC yA 47 0 (.ptr q o)=some (.ptr q (o+0)):=by kernel_rfl
   have fa1:dC yA 47 1 (.ptr q o)=some (.ptr q (o+1)):=by kernel_rfl
   have fa2:dC yA 47 2 (.ptr q o)=some (.ptr q (o+2)):=by kernel_rfl
   have ld0:dA yA 9 ⟨0,t⟩ (.ptr q (o+0))=some (.str p.defs[i].name):=g3.load1 gH rfl rfl;have ld1:dA yA 5 ⟨0,t⟩ (.ptr q (o+1))=some (.int .u8 (p.defs[i].kind:Int)):=g3.load1 tN rfl rfl;have ld2:dA yA 4 ⟨0,t⟩ (.ptr q (o+2))=some (.bool p.defs[i].fact):=g3.load1 ty4 rfl rfl;have next:∀s,s=sF ls++(if p.defs[i].fact=true then [102,97,99,116,32]else [100,101,102,32])->jp 24 21 [.str s,.int .i64 (i:Int),.str p.name,a,b,c] t (fun v t'=>v=cC/\t'=t):=by
    intro s es;have sl:s.length<=(sF ls).length+5:=by rw[es];split<;>simp
    refine j24_21 ?_;unfold zev uS uU qB uZ uY;refine vA g1 (vA fa0 (sC ld0 (pB (vA (pC (by omega)) (pB (vA (pC (by simp;omega)) (pB (vA g1 (vA fa1 (sC ld1 (tB (cA ?_))))))))))));rw[q53,EV hk,xA];refine pB (tA ra.same (sC ld0 (tA nO (vA (pC (by simp;omega)) (pB (vA (pC (by simp;omega)) (pB (zC ?_))))))))
    rw[wrap_i64 (by omega) (by omega),show(i:Int)+1=((i+1:Nat):Int) by omega];have e:s++p.defs[i].name++[32]++pS p.defs[i].kind++[10]=sF (ls++[gS p.defs[i]]):=by
     rw[Av,es];simp[gS]
    rw[e];exact ih (i+1) _ (by omega) (by rw[hls];simp)
   refine j24_2 ?_;unfold zho uI uS uB uZ;refine vA la (tB (tA (qE (by omega)) (vA g1 (vA fa2 (sC ld2 (yC ?_))))));by_cases hf:p.defs[i].fact=true
   ·refine tA hf (vA (pC (by simp;omega)) (pB (zC (next _ ?_))));rw[yab hf]
   ·refine bA hf (vA (pC (by simp;omega)) (pB (zC (next _ ?_))));rw[yaa hf]
 refine bA (by simp) (vA (pC (by simp;omega)) (pB (vA (pC (by simp;omega)) (pB (zC ?_)))));have e:[112,108,97,110,32]++p.name++[10]=sF [Jw p.name]:=by rw[LD];rfl
 rw[e];exact loopD p.defs.length 0 _ (by omega) rfl
end
end Go.Proofs
namespace Go.Am
open Go Go.RowKit
section
variable {t tf tf0:Tr sA}{C:fA}
def za4{T el sz k m n b q:Nat}{x:zA}{new:List zA}(hT:gL C T el sz)(hl:sY x=some m)(hf:pR ⟨q,t⟩ sz m x=some new)(hk:k+m<=n) :
  vF C T T (.slice b 0 k n) x ⟨q,t⟩=(match (generalizing:=false) new with | []=>some (.slice b 0 (k+m) n,⟨q,t⟩) | _::_=>ob (zJ C ⟨q,t⟩ b (0+k*sz) new) fun H'=>some (.slice b 0 (k+m) n,H')):=by
 obtain⟨⟨y,hy1,hy2,hy3⟩,⟨z,hz1,hz2,hz3,hz4,hz5⟩,hnb⟩:=hT;unfold vF iW;rw[hy1,pA,pA,hy3];simp only[ycl,sE];rw[hy2,pA,hz1,pA,hl,pA,hz2,hf,pA];simp only[zA.asSlice];rw[rF.2 hk,cond_true];unfold jY;rw[hz2];cases new<;>rfl
end
end Go.Am
