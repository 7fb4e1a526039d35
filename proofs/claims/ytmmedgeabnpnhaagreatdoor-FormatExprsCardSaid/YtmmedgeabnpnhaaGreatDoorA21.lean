/- What is printable as an expression: the checker. -/
import Derived.Carry
import Derived.ChangeArms
import Derived.HandedShaped
import Derived.JoinedOf
import Derived.LaidMore
import Derived.OpenShut
import Derived.ProofKit
import Derived.Stop.Joined
import Derived.Test.YtmmedgeabnpnhaaGreatDoorRows
import GoSem.ClaimJoined
import Derived.Test.YtmmedgeabnpnhaaGreatDoorA20
set_option linter.all false
noncomputable section
set_option maxRecDepth 100000
namespace Go.Proofs
open Go Go.Am
variable [sC]
variable {t:Tr sA}
def tB(op:Nat):FM:=zec.getD op ⟨0,[],false,0,0,0,0,0⟩
theorem Af{f:FM->List zA}(hf:∀x,(f x).length=8):∀(l:List FM) (i k:Nat),i<l.length->k<8->(l.map f).flatten[i*8+k]?=(f (l.getD i ⟨0,[],false,0,0,0,0,0⟩))[k]?
 | [],i,k,h,_=>by simp at h
 | x::l,0,k,h,hk=>by
  grind
 | x::l,i+1,k,h,hk=>by
  rw[ycm,yas,ybp (by grind),hf,show(i+1)*8+k-8=i*8+k by omega];rw[Af hf l i k (by grind) hk];simp
def kX{op k:Nat}(h:op<27)(hk:k<8):oP[op*8+k]?=(tB op).cs[k]?:=Af (f:=FM.cs) (fun _=>rfl) zec op k h hk
theorem Us{b op:Nat}(h:op<27):jB yA 201 (.ptr b 0) (.int .u8 (op:Int))=some (.ptr b (op*8)):=by
 have hA:ob (yA.tys.get 201) (fun y=>y.desc.asArr)=some (27,168):=by kernel_rfl
 rw[uA]at hA;obtain⟨y,hy,hd⟩:=hA;unfold jB;rw[hy,tA];have e:(zA.int .u8 (op:Int)).asNat=some op:=rfl
 grind [tA,zA.asSlice,zA.asPtr,ty168,vC,jD]
def aM{b o k:Nat}(hk:k<8):zE yA 168 k (.ptr b o)=some (.ptr b (o+k)):=by
 have h:Fb yA 168 k=some k:=by
  unfold Fb;rw[ty168,tA];simp only[sD.asStruct,tA];have:k=0\/k=1\/k=2\/k=3\/k=4\/k=5\/k=6\/k=7:=by omega
  rcases this with e | e | e | e | e | e | e | e<;>rw[e]<;>rfl
 unfold zE;rw[h];rfl
section
variable {b op:Nat}(hF:dE t b none oP)(h:op<27)
include hF h
def EN:aA yA 5 ⟨0,t⟩ (.ptr b (op*8+0))=some (.int .u8 (tB op).style):=hF.load1 nN rfl (by rw[kX h (by decide)];rfl)
def EM:aA yA 9 ⟨0,t⟩ (.ptr b (op*8+1))=some (.str (tB op).word):=hF.load1 iL rfl (by rw[kX h (by decide)];rfl)
def EO:aA yA 4 ⟨0,t⟩ (.ptr b (op*8+2))=some (.bool (tB op).named):=hF.load1 ty4 rfl (by rw[kX h (by decide)];rfl)
def UU:aA yA 3 ⟨0,t⟩ (.ptr b (op*8+3))=some (.int .i64 (tB op).least):=hF.load1 ty3 rfl (by rw[kX h (by decide)];rfl)
def zdq:aA yA 3 ⟨0,t⟩ (.ptr b (op*8+4))=some (.int .i64 (tB op).most):=hF.load1 ty3 rfl (by rw[kX h (by decide)];rfl)
def UT:aA yA 3 ⟨0,t⟩ (.ptr b (op*8+5))=some (.int .i64 (tB op).level):=hF.load1 ty3 rfl (by rw[kX h (by decide)];rfl)
def Tw:aA yA 3 ⟨0,t⟩ (.ptr b (op*8+6))=some (.int .i64 (tB op).left):=hF.load1 ty3 rfl (by rw[kX h (by decide)];rfl)
def US:aA yA 3 ⟨0,t⟩ (.ptr b (op*8+7))=some (.int .i64 (tB op).right):=hF.load1 ty3 rfl (by rw[kX h (by decide)];rfl)
end
theorem mG{a b:Int}(h:a≠b):iA a b≠true:=fun e=>h (gE.1 e)
theorem nG{a b:Int}(h:¬ a<b):iB a b≠true:=fun e=>h (xC.1 e)
theorem nLe{a b:Int}(h:¬ a<=b):uC a b≠true:=fun e=>h (pD.1 e)
theorem zI{a b:Int}(h:a=b):iA a b=true:=gE.2 h
theorem pG{a b:Int}(h:a<b):iB a b=true:=xC.2 h
theorem yLe{a b:Int}(h:a<=b):uC a b=true:=pD.2 h
def iF{b o:Nat}:Bn (.ptr b o)=some (.ptr b o):=rfl
def cM(op:Nat)(name:List Nat)(n:Nat):Bool:=
 decide (op<27) && !decide ((tB op).style=0)&&decide ((tB op).least<=n)&&decide (n<=(tB op).most)&&(if (tB op).named=true then qR name else cC name [])
def dT(op:Nat)(v:oD):Bool:=if op=19 then decide (1<=v.i)&&decide (v.i<=6)&&Be { v with i:=0 } else Be v
mutual
/-- is an expression printable at a depth? -/
def dG:pA->Nat->Bool
 | .mk op name v args,d=>decide (d<=24)&&cM op name args.length&&(if op=1 then fF v else dT op v&&xK args (d+1))
def xK:List pA->Nat->Bool
 | [],_=>true
 | x::l,d=>dG x d&&xK l d
end
theorem Nz:∀ {l:List pA} {d:Nat},xK l d=l.all fun x=>dG x d
 | [],d=>by rw[xK];rfl
 | x::l,d=>by rw[xK,Nz];rfl
def Yc(p0_0:zA)(p1_0:Int)(p1_1:List Nat)(p1_2:Int)(p1_3:Bool)(p1_4:zA)(p1_5:Bool)(p1_6:zA)(p1_7:Int)(p1_8:zA)(p2:Int):T:=
 .ite (vF zA.one [(.int .u8 p1_2),(.bool p1_3),p1_4,(.bool p1_5),p1_6,(.int .i64 p1_7)]) (.ite (iA p1_0 1)
 (.call 39 [(.agg [(.int .u8 p1_2),(.bool p1_3),p1_4,(.bool p1_5),p1_6,(.int .i64 p1_7)])] fun a28=>
 .asB a28 fun b29=>.ret (.bool b29))
 (.ite (iA p1_0 19)
 (.ite (iB p1_7 1)
 (.ret (.bool false))
 (.ite (iB 6 p1_7)
 (.ret (.bool false))
 (.ite true (.jump 33 [(.int .i64 p2),p0_0,(.int .u8 p1_0),(.str p1_1),(.int .u8 p1_2),(.bool p1_3),p1_4,(.bool p1_5),p1_6,(.int .i64 p1_7),p1_8,(.int .u8 p1_2),(.bool p1_3),p1_4,(.bool p1_5),p1_6,(.int .i64 0)]) .fail)))
 (.jump 33 [(.int .i64 p2),p0_0,(.int .u8 p1_0),(.str p1_1),(.int .u8 p1_2),(.bool p1_3),p1_4,(.bool p1_5),p1_6,(.int .i64 p1_7),p1_8,(.int .u8 p1_2),(.bool p1_3),p1_4,(.bool p1_5),p1_6,(.int .i64 p1_7)]))) .fail
section
variable {op:Nat}{name:List Nat}{v:oD}{a b c:zA}{bf d:Nat}
theorem JC{v2:Int}{v':oD}{R:Bool}{n:Nat}{c3:zA}(ha:mA t 1 (lC v'.f.n.limbs) a)(hb:mA t 1 (lC v'.f.d.limbs) b)(hf:v'.f.ok)(hc:vB c=some (.int .i64 (n:Int)))
  (hargs:jp 68 4 [.int .i64 v2,c,.int .i64 (n:Int),.int .i64 0,c3] t (fun x t'=>x=.bool R/\t'=t)) (p3:Bool) (p5:Bool) (p2 p7:Int) (p4 p6:zA) :
  jp 68 33 [.int .i64 v2,c3,.int .u8 (op:Int),.str name,.int .u8 p2,.bool p3,p4,.bool p5,p6,.int .i64 p7,c,.int .u8 v'.kind,.bool v'.f.n.neg,a,.bool v'.f.d.neg,b,.int .i64 v'.i] t (fun x t'=>x=.bool (Be v'&&R)/\t'=t):=by
 refine j68_33 ?_;simp only[uI,uB,zB,uZ,uY,Yp,qA,q136,KY ha hb hf,wA,zA.asBool];grind [wA,fB]
theorem zc3{n:Nat}{R:Bool}(ha:mA t 1 (lC v.f.n.limbs) a)(hb:mA t 1 (lC v.f.d.limbs) b)(hf:kC.fit v.f)(hc:vB c=some (.int .i64 (n:Int)))
  (hargs:jp 68 4 [.int .i64 (d:Int),c,.int .i64 (n:Int),.int .i64 0,.ptr bf 0] t (fun x t'=>x=.bool R/\t'=t)) :
  wp 68 (Yc (.ptr bf 0) (op:Int) name (v.kind:Int) v.f.n.neg a v.f.d.neg b v.i c (d:Int)) t (fun x t'=>x=.bool (if op=1 then fF v else dT op v&&R)/\t'=t):=by
 unfold Yc;refine fA ?_ ?_
 ·rw[aI];simp only[ycg,yck,ha.one,hb.one];rfl
 by_cases h1:op=1
 ·refine fA (zI (by omega)) ?_;simp only[qA,q39,CD ha hb hf,wA,zA.asBool,yab h1];constructor<;>trivial
 ·refine dA (mG (by omega)) ?_;simp only[yaa h1];unfold dT;by_cases h2:op=19
  ·refine fA (zI (by omega)) ?_;simp only[yab h2];by_cases h3:1<=v.i
   ·refine dA (nG (by omega)) ?_;by_cases h4:v.i<=6
    ·refine dA (nG (by omega)) (fA rfl ?_);have:=JC (op:=op) (name:=name) (v':={ v with i:=0 }) ha hb hf.1 hc hargs v.f.n.neg v.f.d.neg v.kind v.i a b;simp only[decide_eq_true h3,decide_eq_true h4,ycn];exact this
    grind [pG,qA]
   grind [pG,qA]
  ·refine dA (mG (by omega)) ?_;simp only[yaa h2];exact JC (op:=op) (name:=name) (v':=v) ha hb hf.1 hc hargs v.f.n.neg v.f.d.neg v.kind v.i a b
theorem zai{n:Nat}{R:Bool}(hF:dE t bf none oP)(hop:op<256)(hn:n<jF)(hnl:name.length<jF)(ha:mA t 1 (lC v.f.n.limbs) a)(hb:mA t 1 (lC v.f.d.limbs) b)(hf:kC.fit v.f)(hc:vB c=some (.int .i64 (n:Int)))
  (hargs:d<=24->jp 68 4 [.int .i64 (d:Int),c,.int .i64 (n:Int),.int .i64 0,.ptr bf 0] t (fun x t'=>x=.bool R/\t'=t)) :
  lB yA F 68 [.agg [.ptr bf 0],.agg [.int .u8 op,.str name,.int .u8 v.kind,.bool v.f.n.neg,a,.bool v.f.d.neg,b,.int .i64 v.i,c],.int .i64 (d:Int)] t=some (.bool (decide (d<=24)&&cM op name n&&(if op=1 then fF v else dT op v&&R))):=by
 refine bB.2 (w68 ?_);unfold t68 cM uQ3 uI uU uB kD zB bD uZ uY uW;by_cases hd:d<=24
 case neg=>
  grind [pG,qA]
 refine dA (nG (by omega)) ?_;have htail:=zc3 (op:=op) (name:=name) (d:=d) (bf:=bf) ha hb hf hc (hargs hd);by_cases h27:op<27
 case neg=>
  grind [wrap_i64,yLe,qA]
 refine dA (by grind [wrap_i64,nLe]) ?_;refine lA iF (lA (Us h27) (lA iF (lA (aM (by decide)) (gC (EN hF h27) (qB ?_)))));by_cases hs:(tB op).style=0
 ·grind [zI,qA]
 refine dA (mG (by omega)) ?_;refine lA hc (qB (lA iF (lA (aM (by decide)) (gC (UU hF h27) (qB ?_)))));by_cases hl:(tB op).least<=n
 case neg=>
  grind [pG,qA]
 refine dA (nG (by omega)) ?_;refine lA hc (qB (lA iF (lA (aM (by decide)) (gC (zdq hF h27) (qB ?_)))));by_cases hm:n<=(tB op).most
 case neg=>
  grind [pG,qA]
 refine dA (nG (by omega)) ?_;have hld:=EO hF h27;refine lA iF (lA (aM (by decide)) (gC hld (wD ?_)));simp only[decide_eq_true hd,decide_eq_true h27,decide_eq_false hs,decide_eq_true hl,decide_eq_true hm,ycn,ycl]
 cases hnm:(tB op).named with
 | true=>
  rw[hnm]at hld;simp only[if_true];refine fA rfl (wB ?_);rw[q107,zdf,wA];refine wD ?_
  cases hN:qR name with
  | false=>
   grind [qA]
  | true=>
   refine dA (by simp) (lA iF (lA (aM (by decide)) (gC hld (wD (dA (by simp) ?_)))));simp only[ycn];exact htail
 | false=>
  rw[hnm]at hld;simp only[ybq,if_false];refine dA (by simp) (lA iF (lA (aM (by decide)) (gC hld (wD (fA rfl ?_)))))
  cases hN:cC name []with
  | false=>
   grind [qA]
  | true=>
   refine dA (by simp) ?_;simp only[ycn];exact htail
end
mutual
theorem ID{bf:Nat}(hF:dE t bf none oP):∀(x:pA) (d:Nat) (cs:List zA),x.fit->d<1000->RD t x.d cs->lB yA F 68 [.agg [.ptr bf 0],.agg cs,.int .i64 (d:Int)] t=some (.bool (dG x d))
 | .mk op name v args,d,cs,hx,hd,h=>by
  obtain⟨a,b,c,rfl,ha,hb,hc⟩:=cK h;simp only[pA.op,pA.name,pA.v,pA.args]at ha hb hc ⊢;have hx':=hx;unfold pA.fit at hx';unfold dG;refine zai hF hx'.1 (n:=args.length) hx'.2.2.2.2.1 hx'.2.1 ha hb hx'.2.2.2.1.2.1 (by rw[hc.len,ybf]) fun hd'=>?_;have:=KE hF args args d c 0 hc rfl hx'.2.2.2.2.2 hx'.2.2.2.2.1 hd';exact this
theorem KE{bf:Nat}(hF:dE t bf none oP):∀(l args:List pA) (d:Nat) (c:zA) (i:Nat),mA t 9 (args.map pA.d) c->args.drop i=l->pA.fits l->args.length<jF->d<=24 →
  jp 68 4 [.int .i64 (d:Int),c,.int .i64 (args.length:Int),.int .i64 (i:Int),.ptr bf 0] t (fun x t'=>x=.bool (xK l (d+1))/\t'=t)
 | [],args,d,c,i,hc,hl,hok,hsz,hd=>by
  have:=Vm hl;refine j68_4 ?_;unfold Pp uB uG kD yC zB qF uZ uM0 cF;grind [nG,xK,qA]
 | x::l,args,d,c,i,hc,hl,hok,hsz,hd=>by
  obtain⟨h1,h2,h3⟩:=Vn hl;unfold jF at hsz;have hok':=hok;unfold pA.fits at hok';refine j68_4 ?_;obtain⟨pb,po,cs,g1,g2,g3,g4,g5⟩:=yF.at xR (by simp) hc (i:=i) (d:=x.d) (by simp[h1]);unfold Pp uB uG kD yC zB qF uZ uM0 cF;refine fA (pG (by omega)) (lA g1 (gC g2 ?_));rw[fW];refine wI (wJ g5 x.zs) ?_;have hmk:=g5.mk x.zs;have hcs:[zA.int .u8 ((cellsOf cs).i 0),.str ((cellsOf cs).s 1),.int .u8 ((cellsOf cs).i 2),.bool ((cellsOf cs).b 3),(cellsOf cs).v 4,.bool ((cellsOf cs).b 5),(cellsOf cs).v 6,.int .i64 ((cellsOf cs).i 7),(cellsOf cs).v 8]=cs:=hmk
  rw[hcs];refine fA g5.all (wB ?_);rw[wrap_i64 (by omega) (by omega),show(d:Int)+1=((d+1:Nat):Int) by omega,q68,ID hF x (d+1) cs hok'.1 (by omega) g5,wA];refine wD ?_;unfold xK
  cases hE:dG x (d+1)with
  | false=>
   grind [qA]
  | true=>
   refine dA (by simp) (qC ?_);rw[wrap_i64 (by omega) (by omega),show(i:Int)+1=((i+1:Nat):Int) by omega];have:=KE hF l args d c (i+1) hc h2 hok'.2 hsz hd
   simp_all
end
end Go.Proofs
namespace Go.Proofs
open Go Go.Am
variable [sC]
variable {t:Tr sA}
def dZ:List Int:=[31,28,31,30,31,30,31,31,30,31,30,31]
def uK(t:Tr sA):Prop:=At t 2 0 (dZ.map fun n=>zA.int .i64 n)
theorem uK.mono{t':Tr sA}(h:uK t)(k:bA t t'):uK t':=At.mono k h
def NK(x:Int){k:Nat}(hk:0<k) : -(k:Int)<Int.tmod x k/\Int.tmod x k<k:=by
 have h:=Int.natAbs_tmod x k;have h2:=ycy x.natAbs (show 0<(k:Int).natAbs by omega);omega
def Ma(y:Int):Bool:=decide (Int.tmod y 4=0)&&(!decide (Int.tmod y 100=0)||decide (Int.tmod y 400=0))
def lenD (y m:Int):Int:=if m<1 then 0 else if 12<m then 0 else if m=2/\Ma y=true then 29 else dZ.getD (m-1).toNat 0
def Tv(y:Int):Int:=rA .i64 ((rA .i64 ((rA .i64 (Int.tdiv y 4))-(rA .i64 (Int.tdiv y 100))))+(rA .i64 (Int.tdiv y 400)))
def Jx(v0 v3:Int):Nat->Int->Int->Int
 | 0,_,v4=>v4
 | k+1,v5,v4=>if v5<=Int.tmod v0 12 then Jx v0 v3 k (v5+1) (rA .i64 (v4+lenD v3 v5))else v4
def yR(m:Int):Int:=Jx m (rA .i64 (1900+(rA .i64 (Int.tdiv m 12)))) 11 1 (rA .i64 ((rA .i64 ((rA .i64 (365*(rA .i64 ((rA .i64 (1900+(rA .i64 (Int.tdiv m 12))))-1900))))+Tv (rA .i64 ((rA .i64 (1900+(rA .i64 (Int.tdiv m 12))))-1))))-Tv 1899))
def rZ(P:Int->Bool):Nat->Nat->Nat->Int
 | 0,i,_=>(i:Int)
 | k+1,i,j=>if i<j then(if P (((i+j) / 2:Nat):Int)=true then rZ P k i ((i+j) / 2)else rZ P k ((i+j) / 2+1) j)else(i:Int)
theorem zdp(y:Int):lB yA F 263 [.int .i64 y] t=some (.bool (Ma y)):=by
 refine bB.2 (w263 ?_);unfold t263 Ma zB qF;grind [qA,rP]
theorem len_at(hG:uK t){m:Int}(h1:1<=m)(h2:m<=12):∃b o,jB yA 257 (.ptr 2 0) (.int .i64 (rA .i64 (m-1)))=some (.ptr b o)/\aA yA 3 ⟨0,t⟩ (.ptr b o)=some (.int .i64 (dZ.getD (m-1).toNat 0)):=by
 obtain⟨k,rfl⟩:∃k:Nat,m=(k:Int)+1:=⟨(m-1).toNat,by omega⟩;have hk:k<12:=by omega
 have e0:((k:Int)+1-1).toNat=k:=by omega
 rw[wrap_i64 (by omega) (by omega),e0,show(k:Int)+1-1=(k:Int) by omega];have hx:(dZ.map fun n=>zA.int .i64 n)[k]?=some (.int .i64 (dZ.getD k 0)):=by
  have:k<dZ.length:=hk
  simp_all
 refine⟨2,0+k,?_,hG.load1 ty3 rfl hx⟩;unfold jB;rw[ty257,tA];have e:(zA.int .i64 (k:Int)).asNat=some k:=rfl;rw[e,tA];grind [zA.asSlice,zA.asPtr,tA,sD.asArr,ty3,vC,jD]
def TT(hG:uK t)(y m:Int):lB yA F 249 [.int .i64 y,.int .i64 m] t=some (.int .i64 (lenD y m)):=by
 refine bB.2 (w249 ?_);unfold t249 lenD uQ15 uI uB uZ uW;by_cases h1:m<1
 ·rw[yab h1];exact fA (pG h1) ⟨rfl,rfl⟩
 rw[yaa h1];refine dA (nG h1) ?_;by_cases h2:12<m
 ·rw[yab h2];exact fA (pG h2) ⟨rfl,rfl⟩
 rw[yaa h2];refine dA (nG h2) ?_;obtain⟨b,o,g1,g2⟩:=len_at hG (m:=m) (by omega) (by omega);by_cases h3:m=2
 ·refine fA (zI h3) (wB ?_);rw[q263,zdp,wA];refine wD ?_
  cases hl:Ma y with
  | true=>rw[yab ⟨h3,rfl⟩];exact fA rfl ⟨rfl,rfl⟩
  | false=>rw[yaa (by simp)];exact dA (by simp) (lA g1 (gC g2 (qB ⟨rfl,rfl⟩)))
 ·rw[yaa (by simp[h3])];exact dA (mG h3) (lA g1 (gC g2 (qB ⟨rfl,rfl⟩)))
theorem OJ(hG:uK t)(v0 v3:Int):∀(k:Nat) (v5 v4:Int),v5+k=12->1<=v5->jp 217 2 [.int .i64 v0,.int .i64 v3,.int .i64 v4,.int .i64 v5] t (fun v t'=>v=.int .i64 (Jx v0 v3 k v5 v4)/\t'=t):=by
 have hb:=NK v0 (k:=12) (by omega);rw[show((12:Nat):Int)=12 from rfl]at hb
 intro k;induction k with
 | zero=>
  intro v5 v4 h1 h2;exact Uh (dA (nLe (by omega)) ⟨rfl,rfl⟩)
 | succ k ih=>
  intro v5 v4 h1 h2;unfold Jx;by_cases h3:v5<=Int.tmod v0 12
  ·rw[yab h3];refine Uh (fA (yLe h3) (wB ?_));rw[q249,TT hG,wA];refine qB (qC ?_)
   grind [wrap_i64]
  ·rw[yaa h3];exact Uh (dA (nLe h3) ⟨rfl,rfl⟩)
def EK(y:Int):lB yA F 248 [.int .i64 y] t=some (.int .i64 (Tv y)):=bB.2 (w248 ⟨rfl,rfl⟩)
def Jw(hG:uK t)(m:Int):lB yA F 217 [.int .i64 m] t=some (.int .i64 (yR m)):=by
 refine bB.2 (w217 (wB ?_));rw[q248,EK,wA];refine qB (wB ?_);rw[q248,EK,wA];exact qB (qC (OJ hG m _ 11 1 _ (by omega) (by omega)))
theorem PK{v1:zA}{P:Int->Bool}(hcall:∀n:Int,∀(R:dB),R (.bool (P n)) t->oE (pS v1 [.int .i64 n]) fun p=>Wq yA F jH p.1 p.2 t R) :
  ∀(k i j:Nat),j-i<=k->j<=100000->jp 246 2 [v1,.int .i64 (i:Int),.int .i64 (j:Int)] t (fun v t'=>v=.int .i64 (rZ P k i j)/\t'=t):=by
 intro k;induction k with
 | zero=>
  intro i j h1 h2;exact Ug (dA (nG (by omega)) ⟨rfl,rfl⟩)
 | succ k ih=>
  intro i j h1 h2;unfold rZ;by_cases h3:i<j
  ·have e1:rA .i64 (Int.fdiv (rA .u64 (rA .i64 ((i:Int)+(j:Int)))) 2)=(((i+j) / 2:Nat):Int):=by
    grind [wrap_i64,rF]
   rw[yab h3];refine Ug (fA (pG (by omega)) ?_);show oE _ _;unfold uZ uW;rw[e1];refine hcall _ _ (wD ?_)
   cases hP:P (((i+j) / 2:Nat):Int)with
   | false=>
    rw[yaa (by simp)];refine fA rfl (qC ?_);rw[wrap_i64 (by omega) (by omega),show(((i+j) / 2:Nat):Int)+1=(((i+j) / 2+1:Nat):Int) by omega];exact ih _ _ (by omega) h2
   | true=>
    rw[yab rfl];exact dA (by simp) (qC (ih _ _ (by omega) (by omega)))
  ·rw[yaa h3];exact Ug (dA (nG (by omega)) ⟨rfl,rfl⟩)
def bN(d:Int):Int:=rZ (fun n=>iB d (yR (rA .i64 (n+1)))) 2154 0 2154
def TS(hG:uK t)(d:Int):lB yA F 216 [.int .i64 d] t=some (.int .i64 (bN d)):=by
 refine fN (w216 ?_);unfold t216 uI uZ;refine eI fun b hb hbase=>?_;obtain⟨t',e,hc,hle,_⟩:=iZ hb [.int .i64 d] none;refine⟨.ptr b 0,⟨b+1,t'⟩,by show some (zA.ptr b 0,sE ⟨b,t⟩ [.int .i64 d] none)=_;rw[e],wB ?_⟩;have hld:aA yA 3 ⟨0,t'⟩ (.ptr b 0)=some (.int .i64 d):=hc.load1 (j:=0) ty3 rfl rfl;have:lB yA F 246 [.int .i64 2154,.func (.func 247) [] [.ptr b 0]] t'=some (.int .i64 (bN d)):=by
  refine bB.2 (w246 (qC ?_));refine PK (fun n R hR=>?_) 2154 0 2154 (by omega) (by omega);show oE (some (247,[zA.int .i64 n,.ptr b 0])) _;rw[wA];simp only[];have:lB yA F 247 [zA.int .i64 n,.ptr b 0] t'=some (.bool (iB d (yR (rA .i64 (n+1))))):=by
   refine bB.2 (w247 (gC hld (qB (wB ?_))));unfold yC;rw[q217,Jw (hG.mono hle),wA];exact qB (gC hld (fA cW ⟨rfl,rfl⟩))
  rw[q247,this,wA];exact hR
 rw[q246];exact Wc_pv this (qB ⟨rfl,hle⟩)
def ymdD (d:Int):zA:=.tup [.int .i64 (rA .i64 (1900+(rA .i64 (Int.tdiv (bN d) 12)))),.int .i64 (rA .i64 ((Int.tmod (bN d) 12)+1)),.int .i64 (rA .i64 ((rA .i64 (d-yR (bN d)))+1)),.int .i64 0]
def ymd_ok(hG:uK t){d:Int}(h0:0<=d)(h1:d<65536):lB yA F 162 [.int .i64 d] t=some (ymdD d):=by
 have hd:lB yA F 215 [.int .i64 d] t=some (.bool true):=by
  refine bB.2 (w215 (fA (yLe h0) ?_));rw[pG h1];exact⟨rfl,rfl⟩
 refine bB.2 (w162 (wB ?_));rw[q215,hd,wA];refine wD (dA (by simp) (wB ?_));rw[q216,TS hG,wA];refine qB (wB ?_);rw[q217,Jw hG,wA];exact qB ⟨rfl,rfl⟩
def cB (l:List Nat):List zA:=l.map fun(n:Nat)=>zA.int .u8 (n:Int)
theorem ten{l:List Nat}(h:l.length=10):∃a b c d e f g h i j,l=[a,b,c,d,e,f,g,h,i,j]:=by
 match l,h with
 | [a,b,c,d,e,f,g,h,i,j],_=>simp_all
theorem Dn{l:List Nat}:(cB l).length=l.length:=by simp[cB]
def cB_set{l:List Nat}{i x:Nat}:(cB l).set i (.int .u8 (x:Int))=cB (l.set i x):=by simp[cB,List.map_set]
theorem idx164{b i:Nat}(h:i<10):jB yA 192 (.ptr b 0) (.int .i64 (i:Int))=some (.ptr b i):=by
 unfold jB;rw[Fk,tA];have e:(zA.int .i64 (i:Int)).asNat=some i:=rfl;rw[e,tA];grind [zA.asSlice,zA.asPtr,tA,sD.asArr,nN,vC,jD]
def Nl{b:Nat}{l:List Nat}(h:dE t b none (cB l))(hl:l.length=10):aA yA 192 ⟨0,t⟩ (.ptr b 0)=some (.agg (cB l)):=by
 have:=h.at.load (C:=yA) (ty:=192) Fk rfl (n:=10) rfl (j:=0) (by rw[Dn];omega);rw[ybw]at this;rw[this];congr 2;rw[ycr,yca (by rw[Dn];omega)]
theorem JM{b:Nat}{l m:List Nat}(h:dE t b none (cB l))(hb:yA.base<=b)(hl:l.length=10)(hm:m.length=10):∃t',(∀n,kE yA 192 (.ptr b 0) (.agg (cB m)) ⟨n,t⟩=some (lD,⟨n,t'⟩))/\dE t' b none (cB m)/\dD b t t':=by
 obtain⟨t',h1,h2,h3⟩:=h.store (C:=yA) hb (T:=192) (v:=.agg (cB m)) (j:=0) Fk (by show(cB m).length=10;rw[Dn,hm]) (by show 0+(cB m).length<=_;grind [Dn]) (by
  show vF zA.one (cB m)=true;rw[aI,ycb];intro a ha;unfold cB at ha;obtain⟨n,_,rfl⟩:=yaq.1 ha;rfl)
 refine⟨t',h1,?_,h3⟩;have e:bU (cB l) 0 (zA.agg (cB m)).cells=cB m:=by
  show bU (cB l) 0 (cB m)=cB m;unfold bU;rw[List.take_zero,yah,ybt (by grind [Dn]),ycd]
 simp_all
abbrev z10:List zA:=[.int .u8 0,.int .u8 0,.int .u8 0,.int .u8 0,.int .u8 0,.int .u8 0,.int .u8 0,.int .u8 0,.int .u8 0,.int .u8 0]
def Hz{l:List Nat}(hl:l.length=10):oO z10 (.agg (cB l))=some (cellsOf (cB l)):=by
 obtain⟨a,b,c,d,e,f,g,h,i,j,rfl⟩:=ten hl;exact Ih rfl
def Vy{l:List Nat}(hl:l.length=10):[zA.int .u8 ((cellsOf (cB l)).i 0),.int .u8 ((cellsOf (cB l)).i 1),.int .u8 ((cellsOf (cB l)).i 2),.int .u8 ((cellsOf (cB l)).i 3),.int .u8 ((cellsOf (cB l)).i 4),.int .u8 ((cellsOf (cB l)).i 5),.int .u8 ((cellsOf (cB l)).i 6),.int .u8 ((cellsOf (cB l)).i 7),.int .u8 ((cellsOf (cB l)).i 8),.int .u8 ((cellsOf (cB l)).i 9)]=cB l:=by
 obtain⟨a,b,c,d,e,f,g,h,i,j,rfl⟩:=ten hl;rfl
def iT (x:Int):Nat:=(48+Int.tmod x 10).toNat
theorem IP(x:Int):rA .u8 (rA .i64 (48+Int.tmod x 10))=((iT x:Nat):Int)/\iT x<256:=by
 grind [iT,wrap_i64,Bf]
def rM:Nat->Int->Nat->List Nat->List Nat
 | 0,_,_,l=>l
 | k+1,x,i,l=>rM k (rA .i64 (Int.tdiv x 10)) (i-1) (l.set i (iT x))
theorem dY:∀(k:Nat) (x:Int) (i:Nat) (l:List Nat),yB 256 l->(rM k x i l).length=l.length/\yB 256 (rM k x i l)
 | 0,x,i,l,h=>⟨rfl,h⟩
 | k+1,x,i,l,h=>by
  unfold rM;have:=dY k (rA .i64 (Int.tdiv x 10)) (i-1) (l.set i (iT x)) (fun y hy=>by
   rcases List.mem_or_eq_of_mem_set hy with h1 | h1
   ·exact h y h1
   simp_all [IP])
  simp_all
theorem LA{b:Nat}(hb:yA.base<=b){c0 c1 c2 c3 c4 c5 c6 c7 c8 c9:Int}:∀(k:Nat) (from_:Nat) (x:Int) (i:Int) (l:List Nat) (t:Tr sA),i+1=(from_:Int)+k->from_+k<=10->l.length=10->dE t b none (cB l) →
  jp 163 2 [.int .i64 (from_:Int),.int .i64 x,.ptr b 0,.int .i64 i,.int .u8 c0,.int .u8 c1,.int .u8 c2,.int .u8 c3,.int .u8 c4,.int .u8 c5,.int .u8 c6,.int .u8 c7,.int .u8 c8,.int .u8 c9] t (fun v t'=>v=.agg (cB (rM k x i.toNat l))/\dD b t t'):=by
 intro k;induction k with
 | zero=>
  intro from_ x i l t h1 h2 h3 h4;refine zce (dA (nLe (by omega)) (gC (Nl h4 h3) (wI (Hz h3) (fA rfl ?_))));show zA.agg _=_/\_;rw[Vy h3];exact⟨rfl,fun _ _=>rfl⟩
 | succ k ih=>
  intro from_ x i l t h1 h2 h3 h4;obtain⟨n,rfl⟩:∃n:Nat,i=(n:Int):=⟨i.toNat,by omega⟩;refine zce (fA (yLe (by omega)) (lA (idx164 (by omega)) (eI fun m _ _=>?_)));rw[(IP x).1];obtain⟨t',g1,g2,g3⟩:=h4.store1 (v:=.int .u8 ((iT x:Nat):Int)) hb nN rfl rfl rfl (j:=n) (by rw[Dn];omega);refine⟨_,_,g1 m,qC ?_⟩;rw[cB_set]at g2;unfold uW;rw[wrap_i64 (n:=(n:Int)-1) (by omega) (by omega)]
  have:=ih from_ (rA .i64 (Int.tdiv x 10)) ((n:Int)-1) (l.set n (iT x)) t' (by omega) (by omega) (by simp_all) g2;refine Jq.mono this fun v t2 hh=>⟨?_,fun c hc=>by rw[hh.2 c hc,g3 c hc]⟩;rw[hh.1];have e1:((n:Int)-1).toNat=n-1:=by omega
  have e2:((n:Int)).toNat=n:=by omega
  rw[e1,e2];rfl
theorem KZ{l:List Nat}(hl:l.length=10){from_ k:Nat}(hk:from_+k<=10)(h1:1<=from_+k)(x:Int):lB yA F 163 [.agg (cB l),.int .i64 (from_:Int),.int .i64 (k:Int),.int .i64 x] t=some (.agg (cB (rM k x (from_+k-1) l))):=by
 obtain⟨a,b,c,d,e,f,g,h,i,j,rfl⟩:=ten hl;refine fN ?_;show Wf 163 [.agg [.int .u8 a,.int .u8 b,.int .u8 c,.int .u8 d,.int .u8 e,.int .u8 f,.int .u8 g,.int .u8 h,.int .u8 i,.int .u8 j],.int .i64 (from_:Int),.int .i64 (k:Int),.int .i64 x] t _;refine w163 ?_;unfold t163 uZ uY uW;refine eI fun n hn hbase=>?_;obtain⟨t',e1,hc,hle,ho⟩:=iZ hn (cB [a,b,c,d,e,f,g,h,i,j]) none;refine⟨.ptr n 0,⟨n+1,t'⟩,by show some (zA.ptr n 0,sE ⟨n,t⟩ (cB [a,b,c,d,e,f,g,h,i,j]) none)=_;rw[e1],qC ?_⟩
 rw[wrap_i64 (n:=(from_:Int)+(k:Int)) (by omega) (by omega),wrap_i64 (by omega) (by omega)];have:=LA (c0:=0) (c1:=0) (c2:=0) (c3:=0) (c4:=0) (c5:=0) (c6:=0) (c7:=0) (c8:=0) (c9:=0) hbase k from_ x ((from_:Int)+(k:Int)-1) _ t' (by omega) hk hl hc;refine Jq.mono this fun v t2 hh=>⟨?_,fun b' y hy=>?_⟩
 ·rw[hh.1,show((from_:Int)+(k:Int)-1).toNat=from_+k-1 by omega]
 ·have:b'≠n:=fun e=>by simp_all
  rw[hh.2 b' this];exact hle _ _ hy
def yN (d:Int):List Nat:=
 rM 2 (rA .i64 ((rA .i64 (d-yR (bN d)))+1)) 9 (rM 2 (rA .i64 ((Int.tmod (bN d) 12)+1)) 6 (rM 4 (rA .i64 (1900+(rA .i64 (Int.tdiv (bN d) 12)))) 3 [0,0,0,0,45,0,0,45,0,0]))
theorem Vx(d:Int):(yN d).length=10/\yB 256 (yN d):=by
 have h0:yB 256 [0,0,0,0,45,0,0,45,0,0]:=by intro x hx;simp at hx;omega
 have h1:=dY 4 (rA .i64 (1900+(rA .i64 (Int.tdiv (bN d) 12)))) 3 _ h0;have h2:=dY 2 (rA .i64 ((Int.tmod (bN d) 12)+1)) 6 _ h1.2;have h3:=dY 2 (rA .i64 ((rA .i64 (d-yR (bN d)))+1)) 9 _ h2.2
 simp_all [yN]
def Rl{K:zA->T}{Q:dB}{l:List Nat}{p from_ k:Nat}{x:Int}(hl:l.length=10)(hlt:yB 256 l)(hp:yA.base<=p)(hc:dE t p none (cB l))(hk:from_+k<=10)(h1:1<=from_+k)
  (h:∀t',dE t' p none (cB (rM k x (from_+k-1) l))->dD p t t'->∀u,wp 94 (K u) t' Q) :
  wp 94 (.call 163 [.agg [(.int .u8 ((cellsOf (cB l)).i 0)),(.int .u8 ((cellsOf (cB l)).i 1)),(.int .u8 ((cellsOf (cB l)).i 2)),(.int .u8 ((cellsOf (cB l)).i 3)),(.int .u8 ((cellsOf (cB l)).i 4)),(.int .u8 ((cellsOf (cB l)).i 5)),(.int .u8 ((cellsOf (cB l)).i 6)),(.int .u8 ((cellsOf (cB l)).i 7)),(.int .u8 ((cellsOf (cB l)).i 8)),(.int .u8 ((cellsOf (cB l)).i 9))],.int .i64 (from_:Int),.int .i64 (k:Int),.int .i64 x] fun a=>.asG z10 a fun X=>
   .heavy (kE yA 192 (.ptr p 0) (.agg [(.int .u8 (X.i 0)),(.int .u8 (X.i 1)),(.int .u8 (X.i 2)),(.int .u8 (X.i 3)),(.int .u8 (X.i 4)),(.int .u8 (X.i 5)),(.int .u8 (X.i 6)),(.int .u8 (X.i 7)),(.int .u8 (X.i 8)),(.int .u8 (X.i 9))])) K) t Q:=by
 have hw:=dY k x (from_+k-1) l hlt;refine wB ?_;rw[Vy hl,q163,KZ hl hk h1,wA];refine wI (Hz (by rw[hw.1,hl])) (eI fun n _ _=>?_);rw[Vy (by rw[hw.1,hl])];obtain⟨t',g1,g2,g3⟩:=JM hc hp hl (m:=rM k x (from_+k-1) l) (by rw[hw.1,hl]);exact⟨_,_,g1 n,h t' g2 g3 _⟩
theorem zcp(hG:uK t){d:Int}(h0:0<=d)(h1:d<65536):lB yA F 94 [.int .i64 d] t=some (.str (yN d)):=by
 refine fN (w94 ?_);unfold t94 uI uS uG uX uZ uY uA6;refine wB ?_;rw[q162,ymd_ok hG h0 h1,wA];unfold ymdD;refine lA rfl (qB (lA rfl (qB (lA rfl (qB (lA rfl (qB (dA (by grind [zI]) (fA rfl ?_)))))))));refine eI fun p hp hbase=>?_;obtain⟨t1,e1,c1,l1,o1⟩:=Wi (C:=yA) Fk hp;refine⟨_,_,e1,?_⟩;have c1':dE t1 p none (cB [0,0,0,0,0,0,0,0,0,0]):=c1
 refine eI fun n _ _=>?_;obtain⟨t2,e2,c2,o2⟩:=JM c1' hbase rfl (m:=[0,0,0,0,45,0,0,45,0,0]) rfl;refine⟨_,_,e2 n,?_⟩;have h0':yB 256 [0,0,0,0,45,0,0,45,0,0]:=by intro x hx;simp at hx;omega
 refine gC (Nl c2 rfl) (wI (Hz rfl) ?_);refine Rl (from_:=0) (k:=4) rfl h0' hbase c2 (by omega) (by omega) fun t3 c3 o3 _=>?_;have w3:=dY 4 (rA .i64 (1900+(rA .i64 (Int.tdiv (bN d) 12)))) 3 _ h0';refine gC (Nl c3 w3.1) (wI (Hz w3.1) ?_);refine Rl (from_:=5) (k:=2) w3.1 w3.2 hbase c3 (by omega) (by omega) fun t4 c4 o4 _=>?_;have w4:=dY 2 (rA .i64 ((Int.tmod (bN d) 12)+1)) 6 _ w3.2
 rw[w3.1]at w4;refine gC (Nl c4 w4.1) (wI (Hz w4.1) ?_);refine Rl (from_:=8) (k:=2) w4.1 w4.2 hbase c4 (by omega) (by omega) fun t5 c5 o5 _=>?_;have hL:=Vx d;have c5':dE t5 p none (cB (yN d)):=c5;have hs:tE yA 192 ⟨0,t5⟩ (.ptr p 0) none none=some (.slice p 0 10 10):=by
  obtain⟨c,g,_⟩:=c5';have hk:aC ⟨0,t5⟩ p=some (c,(cB (yN d)).length,none):=by unfold aC;rw[g];rfl
  unfold tE;rw[Fk,tA];unfold iK;simp only[zA.asStr,zA.asSlice,zA.asPtr,sD.asArr,tA];unfold gL;rw[nN,tA];have hb2:xN 10 10 none none=some (0,10):=rfl;rw[hb2,tA];unfold rK jK;rw[hk];rfl
 have hv:nJ yA 90 9 ⟨0,t5⟩ (.slice p 0 10 10)=some (.str (yN d)):=IZ pM iL rfl rfl rfl nN rfl c5' hL.1 (fun j x hj=>by
  grind [cB]) hL.2
 refine gC hs (gC hv (rC ⟨rfl,fun b y hy=>?_⟩));have:b≠p:=fun e=>by simp_all
 rw[o5 b this,o4 b this,o3 b this,o2 b this];exact l1 _ _ hy
end Go.Proofs
namespace Go.Am
open Go Go.RowKit
def KV{C:oA}{F:Tr wF}{f:Nat}{args:List zA}{t:Tr sA}{Q:dB}{g:List zA->xA->Option (zA × xA)}(hg:C.prims.get f=some g)(h:∀X HA,Ov C.base t X HA->∃v t' HA',g args HA=some (v,HA')/\Ov C.base t' X HA'/\Q v t')(hf:Nat.blt f yo=true:=by rfl):Wc C F f args t Q:=by
 intro X HA ho;rw[Dl hf,hg];obtain⟨v,t',HA',h1,h2,h3⟩:=h X HA ho;exact⟨v,t',HA',X,h1,h2,tI.refl _,h3⟩
end Go.Am
namespace Go.Proofs
open Go Go.Am
variable [sC]
variable {t tf:Tr sA}{bx T:Nat}{s m:List Nat}{ex:List zA}
def BX (T:Nat)(ex:List zA)(tf t:Tr sA)(bx:Nat)(s:List Nat):Prop:=
 yA.base<=bx/\tf.get bx=none/\bA tf t/\yB 256 s/\Gz Gy T (ex.length+2)=true/\∃p tv,(p=zA.nilptr\/p=.ptr bx 0)/\dE t bx (some (.ty T)) (p::tv::ex)/\xG (.ty 5) yA.base tf t 1 (cA .u8 s) tv/\¬ dM tv bx
def BX.le(h:BX T ex tf t bx s):bA tf t:=h.2.2.1
theorem BX.check{Q:dB}(h:BX T ex tf t bx s)(hQ:∀t',BX T ex tf t' bx s->Q (.tup []) t'):Wc yA F 104 [.ptr bx 0] t Q:=by
 have h0:=h;obtain⟨h1,h2,h3,ha,hM,p,tv,hp,⟨c,h4,h4'⟩,h5,h6⟩:=h;have hg:yA.prims.get 104=some pChk:=by kernel_rfl
 refine KV hg fun X HA ho=>?_;have hk:aC HA bx=some (c,(p::tv::ex).length,some (.ty T)):=by unfold aC;rw[ho.up h4];rfl
 have hc0:c.get 0=some p:=h4' 0 p rfl;rcases hp with rfl | rfl
 ·refine⟨.tup [],t.set bx (.cells (c.set 0 (.ptr bx 0)) (zA.nilptr::tv::ex).length (some (.ty T))),setBlk HA bx (.cells (c.set 0 (.ptr bx 0)) (zA.nilptr::tv::ex).length (some (.ty T))),?_,ho.setBlk h4 _,hQ _ ?_⟩
  ·unfold pChk mZ;simp only[];rw[hk,tA,hc0,tA];simp only[];have e1:(!Nat.blt bx (256+sC.n))=true:=by
    cases hq:Nat.blt bx (256+sC.n)with
    | true=>
     have h3:=vC.1 hq;have h1':256+sC.n<=bx:=h1;omega
    | false=>rfl
   simp_all
  ·refine⟨h1,h2,fun b u hb=>?_,ha,hM,.ptr bx 0,tv,.inr rfl,⟨_,by rw[Tr.get_set,yab rfl];rfl,fun j a hj=>?_⟩,h5.keep' fun b hb=>?_,h6⟩
   ·have:b≠bx:=fun e=>by simp_all
    rw[Tr.get_set,yaa this];exact h3 _ _ hb
   all_goals grind [Tr.get_set]
 ·refine⟨.tup [],t,HA,?_,ho,hQ _ h0⟩
  simp_all [pChk,mZ]
def fa77{b:Nat}:zE yA 92 1 (.ptr b 0)=some (.ptr b 1):=by kernel_rfl
theorem BX.write{Q:dB}(h:BX T ex tf t bx s)(hm:m≠[])(hlt:yB 256 m)(hl:s.length+m.length<400000)(hQ:∀v t',BX T ex tf t' bx (s++m)->Q v t'):Wc yA F 45 [.ptr bx 0,.str m] t Q:=by
 refine w45 ?_;unfold t45 bD uZ;refine wB ?_;rw[q104];refine h.check fun t' h'=>?_;obtain⟨h1,h2,h3,ha,hM,p,tv,hp,h4,h5,h6⟩:=h';refine lA iF (lA fa77 (gC (h4.load1 (j:=1) pM rfl rfl) (eI fun n hn hbase=>?_)));have hbn:n≠bx:=by intro e;obtain⟨c,hh,_⟩:=h4;simp_all
 obtain⟨t1,g1,g2,g3,g4⟩:=KG el35 ⟨_,iL,rfl⟩ co5 h5 hm hl hn hbase h3;refine⟨_,_,g1,lA iF (lA fa77 (eI fun n2 _ _=>?_))⟩;have h4':dE t1 bx (some (.ty T)) (p::tv::ex):=h4.off (g4 bx hbn.symm h6);obtain⟨t2,e1,e2,e3⟩:=h4'.store1 (v:=.slice n 0 (s.length+m.length) (s.length+m.length)) h1 pM rfl rfl rfl (j:=1) (by simp);refine⟨_,_,e1 n2,hQ _ _ ⟨h1,h2,g3.off h2 e3,fun x hx=>?_,hM,p,_,hp,e2,g2.keep' fun b hb=>e3 b fun e=>?_,fun e=>?_⟩⟩
 ·rcases yaf.1 hx with hx | hx
  ·exact ha x hx
  ·exact hlt x hx
 all_goals grind [bZ]
theorem BX.len(h:BX T ex tf t bx s):lB yA F 46 [.ptr bx 0] t=some (.int .i64 (s.length:Int)):=by
 obtain⟨h1,h2,h3,ha,hM,p,tv,hp,h4,h5,h6⟩:=h;refine bB.2 (w46 ?_);unfold t46 uI bD uZ;have hlen:=h5.len;rw[bC]at hlen;exact lA iF (lA fa77 (gC (h4.load1 (j:=1) pM rfl rfl) (lA hlen (qB ⟨rfl,rfl⟩))))
def DZ:∀ {l:List Nat},yB 256 l->aF Go.Am.byteOf (l.map fun(n:Nat)=>zA.int .u8 (n:Int))=some l
 | [],_=>rfl
 | x::l,h=>by
  have hx:Go.Am.byteOf (.int .u8 (x:Int))=some x:=by
   show xB (Nat.blt x 256) (some x)=_;rw[vC.2 (h x (.head _))];rfl
  rw[ycm,dL,hx,tA,DZ fun y hy=>h y (.tail _ hy)];rfl
theorem BX.string{Q:dB}(h:BX T ex tf t bx s)(hs:s≠[])(hl:s.length<400000)(hQ:∀t',bA tf t'->Q (.str s) t'):Wc yA F 47 [.ptr bx 0] t Q:=by
 obtain⟨h1,h2,h3,ha,hM,p,tv,hp,⟨c,h4,h4'⟩,h5,h6⟩:=h;have hg:yA.prims.get 47=some pStr:=by kernel_rfl
 rcases h5 with⟨rfl,h5⟩ | ⟨b,cl,d,rfl,k0,k1,k2,k3,k4⟩
 ·grind [bC]
 have hpos:0<s.length:=List.length_pos_iff.2 hs;rw[bC,Nat.mul_one]at k2;rw[sY]at k4;subst k4;have hbytes:∀j a,(s.map fun(n:Nat)=>zA.int .u8 (n:Int))[j]?=some a->d.get j=some a:=by
  intro j a hj;have hj':(sO .u8 s)[j]?=some [a]:=by
   grind [sO]
  have:=(k3 j _ hj').2 0 a rfl
  simp_all
 refine KV hg fun X HA ho=>?_;have hk:aC HA bx=some (c,(p::zA.slice b 0 (cA .u8 s).length (cA .u8 s).length::ex).length,some (.ty T)):=by unfold aC;rw[ho.up h4];rfl
 have hk2:aC HA b=some (d,s.length,some (.ty 5)):=by unfold aC;rw[ho.up k2];rfl
 have hc1:=h4' 1 _ rfl;refine⟨.str s,t.del b,⟨HA.next,HA.t.del b⟩,?_,ho.delBlk k2,hQ _ fun e u he=>?_⟩
 ·unfold pStr Ci;simp only[];rw[hk,tA,hc1,tA];simp only[zA.asSlice,tA,bC];rw[hk2,tA];simp only[];have hm:=DP hbytes s.length 0 (by simp);rw[ycr,yca (by simp)]at hm;rw[hm,tA,DZ ha,tA];have e1:(!Nat.blt b (256+sC.n))=true:=by
   cases hq:Nat.blt b (256+sC.n)with
   | true=>
    have h3:=vC.1 hq;have h1':256+sC.n<=b:=k0;omega
   | false=>rfl
  rw[e1,oC.2 rfl,vC.2 hpos,rE.2 (ybk _),vC.2 (show s.length<1000000000 by omega),oC.2 rfl];rfl
 ·have:e≠b:=fun h=>by simp_all
  rw[Tr.get_del,yaa this];exact h3 _ _ he
end Go.Proofs
namespace Go.Proofs
open Go Go.Am
section
variable [sC]
variable {t:Tr sA}
def qM(date:List Nat)(v:oD):List Nat:=
 if v.kind=1 then(if v.i=1 then [116,114,117,101]else [102,97,108,115,101])
 else if v.kind=2 then kH (aE v.f)
 else if v.kind=3 then [109,111,110,101,121,32]++kH (aE v.f)
 else if v.kind=4 then date
 else if v.kind=5 then kH (eJ v.i)++[32,100,97,121,115]
 else if v.kind=6 then kH (eJ v.i)++[32,109,111,110,116,104,115]
 else []
theorem Fw(s:List Nat):(kH s).length<=s.length+6:=by
 grind [kH]
theorem Kr{v:oD}(h:fF v=true)(hk:v.kind=2\/v.kind=3):aG v.f=true:=by
 grind [fF,rR]
theorem Xc{a:oD}{u v:zA}{date:List Nat}(hu:mA t 1 (lC a.f.n.limbs) u)(hv:mA t 1 (lC a.f.d.limbs) v)(hf:oD.fit a)(hp:fF a=true)(hd:a.kind=4->lB yA F 94 [.int .i64 a.i] t=some (.str date)):lB yA F 40 [.agg [.int .u8 a.kind,.bool a.f.n.neg,u,.bool a.f.d.neg,v,.int .i64 a.i]] t=some (.str (qM date a)):=by
 obtain⟨_,hff,hi1,hi2⟩:=hf;have hil:=Mf hi1 hi2;have hsl:=Fw (eJ a.i);have kk:∀j:Int,iA (a.kind:Int) j=decide ((a.kind:Int)=j):=fun j=>rP;refine bB.2 (w40 ?_);simp only[uS,uZ,t40,qA,kk];unfold qM;by_cases k1:a.kind=1
 ·have e:(a.kind:Int)=1:=by omega
  have hb:lB yA F 92 [.bool (iA a.i 1)] t=some (.str (if a.i=1 then [116,114,117,101]else [102,97,108,115,101])):=by
   refine bB.2 (w92 ?_);have h94:lB yA F 160 [.bool (iA a.i 1)] t=some (.str (if a.i=1 then [116,114,117,101]else [102,97,108,115,101])):=by
    refine bB.2 (w160 ?_);by_cases h:a.i=1<;>simp[t160,qA,rP,h]
   simp only[uS,t92,qA,q160,h94,wA,zA.asStr];simp_all
  simp[e,k1,q92,hb,zA.asStr]
 have e1:¬ (a.kind:Int)=1:=by omega
 by_cases k2:a.kind=2
 ·have e:(a.kind:Int)=2:=by omega
  simp[e,k2,q93,HJ hu hv hff (Kr hp (.inl k2)),zA.asStr]
 have e2:¬ (a.kind:Int)=2:=by omega
 by_cases k3:a.kind=3
 ·have e:(a.kind:Int)=3:=by omega
  have hl:=Ms hff (Kr hp (.inr k3));have hl2:=Fw (aE a.f);have:=bF (a:=[109,111,110,101,121,32]) (b:=kH (aE a.f)) (by grind);simp[e,k3,q93,HJ hu hv hff (Kr hp (.inr k3)),zA.asStr,this]
 have e3:¬ (a.kind:Int)=3:=by omega
 by_cases k4:a.kind=4
 ·have e:(a.kind:Int)=4:=by omega
  simp[e,k4,q94,hd k4,zA.asStr]
 have e4:¬ (a.kind:Int)=4:=by omega
 by_cases k5:a.kind=5
 ·have e:(a.kind:Int)=5:=by omega
  have:=bF (a:=kH (eJ a.i)) (b:=[32,100,97,121,115]) (by simp;omega);simp[e,k5,q95,GR hi1 hi2,zA.asStr,this]
 have e5:¬ (a.kind:Int)=5:=by omega
 by_cases k6:a.kind=6
 ·have e:(a.kind:Int)=6:=by omega
  have:=bF (a:=kH (eJ a.i)) (b:=[32,109,111,110,116,104,115]) (by simp;omega);simp[e,k6,q95,GR hi1 hi2,zA.asStr,this]
 grind
end
section
variable [sC]
def pR:List (List Nat):=[[],[100,111,119,110],[117,112],[102,108,111,111,114],[99,101,105,108],[104,97,108,102],[101,118,101,110]]
def xV(n:Nat):List Nat:=if n<7 then pR.getD n []else []
def rH (v:oD):List Nat:=qM (yN v.i) v
def yL (lev:Nat)(p:Nat × List Nat):List Nat:=if lev<=p.1 then p.2 else [40]++p.2++[41]
def eM:Bool->List (Nat × List Nat)->List Nat
 | _,[]=>[]
 | b,p::l=>(if b then []else [44,32])++p.2++eM false l
def eS(op:Nat)(i:Int):List Nat:=(if op=19 then [44,32]++xV i.toNat else [])++[41]
def fG(op:Nat)(name:List Nat)(v:oD)(l:List (Nat × List Nat)):List Nat:=
 if (tB op).style=1 then rH v else if (tB op).style=2 then(tB op).word
 else if (tB op).style=3 then(tB op).word++name++[32,97,116,32]++yL (tB op).left (l.getD 0 (0,[]))
 else if (tB op).style=4 then yL (tB op).left (l.getD 0 (0,[]))++([32]++(tB op).word++[32]++yL (tB op).right (l.getD 1 (0,[])))
 else if (tB op).style=5 then(tB op).word++yL (tB op).left (l.getD 0 (0,[]))
 else(tB op).word++[40]++((if (tB op).named then name++[44,32]else [])++(eM true l++eS op v.i))
mutual
def yI:pA->List Nat
 | .mk op name v args=>fG op name v (jE args)
def jE:List pA->List (Nat × List Nat)
 | []=>[]
 | y::l=>((tB y.op).level,yI y)::jE l
end
def aQ:∀l:List pA,jE l=l.map fun y=>((tB y.op).level,yI y)
 | []=>by rw[jE];rfl
 | y::l=>by rw[jE,aQ l];rfl
def Wr (s T s':List Nat):Prop:=s'=s++T\/(65536<s.length+T.length/\65536<s'.length)
theorem Wr.one(s T:List Nat):Wr s T (s++T):=.inl rfl
def Wr.big{s:List Nat}(T:List Nat)(h:65536<s.length):Wr s T s:=.inr ⟨by omega,h⟩
def Wr.trans{s T s1 U s2:List Nat}(h:Wr s T s1)(k:Wr s1 U s2):Wr s (T++U) s2:=by
 rcases h with rfl | ⟨h1,h2⟩
 ·rcases k with rfl | ⟨k1,k2⟩
  ·exact .inl (by simp)
  ·exact .inr ⟨by simp at k1 ⊢;omega,k2⟩
 ·rcases k with rfl | ⟨k1,k2⟩
  ·exact .inr ⟨by simp;omega,by simp;omega⟩
  ·exact .inr ⟨by simp;omega,k2⟩
def Wr.eq{s T T' s':List Nat}(h:Wr s T s')(e:T=T'):Wr s T' s':=e ▸ h
def GF{l:List (Nat × List Nat)}{i:Nat}(h:i<l.length):eM (decide (i=0)) (l.drop i)=(if i=0 then []else [44,32])++l[i].2++eM (decide (i+1=0)) (l.drop (i+1)):=by
 rw[ybl h,eM];by_cases h0:i=0<;>simp[h0]
end
section
variable [sC]
variable {t tf:Tr sA}
def fP(t:Tr sA):Prop:=At t 1 0 (pR.map zA.str)
theorem fP.mono{t':Tr sA}(h:fP t)(k:bA t t'):fP t':=At.mono k h
theorem TV(hG:fP t){n:Nat}(hn:n<256):lB yA F 230 [.int .u8 (n:Int)] t=some (.str (xV n))/\(xV n).length<=10/\yB 256 (xV n):=by
 unfold xV;by_cases h:n<7
 ·have hx:(pR.map zA.str)[n]?=some (.str (pR.getD n [])):=by
   have:n<pR.length:=h
   simp_all
  rw[yab h];refine⟨bB.2 (w230 (fA (by grind [wrap_i64,pG]) (lA (v:=.ptr 1 n) ?_ (gC (v:=.str (pR.getD n [])) ?_ (rC ⟨rfl,rfl⟩))))),?_,?_⟩
  ·unfold jB;rw[ty194,tA];have e:(zA.int .u8 (n:Int)).asNat=some n:=rfl;rw[e,tA];grind [zA.asSlice,zA.asPtr,tA,sD.asArr,iL,vC,jD]
  ·have:=hG.load1 iL rfl hx;rw[ybw]at this;exact this
  ·have:∀k,k<7->(pR.getD k []).length<=10:=by decide
   grind
  ·have:∀k,k<7->∀x∈pR.getD k [],x<256:=by decide
   exact this n h
 ·rw[yaa h];exact⟨bB.2 (w230 (dA (by grind [wrap_i64,nG]) ⟨rfl,rfl⟩)),by simp,fun x hx=>by cases hx⟩
theorem Th{s:List Nat}(h:∀x∈s,48<=x/\x<58):yB 256 s:=fun x hx=>by grind
def wP{a b:List Nat}(ha:yB 256 a)(hb:yB 256 b):yB 256 (a++b):=fun x hx=>by
 rcases yaf.1 hx with h | h
 ·exact ha x h
 ·exact hb x h
theorem Tg{neg:Bool}{n:Nat}:yB 256 (xS neg n)/\xS neg n≠[]:=by
 have h:=gT n;refine⟨wP ?_ (Th (Dg n)),fun e=>?_⟩
 ·cases neg
  ·intro x hx;cases hx
  ·intro x hx;simp_all
 grind [xS]
def DT{f:kC}:yB 256 (aE f)/\aE f≠[]:=by
 unfold aE jL;refine⟨wP Tg.1 ?_,fun e=>Tg.2 (List.append_eq_nil_iff.1 e).1⟩;split
 ·intro x hx;cases hx
 ·intro x hx;rcases ybs.1 hx with rfl | hx
  ·decide
  ·exact Tg.1 x hx
theorem DS{n:Int}:yB 256 (eJ n)/\eJ n≠[]:=by
 by_cases h:n<0
 ·obtain⟨u,rfl⟩:∃u:Nat,n = -(u:Int):=⟨n.natAbs,by omega⟩;rw[Uk (by omega)];refine⟨fun x hx=>?_,by simp⟩;rcases ybs.1 hx with rfl | hx
  ·decide
  ·exact Th (Dg u) x hx
 ·obtain⟨u,rfl⟩:∃u:Nat,n=(u:Int):=⟨n.toNat,by omega⟩;rw[Mg];exact⟨Th (Dg u),fun e=>by grind [gT]⟩
theorem DR{s:List Nat}(h:yB 256 s)(hn:s≠[]):yB 256 (kH s)/\kH s≠[]:=by
 unfold kH;split
 ·exact⟨wP (by intro x hx;grind) fun x hx=>h x (List.mem_of_mem_drop hx),by simp⟩
 simp_all
theorem LQ{v:oD}(hv:v.fit)(hp:fF v=true):qM (yN v.i) v≠[]/\(qM (yN v.i) v).length<=20100/\yB 256 (qM (yN v.i) v):=by
 obtain⟨_,hff,hi1,hi2⟩:=hv;have hil:=Mf hi1 hi2;have hsl:=Fw (eJ v.i);have hsi:=DR (DS (n:=v.i)).1 DS.2;have hsf:=DR (DT (f:=v.f)).1 DT.2;have hc:=Vx v.i;have hF:∀k,(k=2\/k=3)->v.kind=k->(kH (aE v.f)).length<=20010:=by
  grind [Ms,Kr,Fw]
 unfold qM;split
 ·split
  ·exact⟨by simp,by simp,by intro x hx;grind⟩
  ·exact⟨by simp,by simp,by intro x hx;grind⟩
 ·split
  ·grind
  ·split
   ·rename_i e;have:=hF 3 (.inr rfl) e;exact⟨by simp,by simp;omega,wP (by intro x hx;grind) hsf.1⟩
   ·split
    ·grind
    ·split
     ·exact⟨by simp,by simp;omega,wP hsi.1 (by intro x hx;grind)⟩
     ·split
      ·exact⟨by simp,by simp;omega,wP hsi.1 (by intro x hx;grind)⟩
      grind [fF]
theorem Ux{op:Nat}(h:op<27):(tB op).word.length<=10/\∀x∈(tB op).word,x<256:=by
 have:∀k,k<27->(tB k).word.length<=10/\∀x∈(tB k).word,x<256:=by decide +kernel
 grind
theorem Mt{op:Nat}(h:op<27):((tB op).style=1->op=1)/\((tB op).style=2->(tB op).word≠[])/\((tB op).style=3->1<=(tB op).least)/\((tB op).style=4->2<=(tB op).least)/\((tB op).style=5->1<=(tB op).least/\(tB op).word≠[])/\(tB op).style<=6/\(tB op).most<=3/\(op=1->(tB op).style=1):=by
 have:∀k,k<27->((tB k).style=1->k=1)/\((tB k).style=2->(tB k).word≠[])/\((tB k).style=3->1<=(tB k).least)/\((tB k).style=4->2<=(tB k).least)/\((tB k).style=5->1<=(tB k).least/\(tB k).word≠[])/\(tB k).style<=6/\(tB k).most<=3/\(k=1->(tB k).style=1):=by decide +kernel
 grind
theorem Ln{s:List Nat}(h:qR s=true):s.length<=24:=by
 unfold qR at h;grind
def dI (h:Nat):Nat:=86000+200*h
def WOk (bf:Nat)(x:pA):Prop:=∀(d:Nat) (cs:List zA) (tf t:Tr sA) (bx:Nat) (s:List Nat) (Q:dB),x.fit->dG x d=true->dE tf bf none oP->uK tf->fP tf->RD tf x.d cs->BX 171 [.ptr bf 0] tf t bx s->s.length<=95000 →
 (∀t' s',BX 171 [.ptr bf 0] tf t' bx s'->s'≠[]->s'.length<=max s.length (dI (25-d))->Wr s (yI x) s'->Q (.tup []) t')->Wc yA F 137 [.ptr bx 0,.agg cs] t Q
def bM{b:Nat}:zE yA 171 0 (.ptr b 0)=some (.ptr b 0):=by kernel_rfl
def IC{b:Nat}:zE yA 171 1 (.ptr b 0)=some (.ptr b 2):=by kernel_rfl
def BX.forms{bf bx:Nat}{s:List Nat}(h:BX 171 [.ptr bf 0] tf t bx s):aA yA 101 ⟨0,t⟩ (.ptr bx 2)=some (.ptr bf 0):=by
 obtain⟨_,_,_,_,_,p,tv,_,h4,_,_⟩:=h;exact h4.load1 (j:=2) ty101 rfl rfl
section
variable {bf bx:Nat}{s:List Nat}{Q:dB}
theorem ZC{y:pA}{d:Nat}{cs:List zA}{lev:Nat}(hy:WOk bf y)(hfit:y.fit)(hP:dG y d=true)(hF:dE tf bf none oP)(hM:uK tf)(hW:fP tf)(hr:RD tf y.d cs)(hB:BX 171 [.ptr bf 0] tf t bx s)(hs:s.length<=94000)(hd1:1<=d)
  (hQ:∀t' s',BX 171 [.ptr bf 0] tf t' bx s'->s'≠[]->s'.length<=max s.length (dI (25-d))+2->Wr s (yL lev ((tB y.op).level,yI y)) s'->Q (.tup []) t'):Wc yA F 190 [.ptr bx 0,.agg cs,.int .i64 (lev:Int)] t Q:=by
 obtain⟨a,b,c,rfl,ha,hb,hc⟩:=cK hr;have hop:y.op<27:=by
  obtain⟨op,name,v,args⟩:=y;unfold dG cM at hP;simp only[ybb,decide_eq_true_eq]at hP;exact hP.1.2.1.1.1.1
 have hbm:dI (25-d)<=91000:=by grind [dI]
 refine w190 ?_;unfold t190 uI bD uZ uY;refine lA iF (lA IC (gC hB.forms (lA iF (lA (Us hop) (lA (aM (by decide)) (gC (UT (hF.up hB.le) hop) (qB ?_)))))));by_cases hl:lev<=(tB y.op).level
 ·refine fA (yLe (by omega)) (wB ?_);rw[Gi];exact hy d _ tf t bx s _ hfit hP hF hM hW hr hB (by omega) fun t' s' h1 h2 h3 h4=>hQ t' s' h1 h2 (by omega) (h4.eq (by unfold yL;rw[yab hl]))
 ·refine dA (nLe (by omega)) (lA iF (lA bM (wB ?_)));rw[yP];refine hB.write (by simp) (by intro x hx;simp_all) (by grind) fun _ t1 h1=>wB ?_;rw[Gi];refine hy d _ tf t1 bx _ _ hfit hP hF hM hW hr h1 (by grind) fun t2 s2 h2 h2n h2l h2w=>lA iF (lA bM (wB ?_));rw[yP];simp only[ybg,List.length_singleton]at h2l;refine h2.write (by simp) (by intro x hx;simp_all) (by grind) fun _ t3 h3=>?_
  exact hQ _ _ h3 (by simp) (by grind) ((((Wr.one _ _).trans h2w).trans (Wr.one _ _)).eq (by unfold yL;rw[yaa hl]))
theorem YM{args:List pA}{d:Nat}{c:zA}(hall:∀y∈args,WOk bf y)(hfits:∀y∈args,y.fit)(hP:∀y∈args,dG y (d+1)=true)(hF:dE tf bf none oP)(hM:uK tf)(hW:fP tf)(hc:mA tf 9 (args.map pA.d) c)(hlen:args.length<=3)(hd:d<=24)
  {c0 c2 c7:Int} {c1:List Nat} {c3 c5:Bool} {c4 c6 c8:zA} {op:Nat} (hc0:c0=(op:Int)) (h19c:op=19->0<=c7/\c7<256):∀(k i:Nat) (t:Tr sA) (s:List Nat),i+k=args.length->BX 171 [.ptr bf 0] tf t bx s->s≠[]->s.length<=dI (24-d)+100+2*i →
  (∀t' s',BX 171 [.ptr bf 0] tf t' bx s'->s'≠[]->s'.length<=dI (24-d)+130->Wr s (eM (decide (i=0)) ((jE args).drop i)++eS op c7) s'->Q (.tup []) t') →
  jp 191 2 [.ptr bx 0,c,.int .i64 (args.length:Int),.int .i64 (i:Int),.int .u8 c0,.str c1,.int .u8 c2,.bool c3,c4,.bool c5,c6,.int .i64 c7,c8] t Q:=by
 have hbm:dI (24-d)<=91000:=by grind [dI]
 intro k;induction k with
 | zero=>
  intro i t s hi hB hn hs hQ;refine zcc ?_;unfold Qt uS uG kD yC bD uZ uY uM0 cF;refine dA (nG (by omega)) ?_;have hdrop:(jE args).drop i=[]:=ybt (by rw[aQ,ybf];omega);rw[hdrop,eM,yah]at hQ;unfold eS at hQ;by_cases h19:op=19
  ·rw[yab h19]at hQ;refine fA (zI (by omega)) (lA iF (lA bM (wB ?_)));obtain⟨n,hn1,hn2,hn3⟩:∃n:Nat,rA .u8 c7=(n:Int)/\n<256/\c7.toNat=n:=⟨c7.toNat,by grind [Bf],by omega,rfl⟩;obtain⟨hw1,hw2,hw3⟩:=TV (hW.mono hB.le) hn2;rw[hn3]at hQ;rw[hn1,q230,hw1,wA];refine rC (lA (bF (by grind)) (rC (wB ?_)));rw[yP];refine hB.write (by simp) (wP (by intro x hx;grind) hw3) (by grind) fun _ t1 h1=>lA iF (lA bM (wB ?_))
   rw[yP];refine h1.write (by simp) (by intro x hx;simp_all) (by grind) fun _ t2 h2=>?_;exact hQ _ _ h2 (by simp) (by grind) ((Wr.one _ _).trans (Wr.one _ _))
  ·rw[yaa h19,yah]at hQ;refine dA (mG (by omega)) (lA iF (lA bM (wB ?_)));rw[yP];refine hB.write (by simp) (by intro x hx;simp_all) (by grind) fun _ t2 h2=>?_;exact hQ _ _ h2 (by simp) (by grind) (Wr.one _ _)
 | succ k ih=>
  intro i t s hi hB hn hs hQ;have hlt:i<args.length:=by omega
  have hm:args[i]∈args:=ycj hlt;refine zcc ?_;unfold Qt uS uG kD yC bD uZ uY uM0 cF;obtain⟨b0,off0,cs,g1,g2,_,_,g5⟩:=yF.at xR (by simp) hc (i:=i) (d:=args[i].d) (by simp[hlt]);have ld:aA yA 39 ⟨0,t⟩ (.ptr b0 off0)=some (Fa true cs):=Jd (H:=⟨0,tf⟩) (HA:=⟨0,t⟩) hB.le g2;refine fA (pG (by omega)) (lA g1 (gC ld ?_));rw[fW];refine wI (wJ g5 (pA.zs _)) ?_
  have hmk:=g5.mk (pA.zs args[i]);have hcs:[zA.int .u8 ((cellsOf cs).i 0),.str ((cellsOf cs).s 1),.int .u8 ((cellsOf cs).i 2),.bool ((cellsOf cs).b 3),(cellsOf cs).v 4,.bool ((cellsOf cs).b 5),(cellsOf cs).v 6,.int .i64 ((cellsOf cs).i 7),(cellsOf cs).v 8]=cs:=hmk;rw[hcs];refine fA g5.all ?_;have hli:i<(jE args).length:=by rw[aQ,ybf];exact hlt
  have hgi:(jE args)[i]=((tB args[i].op).level,yI args[i]):=by simp[aQ]
  have hj:=GF hli;rw[hgi]at hj;have next:∀t' s',BX 171 [.ptr bf 0] tf t' bx s'->s'≠[]->s'.length<=dI (24-d)+100+2*(i+1)->Wr s ((if i=0 then []else [44,32])++yI args[i]) s'->jp 191 2 [.ptr bx 0,c,.int .i64 (args.length:Int),.int .i64 (rA .i64 ((i:Int)+1)),.int .u8 c0,.str c1,.int .u8 c2,.bool c3,c4,.bool c5,c6,.int .i64 c7,c8] t' Q:=by
   intro t' s' h1 h2 h3 h4;rw[wrap_i64 (by omega) (by omega),show(i:Int)+1=((i+1:Nat):Int) by omega];exact ih (i+1) t' s' (by omega) h1 h2 h3 fun t2 s2 g1 g2 g3 g4=>hQ t2 s2 g1 g2 g3 ((h4.trans g4).eq (by rw[hj];simp[ybz]))
  have e25:25-(d+1)=24-d:=by omega
  by_cases h0:0<i
  ·refine fA (pG (by omega)) (lA iF (lA bM (wB ?_)));rw[yP];refine hB.write (by simp) (by intro x hx;grind) (by grind) fun _ t1 h1=>wB ?_;rw[Gi];refine hall _ hm (d+1) _ tf t1 bx _ _ (hfits _ hm) (hP _ hm) hF hM hW g5 h1 (by grind) fun t2 s2 h2 h2n h2l h2w=>qC ?_;have hn0:i≠0:=by omega
   exact next _ _ h2 h2n (by grind) (((Wr.one _ _).trans h2w).eq (by rw[yaa hn0]))
  ·refine dA (nG (by omega)) (wB ?_);rw[Gi];refine hall _ hm (d+1) _ tf t bx _ _ (hfits _ hm) (hP _ hm) hF hM hW g5 hB (by omega) fun t2 s2 h2 h2n h2l h2w=>qC ?_;have hn0:i=0:=by omega
   exact next _ _ h2 h2n (by grind) (h2w.eq (by rw[yab hn0,yah]))
theorem Vw{op:Nat}{name:List Nat}{v:oD}{args:List pA}{d:Nat}{a b c:zA}(hall:∀y∈args,WOk bf y)(hfit:pA.fit (.mk op name v args))(hP:dG (.mk op name v args) d=true)(hs6:(tB op).style=6)(hF:dE tf bf none oP)(hM:uK tf)(hW:fP tf)
  (hc:mA tf 9 (args.map pA.d) c) (hB:BX 171 [.ptr bf 0] tf t bx s) (hs:s.length<=65536)
  (hQ:∀t' s',BX 171 [.ptr bf 0] tf t' bx s'->s'≠[]->s'.length<=dI (25-d)->Wr s (fG op name v (jE args)) s'->Q (.tup []) t') :
  Wc yA F 191 [.ptr bx 0,.agg [.int .u8 op,.str name,.int .u8 v.kind,.bool v.f.n.neg,a,.bool v.f.d.neg,b,.int .i64 v.i,c],.ptr bf (op*8)] t Q:=by
 unfold dG cM at hP;simp only[ybb,decide_eq_true_eq]at hP;obtain⟨⟨hd,⟨⟨⟨h27,_⟩,hl⟩,hm⟩,hnm⟩,hrest⟩:=hP;obtain⟨f1,f2,f3,f4,f5,f6,f7,f8⟩:=Mt h27;have hw:=Ux h27;have h1:op≠1:=fun e=>by omega
 rw[yaa h1,ybb,Nz,ycb]at hrest;unfold pA.fit at hfit;have hfits:=pA.fits_mem hfit.2.2.2.2.2;have hmax:dI (25-d)=dI (24-d)+200:=by grind [dI]
 have h19c:op=19->0<=v.i/\v.i<256:=by
  grind [dT]
 unfold fG at hQ;rw[hs6]at hQ;simp only[Nat.reduceEqDiff,if_false]at hQ;have go9:∀t' s',BX 171 [.ptr bf 0] tf t' bx s'->s'≠[]->s'.length<=65536+100->Wr s ((tB op).word++[40]++(if (tB op).named then name++[44,32]else [])) s'->jp 191 9 [.ptr bx 0,.int .u8 op,.str name,.int .u8 v.kind,.bool v.f.n.neg,a,.bool v.f.d.neg,b,.int .i64 v.i,c] t' Q:=by
  intro t' s' k1 k2 k3 k4;refine j191_9 ?_;unfold Zh uI uZ uY;have hlen:=hc.len;rw[ybf]at hlen;refine lA hlen (qB (qC ?_));refine YM (d:=d) hall hfits (fun y hy=>hrest.2 y hy) hF hM hW hc (by omega) hd rfl h19c args.length 0 t' s' (by omega) k1 k2 (by grind [dI]) fun t2 s2 g1 g2 g3 g4=>hQ t2 s2 g1 g2 (by omega) ((k4.trans g4).eq (by simp[ybz]))
 refine w191 ?_;unfold t191 uB uS bD uZ uY;have hld:=EM (hF.up hB.le) h27;refine lA iF (lA bM (lA iF (lA (aM (by decide)) (gC hld (rC (lA (bF (by grind)) (rC (wB ?_))))))));rw[yP];refine hB.write (by simp) (wP hw.2 (by intro x hx;simp_all)) (by grind) fun _ t1 h1=>?_;refine lA iF (lA (aM (by decide)) (gC (EO (hF.up h1.le) h27) (wD ?_)))
 cases hn:(tB op).named with
 | true=>
  rw[hn,yab rfl]at hnm;have hnl:=Ln hnm;refine fA rfl (lA iF (lA bM (lA (bF (by grind)) (rC (wB ?_)))));rw[yP];refine h1.write (by simp) (wP hfit.2.2.1 (by intro x hx;grind)) (by grind) fun _ t2 h2=>qC ?_;exact go9 _ _ h2 (by simp) (by grind) (((Wr.one _ _).trans (Wr.one _ _)).eq (by rw[hn,yab rfl]))
 | false=>exact dA (by simp) (qC (go9 _ _ h1 (by simp) (by grind) ((Wr.one _ _).eq (by rw[hn];simp))))
set_option maxHeartbeats 2000000 in
mutual
/-- THE WRITER COMES TO AN END -/
theorem Wx:∀(x:pA),WOk bf x
 | .mk op name v args=>by
  have hall:=Ww args;intro d cs tf t bx s Q hfit hP hF hM hW hr hB hs hQ;have hP0:=hP;have hfit0:=hfit;obtain⟨a,b,c,rfl,ha,hb,hc⟩:=cK hr;simp only[pA.op,pA.name,pA.v,pA.args]at ha hb hc ⊢;unfold dG cM at hP;simp only[ybb,decide_eq_true_eq]at hP;obtain⟨⟨hd,⟨⟨⟨h27,hs0⟩,hl⟩,hm⟩,hnm⟩,hrest⟩:=hP;simp only[ycp,decide_eq_false_iff_not]at hs0;obtain⟨f1,f2,f3,f4,f5,f6,f7,f8⟩:=Mt h27
  have hw:=Ux h27;unfold pA.fit at hfit;have hfits:=pA.fits_mem hfit.2.2.2.2.2;have hmax:dI (25-d)=dI (24-d)+200:=by grind [dI]
  have e25:25-(d+1)=24-d:=by omega
  have hmb:dI (24-d)<=91000/\86000<=dI (24-d):=by grind [dI]
  refine w137 ?_;unfold t137 uI uU uS uG bD uZ uY cF;refine lA iF (lA bM (wB ?_));rw[q46,hB.len,wA];refine qB ?_;by_cases hbig:65536<s.length
  ·refine fA (pG (by omega)) ?_;exact hQ t s hB (fun e=>by simp_all) (by omega) (Wr.big _ hbig)
  rw[yI]at hQ;refine dA (nG (by omega)) ?_;have hFt:=hF.up hB.le;refine lA iF (lA IC (gC hB.forms (lA iF (lA (Us h27) (lA iF (lA (aM (by decide)) (gC (EN hFt h27) (qB ?_))))))));have ldw:∀ {t'},bA tf t'->aA yA 9 ⟨0,t'⟩ (.ptr bf (op*8+1))=some (.str (tB op).word):=fun h=>EM (hF.up h) h27;have notc:(tB op).style≠1->xK args (d+1)=true:=by
   grind
  have arg:∀(i:Nat) (lev:Nat) (t1:Tr sA) (s1:List Nat) (K:zA->T) (Q:dB) (k:Nat),(tB op).style≠1->i<args.length->k<8->BX 171 [.ptr bf 0] tf t1 bx s1->s1.length<=94000->aA yA 3 ⟨0,t1⟩ (.ptr bf (op*8+k))=some (.int .i64 (lev:Int)) →
    (∀t' s',BX 171 [.ptr bf 0] tf t' bx s'->s'≠[]->s'.length<=max s1.length (dI (24-d))+2->Wr s1 (yL lev ((jE args).getD i (0,[]))) s'->wp 137 (K (.tup [])) t' Q) →
    wp 137 (.opt (jB yA 37 c (.int .i64 (i:Int))) fun a36=>.light (fun m=>aA yA 39 ⟨0,m⟩ a36) fun a37=>.asG [(.int .u8 0),(.str []),(.int .u8 0),(.bool false),.nilslice,(.bool false),.nilslice,(.int .i64 0),.nilslice] a37 fun X38=>
     .opt (Bn (.ptr bf (op*8))) fun a39=>.opt (zE yA 168 k a39) fun a40=>.light (fun m=>aA yA 3 ⟨0,m⟩ a40) fun a41=>.asI .i64 a41 fun n42=>.call 190 [.ptr bx 0,(.agg [(.int .u8 (X38.i 0)),(.str (X38.s 1)),(.int .u8 (X38.i 2)),(.bool (X38.b 3)),(X38.v 4),(.bool (X38.b 5)),(X38.v 6),(.int .i64 (X38.i 7)),(X38.v 8)]),(.int .i64 n42)] K) t1 Q:=by
   intro i lev t1 s1 K Q k hne hi hk h1 hs1 hldp hQ';have hm:args[i]∈args:=ycj hi;obtain⟨b0,off0,cs,g1,g2,_,_,g5⟩:=yF.at xR (by simp) hc (i:=i) (d:=args[i].d) (by simp[hi]);have ld:aA yA 39 ⟨0,t1⟩ (.ptr b0 off0)=some (Fa true cs):=Jd (H:=⟨0,tf⟩) (HA:=⟨0,t1⟩) h1.le g2;refine lA g1 (gC ld ?_);rw[fW];refine wI (wJ g5 (pA.zs _)) ?_;have hmk:=g5.mk (pA.zs args[i])
   have hcs:[zA.int .u8 ((cellsOf cs).i 0),.str ((cellsOf cs).s 1),.int .u8 ((cellsOf cs).i 2),.bool ((cellsOf cs).b 3),(cellsOf cs).v 4,.bool ((cellsOf cs).b 5),(cellsOf cs).v 6,.int .i64 ((cellsOf cs).i 7),(cellsOf cs).v 8]=cs:=hmk;rw[hcs];refine lA iF (lA (aM hk) (gC hldp (qB (wB ?_))));rw[q190];have hPy:dG args[i] (d+1)=true:=by
    grind [Nz]
   have hgi:(jE args).getD i (0,[])=((tB args[i].op).level,yI args[i]):=by simp[aQ,hi]
   rw[hgi]at hQ';exact ZC (d:=d+1) (hall _ hm) (hfits _ hm) hPy hF hM hW g5 h1 hs1 (by omega) fun t' s' k1 k2 k3 k4=>hQ' t' s' k1 k2 (by rw[e25]at k3;exact k3) k4
  have hQ0:=hQ;have hd1:(tB op).style=1->fG op name v (jE args)=rH v:=fun e=>by unfold fG;rw[yab e]
  have hd2:(tB op).style=2->fG op name v (jE args)=(tB op).word:=fun e=>by unfold fG;rw[yaa (by omega),yab e]
  have hd3:(tB op).style=3->fG op name v (jE args)=(tB op).word++name++[32,97,116,32]++yL (tB op).left ((jE args).getD 0 (0,[])):=fun e=>by unfold fG;rw[yaa (by omega),yaa (by omega),yab e]
  have hd4:(tB op).style=4->fG op name v (jE args)=yL (tB op).left ((jE args).getD 0 (0,[]))++([32]++(tB op).word++[32]++yL (tB op).right ((jE args).getD 1 (0,[]))):=fun e=>by unfold fG;rw[yaa (by omega),yaa (by omega),yaa (by omega),yab e]
  have hd5:(tB op).style=5->fG op name v (jE args)=(tB op).word++yL (tB op).left ((jE args).getD 0 (0,[])):=fun e=>by unfold fG;rw[yaa (by omega),yaa (by omega),yaa (by omega),yaa (by omega),yab e]
  have done:∀t' s',BX 171 [.ptr bf 0] tf t' bx s'->s'≠[]->s'.length<=dI (25-d)->Wr s (fG op name v (jE args)) s'->wp 137 (.ret (.tup [])) t' Q:=fun t' s' k1 k2 k3 k4=>hQ0 t' s' k1 k2 (by omega) k4;have i0:((0:Nat):Int)=0:=rfl;have i1:((1:Nat):Int)=1:=rfl;have arg0:=arg 0;have arg1:=arg 1;rw[i0]at arg0;rw[i1]at arg1;have style:(tB op).style=1\/(tB op).style=2\/(tB op).style=3\/(tB op).style=4\/(tB op).style=5\/(tB op).style=6:=by omega
  rcases style with e | e | e | e | e | e
  ·-- a constant
   refine fA (zI (by omega)) (lA iF (lA bM (wB ?_)));have hop1:=f1 e;rw[yab hop1]at hrest;obtain⟨v1,v2,v3⟩:=LQ hfit.2.2.2.1 hrest;have hv:=Xc (date:=yN v.i) (ha.mono hB.le) (hb.mono hB.le) hfit.2.2.2.1 hrest (fun hk=>by
    have hp:=hrest;unfold fF at hp;rw[yaa (by omega),yaa (by omega),yab hk]at hp;simp only[ybb,decide_eq_true_eq]at hp;exact zcp (hM.mono hB.le) hp.2.1 hp.2.2)
   rw[q40,hv,wA];refine rC (wB ?_);rw[yP];refine hB.write v1 v3 (by omega) fun _ t1 h1=>done _ _ h1 (by simp[v1]) (by grind) ((Wr.one _ _).eq (hd1 e).symm)
  ·-- a word
   refine dA (mG (by omega)) (fA (zI (by omega)) (lA iF (lA bM (lA iF (lA (aM (by decide)) (gC (ldw hB.le) (rC (wB ?_))))))));rw[yP];refine hB.write (f2 e) hw.2 (by omega) fun _ t1 h1=>done _ _ h1 (by simp[f2 e]) (by grind) ((Wr.one _ _).eq (hd2 e).symm)
  ·-- word,name,at
   have hnl:name.length<=24:=by
    grind [Ln,fH]
   have h3:=f3 e;refine dA (mG (by omega)) (dA (mG (by omega)) (fA (zI (by omega)) (lA iF (lA bM (lA iF (lA (aM (by decide)) (gC (ldw hB.le) (rC (lA (bF (by omega)) (rC (lA (bF (by grind)) (rC (wB ?_)))))))))))));rw[yP];refine hB.write (by simp) (wP (wP hw.2 hfit.2.2.1) (by intro x hx;grind)) (by grind) fun _ t1 h1=>?_
   refine arg0 _ t1 _ _ _ 6 (by omega) (by omega) (by decide) h1 (by grind) (Tw (hF.up h1.le) h27) fun t2 s2 k1 k2 k3 k4=>done _ _ k1 k2 (by grind) (((Wr.one _ _).trans k4).eq (hd3 e).symm)
  ·-- an operator
   have h4:=f4 e;refine dA (mG (by omega)) (dA (mG (by omega)) (dA (mG (by omega)) (fA (zI (by omega)) ?_)));refine arg0 _ t _ _ _ 6 (by omega) (by omega) (by decide) hB (by omega) (Tw hFt h27) fun t1 s1 k1 k2 k3 k4=>?_;refine lA iF (lA bM (lA iF (lA (aM (by decide)) (gC (ldw k1.le) (rC (lA (bF (by grind)) (rC (lA (bF (by grind)) (rC (wB ?_))))))))))
   rw[yP];refine k1.write (by simp) (wP (wP (by intro x hx;simp_all) hw.2) (by intro x hx;simp_all)) (by grind) fun _ t2 h2=>?_;refine arg1 _ t2 _ _ _ 7 (by omega) (by omega) (by decide) h2 (by grind) (US (hF.up h2.le) h27) fun t3 s3 m1 m2 m3 m4=>done _ _ m1 m2 (by grind) ((k4.trans ((Wr.one _ _).trans m4)).eq (hd4 e).symm)
  ·-- not
   have h5:=f5 e;refine dA (mG (by omega)) (dA (mG (by omega)) (dA (mG (by omega)) (dA (mG (by omega)) (fA (zI (by omega)) (lA iF (lA bM (lA iF (lA (aM (by decide)) (gC (ldw hB.le) (rC (wB ?_)))))))))));rw[yP];refine hB.write h5.2 hw.2 (by omega) fun _ t1 h1=>?_;refine arg0 _ t1 _ _ _ 6 (by omega) (by omega) (by decide) h1 (by grind) (Tw (hF.up h1.le) h27) fun t2 s2 k1 k2 k3 k4=>done _ _ k1 k2 (by grind) (((Wr.one _ _).trans k4).eq (hd5 e).symm)
  ·-- a call
   refine dA (mG (by omega)) (dA (mG (by omega)) (dA (mG (by omega)) (dA (mG (by omega)) (dA (mG (by omega)) (fA (zI (by omega)) (wB ?_))))));rw[q191];grind [Vw]
theorem Ww:∀(l:List pA),∀y∈l,WOk bf y
 | [],_,h=>by cases h
 | x::l,y,h=>by
  rcases ybs.1 h with e | h
  ·rw[e];exact Wx x
  ·exact Ww l y h
end
end
end
section
variable [sC]
variable {t tf:Tr sA}
theorem WO{x:pA}{cs:List zA}{Q:dB}(hfit:x.fit)(hP:dG x 1=true)(hM:uK t)(hW:fP t)(hr:RD t x.d cs)(hQ:∀t' s,bA t t'->s≠[]->Wr [] (yI x) s->s.length<=91000->yB 256 s->Q (.str s) t'):Wc yA F 69 [.agg cs] t Q:=by
 obtain⟨a,b,c,rfl,ha,hb,hc⟩:=cK hr;refine w69 ?_;unfold t69 uS kD bD uZ uY;refine wB ?_;rw[q105];refine DI fun bf t1 h1 h2 h3 h4 h5=>?_;refine fA rfl (eI fun bx hbx hbb=>?_);obtain⟨t2,e1,e2,e3,e4⟩:=iZ hbx [.nilptr,.nilslice,.ptr bf 0] (some (.ty 171));have hbox:Bq yA 171 (.agg [.nilptr,.nilslice,.ptr bf 0]) ⟨bx,t1⟩=some (.ptr bx 0,⟨bx+1,t2⟩):=by
  unfold Bq;have:mJ yA 171=some (.ty 171):=by kernel_rfl
  rw[this,<- e1];rfl
 refine⟨_,_,hbox,wB ?_⟩;have hB:BX 171 [.ptr bf 0] t1 t2 bx []:=⟨hbb,hbx,e3,(by intro x hx;cases hx),rfl,.nilptr,.nilslice,.inl rfl,e2,.inl ⟨rfl,rfl⟩,Uq⟩;rw[Gi];refine Wx x 1 _ t1 t2 bx [] _ hfit hP h3 (hM.mono h4) (hW.mono h4) (hr.mono h4) hB (by simp) fun t3 s h6 h7 h8 hw=>?_;refine lA iF (lA bM (wB ?_));rw[q47];have hl:s.length<=91000:=by
  grind [dI]
 exact h6.string h7 (by omega) fun t4 h9=>rC (hQ _ _ (h4.trans h9) h7 hw hl h6.2.2.2.1)
theorem Wr.len{T s:List Nat}(h:Wr [] T s):(65536<s.length->65536<T.length)/\(¬ 65536<s.length->s=T/\¬ 65536<T.length):=by
 rcases h with rfl | ⟨h1,h2⟩
 ·simp
 ·exact⟨fun _=>by simpa using h1,fun h=>absurd h2 h⟩
def Ah(x:pA):zA:=if dG x 1=true then(if 65536<(yI x).length then .tup [.str [],.int .i64 3]else .tup [.str (yI x),.int .i64 0])else .tup [.str [],.int .i64 2]
def zat{x:pA}{cs:List zA}{Q:dB}(hfit:x.fit)(hM:uK t)(hW:fP t)(hr:RD t x.d cs)
  (hQ:∀t',bA t t'->Q (Ah x) t'):Wc yA F 28 [.agg cs] t Q:=by
 have hr0:=hr;obtain⟨a,b,c,rfl,ha,hb,hc⟩:=cK hr;refine w28 ?_;unfold t28 uB uS uG uZ uY;refine wB ?_;rw[q48];refine TM fun bf t1 h1 h2 h3 h4 h5=>?_;have e:(cellsOf [zA.ptr bf 0]).v 0=.ptr bf 0:=rfl;refine wI (Ih rfl) (fA hr0.sameA (wB ?_));have he:=ID h3 x 1 _ hfit (by omega) (hr0.mono h4);rw[show((1:Nat):Int)=1 from rfl]at he;rw[q68,e,he,wA];refine wD ?_
 cases hP:dG x 1 with
 | false=>
  refine fA rfl ?_;have:=hQ _ h4;unfold Ah at this;rw[hP]at this;exact this
 | true=>
  refine dA (by simp) (wB ?_);rw[q69];refine WO hfit hP (hM.mono h4) (hW.mono h4) (hr0.mono h4) fun t2 s h6 h7 hw _ _=>rC ?_;have hq:=hQ _ (h4.trans h6);unfold Ah at hq;rw[yab hP]at hq;by_cases hl:65536<s.length
  ·refine fA (pG (by rw[bI];omega)) ?_;rw[yab (hw.len.1 hl)]at hq;exact hq
  ·refine dA (nG (by rw[bI];omega)) ?_;obtain⟨k1,k2⟩:=hw.len.2 hl;rw[yaa k2,<- k1]at hq;exact hq
end
section
def Tx:List (List Nat):=[[],[116,114,117,116,104],[110,117,109,98,101,114],[109,111,110,101,121],[100,97,116,101],[100,97,121,115],[109,111,110,116,104,115]]
def GlobK(t:Tr sA):Prop:=At t 0 0 (Tx.map zA.str)
end
end Go.Proofs
namespace Go.Am
open Go Go.RowKit
def wT{α:Type}(f:Nat->Option α):Nat->Tr α
 | 0=>.leaf
 | n+1=>match f n with
  | some v=>(wT f n).set n v
  | none=>wT f n
theorem pP{α:Type}(f:Nat->Option α):∀(n a:Nat),(wT f n).get a=if a<n then f a else none:=by
 intro n;induction n with
 | zero=>intro a;rw[yaa (by omega)];exact Tr.get_leaf _
 | succ n ih=>
  grind [wT,Tr.get_set]
def wN (N:Nat):Value->Option zA
 | .bool b=>some (.bool b)
 | .int k n=>some (.int k n)
 | .string s=>some (.str (fE s))
 | .slice none 0 0=>some .nilslice
 | .slice (some _) 0 0=>some (.slice 0 0 0 0)
 | .slice (some ⟨b,off,none⟩) len cap=>if b<N then some (.slice (256+b) off len cap)else none
 | _=>none
def Ea (N:Nat):Obj->Option sA
 | .cells cs _ _=>some (.cells (wT (fun j=>(cs[j]?).bind (wN N)) cs.size) cs.size none)
 | _=>none
def pH (w:World):Tr sA:=wT (fun a=>if a<256 then(w.heap[a]?).bind (Ea w.heap.size)else(w.heap[a-256]?).bind (Ea w.heap.size)) (256+w.heap.size)
def muW (w:World):Mu:=⟨fun a=>if a<256 then some ⟨a,true,0,0,true⟩else if a<256+w.heap.size then some ⟨a-256,true,0,0,true⟩else none,fun _=>none⟩
section
variable {w:World}
theorem KR{v:Value}{a:zA}(h:wN w.heap.size v=some a):vA (muW w) a v:=by
 unfold wN at h;split at h
 ·cases h;rw[vA]
 ·cases h;rw[vA]
 ·grind [vA]
 ·cases h;rw[vA]
 ·grind [vA]
 ·split at h
  ·rename_i hb;cases h;rename_i b off len cap _;rw[vA];refine .inl ⟨⟨b,true,0,0,true⟩,cap,?_,rfl,ybk _,fun _=>rfl,fun h=>by cases h⟩;show(if 256+b<256 then some (⟨256+b,true,0,0,true⟩:BI)else if 256+b<256+w.heap.size then some ⟨256+b-256,true,0,0,true⟩else none)=_;rw[yaa (by omega),yab (by omega),show 256+b-256=b by omega]
  ·cases h
 ·cases h
theorem KU{o:Obj}{x:sA}(h:Ea w.heap.size o=some x)(b:Nat):nH (muW w) ⟨b,true,0,0,true⟩ x o/\x.asLoop=none/\x.asDeferred=none:=by
 cases o<;>first | (cases h;done) | skip
 rename_i cs elem fr;cases h;refine⟨⟨cs,elem,fr,rfl,ybk _,.inl rfl,fun j v hv=>?_,rfl⟩,rfl,rfl⟩
 grind [pP,KR]
theorem hrelW:sB (256+w.heap.size) w.heap.size (muW w) ⟨256+w.heap.size,pH w⟩ w:=by
 have hget:∀a x,(pH w).get a=some x->∃b o,b<w.heap.size/\w.heap[b]?=some o/\Ea w.heap.size o=some x/\a<256+w.heap.size/\b=(if a<256 then a else a-256):=by
  grind [pH,pP]
 have hmu:∀a,(muW w) a=if a<256 then some ⟨a,true,0,0,true⟩else if a<256+w.heap.size then some ⟨a-256,true,0,0,true⟩else none:=fun _=>rfl;have big:∀a,256+w.heap.size<=a->(muW w) a=none:=fun a h=>by rw[hmu,yaa (by omega),yaa (by omega)]
 have same:∀a x i,(pH w).get a=some x->(muW w) a=some i->∃o,w.heap[i.b]?=some o/\i.b<w.heap.size/\Ea w.heap.size o=some x/\i=⟨i.b,true,0,0,true⟩:=by
  grind
 refine⟨by omega,fun g hg=>by rw[hmu,yab hg],fun a x i _ hx hi=>?_,ybk _,ybk _,fun a ha=>⟨big a ha,?_⟩,fun a x i hx hi=>?_,fun a i ha hi=>?_,fun a b x y i j hx _ hi _ ha _ _=>?_,fun a x t h=>by cases h⟩
 ·obtain⟨o,_,h2,h3,_⟩:=same a x i hx hi;exact⟨h2,(KU h3 0).2⟩
 all_goals grind [pH,pP,KU]
end
end Go.Am
namespace Go.Am
open Go Go.RowKit
def kG(P:Program):Nat->TypeId->D->Prop
 | 0,_,_=>False
 | f+1,t,x=>match P.underlying t with
  | some .bool=>∃b,x=.bool b
  | some (.int k)=>∃n,x=.int k n/\(Lit.int k n).wf=true
  | some .string=>∃l:List Nat,x=.str l/\l.length<=reachBytes/\∀c∈l,c<256
  | some (.slice e)=>∃l:List D,x=.sl (P.cellsOf e) l/\l.length*P.bytesOf e<=reachBytes/\∀y∈l,kG P f e y
  | some (.struct fs)=>∃l:List D,x=.st l/\mC (fun fd y=>kG P f fd.type y) fs.toList l
  | _=>False
def Br(P:Program):Nat->List Field->Nat->Bool
 | off,[],n=>off == n
 | off,f::fs,n=>f.offset == off&&Br P (off+P.cellsOf f.type) fs n
structure Plain (P:Program) (S:TypeId->Prop):Prop where
 part:∀t,S t->match P.underlying t with
  | some .bool=>True
  | some (.int _)=>True
  | some .string=>True
  | some (.slice e)=>S e/\0<P.cellsOf e
  | some (.struct fs)=>(∀f∈fs.toList,S f.type)/\Br P 0 fs.toList (P.cellsOf t)=true
  | _=>False
def av (N:Nat)(v:Value):zA:=(wN N v).getD .nilptr
def Has (N:Nat)(cs:List Value):Prop:=∀v∈cs,wN N v=some (av N v)
theorem JG{α:Type}{Q:Nat->α->Prop}:∀(n:Nat),(∀i,i<n->∃p,Q i p)->∃l:List α,l.length=n/\∀i p,l[i]?=some p->Q i p:=by
 intro n;induction n with
 | zero=>simp_all
 | succ n ih=>
  intro h;obtain⟨l,hl,hq⟩:=ih fun i hi=>h i (by omega);obtain⟨p,hp⟩:=h n (by omega);refine⟨l++[p],by simp[hl],fun i q hq'=>?_⟩
  grind
section
variable {H:Type}{enc:TypeId × Value->H}{P:Program}{w:World}
theorem Wz{p:Nat->Bool}:∀ {ts:List TypeId} {ds:List (DataW H)},(DataW.weightsEach P ts ds).all p=true->∀ {i:Nat} {t:TypeId} {d:DataW H},ts[i]?=some t->ds[i]?=some d->(DataW.weights P t d).all p=true
 | [],_,_,i,_,_,h1,_=>by simp at h1
 | _::_,[],_,i,_,_,_,h2=>by simp at h2
 | t::ts,d::ds,h,i,u,e,h1,h2=>by
  rw[DataW.weightsEach,ydi,ybb]at h
  cases i with
  | zero=>simp_all
  | succ i=>exact Wz h.2 (by simpa using h1) (by simp_all)
theorem Xa{p:Nat->Bool}{e:TypeId}:∀ {ds:List (DataW H)},(DataW.weightsAll P e ds).all p=true->∀ {i:Nat} {d:DataW H},ds[i]?=some d->(DataW.weights P e d).all p=true
 | [],_,i,_,h2=>by simp at h2
 | d::ds,h,i,x,h2=>by
  rw[DataW.weightsAll,ydi,ybb]at h
  cases i with
  | zero=>simp_all
  | succ i=>exact Xa h.2 (by simpa using h2)
theorem JK{a:Addr}{n:Nat}{cs:List Value}(h:w.cells? 0 a n=some cs):cs.length=n/\(0<n->a.spot=none/\∃c t fr,w.heap[a.block]?=some (.cells c t fr)/\∀j,j<n->c[a.off+j]?=cs[j]?):=by
 unfold World.cells? at h;rw[yab (yaw _)]at h;have hl:=mapM_some_length h;have hg:=mapM_some_get h;simp only[List.length_range]at hl;refine⟨hl,fun hn=>?_⟩;have key:∀j,j<n->w.cell? (a.add j)=cs[j]?:=fun j hj=>hg j j (by simp[hj]);have h0:=key 0 hn;have hs0:∃v,cs[0]?=some v:=⟨cs[0]'(by omega),ybd (by omega)⟩;obtain⟨v0,hv0⟩:=hs0;rw[hv0]at h0;have e0:a.add 0=a:=by simp[Addr.add]
 rw[e0]at h0;unfold World.cell? at h0
 cases hb:w.heap[a.block]? with
 | none=>simp_all
 | some o=>
  rw[hb]at h0
  cases o with
  | cells c t fr=>
   simp only[]at h0;split at h0
   ·cases h0
   ·rename_i hsp;refine⟨by simp_all,c,t,fr,rfl,fun j hj=>?_⟩
    grind [World.cell?,Addr.add]
  | _=>cases h0
def KS{b:Nat}{c:Array Value}{t:TypeId}{fr:Nat × Nat}(h:w.heap[b]?=some (.cells c t fr)) :
  (pH w).get (256+b)=some (.cells (wT (fun j=>(c[j]?).bind (wN w.heap.size)) c.size) c.size none):=by
 have hb:=(ybe.1 h).1;unfold pH;rw[pP,yab (by omega),yaa (by omega),show 256+b-256=b by omega,h];rfl
theorem at_old{b off n:Nat}{c:Array Value}{t:TypeId}{fr:Nat × Nat}{cs:List Value}(h:w.heap[b]?=some (.cells c t fr))(hl:cs.length=n)(hc:∀j,j<n->c[off+j]?=cs[j]?)(hs:Has w.heap.size cs) :
  At (pH w) (256+b) off (cs.map (av w.heap.size)):=by
 refine⟨_,_,_,KS h,fun j a ha=>?_⟩;rw[ybu]at ha
 cases hj:cs[j]? with
 | none=>simp_all
 | some v=>
  rw[hj]at ha;have hlt:j<n:=by grind
  have h1:=hc j hlt;rw[hj]at h1;have hsz:off+j<c.size:=(ybe.1 h1).1;rw[pP,yab hsz,h1];have ha:av w.heap.size v=a:=by simp_all
  rw[<- ha];exact hs v (ycv hj)
theorem Xw{cs:List Value}:∀ {fs:List Field} {off:Nat},Br P off fs cs.length=true->(fs.map fun f=>(cs.drop f.offset).take (P.cellsOf f.type)).flatten=cs.drop off
 | [],off,h=>by grind [Br]
 | f::fs,off,h=>by
  rw[Br,ybb]at h;obtain⟨h1,h2⟩:=h;have h1:f.offset=off:=by simp_all
  rw[ycm,yas,Xw h2,h1,<- List.drop_drop,List.take_append_drop]
theorem KX{α β:Type}{R:α->β->Prop}:∀ {l:List α} {m:List β},m.length=l.length->(∀(i:Nat) a b,l[i]?=some a->m[i]?=some b->R a b)->mC R l m
 | [],[],_,_=>.nil
 | [],_::_,h,_=>by simp at h
 | _::_,[],h,_=>by simp at h
 | a::l,b::m,h,k=>.cons (k 0 a b (by simp) (by simp)) (KX (by grind) fun i a b h1 h2=>k (i+1) a b (by simp_all) (by simp_all))
theorem zda{S:TypeId->Prop}(hP:Plain P S)(h0:∃c n lo,(pH w).get 0=some (.cells c n lo)) :
  ∀(fuel:Nat) (t:TypeId) (cs:List Value) (x:DataW H × List MemPlace),S t->DataW.trod enc P w 0 (fun _=>true) true fuel t cs=some x->(DataW.weights P t x.1).all (· <= reachBytes)=true →
   Has w.heap.size cs/\∃d,RD (pH w) d (cs.map (av w.heap.size))/\kG P fuel t d:=by
 intro fuel;induction fuel with
 | zero=>simp_all [DataW.trod]
 | succ n ih=>
  intro t cs x hS h hw;have hp:=hP.part t hS;have one:∀ {v:Value} {a:zA},wN w.heap.size v=some a->Has w.heap.size [v]/\av w.heap.size v=a:=by
   intro v a hv;have:av w.heap.size v=a:=by grind [av]
   refine⟨fun u hu=>?_,this⟩;simp at hu;subst hu;rw[hv,this]
  cases hu:P.underlying t with
  | none=>simp_all
  | some dt=>
  cases dt with
  | bool=>
   obtain⟨b,rfl,rfl⟩:=DataW.trod_bool hu h;obtain⟨h1,h2⟩:=one (v:=.bool b) (a:=.bool b) rfl;exact⟨h1,.bool b,by simp_all,by grind [kG]⟩
  | int k=>
   obtain⟨m,rfl,rfl,hwf⟩:=DataW.trod_int hu h;obtain⟨h1,h2⟩:=one (v:=.int k m) (a:=.int k m) rfl;exact⟨h1,.int k m,by simp_all,by grind [kG]⟩
  | string=>
   obtain⟨s,rfl,rfl,_⟩:=DataW.trod_string hu h;obtain⟨h1,h2⟩:=one (v:=.string s) (a:=.str (fE s)) rfl;refine⟨h1,.str (fE s),by simp_all,?_⟩
   grind [kG,DataW.weights,fE,UInt8.toNat_lt]
  | slice e=>
   rw[hu]at hp;obtain⟨hSe,hpos⟩:=hp;rcases DataW.trod_slice hu h with⟨rfl,rfl⟩ | ⟨a,len,cap,vI,rest,m,hm,rfl,rfl,_,hlc,_,hel,hE,hR,_⟩
   ·obtain⟨h1,h2⟩:=one (v:=.slice none 0 0) (a:=.nilslice) rfl;refine⟨h1,.sl (P.cellsOf e) [],by rw[vN];exact⟨_,by simp[h2],[],.inl ⟨rfl,rfl⟩,by rw[tC]⟩,?_⟩
    grind [kG]
   ·obtain rfl:n=m:=by omega
    simp only[DataW.weights,hu,ycg,ybb,ydi,decide_eq_true_eq,ybf]at hw;obtain⟨hsz,hwe,hwr⟩:=hw;by_cases hcap:cap=0
    ·subst hcap;obtain rfl:len=0:=by omega
     obtain⟨h1,h2⟩:=one (v:=.slice (some a) 0 0) (a:=.slice 0 0 0 0) (by cases a;rfl);refine⟨h1,.sl (P.cellsOf e) [],?_,?_⟩
     ·rw[vN,ycm,List.map_nil,h2];refine⟨_,rfl,[],.inr ⟨0,0,0,rfl,ybk _,?_,fun i cs hi=>by simp at hi⟩,by rw[tC]⟩;obtain⟨c,k,lo,hc⟩:=h0;have:=hc;unfold pH at this;rw[pP]at this;split at this
      case isFalse=>cases this
      rw[yab (by omega)]at this
      cases ho:w.heap[0]? with
      | none=>simp_all
      | some o=>
       rw[ho]at this
       cases o with
       | cells c' t' fr'=>
        grind [Ea]
       | _=>cases this
     grind [kG]
    ·have hr:=(hR rfl).1;have hRr:=(hR rfl).2;have hel1:∀i,i<len->∃p:List Value × D,w.cells? 0 (a.add (i*P.cellsOf e)) (P.cellsOf e)=some p.1/\Has w.heap.size p.1/\RD (pH w) p.2 (p.1.map (av w.heap.size))/\kG P n e p.2:=by
      intro i hi;have:=hE i hi;obtain⟨y,hy⟩:∃y,vI[i]?=some y:=⟨vI[i]'(by omega),ybd (by omega)⟩;rw[hy]at this;simp only[Option.bind_eq_some_iff]at this;obtain⟨c1,hc1,hy1⟩:=this;obtain⟨g1,d,g2,g3⟩:=ih e c1 y hSe hy1 (Xa hwe (i:=i) (by simp[hy]));exact⟨(c1,d),hc1,g1,g2,g3⟩
     obtain⟨l,hl,hq⟩:=JG len hel1;have hfirst:∃c1,w.cells? 0 a (P.cellsOf e)=some c1:=by
      by_cases hlen:len=0
      ·have:=hRr 0 (by omega)
       grind [Option.bind_eq_some_iff,Addr.add]
      ·obtain⟨p,hp,_⟩:=hel1 0 (by omega)
       grind [Addr.add]
     obtain⟨c1,hc1⟩:=hfirst;obtain⟨hspot,c,ct,fr,hblk,_⟩:=(JK hc1).2 hpos;have hb:a.block<w.heap.size:=(ybe.1 hblk).1;have hav:wN w.heap.size (.slice (some a) len cap)=some (.slice (256+a.block) a.off len cap):=by
      obtain⟨bb,oo,ss⟩:=a
      grind [wN]
     obtain⟨h1,h2⟩:=one hav;refine⟨h1,.sl (P.cellsOf e) (l.map (·.2)),?_,?_⟩
     ·rw[vN];refine⟨_,by rw[ycm,List.map_nil,h2],l.map (fun p=>p.1.map (av w.heap.size)),.inr ⟨256+a.block,a.off,cap,by rw[ybf,hl],by simp_all,⟨_,_,_,KS hblk,.inl rfl⟩,fun i cs hi=>?_⟩,?_⟩
      ·rw[ybu]at hi
       cases hli:l[i]? with
       | none=>simp_all
       | some p=>
        rw[hli]at hi;obtain rfl:p.1.map (av w.heap.size)=cs:=by simp_all
        obtain⟨k1,k2,k3,k4⟩:=hq i p hli;obtain⟨m1,m2⟩:=JK k1;obtain⟨_,c',ct',fr',hb',hcc⟩:=m2 hpos;have eb:(a.add (i*P.cellsOf e)).block=a.block:=by unfold Addr.add;split<;>rfl
        have eo:(a.add (i*P.cellsOf e)).off=a.off+i*P.cellsOf e:=by unfold Addr.add;split<;>simp_all
        rw[eb]at hb';rw[hblk]at hb';cases hb';rw[eo]at hcc;exact⟨by simp_all,at_old hblk m1 hcc k2⟩
      grind [tC.mk]
     grind [kG,List.mem_iff_getElem?]
  | struct fs=>
   rw[hu]at hp;obtain⟨hf,ht⟩:=hp;obtain⟨xs,m,hm,rfl,hlen,hxs,hel⟩:=DataW.trod_struct hu h;obtain rfl:n=m:=by omega
   simp only[DataW.weights,hu]at hw;have hel1:∀i,i<fs.toList.length->∃p:D,∀f,fs.toList[i]?=some f->Has w.heap.size ((cs.drop f.offset).take (P.cellsOf f.type))/\RD (pH w) p (((cs.drop f.offset).take (P.cellsOf f.type)).map (av w.heap.size))/\kG P n f.type p:=by
    intro i hi;have hi':i<fs.size:=by omega
    obtain⟨f,hfi⟩:∃f,fs.toList[i]?=some f:=⟨fs.toList[i],ybd hi⟩;have:=hel i f (by simp_all);obtain⟨y,hy⟩:∃y,xs[i]?=some y:=⟨xs[i]'(by omega),ybd (by omega)⟩;rw[hy]at this;obtain⟨g1,d,g2,g3⟩:=ih f.type _ y (hf f (ycv hfi)) this (Wz hw (i:=i) (by simp_all) (by simp_all));refine⟨d,fun f' hf'=>?_⟩
    simp_all
   obtain⟨l,hl,hq⟩:=JG fs.toList.length hel1;have hfl:=Xw (cs:=cs) (P:=P) (fs:=fs.toList) (off:=0) (by simp_all);rw[ycr]at hfl;refine⟨fun v hv=>?_,.st l,?_,?_⟩
   ·rw[<- hfl]at hv;obtain⟨part,hpart,hv⟩:=List.mem_flatten.1 hv;obtain⟨f,hfm,rfl⟩:=yaq.1 hpart;obtain⟨i,hi⟩:=List.mem_iff_getElem?.1 hfm;have hi':i<fs.toList.length:=(ybc.1 hi).1;exact(hq i (l[i]'(by omega)) (ybd (by omega)) f hi).1 v hv
   all_goals grind [mL,tC.mk,kG,KX]
  | _=>rw[hu]at hp;exact hp.elim
end
end Go.Am
namespace Go.Am
open Go Go.RowKit
structure Oi (P:Program) where
 (b i u8 u16 s limbs whole frac val expr exprs row rows table tables dfn dfns clause clauses plan:TypeId)
 hb:P.underlying b=some .bool
 hi:P.underlying i=some (.int .i64)
 hu8:P.underlying u8=some (.int .u8)
 hu16:P.underlying u16=some (.int .u16)
 hs:P.underlying s=some .string
 hlimbs:P.underlying limbs=some (.slice u16)
 hexprs:P.underlying exprs=some (.slice expr)
 hrows:P.underlying rows=some (.slice row)
 htables:P.underlying tables=some (.slice table)
 hdfns:P.underlying dfns=some (.slice dfn)
 hclauses:P.underlying clauses=some (.slice clause)
 hwhole:∃fs,P.underlying whole=some (.struct fs)/\fs.toList.map (·.type)=[b,limbs]
 hfrac:∃fs,P.underlying frac=some (.struct fs)/\fs.toList.map (·.type)=[whole,whole]
 hval:∃fs,P.underlying val=some (.struct fs)/\fs.toList.map (·.type)=[u8,frac,i]
 hexpr:∃fs,P.underlying expr=some (.struct fs)/\fs.toList.map (·.type)=[u8,s,val,exprs]
 hrow:∃fs,P.underlying row=some (.struct fs)/\fs.toList.map (·.type)=[i,i,i,frac]
 htable:∃fs,P.underlying table=some (.struct fs)/\fs.toList.map (·.type)=[s,b,rows]
 hdfn:∃fs,P.underlying dfn=some (.struct fs)/\fs.toList.map (·.type)=[s,u8,b]
 hclause:∃fs,P.underlying clause=some (.struct fs)/\fs.toList.map (·.type)=[s,s,i,i,i,b,expr,expr]
 hplan:∃fs,P.underlying plan=some (.struct fs)/\fs.toList.map (·.type)=[s,dfns,tables,clauses]
 cu16:P.cellsOf u16=1
 cexpr:P.cellsOf expr=9
 crow:P.cellsOf row=7
 ctable:P.cellsOf table=3
 cdfn:P.cellsOf dfn=3
 cclause:P.cellsOf clause=24
 bytes:1<=P.bytesOf u16/\1<=P.bytesOf expr/\1<=P.bytesOf row/\1<=P.bytesOf table/\1<=P.bytesOf dfn/\1<=P.bytesOf clause
section
variable {P:Program}{f:Nat}{t:TypeId}{x:D}
theorem Fh(h:kG P f t x):∃g,f=g+1:=by
 cases f with
 | zero=>exact h.elim
 | succ g=>simp_all
theorem NC(ht:P.underlying t=some .bool)(h:kG P f t x):∃b,x=.bool b:=by
 grind [Fh,kG]
theorem Pc{k:IntKind}(ht:P.underlying t=some (.int k))(h:kG P f t x):∃n,x=.int k n/\(Lit.int k n).wf=true:=by
 grind [Fh,kG]
def NA(ht:P.underlying t=some (.int .i64))(h:kG P f t x):∃n,x=.int .i64 n/\i64 n:=by
 obtain⟨n,rfl,hn⟩:=Pc ht h;simp only[Lit.wf,ybb,decide_eq_true_eq]at hn;have h1:IntKind.i64.min = -9223372036854775808:=rfl;have h2:IntKind.i64.max=9223372036854775807:=rfl;rw[h1,h2]at hn;exact⟨n,rfl,hn.1,by omega⟩
def Xl(ht:P.underlying t=some (.int .u8))(h:kG P f t x):∃n:Nat,x=.int .u8 (n:Int)/\n<256:=by
 obtain⟨n,rfl,hn⟩:=Pc ht h;simp only[Lit.wf,ybb,decide_eq_true_eq]at hn;have h1:IntKind.u8.min=0:=rfl;have h2:IntKind.u8.max=255:=rfl;rw[h1,h2]at hn;exact⟨n.toNat,by rw[show((n.toNat:Nat):Int)=n by omega],by omega⟩
def MY(ht:P.underlying t=some (.int .u16))(h:kG P f t x):∃n:Nat,x=.int .u16 (n:Int)/\n<65536:=by
 obtain⟨n,rfl,hn⟩:=Pc ht h;simp only[Lit.wf,ybb,decide_eq_true_eq]at hn;have h1:IntKind.u16.min=0:=rfl;have h2:IntKind.u16.max=65535:=rfl;rw[h1,h2]at hn;exact⟨n.toNat,by rw[show((n.toNat:Nat):Int)=n by omega],by omega⟩
theorem MZ(ht:P.underlying t=some .string)(h:kG P f t x):∃l:List Nat,x=.str l/\l.length<jF/\∀c∈l,c<256:=by
 grind [Fh,kG,reachBytes,jF]
theorem Xm{e:TypeId}{sz:Nat}(ht:P.underlying t=some (.slice e))(hc:P.cellsOf e=sz)(hb:1<=P.bytesOf e)(h:kG P f t x):∃(l:List D) (g:Nat),f=g+1/\x=.sl sz l/\l.length<jF/\∀y∈l,kG P g e y:=by
 obtain⟨g,rfl⟩:=Fh h;unfold kG at h;rw[ht]at h;obtain⟨l,h1,h2,h3⟩:=h;have:l.length<=l.length*P.bytesOf e:=Nat.le_mul_of_pos_right _ hb
 grind [reachBytes,jF]
theorem mC.ofMap{α β γ:Type}{k:α->γ}{R:γ->β->Prop}:∀ {l:List α} {m:List β},mC (fun a b=>R (k a) b) l m->mC R (l.map k) m
 | [],_,.nil=>.nil
 | _::_,_::_,.cons h r=>.cons h (mC.ofMap r)
theorem Jh{ts:List TypeId}(ht:∃fs,P.underlying t=some (.struct fs)/\fs.toList.map (·.type)=ts)(h:kG P f t x):∃(l:List D) (g:Nat),f=g+1/\x=.st l/\mC (fun t y=>kG P g t y) ts l:=by
 obtain⟨fs,ht,rfl⟩:=ht;obtain⟨g,rfl⟩:=Fh h
 grind [kG,mC.ofMap]
theorem mC.cons_inv{α β:Type}{R:α->β->Prop}{a:α}{l:List α}{m:List β}(h:mC R (a::l) m):∃b r,m=b::r/\R a b/\mC R l r:=by
 cases h with
 | cons h1 h2=>grind
def mC.nil_inv{α β:Type}{R:α->β->Prop}{m:List β}(h:mC R ([]:List α) m):m=[]:=by
 cases h;rfl
theorem Te{α β:Type}{g:α->β}{Q:α->Prop}:∀ {l:List β},(∀y∈l,∃a,y=g a/\Q a)->∃m:List α,l=m.map g/\∀a∈m,Q a
 | [],_=>⟨[],rfl,fun _ h=>by cases h⟩
 | y::l,h=>by
  obtain⟨a,h1,h2⟩:=h y (by simp);obtain⟨m,h3,h4⟩:=Te (l:=l) fun z hz=>h z (ybr _ hz);exact⟨a::m,by grind,fun b hb=>by
   grind⟩
end
namespace Oi
section
variable {P:Program}(A:Oi P){f:Nat}{x:D}
theorem dWhole(h:kG P f A.whole x):∃w:mE,x=w.d/\w.limbs.length<jF/\yB 65536 w.limbs:=by
 obtain⟨l,g,rfl,rfl,k⟩:=Jh A.hwhole h;obtain⟨d1,r,rfl,h1,k⟩:=k.cons_inv;obtain⟨d2,r,rfl,h2,k⟩:=k.cons_inv;obtain rfl:=k.nil_inv;obtain⟨b,rfl⟩:=NC A.hb h1;obtain⟨l,g,rfl,rfl,hl,hm⟩:=Xm A.hlimbs A.cu16 A.bytes.1 h2;obtain⟨m,rfl,hq⟩:=Te (g:=fun n:Nat=>D.int .u16 (n:Int)) (Q:=fun n=>n<65536) fun y hy=>MY A.hu16 (hm y hy);exact⟨⟨b,m⟩,rfl,by simp_all,hq⟩
def dFrac(h:kG P f A.frac x):∃w:kC,x=w.dd/\w.fit:=by
 obtain⟨l,g,rfl,rfl,k⟩:=Jh A.hfrac h;obtain⟨d1,r,rfl,h1,k⟩:=k.cons_inv;obtain⟨d2,r,rfl,h2,k⟩:=k.cons_inv;obtain rfl:=k.nil_inv;obtain⟨a,rfl,a1,a2⟩:=A.dWhole h1;obtain⟨b,rfl,b1,b2⟩:=A.dWhole h2;exact⟨⟨a,b⟩,rfl,⟨a1,b1⟩,a2,b2⟩
def dVal(h:kG P f A.val x):∃w:oD,x=w.d/\w.fit:=by
 obtain⟨l,g,rfl,rfl,k⟩:=Jh A.hval h;obtain⟨d1,r,rfl,h1,k⟩:=k.cons_inv;obtain⟨d2,r,rfl,h2,k⟩:=k.cons_inv;obtain⟨d3,r,rfl,h3,k⟩:=k.cons_inv;obtain rfl:=k.nil_inv;obtain⟨kk,rfl,hk⟩:=Xl A.hu8 h1;obtain⟨q,rfl,hq⟩:=A.dFrac h2;obtain⟨n,rfl,hn⟩:=NA A.hi h3;exact⟨⟨kk,q,n⟩,rfl,hk,hq,hn.1,hn.2⟩
theorem HR:∀ {l:List pA},(∀x∈l,x.fit)->pA.fits l
 | [],_=>by grind [pA.fits]
 | x::l,h=>by unfold pA.fits;exact⟨h x (by simp),HR fun y hy=>h y (ybr _ hy)⟩
theorem dExpr:∀(f:Nat) (x:D),kG P f A.expr x->∃w:pA,x=w.d/\w.fit:=by
 intro f;induction f using Nat.strongRecOn with
 | _ f ih=>
 intro x h;obtain⟨l,g,rfl,rfl,k⟩:=Jh A.hexpr h;obtain⟨d1,r,rfl,h1,k⟩:=k.cons_inv;obtain⟨d2,r,rfl,h2,k⟩:=k.cons_inv;obtain⟨d3,r,rfl,h3,k⟩:=k.cons_inv;obtain⟨d4,r,rfl,h4,k⟩:=k.cons_inv;obtain rfl:=k.nil_inv;obtain⟨kk,rfl,hk⟩:=Xl A.hu8 h1;obtain⟨n,rfl,hn,hn'⟩:=MZ A.hs h2;obtain⟨v,rfl,hv⟩:=A.dVal h3;obtain⟨l,g',rfl,rfl,hl,hm⟩:=Xm A.hexprs A.cexpr A.bytes.2.1 h4;obtain⟨m,rfl,hq⟩:=Te (g:=pA.d) (Q:=pA.fit) fun y hy=>ih g' (by omega) y (hm y hy)
 refine⟨.mk kk n v m,?_,?_⟩
 all_goals grind [pA.d,pA.ds_eq,pA.fit,HR]
end
end Oi
end Go.Am
namespace Go.Am
open Go Go.RowKit Go.Proofs
theorem SA[sC](B N:Nat)(hb:B<=256+sC.n):Ee Tryz.prog yA B N vH:=by
 intro f g hg args H v H' hv μ w args' hH hI hl;have hg:Sn.get f=some g:=hg;unfold Sn at hg;rcases aO hg with⟨rfl,rfl⟩ | hg
 ·grind [cU,CK]
 rcases aO hg with⟨rfl,rfl⟩ | hg
 ·exact .inr (CH hb hH hv hl)
 rcases aO hg with⟨rfl,rfl⟩ | hg
 ·exact .inr (CL hb hH hv hl)
 rcases aO hg with⟨rfl,rfl⟩ | hg
 ·grind [cU,CG]
 rcases aO hg with⟨rfl,rfl⟩ | hg
 ·grind [cU,CJ]
 rcases aO hg with⟨rfl,rfl⟩ | hg
 all_goals grind [cU,SE,Tr.get_leaf]
def sim23[sC](hN:6<=sC.n):sI Tryz.prog yA (256+sC.n) sC.n vH:=
 ⟨Pb rfl,Mv rfl,SA _ _ (ybk _),ybk _,by kernel_rfl,fun _ _ hb h=>h.below hN hb⟩
section
variable {w:World}
theorem zdj{b:Nat}{y:sA}(h:(pH w).get b=some y):b<256+w.heap.size:=by
 grind [pH,pP]
def NG(hL:vH w)(f:Nat)(args:List zA)(args':Array Value)(hp:∀ [sC],yA.prims.get f=none)(hl:pB (muW w) args args'.toList)
  (h:∀ [sC],∃Q:dB,Wc yA F f args (pH w) Q/\∀v t,Q v t->v=.bool true) (hf:Nat.blt f yo=true:=by rfl) :
  Calls Tryz.prog f args' w fun e w'=>e=.returned (.bool true)/\Below w.heap.size w w':=by
 letI:sC:=⟨w.heap.size⟩
 obtain⟨Q,h1,h2⟩:=h;refine(YK (H:=⟨256+w.heap.size,pH w⟩) (sim23 hL.size) hL zer hp (ybk _) (fun b y hb=>zdj hb) hrelW hl h1 hf).mono fun e w' ⟨v,v',t',μ',g1,g2,g3,g4,g5⟩=>?_;have:=h2 v t' g4;subst this;rw[vA]at g3;exact⟨by rw[g1,g3],g5⟩
theorem zd9(h:vH w):∀ [sC],uK (pH w):=by
 intro _;obtain⟨t,h⟩:=h.lens;have hb:=(ybe.1 h).1;have e:(pH w).get 2=some (.cells (wT (fun j=>((pX zO).toArray[j]?).bind (wN w.heap.size)) (pX zO).toArray.size) (pX zO).toArray.size none):=by
  unfold pH;rw[pP,yab (by omega),yab (by omega),h];rfl
 refine⟨_,_,_,e,fun j a ha=>?_⟩
 grind [pP,dZ,zO,pX,wN]
theorem zam(h:vH w):∀ [sC],fP (pH w):=by
 intro _;obtain⟨t,h⟩:=h.modes;have hb:=(ybe.1 h).1;have e:(pH w).get 1=some (.cells (wT (fun j=>((qL kM).toArray[j]?).bind (wN w.heap.size)) (qL kM).toArray.size) (qL kM).toArray.size none):=by
  unfold pH;rw[pP,yab (by omega),yab (by omega),h];rfl
 refine⟨_,_,_,e,fun j a ha=>?_⟩;rw[pP,ybw];have hj:j<pR.length:=by
  grind
 rw[ybu]at ha;have hL:pR=kM.map fun b=>b.map UInt8.toNat:=rfl;rw[hL]at ha hj;rw[ybu]at ha
 cases hbt:kM[j]? with
 | none=>simp_all
 | some b=>
  rw[hbt]at ha;obtain rfl:=yci ha;rw[yab (by grind [qL])];simp only[qL,List.getElem?_toArray,ybu,hbt,Option.map_some,yai,wN];rfl
theorem zan(h:vH w):∀ [sC],GlobK (pH w):=by
 intro _;obtain⟨t,h⟩:=h.kinds;have hb:=(ybe.1 h).1;have e:(pH w).get 0=some (.cells (wT (fun j=>((qL gM).toArray[j]?).bind (wN w.heap.size)) (qL gM).toArray.size) (qL gM).toArray.size none):=by
  unfold pH;rw[pP,yab (by omega),yab (by omega),h];rfl
 refine⟨_,_,_,e,fun j a ha=>?_⟩;rw[pP,ybw];have hj:j<Tx.length:=by
  grind
 rw[ybu]at ha;have hL:Tx=gM.map fun b=>b.map UInt8.toNat:=rfl;rw[hL]at ha hj;rw[ybu]at ha
 cases hbt:gM[j]? with
 | none=>simp_all
 | some b=>
  rw[hbt]at ha;obtain rfl:=yci ha;rw[yab (by grind [qL])];simp only[qL,List.getElem?_toArray,ybu,hbt,Option.map_some,yai,wN];rfl
theorem zd6{cs:List Value}(h:Has w.heap.size cs):pB (muW w) (cs.map (av w.heap.size)) cs:=by
 induction cs with
 | nil=>exact .nil
 | cons v l ih=>exact .cons (KR (h v (by simp))) (ih fun u hu=>h u (ybr _ hu))
theorem SI{cs:Array Value}(h:Has w.heap.size cs.toList):vA (muW w) (.agg (cs.toList.map (av w.heap.size))) (.agg cs):=by
 grind [vA,zd6]
end
end Go.Am
namespace Go.Am
open Go Go.RowKit Go.ChangeShapes Go.WideShapes Go.ChangeAt
section
variable {H:Type}{enc:TypeId × Value->H}{P:Program}
def Xr(hl:laidOutB P=true){W W':World}(hb:Below W.heap.size W W'):∀ {ts:List TypeId} {vs:List Value} {ds:List (DataW H)} {ps:List MemPlace},(∀t∈ts,P.readableRec t=true/\t<P.types.size) →
  DataW.TrodAll enc P W 0 (fun _=>true) true ts vs ds ps->(∀x∈ps,x.block<W.heap.size)->DataW.TrodAll enc P W' 0 (fun b=>decide (b<W.heap.size)) true ts vs ds ps
 | [],[],[],_,_,h,_=>h
 | t::ts,_::_,_::_,_,ht,⟨p,q,h1,h2,e⟩,hs=>by
  subst e;exact⟨p,q,Below.trod hl (ht t (by simp)).1 (ht t (by simp)).2 h1 hb fun x hx=>hs x (ydc _ hx),
   Xr hl hb (fun t ht'=>ht t (ybr _ ht')) h2 fun x hx=>hs x (ycf _ hx),rfl⟩
 | [],_::_,_,_,_,h,_=>by simp[DataW.TrodAll]at h
 | [],[],_::_,_,_,h,_=>by simp[DataW.TrodAll]at h
 | _::_,[],_,_,_,h,_=>by simp[DataW.TrodAll]at h
 | _::_,_::_,[],_,_,h,_=>by simp[DataW.TrodAll]at h
theorem law_post(hl:laidOutB P=true){f:Func}{s:ChangeSpec}{tb:TypeId}(hp:∀t∈f.params.toList,P.readableRec t=true/\t<P.types.size)(hv:s.vars=[])(hres:f.resultTypes = #[tb])(htb:P.underlying tb=some .bool)
  {W W':World} {args:Array Value} {ds gs:List (DataW H)} {before:List MemPlace} (hfn:s.fn H ds={ results:=[.lit (.bool true)],args:=ds })
  (hW:DataW.Whole enc P f.params.toList s.vars false W args.toList ds gs before) (hb:Below W.heap.size W W') :
  s.post enc P f false true false false W args (.bool true) W':=by
 have hW0:=hW;obtain⟨p,q,hA,hV,rfl,hfz,hnd⟩:=hW;rw[hv]at hV;obtain⟨rfl,rfl⟩:=trodVars_none hV;refine⟨ds,[],p++[],[],p,[],hW0,?_,?_,?_,hb.frame _,fun h=>by cases h⟩
 ·rw[ycd,hfn,hres];exact trodAll_mk1 (shut_bool htb _)
 ·rw[ycd,hfn];exact Xr hl hb hp hA fun x hx=>hW0.lt x (by simp_all)
 ·rw[ycd,hfn,hv];exact rfl
theorem ZZ{a:Assume}{C:Checked}{os:Os}{f:FuncId}{fn:Func}{s:ChangeSpec}{conds:List PathCond}{apart fresh handsOn again:Bool}{X:World->Array Value->Prop}
  (hX:∀(w w':World) (args:Array Value),w.heap=w'.heap->X w args->X w' args)
  (own:ownKnob C.prog.godebug=none) (started:os.Started) (noInit:C.prog.inits.idxOf? f=none) (hfn:C.prog.funcs[f]?=some fn)
  (witness:∃(w:World) (tape:Tape) (i:Input),w.os=os/\(w.forCall tape i).Shaped C.prog/\i.vars=[]/\Input.okWide C.prog (w.forCall tape i) .any w.heap.size f i ∧
   ((s.pre enc C.prog fn conds apart (w.forCall tape i).memory i.args/\X (w.forCall tape i).memory i.args)/\sizedMet enc C.prog fn (OpenSpec.ofChange s) apart (w.forCall tape i).memory i.args)/\a.holds C.prog (lone (Frame.enter C.prog f i.args .normal) [] (w.forCall tape i)))
  (contract:∀(W:World) (base:Nat) (args:Array Value) (ds gs:List (DataW H)) (before:List MemPlace),
   (∀(j:Nat) t v,fn.params[j]?=some t->args[j]?=some v->Value.okWide C.prog W .any base t v) →
   DataW.Whole enc C.prog fn.params.toList s.vars apart W args.toList ds gs before →
   (DataW.weightsEach C.prog (fn.params.toList++s.plain.varTypes C.prog) (ds++gs)).all (· <= reachBytes)=true->X W args->W.ShapedOpen C.prog →
   Calls C.prog f args W fun e W'=>∃v,e=.returned v/\s.post enc C.prog fn apart fresh handsOn again W args v W') :
  ReturnsInHanded a C os f .any (fun w args=>(s.pre enc C.prog fn conds apart w args/\X w args)/\sizedMet enc C.prog fn (OpenSpec.ofChange s) apart w args) (s.post enc C.prog fn apart fresh handsOn again):=by
 refine returnsInHanded_of_calls own started noInit witness ?_;intro w tape i _ hsh _ hok hpre _;obtain⟨_,_,_,fn',hfn',_,_,_,_,hval⟩:=hok;have e:fn'=fn:=yci (hfn'.symm.trans hfn);subst e;obtain⟨⟨⟨ds,gs,before,hw,hc⟩,hx⟩,hz⟩:=hpre;have hw':=DataW.Whole.of_heap (w':=w.forCall tape i) (by rfl) hw;refine(contract (w.forCall tape i) w.heap.size i.args ds gs before hval hw' (hz.weights hw) (hX _ _ _ (by rfl) hx) hsh).mono fun e W' ⟨v,he,hp⟩=>?_
 grind [ChangeSpec.post_blind]
variable {w:World}{base:Nat}{spare:Nat->Bool}{held:Bool}{fuel:Nat}{t e:TypeId}{cs:List Value}{ps:List MemPlace}
theorem Ny{α:Type}{g:α->DataW H}{u:α->Value}{l:List α}{n:Nat}(ht:P.underlying t=some (.array n e))(hc:P.cellsOf e=1)(hn:P.cellsOf t=n)
  (h1:∀(m:Nat) (c:List Value) (x:DataW H × List MemPlace) (a:α),DataW.trod enc P w base spare held m e c=some x->x.1=g a->c=[u a])
  (h:DataW.trod enc P w base spare held fuel t cs=some (.agg (l.map g),ps)):cs=l.map u:=by
 obtain⟨xs,m,_,hx,hlen,hxs,hel⟩:=DataW.trod_array ht h;simp only[Prod.mk.injEq,DataW.agg.injEq]at hx;have hl:l.length=n:=by have:=congrArg List.length hx.1;grind
 rw[hn]at hlen;refine List.ext_getElem (by rw[hlen,ybf,hl]) fun i hi1 hi2=>?_;have hi:i<n:=by omega
 have:=hel i hi;rw[hc]at this;have hc1:((cs.drop (i*1)).take 1)=[cs[i]]:=by
  grind [List.drop_eq_getElem_cons]
 rw[hc1,ybd (by omega)]at this;have hxi:xs[i].1=g (l[i]'(by omega)):=by
  have:=congrArg (fun z=>z[i]?) hx.1
  grind
 grind
def Zn(he:P.underlying e=some .string)(m:Nat)(c:List Value)(x:DataW H × List MemPlace)(b:List UInt8)(h:DataW.trod enc P w base spare held m e c=some x)(hx:x.1=.lit (.string b)):c=[.string ⟨b.toArray⟩]:=by
 obtain⟨s,rfl,rfl,_⟩:=DataW.trod_string he h;simp at hx;rw[<- hx]
def zaf(he:P.underlying e=some (.int .i64))(m:Nat)(c:List Value)(x:DataW H × List MemPlace)(n:Int)(h:DataW.trod enc P w base spare held m e c=some x)(hx:x.1=.lit (.int .i64 n)):c=[.int .i64 n]:=by
 obtain⟨k,rfl,rfl,_⟩:=DataW.trod_int he h;simp at hx;rw[hx]
end
theorem joined_of{P:Program}{f:FuncId}{fn:Func}{s:ChangeSpec}{c:OpenClaim}
  (A:(c.wf (OpenSpec.ofChange s)&&laidOutB P&&mapsRowed P&&fn.params.all (P.readableRec ·)&&namedTie P c.named s.vars&&(c.stops == [])&&(P.stops == [])&&(c.knobs == [])&&(P.stopKnobs == []))=true)
  (h1:(c.inPlace == P.inPlace f)=true) (h2:(c.unfollowed == P.unfollowed f)=true) (h3:(c.recurses == P.recurses f)=true) (h4:(c.named == P.varsNamed f)=true)
  (E:((c.maps == (fn.params.toList++s.plain.varTypes P).any (P.mapsRec ·))&&(c.ifaces == (fn.params.toList++s.plain.varTypes P).any (P.ifacesRec ·))&&(c.mapsOut == P.mapsAmong fn.resultTypes.toList) &&
   (c.loops == (fn.params.toList++s.plain.varTypes P).any (P.loopsFrom ·))&&(c.wideKeys == (fn.params.toList++s.plain.varTypes P++fn.resultTypes.toList).any (P.wideKeysFrom ·)) &&
   s.vars.all (P.varReadable ·)&&fn.resultTypes.all (fun t=>P.readableRec t&&decide (t<P.types.size))&&(c.ifacesOut == fn.resultTypes.toList.any (P.ifacesRec ·))&&(c.loopsOut == fn.resultTypes.toList.any (P.loopsFrom ·))&&c.shortTexts.isNone)=true)
  (h5:(c.plainKeys == P.plainKeys)=true) (h6:P.stopsHeard=true) (h7:P.mayEnter=true) (h8:(c.lifted == P.liftsFinal)=true)
  (R:((P.make == some c.make)&&(c.kinds == (if c.domain.isEmpty then []else fn.params.toList.map fun t=>match P.underlying t with | some (.int k)=>some k | _=>none))&&(c.pinned == c.pinnedBy) &&
   (c.veiled == (fn.params.toList++s.plain.varTypes P++fn.resultTypes.toList).any (P.veiledRec ·))&&c.veiledFits P fn.params.toList (fn.params.toList++s.plain.varTypes P++fn.resultTypes.toList))=true) :
  joinedFacts P f fn s c=true:=by
 unfold joinedFacts;simp only[ybb]at A E R ⊢
 grind
end Go.Am
namespace Go.Proofs.YtmmedgeabnpnhaaGreatDoor
open Go Go.Am Go.RowKit Go.ChangeShapes Go.WideShapes Go.ChangeAt
def own:ownKnob Tryz.prog.godebug=none:=by kernel_rfl
def laidOut:laidOutB Tryz.prog=true:=by kernel_rfl
def gPow : Tryz.prog.globalNamed "internal/strconv.uint64pow10" = some 4 := by kernel_rfl
def gLens : Tryz.prog.globalNamed "annuitant/calendar.lengths" = some 2 := by kernel_rfl
def gKinds : Tryz.prog.globalNamed "annuitant/parse.kindWords" = some 0 := by kernel_rfl
def gModes : Tryz.prog.globalNamed "annuitant/parse.modeWords" = some 1 := by kernel_rfl
def tPow:(Tryz.prog.globals[4]?).map (·.type)=some 267:=by kernel_rfl
def tLens:(Tryz.prog.globals[2]?).map (·.type)=some 257:=by kernel_rfl
def tKinds:(Tryz.prog.globals[0]?).map (·.type)=some 194:=by kernel_rfl
def tModes:(Tryz.prog.globals[1]?).map (·.type)=some 194:=by kernel_rfl
def laid6 : List (String × DataW Unit) := [("math/bits.deBruijn32tab", Rows.laid_math_bits_deBruijn32tab), ("math/bits.deBruijn64tab", Rows.laid_math_bits_deBruijn64tab), ("internal/strconv.uint64pow10", Rows.laid_internal_strconv_uint64pow10), ("annuitant/calendar.lengths", Rows.laid_annuitant_calendar_lengths), ("annuitant/parse.kindWords", Rows.laid_annuitant_parse_kindWords), ("annuitant/parse.modeWords", Rows.laid_annuitant_parse_modeWords)]
def door_met(os:Os)(args:Array Value):laidMetH Tryz.prog laid6 ((World.doorLaid Tryz.prog 100 os).forCall (fun _ _=>0) ⟨#[],args,[]⟩).memory:=
 laidMetH_of_parts3 (fuel:=8) (laidMet_of_run' 8 (by kernel_rfl) (by kernel_rfl)) (by kernel_rfl) (by kernel_rfl)
def Iz{W:World}{n:String}{g:Nat}{cs:Array Value}(hg:Tryz.prog.globalNamed n=some g)(hv:W.var? Tryz.prog n=some cs)(hc:∃c t,W.heap[g]?=some (.cells c t (0,0))):∃t,W.heap[g]?=some (.cells cs t (0,0)):=by
 obtain⟨c,t,hc⟩:=hc;unfold World.var? at hv;rw[hg]at hv;simp only[yai,hc,Option.some.injEq]at hv;subst hv;exact⟨t,hc⟩
def Kj{g n:Nat}{p q:List MemPlace}(h:0<n):MemPlace.cell g 0∈MemPlace.row ⟨g,0,none⟩ n++p++q:=
 ydc _ (ydc _ (yaq.2 ⟨0,List.mem_range.2 h,rfl⟩))
def zdr:Rows.laid_internal_strconv_uint64pow10 (H:=Unit)=.agg (zT.map fun n=>.lit (.int .u64 n)):=by kernel_rfl
def UW:Rows.laid_annuitant_calendar_lengths (H:=Unit)=.agg (zO.map fun n=>.lit (.int .i64 n)):=by kernel_rfl
def UX:Rows.laid_annuitant_parse_kindWords (H:=Unit)=.agg (gM.map fun b=>.lit (.string b)):=by kernel_rfl
def UV:Rows.laid_annuitant_parse_modeWords (H:=Unit)=.agg (kM.map fun b=>.lit (.string b)):=by kernel_rfl
def MW{H:Type}{enc:TypeId × Value->H}{P:Program}{w:World}{base:Nat}{spare:Nat->Bool}{held:Bool}{e:TypeId}(he:P.underlying e=some (.int .u64))(m:Nat)(c:List Value)(x:DataW H × List MemPlace)(n:Int)(h:DataW.trod enc P w base spare held m e c=some x)(hx:x.1=.lit (.int .u64 n)):c=[.int .u64 n]:=by
 obtain⟨k,rfl,rfl,_⟩:=DataW.trod_int he h;simp at hx;rw[hx]
def laid_of{W:World}(h:laidMetH Tryz.prog laid6 W)(hsh:W.ShapedOpen Tryz.prog):vH W:=by
 rw[MakeChecks.laidMetH_plain _ _ _ (by kernel_rfl)]at h;obtain⟨ps,⟨_,_,_,_,_,_,_,_,_,_,⟨_,_,_,_,_,_,_,_,_,_,⟨g0,t0,cs0,f0,p0,q0,hg0,ht0,hv0,hd0,⟨g1,t1,cs1,f1,p1,q1,hg1,ht1,hv1,hd1,⟨g2,t2,cs2,f2,p2,q2,hg2,ht2,hv2,hd2,⟨g3,t3,cs3,f3,p3,q3,hg3,ht3,hv3,hd3,_,hp3⟩,hp2⟩,hp1⟩,hp0⟩,hpb⟩,hpa⟩,_,hcell⟩:=h;obtain rfl:=yci (gPow.symm.trans hg0);obtain rfl:=yci (gLens.symm.trans hg1);obtain rfl:=yci (gKinds.symm.trans hg2)
 obtain rfl:=yci (gModes.symm.trans hg3);obtain rfl:=yci (tPow.symm.trans ht0);obtain rfl:=yci (tLens.symm.trans ht1);obtain rfl:=yci (tKinds.symm.trans ht2);obtain rfl:=yci (tModes.symm.trans ht3);have c3:Tryz.prog.cellsOf 3=1:=by kernel_rfl
 have c9:Tryz.prog.cellsOf 9=1:=by kernel_rfl
 have c209:Tryz.prog.cellsOf 209=1:=by kernel_rfl
 have c267:Tryz.prog.cellsOf 267=20:=by kernel_rfl
 have c257:Tryz.prog.cellsOf 257=12:=by kernel_rfl
 have c194:Tryz.prog.cellsOf 194=7:=by kernel_rfl
 rw[zdr]at hd0;rw[UW]at hd1;rw[UX]at hd2;rw[UV]at hd3;have e0:cs0.toList=u64s zT:=Ny (l:=zT) (g:=fun n=>.lit (.int .u64 n)) (u:=fun n=>.int .u64 n) Tryz.underlying267 c209 c267 (fun m c x a=>MW Tryz.underlying209 m c x a) hd0;have e1:cs1.toList=pX zO:=Ny (l:=zO) (g:=fun n=>.lit (.int .i64 n)) (u:=fun n=>.int .i64 n) Tryz.underlying257 c3 c257 (fun m c x a=>zaf Tryz.underlying3 m c x a) hd1
 have e2:cs2.toList=qL gM:=Ny (l:=gM) (g:=fun b=>.lit (.string b)) (u:=fun b=>.string ⟨b.toArray⟩) Tryz.underlying194 c9 c194 (fun m c x a=>Zn Tryz.underlying9 m c x a) hd2;have e3:cs3.toList=qL kM:=Ny (l:=kM) (g:=fun b=>.lit (.string b)) (u:=fun b=>.string ⟨b.toArray⟩) Tryz.underlying194 c9 c194 (fun m c x a=>Zn Tryz.underlying9 m c x a) hd3;have s0:cs0=(u64s zT).toArray:=by rw[<- e0]
 have s1:cs1=(pX zO).toArray:=by rw[<- e1]
 have s2:cs2=(qL gM).toArray:=by rw[<- e2]
 have s3:cs3=(qL kM).toArray:=by rw[<- e3]
 subst s0 s1 s2 s3;have m0:MemPlace.cell 4 0∈ps:=by
  rw[hpa,hpb,hp0];exact ycf _ (ycf _ (Kj (by decide)))
 have m1:MemPlace.cell 2 0∈ps:=by
  rw[hpa,hpb,hp0,hp1];exact ycf _ (ycf _ (ycf _ (Kj (by decide))))
 have m2:MemPlace.cell 0 0∈ps:=by
  rw[hpa,hpb,hp0,hp1,hp2];exact ycf _ (ycf _ (ycf _ (ycf _ (Kj (by decide)))))
 have m3:MemPlace.cell 1 0∈ps:=by
  rw[hpa,hpb,hp0,hp1,hp2,hp3];exact ycf _ (ycf _ (ycf _ (ycf _ (ycf _ (Kj (by decide))))))
 exact⟨Iz hg2 hv2 (hcell 0 0 m2).1,Iz hg3 hv3 (hcell 1 0 m3).1,Iz hg1 hv1 (hcell 2 0 m1).1,Tryz.laysM144.s1_3 W hsh,Iz hg0 hv0 (hcell 4 0 m0).1⟩
def stopsHeard:Tryz.prog.stopsHeard=true:=by kernel_rfl
def mayEnter:Tryz.prog.mayEnter=true:=by kernel_rfl
def bool4:Tryz.prog.underlying 4=some .bool:=Tryz.underlying4
def api23:Oi Tryz.prog:={
 b:=4,i:=3,u8:=5,u16:=72,s:=9,limbs:=30,whole:=32,frac:=34,val:=36,expr:=39,exprs:=37,row:=53,rows:=48,table:=50,tables:=23,dfn:=47,dfns:=22,clause:=55,clauses:=24,plan:=26,
 hb:=Tryz.underlying4,hi:=Tryz.underlying3,hu8:=Tryz.underlying5,hu16:=Tryz.underlying72,hs:=Tryz.underlying9,hlimbs:=Tryz.underlying30,hexprs:=Tryz.underlying37,hrows:=Tryz.underlying48,htables:=Tryz.underlying23,hdfns:=Tryz.underlying22,hclauses:=Tryz.underlying24,
 hwhole:=⟨_,Tryz.underlying32,rfl⟩,hfrac:=⟨_,Tryz.underlying34,rfl⟩,hval:=⟨_,Tryz.underlying36,rfl⟩,hexpr:=⟨_,Tryz.underlying39,rfl⟩,hrow:=⟨_,Tryz.underlying53,rfl⟩,htable:=⟨_,Tryz.underlying50,rfl⟩,hdfn:=⟨_,Tryz.underlying47,rfl⟩,hclause:=⟨_,Tryz.underlying55,rfl⟩,hplan:=⟨_,Tryz.underlying26,rfl⟩,
 cu16:=by kernel_rfl,cexpr:=by kernel_rfl,crow:=by kernel_rfl,ctable:=by kernel_rfl,cdfn:=by kernel_rfl,cclause:=by kernel_rfl,
 bytes:=⟨of_decide_eq_true (by kernel_rfl),of_decide_eq_true (by kernel_rfl),of_decide_eq_true (by kernel_rfl),of_decide_eq_true (by kernel_rfl),of_decide_eq_true (by kernel_rfl),of_decide_eq_true (by kernel_rfl)⟩ }
def Kv:List Nat:=[4,3,5,72,9,30,32,34,36,39,37,53,48,50,23,47,22,55,24,26]
def partB(t:TypeId):Bool:=match Tryz.prog.underlying t with
 | some .bool=>true
 | some (.int _)=>true
 | some .string=>true
 | some (.slice e)=>Kv.contains e&&Nat.blt 0 (Tryz.prog.cellsOf e)
 | some (.struct fs)=>fs.toList.all (fun f=>Kv.contains f.type)&&Br Tryz.prog 0 fs.toList (Tryz.prog.cellsOf t)
 | _=>false
def SL:Kv.all partB=true:=by kernel_rfl
def zdb:Plain Tryz.prog (fun t=>t∈Kv):=⟨fun t ht=>by
 have h:=ycb.1 SL t ht;unfold partB at h
 cases hu:Tryz.prog.underlying t with
 | none=>simp_all
 | some d=>
  rw[hu]at h
  cases d with
  | bool=>trivial
  | int k=>trivial
  | string=>trivial
  | slice e=>
   simp_all
  | struct fs=>
   grind
  | _=>cases h⟩
def open_expr{H:Type}{enc:TypeId × Value->H}{W:World}{base:Nat}{v:Value}{d:DataW H}{ps:List MemPlace}(hL:vH W)(hok:Value.okWide Tryz.prog W .any base 39 v)(h:DataW.Trod enc Tryz.prog W 0 (fun _=>true) true 39 v d ps)(hw:(DataW.weights Tryz.prog 39 d).all (· <= reachBytes)=true) :
  ∃(cs:Array Value) (p:pA),v=.agg cs/\p.fit/\Has W.heap.size cs.toList/\RD (pH W) p.d (cs.toList.map (av W.heap.size)):=by
 obtain⟨cs,rfl,_,_⟩:∃cs,v=.agg cs/\cs.size=Tryz.prog.cellsOf 39/\Row.okWide Tryz.prog W .any base 39 cs:=by
  grind [Value.okWide,Tryz.underlying39]
 obtain⟨fuel,h⟩:=h;obtain⟨c,n,lo,hc,_⟩:=@zan W hL ⟨0⟩;obtain⟨h1,x,h2,h3⟩:=zda zdb ⟨c,n,lo,hc⟩ fuel 39 cs.toList (d,ps) (by decide) h hw;obtain⟨p,rfl,hp⟩:=api23.dExpr _ _ h3
 grind
end Go.Proofs.YtmmedgeabnpnhaaGreatDoor
namespace Go.Proofs
open Go Go.Am
variable [sC]
variable {t tf:Tr sA}
def rl27:sN yA 30 72 1:=⟨⟨_,gS,rfl,rfl⟩,⟨_,rL,rfl,rfl,by decide,by decide⟩,fun y h=>by rw[rL]at h;cases h;rfl⟩
theorem tm65(x:Nat):Int.tmod (x:Int) 65536=((x%65536:Nat):Int):=by
 grind
theorem td65(x:Nat):Int.tdiv (x:Int) 65536=((x / 65536:Nat):Int):=by
 simp_all
theorem Ow(B:Nat)(a:List Nat)(i:Nat):val B (a.take (i+1))=val B (a.take i)+B^i*(a[i]?.getD 0):=by
 cases h:a[i]? with
 | none=>
  grind [List.take_of_length_le]
 | some x=>
  have:=(ybc.1 h).1;rw[zR h,pJ,yda,Nat.min_eq_left (by omega)];rfl
theorem DF{B:Nat}{r:List Nat}(hB:0<B)(hr:yB B r)(h:r≠[]->B^(r.length-1)<=val B r):norm r:=by
 intro hne h0;obtain⟨m,x,rfl⟩:=eZ hne;have hx:x=0:=by simp_all
 subst hx;have h1:=h hne;rw[pJ,yat,yct]at h1;have h2:=oJ hB (l:=m) fun y hy=>hr y (ydc _ hy)
 grind
theorem QB:∀(n:Nat) (l:List Nat) (v:zA),l.length=n->n<1125899906842624->mA t 1 (cA .u16 l) v->∃v',jp 203 2 [v,.int .i64 (n:Nat)] t (fun u m=>u=v'/\m=t)/\mA t 1 (cA .u16 (rD l)) v':=by
 have key:∀(n:Nat) (l:List Nat) (v:zA),n<=l.length->l.length<1125899906842624->mA t 1 (cA .u16 l) v->∃v',jp 203 2 [v,.int .i64 (n:Nat)] t (fun u m=>u=v'/\m=t)/\mA t 1 (cA .u16 (rD (l.take n))) v':=by
  intro n;induction n with
  | zero=>
   intro l v hn hl hv;obtain⟨u,g3,g4⟩:=yF.front yH hv (k:=0) (by omega);rw[Nh]at g4;refine⟨u,Ui ?_,g4⟩;unfold Js uH uZ uW;exact dA (fun e=>by grind [xC]) (gC g3 ⟨rfl,rfl⟩)
  | succ n ih=>
   intro l v hn hl hv;obtain⟨x,hx⟩:=getElem?_of_lt (l:=l) (i:=n) (by omega);obtain⟨b,off,g1,g2⟩:=hv.idx yH hx;have e1:rA .i64 (((n+1:Nat):Int)-1)=(n:Int):=by grind [wrap_i64]
   have ht:l.take (n+1)=l.take n++[x]:=zR hx;by_cases hx0:x=0
   ·subst hx0;obtain⟨w,h1,h2⟩:=ih l v (by omega) hl hv;refine⟨w,Ui ?_,by grind [Ju]⟩;unfold Js uH uZ uW;grind [fA,xC,lA,gC,qB,gE,qC]
   ·obtain⟨u,g3,g4⟩:=yF.front yH hv (k:=n+1) (by rw[bC];omega);rw[Nh]at g4;refine⟨u,Ui ?_,?_⟩
    ·unfold Js uH uZ uW;rw[e1];exact fA (xC.2 (by omega)) (lA g1 (gC g2 (qB (dA (fun e=>by grind [gE]) (gC g3 ⟨rfl,rfl⟩)))))
    ·rw[wZ]
     ·exact g4
     ·rw[ht];intro _;simp_all
 intro n l v hl hn hv;have:=key n l v (by omega) (by omega) hv
 rwa [yca (by omega)]at this
def Ki{l:List Nat}{v:zA}(hl:l.length<1125899906842624)(hv:mA t 1 (cA .u16 l) v):∃v',lB yA F 203 [v] t=some v'/\mA t 1 (cA .u16 (rD l)) v':=by
 obtain⟨v',h1,h2⟩:=QB _ l v rfl hl hv;refine⟨v',bB.2 (w203 ?_),h2⟩;unfold t203 uI uZ;exact lA (by rw[hv.len,bC]) (qB (qC h1))
theorem za6:∀(a b:List Nat) (x y:Nat),a.length=b.length->cG.go (a++[x]) (b++[y])=if x<y then -1 else if y<x then 1 else cG.go a b:=by
 intro a;induction a with
 | nil=>
  grind [cG.go]
 | cons p a ih=>
  intro b x y h
  cases b with
  | nil=>simp at h
  | cons q b=>
   grind [cG.go]
theorem QN{a b:List Nat}{u v:zA}(hu:mA t 1 (cA .u16 a) u)(hv:mA t 1 (cA .u16 b) v)(hl:a.length=b.length):∀(n:Nat),n<=a.length->n<1125899906842624->jp 255 2 [u,v,.int .i64 ((n:Int)-1)] t (fun w m=>w=.bool (decide (cG.go (a.take n) (b.take n)<0))/\m=t):=by
 intro n;induction n with
 | zero=>
  intro _ _;refine zb1 ?_;unfold Qg uH zB uZ uW;refine dA (fun e=>by grind [pD]) ⟨?_,rfl⟩;simp[cG.go]
 | succ n ih=>
  intro hn hn2;obtain⟨x,hx⟩:=getElem?_of_lt (l:=a) (i:=n) (by omega);obtain⟨y,hy⟩:=getElem?_of_lt (l:=b) (i:=n) (by omega);obtain⟨c,off,g1,g2⟩:=hu.idx yH hx;obtain⟨d,off',g3,g4⟩:=hv.idx yH hy;have e1:(((n+1:Nat):Int)-1)=(n:Int):=by omega
  have e2:cG.go (a.take (n+1)) (b.take (n+1))=if x<y then -1 else if y<x then 1 else cG.go (a.take n) (b.take n):=by
   simp_all [zR,za6]
  rw[e1,e2];refine zb1 ?_;unfold Qg uH zB uZ uW;refine fA (pD.2 (by omega)) (lA g1 (gC g2 (qB (lA g3 (gC g4 (qB ?_))))));by_cases c0:x=y
  ·subst c0
   grind [dA,gE,qC,wrap_i64]
  ·refine fA (uQ.2 (by omega)) (lA g1 (gC g2 (qB (lA g3 (gC g4 (qB ⟨?_,rfl⟩))))))
   grind [Cu,decide_eq_false]
theorem Sc{a b:List Nat}{u v:zA}(ha:a.length<1125899906842624)(hu:mA t 1 (cA .u16 a) u)(hv:mA t 1 (cA .u16 b) v):lB yA F 255 [u,v] t=some (.bool (decide (cG a b<0))):=by
 refine bB.2 (w255 ?_);unfold t255 uI uZ uW;have h1:vB u=some (.int .i64 (a.length:Int)):=by rw[hu.len,bC]
 have h2:vB v=some (.int .i64 (b.length:Int)):=by rw[hv.len,bC]
 refine lA h1 (qB (lA h2 (qB ?_)));unfold cG;by_cases hl:a.length=b.length
 ·refine dA (by grind [gE]) (lA h1 (qB (qC ?_)));rw[yaa (by omega),wrap_i64 (by omega) (by omega)];have:=QN hu hv hl a.length (ybk _) ha
  rwa [List.take_length,hl,List.take_length,<- hl]at this
 ·refine fA (uQ.2 (by omega)) (lA h1 (qB (lA h2 (qB ⟨?_,rfl⟩))))
  grind [Cu,decide_eq_false]
theorem Sl{W J:oH}{l:List Nat}{x:Nat}{v:zA}{K:zA->T}{Q:dB}(hv:pY yA.base tf t 1 (cA .u16 l) v)(ht:bA tf t)(hl:l.length<300000)
  (hK:∀t' v',pY yA.base tf t' 1 (cA .u16 (l++[x])) v'->bA tf t'->qA yA.base W J (K v') t' Q) :
  qA yA.base W J (.heavy (bE yA 30 1 [(0,.int .u16 (x:Int))]) fun a0=>.heavy (nF yA 30 30 v a0) K) t Q:=by
 refine eI fun b hb _=>?_;obtain⟨H1,e1,e2,e3⟩:=fZ (k:=.u16) gS rfl rL rfl rfl x trivial hb;refine⟨_,_,e1,eI fun b2 hb2 hbase2=>?_⟩;have hne:∀b',dM v b'->H1.t.get b'=t.get b':=fun b' h=>by
  obtain⟨_,_,y,hy⟩:=hv.none h;rw[e3 _ _ hy,hy]
 have hv':=hv.keep' hne;have hx:mA H1.t 1 (cA .u16 [x]) (.slice b 0 1 1):=e2.all (cap:=1) (ybk _);have hcd:∀z,yA.tys.get 72=some z->cJ 72 z=.sz 1:=fun z h=>by
  rw[rl27.nb.code h];grind [rL]
 obtain⟨t',a1,a2,a3,a4⟩:=Wg ⟨rl27.ty,rl27.el⟩ hcd hv' hx (by simp) (by grind) hb2 hbase2 (ht.trans e3)
 grind
section
variable {a b:List Nat}{u v:zA}{Q:dB}
theorem SH(hu:mA t 1 (cA .u16 a) u)(hv:mA t 1 (cA .u16 b) v)(ha:yB 65536 a)(hb:yB 65536 b)(hla:a.length<200000)(hlb:b.length<200000)
  (hQ:∀t' v' r,bA t t'->mA t' 1 (cA .u16 r) v'->yB 65536 r->val 65536 r=val 65536 a+val 65536 b->(norm a->norm b->norm r)->Q v' t') :
  ∀(k i n:Nat) (t':Tr sA) (P:List Nat) (w:zA),i+k=max a.length b.length+1->bA t t'->pY yA.base t t' 1 (cA .u16 P) w->P.length=i->yB 65536 P->n<=1->(i=max a.length b.length+1->n=0/\65536^max a.length b.length<=val 65536 a+val 65536 b) →
   val 65536 P+65536^i*n=val 65536 (a.take i)+val 65536 (b.take i)->jp 201 2 [u,v,w,.int .i64 (n:Int),.int .i64 (i:Int)] t' Q:=by
 intro k;induction k with
 | zero=>
  intro i n t' P w hi ht hw hP hPl hn hend hval;obtain⟨h0,hge⟩:=hend (by omega);subst h0;refine zcb ?_;unfold Qs uQ7 uI uH uZ uW;refine lA (by rw[hu.len,bC]) (qB (dA (fun e=>by grind [xC]) (lA (by rw[hv.len,bC]) (qB (dA (fun e=>by grind [xC]) (dA (fun e=>by grind [xC]) ?_))))));rw[yca (by omega),yca (by omega),yat,yct]at hval;refine hQ t' w P ht (hw.read ht) hPl hval fun _ _=>DF (by omega) hPl fun _=>?_
  simp_all
 | succ k ih=>
  intro i n t' P w hi ht hw hP hPl hn _ hval;have hu':=hu.mono ht;have hv':=hv.mono ht;have l1:vB u=some (.int .i64 (a.length:Int)):=by rw[hu.len,bC]
  have l2:vB v=some (.int .i64 (b.length:Int)):=by rw[hv.len,bC]
  have hxl:a[i]?.getD 0<65536:=by
   cases h:a[i]? with
   | none=>simp
   | some x=>exact wH ha h
  have hyl:b[i]?.getD 0<65536:=by
   cases h:b[i]? with
   | none=>simp
   | some x=>exact wH hb h
  have uF:(i=max a.length b.length->n=1)->∀s:Nat,s=n+a[i]?.getD 0+b[i]?.getD 0->jp 201 21 [u,v,w,.int .i64 (s:Int),.int .i64 (i:Int)] t' Q:=by
   intro hmax s hs;refine zd1 ?_;unfold Zf yC uZ uW;rw[tm65,td65,fY (by omega) (by omega)];refine Sl hw ht (by omega) fun t2 w2 h1 h2=>qC ?_;rw[wrap_i64 (by omega) (by omega),wrap_i64 (by omega) (by omega),show(i:Int)+1=((i+1:Nat):Int) by omega];have hv2:val 65536 (P++[s%65536])+65536^(i+1)*(s / 65536)=val 65536 (a.take (i+1))+val 65536 (b.take (i+1)):=by
    grind [pJ,Ow,Nat.mod_add_div]
   refine ih (i+1) (s / 65536) t2 _ w2 (by omega) h2 h1 (by simp;omega) (gQ hPl (by omega)) (by omega) (fun hE=>?_) hv2;have hiM:i=max a.length b.length:=by omega
   have h0:a[i]?.getD 0=0:=by rw[List.getElem?_eq_none (by omega)];rfl
   have h0':b[i]?.getD 0=0:=by rw[List.getElem?_eq_none (by omega)];rfl
   have hn1:=hmax hiM;refine⟨by omega,?_⟩;rw[yca (by omega),yca (by omega)]at hval
   grind
  have mid:(i=max a.length b.length->n=1)->jp 201 17 [u,v,w,.int .i64 ((n+a[i]?.getD 0:Nat):Int),.int .i64 (i:Int)] t' Q:=by
   intro hmax;refine zd2 ?_;unfold Zg uI uH uZ uW;by_cases h2:i<b.length
   ·obtain⟨y,hy⟩:=getElem?_of_lt h2;obtain⟨c,off,g1,g2⟩:=hv'.idx yH hy;have hy':b[i]?.getD 0=y:=by grind
    refine lA l2 (qB (fA (xC.2 (by omega)) (lA g1 (gC g2 (qB (qC ?_))))));rw[wrap_i64 (n:=(y:Int)) (by omega) (by omega),wrap_i64 (by omega) (by omega)]
    simp_all
   grind [lA,qB,dA,xC,qC]
  have low:¬ i<a.length->a[i]?.getD 0=0:=fun h=>by simp_all
  refine zcb ?_;unfold Qs uQ7 uI uH uZ uW;refine lA l1 (qB ?_);by_cases h1:i<a.length
  ·obtain⟨x,hx⟩:=getElem?_of_lt h1;obtain⟨c,off,g1,g2⟩:=hu'.idx yH hx;have hx':a[i]?.getD 0=x:=by grind
   refine fA (xC.2 (by omega)) (lA l1 (qB (fA (xC.2 (by omega)) (lA g1 (gC g2 (qB (qC ?_)))))));rw[wrap_i64 (n:=(x:Int)) (by omega) (by omega),wrap_i64 (by omega) (by omega)];have:=mid (by omega)
   simp_all
  ·refine dA (fun e=>by grind [xC]) (lA l2 (qB ?_));by_cases h2:i<b.length
   ·refine fA (xC.2 (by omega)) (lA l1 (qB (dA (fun e=>by grind [xC]) (qC ?_))));have:=mid (by omega)
    rwa [low h1]at this
   ·refine dA (fun e=>by grind [xC]) ?_;by_cases h3:0<n
    ·refine fA (xC.2 (by omega)) (lA l1 (qB (dA (fun e=>by grind [xC]) (qC ?_))));have:=mid (by omega)
     rwa [low h1]at this
    ·refine dA (fun e=>by grind [xC]) ?_;have hn0:n=0:=by omega
     subst hn0;rw[yca (by omega),yca (by omega),yat,yct]at hval;refine hQ t' w P ht (hw.read ht) hPl hval fun na nb=>DF (by omega) hPl fun hne=>?_;have hi0:0<i:=by
      grind
     rw[hP,hval];rcases yau a.length b.length with e | e
     ·have:=Bk (B:=65536) nb (fun e2=>by simp_all)
      grind
     ·have:=Bk (B:=65536) na (fun e2=>by grind);rw[show i-1=a.length-1 by omega];omega
def Ku(hu:mA t 1 (cA .u16 a) u)(hv:mA t 1 (cA .u16 b) v)(ha:yB 65536 a)(hb:yB 65536 b)(hla:a.length<200000)(hlb:b.length<200000)
  (hQ:∀t' v' r,bA t t'->mA t' 1 (cA .u16 r) v'->yB 65536 r->val 65536 r=val 65536 a+val 65536 b->(norm a->norm b->norm r)->Q v' t'):Wc yA F 201 [u,v] t Q:=by
 refine w201 ?_;unfold t201 uZ;exact qC (SH hu hv ha hb hla hlb hQ (max a.length b.length+1) 0 0 t [] .nilslice (by omega) (bA.refl _) Ha rfl (fun x hx=>by cases hx) (by omega) (by omega) (by simp[val]))
end
end Go.Proofs
