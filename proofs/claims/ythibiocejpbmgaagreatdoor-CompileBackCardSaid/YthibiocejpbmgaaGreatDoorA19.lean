/- calendar.Text: ten bytes for each day. -/
import Derived.Test.YthibiocejpbmgaaGreatDoorA18
set_option linter.all false
noncomputable section
set_option maxRecDepth 100000
namespace Go.Proofs
open Go Go.Am
variable {b from_ i k:Nat}{d:Int}{l:List Nat}
variable [tC]
variable {t:Tr qA}
def Dz:List Int:=[31,28,31,30,31,30,31,31,30,31,30,31]
def wN(t:Tr qA):Prop:=At t 4 0 (Dz.map fun n=>zA.int .i64 n)
theorem wN.mono{t':Tr qA}(h:wN t)(k:iA t t'):wN t':=At.mono k h
def QP(x:Int) (hk:0<k) : -(k:Int)<Int.tmod x k/\Int.tmod x k<k:=by
 have h:=Int.natAbs_tmod x k;have h2:=ycy x.natAbs (show 0<(k:Int).natAbs by omega);omega
def Qz(y:Int):Bool:=decide (Int.tmod y 4=0)&&(!decide (Int.tmod y 100=0)||decide (Int.tmod y 400=0))
def lenD (y m:Int):Int:=if m<1 then 0 else if 12<m then 0 else if m=2/\Qz y=true then 29 else Dz.getD (m-1).toNat 0
def Xm(y:Int):Int:=dA .i64 ((dA .i64 ((dA .i64 (Int.tdiv y 4))-(dA .i64 (Int.tdiv y 100))))+(dA .i64 (Int.tdiv y 400)))
def Ou(v0 v3:Int):Nat->Int->Int->Int
 | 0,_,v4=>v4
 | k+1,v5,v4=>if v5<=Int.tmod v0 12 then Ou v0 v3 k (v5+1) (dA .i64 (v4+lenD v3 v5))else v4
def Gh(m:Int):Int:=Ou m (dA .i64 (1900+(dA .i64 (Int.tdiv m 12)))) 11 1 (dA .i64 ((dA .i64 ((dA .i64 (365*(dA .i64 ((dA .i64 (1900+(dA .i64 (Int.tdiv m 12))))-1900))))+Xm (dA .i64 ((dA .i64 (1900+(dA .i64 (Int.tdiv m 12))))-1))))-Xm 1899))
def Km(P:Int->Bool):Nat->Nat->Nat->Int
 | 0,i,_=>(i:Int)
 | k+1,i,j=>if i<j then(if P (((i+j) / 2:Nat):Int)=true then Km P k i ((i+j) / 2)else Km P k ((i+j) / 2+1) j)else(i:Int)
theorem zh9(y:Int):iB yA F 258 [.int .i64 y] t=some (.bool (Qz y)):=by
 refine pC.2 (w258 ?_);unfold t258 Qz bA tF;grind [tA,sO]
theorem len_at(hG:wN t){m:Int}(h1:1<=m)(h2:m<=12):∃b o,aA yA 298 (.ptr 4 0) (.int .i64 (dA .i64 (m-1)))=some (.ptr b o)/\mA yA 3 ⟨0,t⟩ (.ptr b o)=some (.int .i64 (Dz.getD (m-1).toNat 0)):=by
 obtain⟨k,rfl⟩:∃k:Nat,m=(k:Int)+1:=⟨(m-1).toNat,by omega⟩;have hk:k<12:=by omega
 have e0:((k:Int)+1-1).toNat=k:=by omega
 rw[wrap_i64 (by omega) (by omega),e0,show(k:Int)+1-1=(k:Int) by omega];have hx:(Dz.map fun n=>zA.int .i64 n)[k]?=some (.int .i64 (Dz.getD k 0)):=by
  have:k<Dz.length:=hk
  simp_all
 refine⟨4,0+k,?_,hG.load1 zI rfl hx⟩;unfold aA;rw[ty298,uA];have e:(zA.int .i64 (k:Int)).asNat=some k:=rfl;rw[e,uA];grind [zA.asSlice,zA.asPtr,uA,fD.asArr,zI,sC,mD]
def VH(hG:wN t)(y m:Int):iB yA F 238 [.int .i64 y,.int .i64 m] t=some (.int .i64 (lenD y m)):=by
 refine pC.2 (w238 ?_);unfold t238 lenD uQ18 uI uB uZ uW;by_cases h1:m<1
 ·rw[yab h1];exact iC (jM h1) ⟨rfl,rfl⟩
 rw[yaa h1];refine bC (rM h1) ?_;by_cases h2:12<m
 ·rw[yab h2];exact iC (jM h2) ⟨rfl,rfl⟩
 rw[yaa h2];refine bC (rM h2) ?_;obtain⟨b,o,g1,g2⟩:=len_at hG (m:=m) (by omega) (by omega);by_cases h3:m=2
 ·refine iC (tP h3) (uD ?_);rw[q258,zh9,xA];refine mI ?_
  cases hl:Qz y with
  | true=>rw[yab ⟨h3,rfl⟩];exact iC rfl ⟨rfl,rfl⟩
  | false=>rw[yaa (by simp)];exact bC (by simp) (lB g1 (mF g2 (xE ⟨rfl,rfl⟩)))
 ·rw[yaa (by simp[h3])];exact bC (yL h3) (lB g1 (mF g2 (xE ⟨rfl,rfl⟩)))
theorem RL(hG:wN t)(v0 v3:Int):∀(k:Nat) (v5 v4:Int),v5+k=12->1<=v5->jp 208 2 [.int .i64 v0,.int .i64 v3,.int .i64 v4,.int .i64 v5] t (fun v t'=>v=.int .i64 (Ou v0 v3 k v5 v4)/\t'=t):=by
 have hb:=QP v0 (k:=12) (by omega);rw[show((12:Nat):Int)=12 from rfl]at hb
 intro k;induction k with
 | zero=>
  intro v5 v4 h1 h2;exact Xw (bC (nLe (by omega)) ⟨rfl,rfl⟩)
 | succ k ih=>
  intro v5 v4 h1 h2;unfold Ou;by_cases h3:v5<=Int.tmod v0 12
  ·rw[yab h3];refine Xw (iC (yLe h3) (uD ?_));rw[q238,VH hG,xA];refine xE (sJ ?_)
   grind [wrap_i64]
  ·rw[yaa h3];exact Xw (bC (nLe h3) ⟨rfl,rfl⟩)
def HI(y:Int):iB yA F 237 [.int .i64 y] t=some (.int .i64 (Xm y)):=pC.2 (w237 ⟨rfl,rfl⟩)
def Ot(hG:wN t)(m:Int):iB yA F 208 [.int .i64 m] t=some (.int .i64 (Gh m)):=by
 refine pC.2 (w208 (uD ?_));rw[q237,HI,xA];refine xE (uD ?_);rw[q237,HI,xA];exact xE (sJ (RL hG m _ 11 1 _ (by omega) (by omega)))
theorem SM{v1:zA}{P:Int->Bool}(hcall:∀n:Int,∀(R:xC),R (.bool (P n)) t->nE (oM v1 [.int .i64 n]) fun p=>Wq yA F iG p.1 p.2 t R) :
  ∀(k i j:Nat),j-i<=k->j<=100000->jp 235 2 [v1,.int .i64 (i:Int),.int .i64 (j:Int)] t (fun v t'=>v=.int .i64 (Km P k i j)/\t'=t):=by
 intro k;induction k with
 | zero=>
  intro i j h1 h2;exact Xu (bC (rM (by omega)) ⟨rfl,rfl⟩)
 | succ k ih=>
  intro i j h1 h2;unfold Km;by_cases h3:i<j
  ·have e1:dA .i64 (Int.fdiv (dA .u64 (dA .i64 ((i:Int)+(j:Int)))) 2)=(((i+j) / 2:Nat):Int):=by
    grind [wrap_i64,nG]
   rw[yab h3];refine Xu (iC (jM (by omega)) ?_);show nE _ _;unfold uZ uW;rw[e1];refine hcall _ _ (mI ?_)
   cases hP:P (((i+j) / 2:Nat):Int)with
   | false=>
    rw[yaa (by simp)];refine iC rfl (sJ ?_);rw[wrap_i64 (by omega) (by omega),show(((i+j) / 2:Nat):Int)+1=(((i+j) / 2+1:Nat):Int) by omega];exact ih _ _ (by omega) h2
   | true=>
    rw[yab rfl];exact bC (by simp) (sJ (ih _ _ (by omega) (by omega)))
  ·rw[yaa h3];exact Xu (bC (rM (by omega)) ⟨rfl,rfl⟩)
def tS(d:Int):Int:=Km (fun n=>jB d (Gh (dA .i64 (n+1)))) 2154 0 2154
def VG(hG:wN t)(d:Int):iB yA F 207 [.int .i64 d] t=some (.int .i64 (tS d)):=by
 refine jQ (w207 ?_);unfold t207 uI uZ;refine oQ fun b hb hbase=>?_;obtain⟨t',e,hc,hle,_⟩:=nY hb [.int .i64 d] none;refine⟨.ptr b 0,⟨b+1,t'⟩,by show some (zA.ptr b 0,lF ⟨b,t⟩ [.int .i64 d] none)=_;rw[e],uD ?_⟩;have hld:mA yA 3 ⟨0,t'⟩ (.ptr b 0)=some (.int .i64 d):=hc.load1 (j:=0) zI rfl rfl;have:iB yA F 235 [.int .i64 2154,.func (.func 236) [] [.ptr b 0]] t'=some (.int .i64 (tS d)):=by
  refine pC.2 (w235 (sJ ?_));refine SM (fun n R hR=>?_) 2154 0 2154 (by omega) (by omega);show nE (some (236,[zA.int .i64 n,.ptr b 0])) _;rw[xA];simp only[];have:iB yA F 236 [zA.int .i64 n,.ptr b 0] t'=some (.bool (jB d (Gh (dA .i64 (n+1))))):=by
   refine pC.2 (w236 (mF hld (xE (uD ?_))));unfold kB;rw[q208,Ot (hG.mono hle),xA];exact xE (mF hld (iC xS ⟨rfl,rfl⟩))
  rw[q236,this,xA];exact hR
 rw[q235];exact Wc_pv this (xE ⟨rfl,hle⟩)
def ymdD (d:Int):zA:=.tup [.int .i64 (dA .i64 (1900+(dA .i64 (Int.tdiv (tS d) 12)))),.int .i64 (dA .i64 ((Int.tmod (tS d) 12)+1)),.int .i64 (dA .i64 ((dA .i64 (d-Gh (tS d)))+1)),.int .i64 0]
def ymd_ok(hG:wN t) (h0:0<=d)(h1:d<65536):iB yA F 177 [.int .i64 d] t=some (ymdD d):=by
 have hd:iB yA F 206 [.int .i64 d] t=some (.bool true):=by
  refine pC.2 (w206 (iC (yLe h0) ?_));rw[jM h1];exact⟨rfl,rfl⟩
 refine pC.2 (w177 (uD ?_));rw[q206,hd,xA];refine mI (bC (by simp) (uD ?_));rw[q207,VG hG,xA];refine xE (uD ?_);rw[q208,Ot hG,xA];exact xE ⟨rfl,rfl⟩
def cB (l:List Nat):List zA:=l.map fun(n:Nat)=>zA.int .u8 (n:Int)
theorem ten (h:l.length=10):∃a b c d e f g h i j,l=[a,b,c,d,e,f,g,h,i,j]:=by
 match l,h with
 | [a,b,c,d,e,f,g,h,i,j],_=>simp_all
theorem Ik  : (cB l).length=l.length:=by simp[cB]
def cB_set {x:Nat}:(cB l).set i (.int .u8 (x:Int))=cB (l.set i x):=by simp[cB,List.map_set]
theorem idx164 (h:i<10):aA yA 237 (.ptr b 0) (.int .i64 (i:Int))=some (.ptr b i):=by
 unfold aA;rw[Jt,uA];have e:(zA.int .i64 (i:Int)).asNat=some i:=rfl;rw[e,uA];grind [zA.asSlice,zA.asPtr,uA,fD.asArr,pP,sC,mD]
def Sk  (h:kC t b none (cB l))(hl:l.length=10):mA yA 237 ⟨0,t⟩ (.ptr b 0)=some (.agg (cB l)):=by
 have:=h.at.load (C:=yA) (ty:=237) Jt rfl (n:=10) rfl (j:=0) (by rw[Ik];omega);rw[ybw]at this;rw[this];congr 2;rw[ycr,yca (by rw[Ik];omega)]
theorem MU {m:List Nat}(h:kC t b none (cB l))(hb:yA.base<=b)(hl:l.length=10)(hm:m.length=10):∃t',(∀n,cC yA 237 (.ptr b 0) (.agg (cB m)) ⟨n,t⟩=some (kD,⟨n,t'⟩))/\kC t' b none (cB m)/\aC b t t':=by
 obtain⟨t',h1,h2,h3⟩:=h.store (C:=yA) hb (T:=237) (v:=.agg (cB m)) (j:=0) Jt (by show(cB m).length=10;rw[Ik,hm]) (by show 0+(cB m).length<=_;grind [Ik]) (by
  show zD zA.one (cB m)=true;rw[cE,ycb];intro a ha;unfold cB at ha;obtain⟨n,_,rfl⟩:=yaq.1 ha;rfl)
 refine⟨t',h1,?_,h3⟩;have e:gK (cB l) 0 (zA.agg (cB m)).cells=cB m:=by
  show gK (cB l) 0 (cB m)=cB m;unfold gK;rw[List.take_zero,yah,ybt (by grind [Ik]),ycd]
 simp_all
abbrev z10:List zA:=[.int .u8 0,.int .u8 0,.int .u8 0,.int .u8 0,.int .u8 0,.int .u8 0,.int .u8 0,.int .u8 0,.int .u8 0,.int .u8 0]
def Mr (hl:l.length=10):gG z10 (.agg (cB l))=some (cellsOf (cB l)):=by
 obtain⟨a,b,c,d,e,f,g,h,i,j,rfl⟩:=ten hl;exact kN rfl
def Zm (hl:l.length=10):[zA.int .u8 ((cellsOf (cB l)).i 0),.int .u8 ((cellsOf (cB l)).i 1),.int .u8 ((cellsOf (cB l)).i 2),.int .u8 ((cellsOf (cB l)).i 3),.int .u8 ((cellsOf (cB l)).i 4),.int .u8 ((cellsOf (cB l)).i 5),.int .u8 ((cellsOf (cB l)).i 6),.int .u8 ((cellsOf (cB l)).i 7),.int .u8 ((cellsOf (cB l)).i 8),.int .u8 ((cellsOf (cB l)).i 9)]=cB l:=by
 obtain⟨a,b,c,d,e,f,g,h,i,j,rfl⟩:=ten hl;rfl
def Es (x:Int):Nat:=(48+Int.tmod x 10).toNat
theorem LP(x:Int):dA .u8 (dA .i64 (48+Int.tmod x 10))=((Es x:Nat):Int)/\Es x<256:=by
 grind [Es,wrap_i64,Nq]
def wrL:Nat->Int->Nat->List Nat->List Nat
 | 0,_,_,l=>l
 | k+1,x,i,l=>wrL k (dA .i64 (Int.tdiv x 10)) (i-1) (l.set i (Es x))
theorem Cf:∀(k:Nat) (x:Int) (i:Nat) (l:List Nat),mB 256 l->(wrL k x i l).length=l.length/\mB 256 (wrL k x i l)
 | 0,x,i,l,h=>⟨rfl,h⟩
 | k+1,x,i,l,h=>by
  unfold wrL;have:=Cf k (dA .i64 (Int.tdiv x 10)) (i-1) (l.set i (Es x)) (fun y hy=>by
   rcases List.mem_or_eq_of_mem_set hy with h1 | h1
   ·exact h y h1
   simp_all [LP])
  simp_all
theorem OX (hb:yA.base<=b){c0 c1 c2 c3 c4 c5 c6 c7 c8 c9:Int}:∀(k:Nat) (from_:Nat) (x:Int) (i:Int) (l:List Nat) (t:Tr qA),i+1=(from_:Int)+k->from_+k<=10->l.length=10->kC t b none (cB l) →
  jp 178 2 [.int .i64 (from_:Int),.int .i64 x,.ptr b 0,.int .i64 i,.int .u8 c0,.int .u8 c1,.int .u8 c2,.int .u8 c3,.int .u8 c4,.int .u8 c5,.int .u8 c6,.int .u8 c7,.int .u8 c8,.int .u8 c9] t (fun v t'=>v=.agg (cB (wrL k x i.toNat l))/\aC b t t'):=by
 intro k;induction k with
 | zero=>
  intro from_ x i l t h1 h2 h3 h4;refine zf0 (bC (nLe (by omega)) (mF (Sk h4 h3) (gM (Mr h3) (iC rfl ?_))));show zA.agg _=_/\_;rw[Zm h3];exact⟨rfl,fun _ _=>rfl⟩
 | succ k ih=>
  intro from_ x i l t h1 h2 h3 h4;obtain⟨n,rfl⟩:∃n:Nat,i=(n:Int):=⟨i.toNat,by omega⟩;refine zf0 (iC (yLe (by omega)) (lB (idx164 (by omega)) (oQ fun m _ _=>?_)));rw[(LP x).1];obtain⟨t',g1,g2,g3⟩:=h4.store1 (v:=.int .u8 ((Es x:Nat):Int)) hb pP rfl rfl rfl (j:=n) (by rw[Ik];omega);refine⟨_,_,g1 m,sJ ?_⟩;rw[cB_set]at g2;unfold uW;rw[wrap_i64 (n:=(n:Int)-1) (by omega) (by omega)]
  have:=ih from_ (dA .i64 (Int.tdiv x 10)) ((n:Int)-1) (l.set n (Es x)) t' (by omega) (by omega) (by simp_all) g2;refine Jq.mono this fun v t2 hh=>⟨?_,fun c hc=>by rw[hh.2 c hc,g3 c hc]⟩;rw[hh.1];have e1:((n:Int)-1).toNat=n-1:=by omega
  have e2:((n:Int)).toNat=n:=by omega
  rw[e1,e2];rfl
theorem OW (hl:l.length=10) (hk:from_+k<=10)(h1:1<=from_+k)(x:Int):iB yA F 178 [.agg (cB l),.int .i64 (from_:Int),.int .i64 (k:Int),.int .i64 x] t=some (.agg (cB (wrL k x (from_+k-1) l))):=by
 obtain⟨a,b,c,d,e,f,g,h,i,j,rfl⟩:=ten hl;refine jQ ?_;show Wf 178 [.agg [.int .u8 a,.int .u8 b,.int .u8 c,.int .u8 d,.int .u8 e,.int .u8 f,.int .u8 g,.int .u8 h,.int .u8 i,.int .u8 j],.int .i64 (from_:Int),.int .i64 (k:Int),.int .i64 x] t _;refine w178 ?_;unfold t178 uZ uY uW;refine oQ fun n hn hbase=>?_;obtain⟨t',e1,hc,hle,ho⟩:=nY hn (cB [a,b,c,d,e,f,g,h,i,j]) none;refine⟨.ptr n 0,⟨n+1,t'⟩,by show some (zA.ptr n 0,lF ⟨n,t⟩ (cB [a,b,c,d,e,f,g,h,i,j]) none)=_;rw[e1],sJ ?_⟩
 rw[wrap_i64 (n:=(from_:Int)+(k:Int)) (by omega) (by omega),wrap_i64 (by omega) (by omega)];have:=OX (c0:=0) (c1:=0) (c2:=0) (c3:=0) (c4:=0) (c5:=0) (c6:=0) (c7:=0) (c8:=0) (c9:=0) hbase k from_ x ((from_:Int)+(k:Int)-1) _ t' (by omega) hk hl hc;refine Jq.mono this fun v t2 hh=>⟨?_,fun b' y hy=>?_⟩
 ·rw[hh.1,show((from_:Int)+(k:Int)-1).toNat=from_+k-1 by omega]
 ·have:b'≠n:=fun e=>by simp_all
  rw[hh.2 b' this];exact hle _ _ hy
def zU (d:Int):List Nat:=
 wrL 2 (dA .i64 ((dA .i64 (d-Gh (tS d)))+1)) 9 (wrL 2 (dA .i64 ((Int.tmod (tS d) 12)+1)) 6 (wrL 4 (dA .i64 (1900+(dA .i64 (Int.tdiv (tS d) 12)))) 3 [0,0,0,0,45,0,0,45,0,0]))
theorem ND(d:Int):(zU d).length=10/\mB 256 (zU d):=by
 have h0:mB 256 [0,0,0,0,45,0,0,45,0,0]:=by intro x hx;simp at hx;omega
 have h1:=Cf 4 (dA .i64 (1900+(dA .i64 (Int.tdiv (tS d) 12)))) 3 _ h0;have h2:=Cf 2 (dA .i64 ((Int.tmod (tS d) 12)+1)) 6 _ h1.2;have h3:=Cf 2 (dA .i64 ((dA .i64 (d-Gh (tS d)))+1)) 9 _ h2.2
 simp_all [zU]
def zhk{K:zA->T}{Q:xC} {p:Nat}{x:Int}(hl:l.length=10)(hlt:mB 256 l)(hp:yA.base<=p)(hc:kC t p none (cB l))(hk:from_+k<=10)(h1:1<=from_+k)
  (h:∀t',kC t' p none (cB (wrL k x (from_+k-1) l))->aC p t t'->∀u,wp 147 (K u) t' Q) :
  wp 147 (.call 178 [.agg [(.int .u8 ((cellsOf (cB l)).i 0)),(.int .u8 ((cellsOf (cB l)).i 1)),(.int .u8 ((cellsOf (cB l)).i 2)),(.int .u8 ((cellsOf (cB l)).i 3)),(.int .u8 ((cellsOf (cB l)).i 4)),(.int .u8 ((cellsOf (cB l)).i 5)),(.int .u8 ((cellsOf (cB l)).i 6)),(.int .u8 ((cellsOf (cB l)).i 7)),(.int .u8 ((cellsOf (cB l)).i 8)),(.int .u8 ((cellsOf (cB l)).i 9))],.int .i64 (from_:Int),.int .i64 (k:Int),.int .i64 x] fun a=>.asG z10 a fun X=>
   .heavy (cC yA 237 (.ptr p 0) (.agg [(.int .u8 (X.i 0)),(.int .u8 (X.i 1)),(.int .u8 (X.i 2)),(.int .u8 (X.i 3)),(.int .u8 (X.i 4)),(.int .u8 (X.i 5)),(.int .u8 (X.i 6)),(.int .u8 (X.i 7)),(.int .u8 (X.i 8)),(.int .u8 (X.i 9))])) K) t Q:=by
 have hw:=Cf k x (from_+k-1) l hlt;refine uD ?_;rw[Zm hl,q178,OW hl hk h1,xA];refine gM (Mr (by rw[hw.1,hl])) (oQ fun n _ _=>?_);rw[Zm (by rw[hw.1,hl])];obtain⟨t',g1,g2,g3⟩:=MU hc hp hl (m:=wrL k x (from_+k-1) l) (by rw[hw.1,hl]);exact⟨_,_,g1 n,h t' g2 g3 _⟩
theorem cal_ok(hG:wN t) (h0:0<=d)(h1:d<65536):iB yA F 147 [.int .i64 d] t=some (.str (zU d)):=by
 refine jQ (w147 ?_);unfold t147 uI uS uG uX uZ uY uA5;refine uD ?_;rw[q177,ymd_ok hG h0 h1,xA];unfold ymdD;refine lB rfl (xE (lB rfl (xE (lB rfl (xE (lB rfl (xE (bC (by grind [tP]) (iC rfl ?_)))))))));refine oQ fun p hp hbase=>?_;obtain⟨t1,e1,c1,l1,o1⟩:=sX (C:=yA) Jt hp;refine⟨_,_,e1,?_⟩;have c1':kC t1 p none (cB [0,0,0,0,0,0,0,0,0,0]):=c1
 refine oQ fun n _ _=>?_;obtain⟨t2,e2,c2,o2⟩:=MU c1' hbase rfl (m:=[0,0,0,0,45,0,0,45,0,0]) rfl;refine⟨_,_,e2 n,?_⟩;have h0':mB 256 [0,0,0,0,45,0,0,45,0,0]:=by intro x hx;simp at hx;omega
 refine mF (Sk c2 rfl) (gM (Mr rfl) ?_);refine zhk (from_:=0) (k:=4) rfl h0' hbase c2 (by omega) (by omega) fun t3 c3 o3 _=>?_;have w3:=Cf 4 (dA .i64 (1900+(dA .i64 (Int.tdiv (tS d) 12)))) 3 _ h0';refine mF (Sk c3 w3.1) (gM (Mr w3.1) ?_);refine zhk (from_:=5) (k:=2) w3.1 w3.2 hbase c3 (by omega) (by omega) fun t4 c4 o4 _=>?_;have w4:=Cf 2 (dA .i64 ((Int.tmod (tS d) 12)+1)) 6 _ w3.2
 rw[w3.1]at w4;refine mF (Sk c4 w4.1) (gM (Mr w4.1) ?_);refine zhk (from_:=8) (k:=2) w4.1 w4.2 hbase c4 (by omega) (by omega) fun t5 c5 o5 _=>?_;have hL:=ND d;have c5':kC t5 p none (cB (zU d)):=c5;have hs:nF yA 237 ⟨0,t5⟩ (.ptr p 0) none none=some (.slice p 0 10 10):=by
  obtain⟨c,g,_⟩:=c5';have hk:rD ⟨0,t5⟩ p=some (c,(cB (zU d)).length,none):=by unfold rD;rw[g];rfl
  unfold nF;rw[Jt,uA];unfold aK;simp only[zA.asStr,zA.asSlice,zA.asPtr,fD.asArr,uA];unfold qN;rw[pP,uA];have hb2:qO 10 10 none none=some (0,10):=rfl;rw[hb2,uA];unfold kJ jK;rw[hk];rfl
 have hv:yM yA 142 9 ⟨0,t5⟩ (.slice p 0 10 10)=some (.str (zU d)):=MB oP yK rfl rfl rfl pP rfl c5' hL.1 (fun j x hj=>by
  grind [cB]) hL.2
 refine mF hs (mF hv (wM ⟨rfl,fun b y hy=>?_⟩));have:b≠p:=fun e=>by simp_all
 rw[o5 b this,o4 b this,o3 b this,o2 b this];exact l1 _ _ hy
end Go.Proofs
namespace Go.Am
open Go Go.RowKit
def OS{C:fA}{F:Tr oG}{f:Nat}{args:List zA}{t:Tr qA}{Q:xC}{g:List zA->pA->Option (zA × pA)}(hg:C.prims.get f=some g)(h:∀X HA,Ov C.base t X HA->∃v t' HA',g args HA=some (v,HA')/\Ov C.base t' X HA'/\Q v t')(hf:Nat.blt f yo=true:=by rfl):Wc C F f args t Q:=by
 intro X HA ho;rw[Ii hf,hg];obtain⟨v,t',HA',h1,h2,h3⟩:=h X HA ho;exact⟨v,t',HA',X,h1,h2,bJ.refl _,h3⟩
end Go.Am
namespace Go.Proofs
open Go Go.Am
variable [tC]
variable {t tf:Tr qA}{bx T:Nat}{s m:List Nat}{ex:List zA}
def BX (T:Nat)(ex:List zA)(tf t:Tr qA)(bx:Nat)(s:List Nat):Prop:=
 yA.base<=bx/\tf.get bx=none/\iA tf t/\mB 256 s/\Lp Qp T (ex.length+2)=true/\∃p tv,(p=zA.nilptr\/p=.ptr bx 0)/\kC t bx (some (.ty T)) (p::tv::ex)/\jG (.ty 5) yA.base tf t 1 (zC .u8 s) tv/\¬ xI tv bx
def BX.le(h:BX T ex tf t bx s):iA tf t:=h.2.2.1
theorem BX.check{Q:xC}(h:BX T ex tf t bx s)(hQ:∀t',BX T ex tf t' bx s->Q (.tup []) t'):Wc yA F 144 [.ptr bx 0] t Q:=by
 have h0:=h;obtain⟨h1,h2,h3,ha,hM,p,tv,hp,⟨c,h4,h4'⟩,h5,h6⟩:=h;have hg:yA.prims.get 144=some pChk:=by kernel_rfl
 refine OS hg fun X HA ho=>?_;have hk:rD HA bx=some (c,(p::tv::ex).length,some (.ty T)):=by unfold rD;rw[ho.up h4];rfl
 have hc0:c.get 0=some p:=h4' 0 p rfl;rcases hp with rfl | rfl
 ·refine⟨.tup [],t.set bx (.cells (c.set 0 (.ptr bx 0)) (zA.nilptr::tv::ex).length (some (.ty T))),setBlk HA bx (.cells (c.set 0 (.ptr bx 0)) (zA.nilptr::tv::ex).length (some (.ty T))),?_,ho.setBlk h4 _,hQ _ ?_⟩
  ·unfold pChk He;simp only[];rw[hk,uA,hc0,uA];simp only[];have e1:(!Nat.blt bx (256+tC.n))=true:=by
    cases hq:Nat.blt bx (256+tC.n)with
    | true=>
     have h3:=sC.1 hq;have h1':256+tC.n<=bx:=h1;omega
    | false=>rfl
   simp_all
  ·refine⟨h1,h2,fun b u hb=>?_,ha,hM,.ptr bx 0,tv,.inr rfl,⟨_,by rw[Tr.get_set,yab rfl];rfl,fun j a hj=>?_⟩,h5.keep' fun b hb=>?_,h6⟩
   ·have:b≠bx:=fun e=>by simp_all
    rw[Tr.get_set,yaa this];exact h3 _ _ hb
   all_goals grind [Tr.get_set]
 ·refine⟨.tup [],t,HA,?_,ho,hQ _ h0⟩
  simp_all [pChk,He]
def fa77{b:Nat}:qB yA 144 1 (.ptr b 0)=some (.ptr b 1):=by kernel_rfl
theorem BX.write{Q:xC}(h:BX T ex tf t bx s)(hm:m≠[])(hlt:mB 256 m)(hl:s.length+m.length<400000)(hQ:∀v t',BX T ex tf t' bx (s++m)->Q v t'):Wc yA F 110 [.ptr bx 0,.str m] t Q:=by
 refine w110 ?_;unfold t110 jC uZ;refine uD ?_;rw[q144];refine h.check fun t' h'=>?_;obtain⟨h1,h2,h3,ha,hM,p,tv,hp,h4,h5,h6⟩:=h';refine lB yH (lB fa77 (mF (h4.load1 (j:=1) oP rfl rfl) (oQ fun n hn hbase=>?_)));have hbn:n≠bx:=by intro e;obtain⟨c,hh,_⟩:=h4;simp_all
 obtain⟨t1,g1,g2,g3,g4⟩:=OC el44 ⟨_,yK,rfl⟩ co5 h5 hm hl hn hbase h3;refine⟨_,_,g1,lB yH (lB fa77 (oQ fun n2 _ _=>?_))⟩;have h4':kC t1 bx (some (.ty T)) (p::tv::ex):=h4.off (g4 bx hbn.symm h6);obtain⟨t2,e1,e2,e3⟩:=h4'.store1 (v:=.slice n 0 (s.length+m.length) (s.length+m.length)) h1 oP rfl rfl rfl (j:=1) (by simp);refine⟨_,_,e1 n2,hQ _ _ ⟨h1,h2,g3.off h2 e3,fun x hx=>?_,hM,p,_,hp,e2,g2.keep' fun b hb=>e3 b fun e=>?_,fun e=>?_⟩⟩
 ·rcases yaf.1 hx with hx | hx
  ·exact ha x hx
  ·exact hlt x hx
 all_goals grind [tO]
theorem BX.len(h:BX T ex tf t bx s):iB yA F 109 [.ptr bx 0] t=some (.int .i64 (s.length:Int)):=by
 obtain⟨h1,h2,h3,ha,hM,p,tv,hp,h4,h5,h6⟩:=h;refine pC.2 (w109 ?_);unfold t109 uI jC uZ;have hlen:=h5.len;rw[kG]at hlen;exact lB yH (lB fa77 (mF (h4.load1 (j:=1) oP rfl rfl) (lB hlen (xE ⟨rfl,rfl⟩))))
def GY:∀ {l:List Nat},mB 256 l->oH Go.Am.byteOf (l.map fun(n:Nat)=>zA.int .u8 (n:Int))=some l
 | [],_=>rfl
 | x::l,h=>by
  have hx:Go.Am.byteOf (.int .u8 (x:Int))=some x:=by
   show vB (Nat.blt x 256) (some x)=_;rw[sC.2 (h x (.head _))];rfl
  rw[ycm,dO,hx,uA,GY fun y hy=>h y (.tail _ hy)];rfl
theorem BX.string{Q:xC}(h:BX T ex tf t bx s)(hs:s≠[])(hl:s.length<400000)(hQ:∀t',iA tf t'->Q (.str s) t'):Wc yA F 70 [.ptr bx 0] t Q:=by
 obtain⟨h1,h2,h3,ha,hM,p,tv,hp,⟨c,h4,h4'⟩,h5,h6⟩:=h;have hg:yA.prims.get 70=some pStr:=by kernel_rfl
 rcases h5 with⟨rfl,h5⟩ | ⟨b,cl,d,rfl,k0,k1,k2,k3,k4⟩
 ·grind [kG]
 have hpos:0<s.length:=List.length_pos_iff.2 hs;rw[kG,Nat.mul_one]at k2;rw[Bq]at k4;subst k4;have hbytes:∀j a,(s.map fun(n:Nat)=>zA.int .u8 (n:Int))[j]?=some a->d.get j=some a:=by
  intro j a hj;have hj':(sR .u8 s)[j]?=some [a]:=by
   grind [sR]
  have:=(k3 j _ hj').2 0 a rfl
  simp_all
 refine OS hg fun X HA ho=>?_;have hk:rD HA bx=some (c,(p::zA.slice b 0 (zC .u8 s).length (zC .u8 s).length::ex).length,some (.ty T)):=by unfold rD;rw[ho.up h4];rfl
 have hk2:rD HA b=some (d,s.length,some (.ty 5)):=by unfold rD;rw[ho.up k2];rfl
 have hc1:=h4' 1 _ rfl;refine⟨.str s,t.del b,⟨HA.next,HA.t.del b⟩,?_,ho.delBlk k2,hQ _ fun e u he=>?_⟩
 ·unfold pStr Lb;simp only[];rw[hk,uA,hc1,uA];simp only[zA.asSlice,uA,kG];rw[hk2,uA];simp only[];have hm:=GM hbytes s.length 0 (by simp);rw[ycr,yca (by simp)]at hm;rw[hm,uA,GY ha,uA];have e1:(!Nat.blt b (256+tC.n))=true:=by
   cases hq:Nat.blt b (256+tC.n)with
   | true=>
    have h3:=sC.1 hq;have h1':256+tC.n<=b:=k0;omega
   | false=>rfl
  rw[e1,gC.2 rfl,sC.2 hpos,pE.2 (ybk _),sC.2 (show s.length<1000000000 by omega),gC.2 rfl];rfl
 ·have:e≠b:=fun h=>by simp_all
  rw[Tr.get_del,yaa this];exact h3 _ _ he
end Go.Proofs
namespace Go.Proofs
open Go Go.Am
section
variable [tC]
variable {t:Tr qA}
def Ci(date:List Nat)(v:yB):List Nat:=
 if v.kind=1 then(if v.i=1 then [116,114,117,101]else [102,97,108,115,101])
 else if v.kind=2 then xO (rO v.f)
 else if v.kind=3 then [109,111,110,101,121,32]++xO (rO v.f)
 else if v.kind=4 then date
 else if v.kind=5 then xO (aG v.i)++[32,100,97,121,115]
 else if v.kind=6 then xO (aG v.i)++[32,109,111,110,116,104,115]
 else []
theorem Pb(s:List Nat):(xO s).length<=s.length+6:=by
 grind [xO]
theorem Pr{v:yB}(h:vS v=true)(hk:v.kind=2\/v.kind=3):dN v.f=true:=by
 grind [vS,Kx]
theorem PC{a:yB}{u v:zA}{date:List Nat}(hu:sA t 1 (wC a.f.n.limbs) u)(hv:sA t 1 (wC a.f.d.limbs) v)(hf:yB.fit a)(hp:vS a=true)(hd:a.kind=4->iB yA F 147 [.int .i64 a.i] t=some (.str date)):iB yA F 111 [.agg [.int .u8 a.kind,.bool a.f.n.neg,u,.bool a.f.d.neg,v,.int .i64 a.i]] t=some (.str (Ci date a)):=by
 obtain⟨_,hff,hi1,hi2⟩:=hf;have hil:=Xy hi1 hi2;have hsl:=Pb (aG a.i);have kk:∀j:Int,cA (a.kind:Int) j=decide ((a.kind:Int)=j):=fun j=>sO;refine pC.2 (w111 ?_);simp only[uS,uZ,t111,tA,kk];unfold Ci;by_cases k1:a.kind=1
 ·have e:(a.kind:Int)=1:=by omega
  have hb:iB yA F 145 [.bool (cA a.i 1)] t=some (.str (if a.i=1 then [116,114,117,101]else [102,97,108,115,101])):=by
   refine pC.2 (w145 ?_);have h94:iB yA F 175 [.bool (cA a.i 1)] t=some (.str (if a.i=1 then [116,114,117,101]else [102,97,108,115,101])):=by
    refine pC.2 (w175 ?_);by_cases h:a.i=1<;>simp[t175,tA,sO,h]
   simp only[uS,t145,tA,q175,h94,xA,zA.asStr];simp_all
  simp[e,k1,q145,hb,zA.asStr]
 have e1:¬ (a.kind:Int)=1:=by omega
 by_cases k2:a.kind=2
 ·have e:(a.kind:Int)=2:=by omega
  simp[e,k2,q146,KE hu hv hff (Pr hp (.inl k2)),zA.asStr]
 have e2:¬ (a.kind:Int)=2:=by omega
 by_cases k3:a.kind=3
 ·have e:(a.kind:Int)=3:=by omega
  have hl:=Yo hff (Pr hp (.inr k3));have hl2:=Pb (rO a.f);have:=nQ (a:=[109,111,110,101,121,32]) (b:=xO (rO a.f)) (by grind);simp[e,k3,q146,KE hu hv hff (Pr hp (.inr k3)),zA.asStr,this]
 have e3:¬ (a.kind:Int)=3:=by omega
 by_cases k4:a.kind=4
 ·have e:(a.kind:Int)=4:=by omega
  simp[e,k4,q147,hd k4,zA.asStr]
 have e4:¬ (a.kind:Int)=4:=by omega
 by_cases k5:a.kind=5
 ·have e:(a.kind:Int)=5:=by omega
  have:=nQ (a:=xO (aG a.i)) (b:=[32,100,97,121,115]) (by simp;omega);simp[e,k5,q148,JK hi1 hi2,zA.asStr,this]
 have e5:¬ (a.kind:Int)=5:=by omega
 by_cases k6:a.kind=6
 ·have e:(a.kind:Int)=6:=by omega
  have:=nQ (a:=xO (aG a.i)) (b:=[32,109,111,110,116,104,115]) (by simp;omega);simp[e,k6,q148,JK hi1 hi2,zA.asStr,this]
 grind
end
section
variable [tC]
def mW:List (List Nat):=[[],[100,111,119,110],[117,112],[102,108,111,111,114],[99,101,105,108],[104,97,108,102],[101,118,101,110]]
def Lj(n:Nat):List Nat:=if n<7 then mW.getD n []else []
def valN (v:yB):List Nat:=Ci (zU v.i) v
def inN (lev:Nat)(p:Nat × List Nat):List Nat:=if lev<=p.1 then p.2 else [40]++p.2++[41]
def Ec:Bool->List (Nat × List Nat)->List Nat
 | _,[]=>[]
 | b,p::l=>(if b then []else [44,32])++p.2++Ec false l
def zg1(op:Nat)(i:Int):List Nat:=(if op=19 then [44,32]++Lj i.toNat else [])++[41]
def aQ(op:Nat)(name:List Nat)(v:yB)(l:List (Nat × List Nat)):List Nat:=
 if (rC op).style=1 then valN v else if (rC op).style=2 then(rC op).word
 else if (rC op).style=3 then(rC op).word++name++[32,97,116,32]++inN (rC op).left (l.getD 0 (0,[]))
 else if (rC op).style=4 then inN (rC op).left (l.getD 0 (0,[]))++([32]++(rC op).word++[32]++inN (rC op).right (l.getD 1 (0,[])))
 else if (rC op).style=5 then(rC op).word++inN (rC op).left (l.getD 0 (0,[]))
 else(rC op).word++[40]++((if (rC op).named then name++[44,32]else [])++(Ec true l++zg1 op v.i))
mutual
def wW:vA->List Nat
 | .mk op name v args=>aQ op name v (nL args)
def nL:List vA->List (Nat × List Nat)
 | []=>[]
 | y::l=>((rC y.op).level,wW y)::nL l
end
theorem Ju:∀l:List vA,nL l=l.map fun y=>((rC y.op).level,wW y)
 | []=>by rw[nL];rfl
 | y::l=>by rw[nL,Ju l];rfl
def Wr (s T s':List Nat):Prop:=s'=s++T\/(65536<s.length+T.length/\65536<s'.length)
theorem Wr.one(s T:List Nat):Wr s T (s++T):=.inl rfl
def Wr.big{s:List Nat}(T:List Nat)(h:65536<s.length):Wr s T s:=.inr ⟨by omega,h⟩
def Wr.trans{s T s1 U s2:List Nat}(h:Wr s T s1)(k:Wr s1 U s2):Wr s (T++U) s2:=by
 rcases h with rfl | ⟨h1,h2⟩
 ·rcases k with rfl | ⟨k1,k2⟩
  ·exact .inl (by simp)
  ·exact .inr ⟨by simp at k1 ⊢;omega,k2⟩
 ·rcases k with rfl | ⟨k1,k2⟩
  ·exact .inr ⟨by simp;omega,by simp;omega⟩
  ·exact .inr ⟨by simp;omega,k2⟩
def Wr.eq{s T T' s':List Nat}(h:Wr s T s')(e:T=T'):Wr s T' s':=e ▸ h
def zdf{l:List (Nat × List Nat)}{i:Nat}(h:i<l.length):Ec (decide (i=0)) (l.drop i)=(if i=0 then []else [44,32])++l[i].2++Ec (decide (i+1=0)) (l.drop (i+1)):=by
 rw[ybl h,Ec];by_cases h0:i=0<;>simp[h0]
end
section
variable [tC]
variable {t tf:Tr qA}
def dS(t:Tr qA):Prop:=At t 1 0 (mW.map zA.str)
theorem dS.mono{t':Tr qA}(h:dS t)(k:iA t t'):dS t':=At.mono k h
theorem VI(hG:dS t){n:Nat}(hn:n<256):iB yA F 149 [.int .u8 (n:Int)] t=some (.str (Lj n))/\(Lj n).length<=10/\mB 256 (Lj n):=by
 unfold Lj;by_cases h:n<7
 ·have hx:(mW.map zA.str)[n]?=some (.str (mW.getD n [])):=by
   have:n<mW.length:=h
   simp_all
  rw[yab h];refine⟨pC.2 (w149 (iC (by grind [wrap_i64,jM]) (lB (v:=.ptr 1 n) ?_ (mF (v:=.str (mW.getD n [])) ?_ (wM ⟨rfl,rfl⟩))))),?_,?_⟩
  ·unfold aA;rw[ty239,uA];have e:(zA.int .u8 (n:Int)).asNat=some n:=rfl;rw[e,uA];grind [zA.asSlice,zA.asPtr,uA,fD.asArr,yK,sC,mD]
  ·have:=hG.load1 yK rfl hx
   grind
  ·have:∀k,k<7->(mW.getD k []).length<=10:=by decide
   grind
  ·have:∀k,k<7->∀x∈mW.getD k [],x<256:=by decide
   exact this n h
 ·rw[yaa h];exact⟨pC.2 (w149 (bC (by grind [wrap_i64,rM]) ⟨rfl,rfl⟩)),by simp,fun x hx=>by cases hx⟩
theorem Xc{s:List Nat}(h:∀x∈s,48<=x/\x<58):mB 256 s:=fun x hx=>by grind
def rS{a b:List Nat}(ha:mB 256 a)(hb:mB 256 b):mB 256 (a++b):=fun x hx=>by
 rcases yaf.1 hx with h | h
 ·exact ha x h
 ·exact hb x h
theorem Xb{neg:Bool}{n:Nat}:mB 256 (intN neg n)/\intN neg n≠[]:=by
 have h:=Sb n;refine⟨rS ?_ (Xc (Sa n)),fun e=>?_⟩
 ·cases neg
  ·intro x hx;cases hx
  ·intro x hx;simp_all
 grind [intN]
def GQ{f:rE}:mB 256 (rO f)/\rO f≠[]:=by
 unfold rO Cg;refine⟨rS Xb.1 ?_,fun e=>Xb.2 (List.append_eq_nil_iff.1 e).1⟩;split
 ·intro x hx;cases hx
 ·intro x hx;rcases ybs.1 hx with rfl | hx
  ·decide
  ·exact Xb.1 x hx
theorem GP{n:Int}:mB 256 (aG n)/\aG n≠[]:=by
 by_cases h:n<0
 ·obtain⟨u,rfl⟩:∃u:Nat,n = -(u:Int):=⟨n.natAbs,by omega⟩;rw[JE (by omega)];refine⟨fun x hx=>?_,by simp⟩;rcases ybs.1 hx with rfl | hx
  ·decide
  ·exact Xc (Sa u) x hx
 ·obtain⟨u,rfl⟩:∃u:Nat,n=(u:Int):=⟨n.toNat,by omega⟩;rw[Xz];exact⟨Xc (Sa u),fun e=>by grind [Sb]⟩
theorem GO{s:List Nat}(h:mB 256 s)(hn:s≠[]):mB 256 (xO s)/\xO s≠[]:=by
 unfold xO;split
 ·exact⟨rS (by intro x hx;grind) fun x hx=>h x (List.mem_of_mem_drop hx),by simp⟩
 simp_all
theorem PA{v:yB}(hv:v.fit)(hp:vS v=true):Ci (zU v.i) v≠[]/\(Ci (zU v.i) v).length<=20100/\mB 256 (Ci (zU v.i) v):=by
 obtain⟨_,hff,hi1,hi2⟩:=hv;have hil:=Xy hi1 hi2;have hsl:=Pb (aG v.i);have hsi:=GO (GP (n:=v.i)).1 GP.2;have hsf:=GO (GQ (f:=v.f)).1 GQ.2;have hc:=ND v.i;have hF:∀k,(k=2\/k=3)->v.kind=k->(xO (rO v.f)).length<=20010:=by
  grind [Yo,Pr,Pb]
 unfold Ci;split
 ·split
  ·exact⟨by simp,by simp,by intro x hx;grind⟩
  ·exact⟨by simp,by simp,by intro x hx;grind⟩
 ·split
  ·grind
  ·split
   ·rename_i e;have:=hF 3 (.inr rfl) e;exact⟨by simp,by simp;omega,rS (by intro x hx;grind) hsf.1⟩
   ·split
    ·grind
    ·split
     ·exact⟨by simp,by simp;omega,rS hsi.1 (by intro x hx;grind)⟩
     ·split
      ·exact⟨by simp,by simp;omega,rS hsi.1 (by intro x hx;grind)⟩
      grind [vS]
theorem KF{op:Nat}(h:op<27):(rC op).word.length<=10/\∀x∈(rC op).word,x<256:=by
 have:∀k,k<27->(rC k).word.length<=10/\∀x∈(rC k).word,x<256:=by decide +kernel
 grind
theorem KG{op:Nat}(h:op<27):((rC op).style=1->op=1)/\((rC op).style=2->(rC op).word≠[])/\((rC op).style=3->1<=(rC op).least)/\((rC op).style=4->2<=(rC op).least)/\((rC op).style=5->1<=(rC op).least/\(rC op).word≠[])/\(rC op).style<=6/\(rC op).most<=3/\(op=1->(rC op).style=1):=by
 have:∀k,k<27->((rC k).style=1->k=1)/\((rC k).style=2->(rC k).word≠[])/\((rC k).style=3->1<=(rC k).least)/\((rC k).style=4->2<=(rC k).least)/\((rC k).style=5->1<=(rC k).least/\(rC k).word≠[])/\(rC k).style<=6/\(rC k).most<=3/\(k=1->(rC k).style=1):=by decide +kernel
 grind
theorem Qo{s:List Nat}(h:Dr s=true):s.length<=24:=by
 unfold Dr at h;grind
def fK (h:Nat):Nat:=86000+200*h
def WOk (bf:Nat)(x:vA):Prop:=∀(d:Nat) (cs:List zA) (tf t:Tr qA) (bx:Nat) (s:List Nat) (Q:xC),x.fit->uK x d=true->kC tf bf none lS->wN tf->dS tf->RD tf x.d cs->BX 146 [.ptr bf 0] tf t bx s->s.length<=95000 →
 (∀t' s',BX 146 [.ptr bf 0] tf t' bx s'->s'≠[]->s'.length<=max s.length (fK (25-d))->Wr s (wW x) s'->Q (.tup []) t')->Wc yA F 69 [.ptr bx 0,.agg cs] t Q
def cP{b:Nat}:qB yA 146 0 (.ptr b 0)=some (.ptr b 0):=by kernel_rfl
def KZ{b:Nat}:qB yA 146 1 (.ptr b 0)=some (.ptr b 2):=by kernel_rfl
def BX.forms{bf bx:Nat}{s:List Nat}(h:BX 146 [.ptr bf 0] tf t bx s):mA yA 89 ⟨0,t⟩ (.ptr bx 2)=some (.ptr bf 0):=by
 obtain⟨_,_,_,_,_,p,tv,_,h4,_,_⟩:=h;exact h4.load1 (j:=2) ty89 rfl rfl
section
variable {bf bx:Nat}{s:List Nat}{Q:xC}
theorem ZI{y:vA}{d:Nat}{cs:List zA}{lev:Nat}(hy:WOk bf y)(hfit:y.fit)(hP:uK y d=true)(hF:kC tf bf none lS)(hM:wN tf)(hW:dS tf)(hr:RD tf y.d cs)(hB:BX 146 [.ptr bf 0] tf t bx s)(hs:s.length<=94000)(hd1:1<=d)
  (hQ:∀t' s',BX 146 [.ptr bf 0] tf t' bx s'->s'≠[]->s'.length<=max s.length (fK (25-d))+2->Wr s (inN lev ((rC y.op).level,wW y)) s'->Q (.tup []) t'):Wc yA F 112 [.ptr bx 0,.agg cs,.int .i64 (lev:Int)] t Q:=by
 obtain⟨a,b,c,rfl,ha,hb,hc⟩:=iK hr;have hop:y.op<27:=by
  obtain⟨op,name,v,args⟩:=y;unfold uK Eg at hP;simp only[ybb,decide_eq_true_eq]at hP;exact hP.1.2.1.1.1.1
 have hbm:fK (25-d)<=91000:=by grind [fK]
 refine w112 ?_;unfold t112 uI jC uZ uY;refine lB yH (lB KZ (mF hB.forms (lB yH (lB (Yi hop) (lB (bP (by decide)) (mF (zc7 (hF.up hB.le) hop) (xE ?_)))))));by_cases hl:lev<=(rC y.op).level
 ·refine iC (yLe (by omega)) (uD ?_);rw[q69];exact hy d _ tf t bx s _ hfit hP hF hM hW hr hB (by omega) fun t' s' h1 h2 h3 h4=>hQ t' s' h1 h2 (by omega) (h4.eq (by unfold inN;rw[yab hl]))
 ·refine bC (nLe (by omega)) (lB yH (lB cP (uD ?_)));rw[wS];refine hB.write (by simp) (by intro x hx;simp_all) (by grind) fun _ t1 h1=>uD ?_;rw[q69];refine hy d _ tf t1 bx _ _ hfit hP hF hM hW hr h1 (by grind) fun t2 s2 h2 h2n h2l h2w=>lB yH (lB cP (uD ?_));rw[wS];simp only[ybg,List.length_singleton]at h2l;refine h2.write (by simp) (by intro x hx;simp_all) (by grind) fun _ t3 h3=>?_
  exact hQ _ _ h3 (by simp) (by grind) ((((Wr.one _ _).trans h2w).trans (Wr.one _ _)).eq (by unfold inN;rw[yaa hl]))
theorem za8{args:List vA}{d:Nat}{c:zA}(hall:∀y∈args,WOk bf y)(hfits:∀y∈args,y.fit)(hP:∀y∈args,uK y (d+1)=true)(hF:kC tf bf none lS)(hM:wN tf)(hW:dS tf)(hc:sA tf 9 (args.map vA.d) c)(hlen:args.length<=3)(hd:d<=24)
  {c0 c2 c7:Int} {c1:List Nat} {c3 c5:Bool} {c4 c6 c8:zA} {op:Nat} (hc0:c0=(op:Int)) (h19c:op=19->0<=c7/\c7<256):∀(k i:Nat) (t:Tr qA) (s:List Nat),i+k=args.length->BX 146 [.ptr bf 0] tf t bx s->s≠[]->s.length<=fK (24-d)+100+2*i →
  (∀t' s',BX 146 [.ptr bf 0] tf t' bx s'->s'≠[]->s'.length<=fK (24-d)+130->Wr s (Ec (decide (i=0)) ((nL args).drop i)++zg1 op c7) s'->Q (.tup []) t') →
  jp 113 2 [.ptr bx 0,c,.int .i64 (args.length:Int),.int .i64 (i:Int),.int .u8 c0,.str c1,.int .u8 c2,.bool c3,c4,.bool c5,c6,.int .i64 c7,c8] t Q:=by
 have hbm:fK (24-d)<=91000:=by grind [fK]
 intro k;induction k with
 | zero=>
  intro i t s hi hB hn hs hQ;refine zf6 ?_;unfold Uw uS uG fB kB jC uZ uY pH cD;refine bC (rM (by omega)) ?_;have hdrop:(nL args).drop i=[]:=ybt (by grind [Ju]);rw[hdrop,Ec,yah]at hQ;unfold zg1 at hQ;by_cases h19:op=19
  ·rw[yab h19]at hQ;refine iC (tP (by omega)) (lB yH (lB cP (uD ?_)));obtain⟨n,hn1,hn2,hn3⟩:∃n:Nat,dA .u8 c7=(n:Int)/\n<256/\c7.toNat=n:=⟨c7.toNat,by grind [Nq],by omega,rfl⟩;obtain⟨hw1,hw2,hw3⟩:=VI (hW.mono hB.le) hn2;rw[hn3]at hQ;rw[hn1,q149,hw1,xA];refine wM (lB (nQ (by grind)) (wM (uD ?_)));rw[wS];refine hB.write (by simp) (rS (by intro x hx;grind) hw3) (by grind) fun _ t1 h1=>lB yH (lB cP (uD ?_))
   rw[wS];refine h1.write (by simp) (by intro x hx;simp_all) (by grind) fun _ t2 h2=>?_;exact hQ _ _ h2 (by simp) (by grind) ((Wr.one _ _).trans (Wr.one _ _))
  ·rw[yaa h19,yah]at hQ;refine bC (yL (by omega)) (lB yH (lB cP (uD ?_)));rw[wS];refine hB.write (by simp) (by intro x hx;simp_all) (by grind) fun _ t2 h2=>?_;exact hQ _ _ h2 (by simp) (by grind) (Wr.one _ _)
 | succ k ih=>
  intro i t s hi hB hn hs hQ;have hlt:i<args.length:=by omega
  have hm:args[i]∈args:=ycj hlt;refine zf6 ?_;unfold Uw uS uG fB kB jC uZ uY pH cD;obtain⟨b0,off0,cs,g1,g2,_,_,g5⟩:=eD.at bR (by simp) hc (i:=i) (d:=args[i].d) (by simp[hlt]);have ld:mA yA 48 ⟨0,t⟩ (.ptr b0 off0)=some (Ny true cs):=tQ (H:=⟨0,tf⟩) (HA:=⟨0,t⟩) hB.le g2;refine iC (jM (by omega)) (lB g1 (mF ld ?_));rw[Fv];refine gM (tI g5 (vA.zs _)) ?_
  have hmk:=g5.mk (vA.zs args[i]);have hcs:[zA.int .u8 ((cellsOf cs).i 0),.str ((cellsOf cs).s 1),.int .u8 ((cellsOf cs).i 2),.bool ((cellsOf cs).b 3),(cellsOf cs).v 4,.bool ((cellsOf cs).b 5),(cellsOf cs).v 6,.int .i64 ((cellsOf cs).i 7),(cellsOf cs).v 8]=cs:=hmk;rw[hcs];refine iC g5.all ?_;have hli:i<(nL args).length:=by grind [Ju]
  have hgi:(nL args)[i]=((rC args[i].op).level,wW args[i]):=by simp[Ju]
  have hj:=zdf hli;rw[hgi]at hj;have next:∀t' s',BX 146 [.ptr bf 0] tf t' bx s'->s'≠[]->s'.length<=fK (24-d)+100+2*(i+1)->Wr s ((if i=0 then []else [44,32])++wW args[i]) s'->jp 113 2 [.ptr bx 0,c,.int .i64 (args.length:Int),.int .i64 (dA .i64 ((i:Int)+1)),.int .u8 c0,.str c1,.int .u8 c2,.bool c3,c4,.bool c5,c6,.int .i64 c7,c8] t' Q:=by
   intro t' s' h1 h2 h3 h4;rw[wrap_i64 (by omega) (by omega),show(i:Int)+1=((i+1:Nat):Int) by omega];exact ih (i+1) t' s' (by omega) h1 h2 h3 fun t2 s2 g1 g2 g3 g4=>hQ t2 s2 g1 g2 g3 ((h4.trans g4).eq (by simp_all))
  have e25:25-(d+1)=24-d:=by omega
  by_cases h0:0<i
  ·refine iC (jM (by omega)) (lB yH (lB cP (uD ?_)));rw[wS];refine hB.write (by simp) (by intro x hx;grind) (by grind) fun _ t1 h1=>uD ?_;rw[q69];refine hall _ hm (d+1) _ tf t1 bx _ _ (hfits _ hm) (hP _ hm) hF hM hW g5 h1 (by grind) fun t2 s2 h2 h2n h2l h2w=>sJ ?_;have hn0:i≠0:=by omega
   exact next _ _ h2 h2n (by grind) (((Wr.one _ _).trans h2w).eq (by rw[yaa hn0]))
  ·refine bC (rM (by omega)) (uD ?_);rw[q69];refine hall _ hm (d+1) _ tf t bx _ _ (hfits _ hm) (hP _ hm) hF hM hW g5 hB (by omega) fun t2 s2 h2 h2n h2l h2w=>sJ ?_
   grind
theorem Zl{op:Nat}{name:List Nat}{v:yB}{args:List vA}{d:Nat}{a b c:zA}(hall:∀y∈args,WOk bf y)(hfit:vA.fit (.mk op name v args))(hP:uK (.mk op name v args) d=true)(hs6:(rC op).style=6)(hF:kC tf bf none lS)(hM:wN tf)(hW:dS tf)
  (hc:sA tf 9 (args.map vA.d) c) (hB:BX 146 [.ptr bf 0] tf t bx s) (hs:s.length<=65536)
  (hQ:∀t' s',BX 146 [.ptr bf 0] tf t' bx s'->s'≠[]->s'.length<=fK (25-d)->Wr s (aQ op name v (nL args)) s'->Q (.tup []) t') :
  Wc yA F 113 [.ptr bx 0,.agg [.int .u8 op,.str name,.int .u8 v.kind,.bool v.f.n.neg,a,.bool v.f.d.neg,b,.int .i64 v.i,c],.ptr bf (op*8)] t Q:=by
 unfold uK Eg at hP;simp only[ybb,decide_eq_true_eq]at hP;obtain⟨⟨hd,⟨⟨⟨h27,_⟩,hl⟩,hm⟩,hnm⟩,hrest⟩:=hP;obtain⟨f1,f2,f3,f4,f5,f6,f7,f8⟩:=KG h27;have hw:=KF h27;have h1:op≠1:=fun e=>by omega
 rw[yaa h1,ybb,Zr,ycb]at hrest;unfold vA.fit at hfit;have hfits:=vA.fits_mem hfit.2.2.2.2.2;have hmax:fK (25-d)=fK (24-d)+200:=by grind [fK]
 have h19c:op=19->0<=v.i/\v.i<256:=by
  grind [Ig]
 unfold aQ at hQ;rw[hs6]at hQ;simp only[Nat.reduceEqDiff,if_false]at hQ;have go9:∀t' s',BX 146 [.ptr bf 0] tf t' bx s'->s'≠[]->s'.length<=65536+100->Wr s ((rC op).word++[40]++(if (rC op).named then name++[44,32]else [])) s'->jp 113 9 [.ptr bx 0,.int .u8 op,.str name,.int .u8 v.kind,.bool v.f.n.neg,a,.bool v.f.d.neg,b,.int .i64 v.i,c] t' Q:=by
  intro t' s' k1 k2 k3 k4;refine j113_9 ?_;unfold ze8 uI uZ uY;have hlen:=hc.len;rw[ybf]at hlen;refine lB hlen (xE (sJ ?_));refine za8 (d:=d) hall hfits (fun y hy=>hrest.2 y hy) hF hM hW hc (by omega) hd rfl h19c args.length 0 t' s' (by omega) k1 k2 (by grind [fK]) fun t2 s2 g1 g2 g3 g4=>hQ t2 s2 g1 g2 (by omega) ((k4.trans g4).eq (by simp_all))
 refine w113 ?_;unfold t113 uB uS jC uZ uY;have hld:=HJ (hF.up hB.le) h27;refine lB yH (lB cP (lB yH (lB (bP (by decide)) (mF hld (wM (lB (nQ (by grind)) (wM (uD ?_))))))));rw[wS];refine hB.write (by simp) (rS hw.2 (by intro x hx;simp_all)) (by grind) fun _ t1 h1=>?_;refine lB yH (lB (bP (by decide)) (mF (HL (hF.up h1.le) h27) (mI ?_)))
 cases hn:(rC op).named with
 | true=>
  rw[hn,yab rfl]at hnm;have hnl:=Qo hnm;refine iC rfl (lB yH (lB cP (lB (nQ (by grind)) (wM (uD ?_)))));rw[wS];refine h1.write (by simp) (rS hfit.2.2.1 (by intro x hx;grind)) (by grind) fun _ t2 h2=>sJ ?_;exact go9 _ _ h2 (by simp) (by grind) (((Wr.one _ _).trans (Wr.one _ _)).eq (by rw[hn,yab rfl]))
 | false=>exact bC (by simp) (sJ (go9 _ _ h1 (by simp) (by grind) ((Wr.one _ _).eq (by grind))))
set_option maxHeartbeats 2000000 in
mutual
/-- THE WRITER COMES TO AN END -/
theorem AF:∀(x:vA),WOk bf x
 | .mk op name v args=>by
  have hall:=AE args;intro d cs tf t bx s Q hfit hP hF hM hW hr hB hs hQ;have hP0:=hP;have hfit0:=hfit;obtain⟨a,b,c,rfl,ha,hb,hc⟩:=iK hr;simp only[vA.op,vA.name,vA.v,vA.args]at ha hb hc ⊢;unfold uK Eg at hP;simp only[ybb,decide_eq_true_eq]at hP;obtain⟨⟨hd,⟨⟨⟨h27,hs0⟩,hl⟩,hm⟩,hnm⟩,hrest⟩:=hP;simp only[ycp,decide_eq_false_iff_not]at hs0;obtain⟨f1,f2,f3,f4,f5,f6,f7,f8⟩:=KG h27
  have hw:=KF h27;unfold vA.fit at hfit;have hfits:=vA.fits_mem hfit.2.2.2.2.2;have hmax:fK (25-d)=fK (24-d)+200:=by grind [fK]
  have e25:25-(d+1)=24-d:=by omega
  have hmb:fK (24-d)<=91000/\86000<=fK (24-d):=by grind [fK]
  refine w69 ?_;unfold t69 uI uU uS uG jC uZ uY cD;refine lB yH (lB cP (uD ?_));rw[q109,hB.len,xA];refine xE ?_;by_cases hbig:65536<s.length
  ·refine iC (jM (by omega)) ?_;exact hQ t s hB (fun e=>by simp_all) (by omega) (Wr.big _ hbig)
  rw[wW]at hQ;refine bC (rM (by omega)) ?_;have hFt:=hF.up hB.le;refine lB yH (lB KZ (mF hB.forms (lB yH (lB (Yi h27) (lB yH (lB (bP (by decide)) (mF (HK hFt h27) (xE ?_))))))));have ldw:∀ {t'},iA tf t'->mA yA 9 ⟨0,t'⟩ (.ptr bf (op*8+1))=some (.str (rC op).word):=fun h=>HJ (hF.up h) h27;have notc:(rC op).style≠1->kV args (d+1)=true:=by
   grind
  have arg:∀(i:Nat) (lev:Nat) (t1:Tr qA) (s1:List Nat) (K:zA->T) (Q:xC) (k:Nat),(rC op).style≠1->i<args.length->k<8->BX 146 [.ptr bf 0] tf t1 bx s1->s1.length<=94000->mA yA 3 ⟨0,t1⟩ (.ptr bf (op*8+k))=some (.int .i64 (lev:Int)) →
    (∀t' s',BX 146 [.ptr bf 0] tf t' bx s'->s'≠[]->s'.length<=max s1.length (fK (24-d))+2->Wr s1 (inN lev ((nL args).getD i (0,[]))) s'->wp 69 (K (.tup [])) t' Q) →
    wp 69 (.opt (aA yA 46 c (.int .i64 (i:Int))) fun a36=>.light (fun m=>mA yA 48 ⟨0,m⟩ a36) fun a37=>.asG [(.int .u8 0),(.str []),(.int .u8 0),(.bool false),.nilslice,(.bool false),.nilslice,(.int .i64 0),.nilslice] a37 fun X38=>
     .opt (Cl (.ptr bf (op*8))) fun a39=>.opt (qB yA 138 k a39) fun a40=>.light (fun m=>mA yA 3 ⟨0,m⟩ a40) fun a41=>.asI .i64 a41 fun n42=>.call 112 [.ptr bx 0,(.agg [(.int .u8 (X38.i 0)),(.str (X38.s 1)),(.int .u8 (X38.i 2)),(.bool (X38.b 3)),(X38.v 4),(.bool (X38.b 5)),(X38.v 6),(.int .i64 (X38.i 7)),(X38.v 8)]),(.int .i64 n42)] K) t1 Q:=by
   intro i lev t1 s1 K Q k hne hi hk h1 hs1 hldp hQ';have hm:args[i]∈args:=ycj hi;obtain⟨b0,off0,cs,g1,g2,_,_,g5⟩:=eD.at bR (by simp) hc (i:=i) (d:=args[i].d) (by simp[hi]);have ld:mA yA 48 ⟨0,t1⟩ (.ptr b0 off0)=some (Ny true cs):=tQ (H:=⟨0,tf⟩) (HA:=⟨0,t1⟩) h1.le g2;refine lB g1 (mF ld ?_);rw[Fv];refine gM (tI g5 (vA.zs _)) ?_;have hmk:=g5.mk (vA.zs args[i])
   have hcs:[zA.int .u8 ((cellsOf cs).i 0),.str ((cellsOf cs).s 1),.int .u8 ((cellsOf cs).i 2),.bool ((cellsOf cs).b 3),(cellsOf cs).v 4,.bool ((cellsOf cs).b 5),(cellsOf cs).v 6,.int .i64 ((cellsOf cs).i 7),(cellsOf cs).v 8]=cs:=hmk;rw[hcs];refine lB yH (lB (bP hk) (mF hldp (xE (uD ?_))));rw[q112];have hPy:uK args[i] (d+1)=true:=by
    grind [Zr]
   grind [Ju,ZI]
  have hQ0:=hQ;have hd1:(rC op).style=1->aQ op name v (nL args)=valN v:=fun e=>by unfold aQ;rw[yab e]
  have hd2:(rC op).style=2->aQ op name v (nL args)=(rC op).word:=fun e=>by unfold aQ;rw[yaa (by omega),yab e]
  have hd3:(rC op).style=3->aQ op name v (nL args)=(rC op).word++name++[32,97,116,32]++inN (rC op).left ((nL args).getD 0 (0,[])):=fun e=>by unfold aQ;rw[yaa (by omega),yaa (by omega),yab e]
  have hd4:(rC op).style=4->aQ op name v (nL args)=inN (rC op).left ((nL args).getD 0 (0,[]))++([32]++(rC op).word++[32]++inN (rC op).right ((nL args).getD 1 (0,[]))):=fun e=>by unfold aQ;rw[yaa (by omega),yaa (by omega),yaa (by omega),yab e]
  have hd5:(rC op).style=5->aQ op name v (nL args)=(rC op).word++inN (rC op).left ((nL args).getD 0 (0,[])):=fun e=>by unfold aQ;rw[yaa (by omega),yaa (by omega),yaa (by omega),yaa (by omega),yab e]
  have done:∀t' s',BX 146 [.ptr bf 0] tf t' bx s'->s'≠[]->s'.length<=fK (25-d)->Wr s (aQ op name v (nL args)) s'->wp 69 (.ret (.tup [])) t' Q:=fun t' s' k1 k2 k3 k4=>hQ0 t' s' k1 k2 (by omega) k4;have i0:((0:Nat):Int)=0:=rfl;have i1:((1:Nat):Int)=1:=rfl;have arg0:=arg 0;have arg1:=arg 1;rw[i0]at arg0;rw[i1]at arg1;have style:(rC op).style=1\/(rC op).style=2\/(rC op).style=3\/(rC op).style=4\/(rC op).style=5\/(rC op).style=6:=by omega
  rcases style with e | e | e | e | e | e
  ·-- a constant
   refine iC (tP (by omega)) (lB yH (lB cP (uD ?_)));have hop1:=f1 e;rw[yab hop1]at hrest;obtain⟨v1,v2,v3⟩:=PA hfit.2.2.2.1 hrest;have hv:=PC (date:=zU v.i) (ha.mono hB.le) (hb.mono hB.le) hfit.2.2.2.1 hrest (fun hk=>by
    have hp:=hrest;unfold vS at hp;rw[yaa (by omega),yaa (by omega),yab hk]at hp;simp only[ybb,decide_eq_true_eq]at hp;exact cal_ok (hM.mono hB.le) hp.2.1 hp.2.2)
   rw[q111,hv,xA];refine wM (uD ?_);rw[wS];refine hB.write v1 v3 (by omega) fun _ t1 h1=>done _ _ h1 (by simp[v1]) (by grind) ((Wr.one _ _).eq (hd1 e).symm)
  ·-- a word
   refine bC (yL (by omega)) (iC (tP (by omega)) (lB yH (lB cP (lB yH (lB (bP (by decide)) (mF (ldw hB.le) (wM (uD ?_))))))));rw[wS];refine hB.write (f2 e) hw.2 (by omega) fun _ t1 h1=>done _ _ h1 (by simp[f2 e]) (by grind) ((Wr.one _ _).eq (hd2 e).symm)
  ·-- word,name,at
   have hnl:name.length<=24:=by
    grind [Qo,wL]
   have h3:=f3 e;refine bC (yL (by omega)) (bC (yL (by omega)) (iC (tP (by omega)) (lB yH (lB cP (lB yH (lB (bP (by decide)) (mF (ldw hB.le) (wM (lB (nQ (by omega)) (wM (lB (nQ (by grind)) (wM (uD ?_)))))))))))));rw[wS];refine hB.write (by simp) (rS (rS hw.2 hfit.2.2.1) (by intro x hx;grind)) (by grind) fun _ t1 h1=>?_
   refine arg0 _ t1 _ _ _ 6 (by omega) (by omega) (by decide) h1 (by grind) (Xn (hF.up h1.le) h27) fun t2 s2 k1 k2 k3 k4=>done _ _ k1 k2 (by grind) (((Wr.one _ _).trans k4).eq (hd3 e).symm)
  ·-- an operator
   have h4:=f4 e;refine bC (yL (by omega)) (bC (yL (by omega)) (bC (yL (by omega)) (iC (tP (by omega)) ?_)));refine arg0 _ t _ _ _ 6 (by omega) (by omega) (by decide) hB (by omega) (Xn hFt h27) fun t1 s1 k1 k2 k3 k4=>?_;refine lB yH (lB cP (lB yH (lB (bP (by decide)) (mF (ldw k1.le) (wM (lB (nQ (by grind)) (wM (lB (nQ (by grind)) (wM (uD ?_))))))))))
   rw[wS];refine k1.write (by simp) (rS (rS (by intro x hx;simp_all) hw.2) (by intro x hx;simp_all)) (by grind) fun _ t2 h2=>?_;refine arg1 _ t2 _ _ _ 7 (by omega) (by omega) (by decide) h2 (by grind) (zc6 (hF.up h2.le) h27) fun t3 s3 m1 m2 m3 m4=>done _ _ m1 m2 (by grind) ((k4.trans ((Wr.one _ _).trans m4)).eq (hd4 e).symm)
  ·-- not
   have h5:=f5 e;refine bC (yL (by omega)) (bC (yL (by omega)) (bC (yL (by omega)) (bC (yL (by omega)) (iC (tP (by omega)) (lB yH (lB cP (lB yH (lB (bP (by decide)) (mF (ldw hB.le) (wM (uD ?_)))))))))));rw[wS];refine hB.write h5.2 hw.2 (by omega) fun _ t1 h1=>?_;refine arg0 _ t1 _ _ _ 6 (by omega) (by omega) (by decide) h1 (by grind) (Xn (hF.up h1.le) h27) fun t2 s2 k1 k2 k3 k4=>done _ _ k1 k2 (by grind) (((Wr.one _ _).trans k4).eq (hd5 e).symm)
  ·-- a call
   refine bC (yL (by omega)) (bC (yL (by omega)) (bC (yL (by omega)) (bC (yL (by omega)) (bC (yL (by omega)) (iC (tP (by omega)) (uD ?_))))));rw[q113];grind [Zl]
theorem AE:∀(l:List vA),∀y∈l,WOk bf y
 | [],_,h=>by cases h
 | x::l,y,h=>by
  rcases ybs.1 h with e | h
  ·rw[e];exact AF x
  ·exact AE l y h
end
end
end
section
variable {x:vA}{cs:List zA}{Q:xC}
variable [tC]
variable {t tf:Tr qA}
theorem XD   (hfit:x.fit)(hP:uK x 1=true)(hM:wN t)(hW:dS t)(hr:RD t x.d cs)(hQ:∀t' s,iA t t'->s≠[]->Wr [] (wW x) s->s.length<=91000->mB 256 s->Q (.str s) t'):Wc yA F 30 [.agg cs] t Q:=by
 obtain⟨a,b,c,rfl,ha,hb,hc⟩:=iK hr;refine w30 ?_;unfold t30 uS fB jC uZ uY;refine uD ?_;rw[q65];refine GJ fun bf t1 h1 h2 h3 h4 h5=>?_;refine iC rfl (oQ fun bx hbx hbb=>?_);obtain⟨t2,e1,e2,e3,e4⟩:=nY hbx [.nilptr,.nilslice,.ptr bf 0] (some (.ty 146));have hbox:Fx yA 146 (.agg [.nilptr,.nilslice,.ptr bf 0]) ⟨bx,t1⟩=some (.ptr bx 0,⟨bx+1,t2⟩):=by
  unfold Fx;have:lL yA 146=some (.ty 146):=by kernel_rfl
  rw[this,<- e1];rfl
 refine⟨_,_,hbox,uD ?_⟩;have hB:BX 146 [.ptr bf 0] t1 t2 bx []:=⟨hbb,hbx,e3,(by intro x hx;cases hx),rfl,.nilptr,.nilslice,.inl rfl,e2,.inl ⟨rfl,rfl⟩,Mc⟩;rw[q69];refine AF x 1 _ t1 t2 bx [] _ hfit hP h3 (hM.mono h4) (hW.mono h4) (hr.mono h4) hB (by simp) fun t3 s h6 h7 h8 hw=>?_;refine lB yH (lB cP (uD ?_));rw[q70];have hl:s.length<=91000:=by
  grind [fK]
 exact h6.string h7 (by omega) fun t4 h9=>wM (hQ _ _ (h4.trans h9) h7 hw hl h6.2.2.2.1)
theorem Wr.len{T s:List Nat}(h:Wr [] T s):(65536<s.length->65536<T.length)/\(¬ 65536<s.length->s=T/\¬ 65536<T.length):=by
 rcases h with rfl | ⟨h1,h2⟩
 ·simp
 ·exact⟨fun _=>by simpa using h1,fun h=>absurd h2 h⟩
def Mi(x:vA):zA:=if uK x 1=true then(if 65536<(wW x).length then .tup [.str [],.int .i64 3]else .tup [.str (wW x),.int .i64 0])else .tup [.str [],.int .i64 2]
def zdw   (hfit:x.fit)(hM:wN t)(hW:dS t)(hr:RD t x.d cs)
  (hQ:∀t',iA t t'->Q (Mi x) t'):Wc yA F 10 [.agg cs] t Q:=by
 have hr0:=hr;obtain⟨a,b,c,rfl,ha,hb,hc⟩:=iK hr;refine w10 ?_;unfold t10 uB uS uG uZ uY;refine uD ?_;rw[q28];refine VB fun bf t1 h1 h2 h3 h4 h5=>?_;have e:(cellsOf [zA.ptr bf 0]).v 0=.ptr bf 0:=rfl;refine gM (kN rfl) (iC hr0.sameA (uD ?_));have he:=LC h3 x 1 _ hfit (by omega) (hr0.mono h4);rw[show((1:Nat):Int)=1 from rfl]at he;rw[q29,e,he,xA];refine mI ?_
 cases hP:uK x 1 with
 | false=>
  refine iC rfl ?_;have:=hQ _ h4;unfold Mi at this;rw[hP]at this;exact this
 | true=>
  refine bC (by simp) (uD ?_);rw[q30];refine XD hfit hP (hM.mono h4) (hW.mono h4) (hr0.mono h4) fun t2 s h6 h7 hw _ _=>wM ?_;have hq:=hQ _ (h4.trans h6);unfold Mi at hq;rw[yab hP]at hq;by_cases hl:65536<s.length
  ·refine iC (jM (by rw[mN];omega)) ?_;rw[yab (hw.len.1 hl)]at hq;exact hq
  ·refine bC (rM (by rw[mN];omega)) ?_;obtain⟨k1,k2⟩:=hw.len.2 hl;rw[yaa k2,<- k1]at hq;exact hq
end
end Go.Proofs
namespace Go.Am
section
variable (key:yB->List Nat)(valid:yB->Bool)(P:yB->Prop)(N:List (List Nat))(K:List yB)(code:List XIns)(same:yB->yB->Bool)
def zgg(op:Nat)(name:List Nat)(v:yB)(args:List vA):Prop:=
 (op=1->name=[]/\args=[])/\(op≠1->v=⟨0,Ja,if op=19 then v.i else 0⟩)/\(¬ (3<=op/\op<=6\/21<=op/\op<=23)->name=[])/\(op=2->args=[])
mutual
def fZ:vA->Prop
 | .mk op name v args=>gI valid op v args.length=true/\(op=1->P v)/\zgg op name v args/\dV args
def dV:List vA->Prop
 | []=>True
 | x::l=>fZ x/\dV l
end
def RB (f:sH)(xs:List vA):Prop:=∀s p fu to st,aJ key P s->Seg code p (f s p).2->p+(f s p).2.length<=to->to<=code.length->to<fu+p->(f s p).1.names <+: N->(f s p).1.consts <+: K →
 ∃fu',to<fu'+(p+(f s p).2.length)/\iI N K code same fu p to st=iI N K code same fu' (p+(f s p).2.length) to (st++xs)
structure bL (b:Prop) (f:sH):Prop where
 names:∀s p,s.names <+: (f s p).1.names
 consts:∀s p,s.consts <+: (f s p).1.consts
 last:∀s p,∃y,(f s p).2.getLast?=some y/\y.op≠12
 n13:∀s p,b->∀y∈(f s p).2,y.op≠13
end
section
variable {key:yB->List Nat}{valid:yB->Bool}{P:yB->Prop}{N:List (List Nat)}{K:List yB}{code:List XIns}{same:yB->yB->Bool}
theorem Hi{α:Type}{l:List α}(h:l.length=2):∃a b,l=[a,b]:=by
 match l,h with
 | [a,b],_=>simp_all
theorem len3{α:Type}{l:List α}(h:l.length=3):∃a b c,l=[a,b,c]:=by
 match l,h with
 | [a,b,c],_=>simp_all
theorem VE(s:Nt)(n:List Nat):s.names <+: (s.name n).names/\(s.name n).consts=s.consts:=by
 grind [Nt.name]
theorem Mq(s:Nt)(v:yB):s.consts <+: (s.const key v).consts/\(s.const key v).names=s.names:=by
 grind [Nt.const]
theorem JW(op:Nat)(name:List Nat)(v:yB)(n:Nat)(s:Nt):s.names <+: (wE key op name v n s).1.names/\s.consts <+: (wE key op name v n s).1.consts:=by
 have a:=VE s name;have b:=Mq (key:=key) s v;have r:=List.prefix_refl s.names;have q:=List.prefix_refl s.consts;unfold wE;split
 ·simp_all
 split
 ·simp_all
 split
 ·simp_all
 split
 ·simp_all
 split
 ·simp_all
 split<;>exact⟨r,q⟩
theorem Bb{l m:List XIns}{y:XIns}(h:m.getLast?=some y):(l++m).getLast?=some y:=by
 simp_all
theorem FP{op:Nat}{name:List Nat}{v:yB}{n:Nat}{s:Nt}:(wE key op name v n s).2.op<9:=by
 grind [wE]
theorem GI{f g:sH}{b:Prop}{skip:Nat}{truth:Int}(hf:bL b f)(hg:bL b g)(hs:skip=10\/skip=11):bL b (tK key f g skip truth):=by
 refine⟨fun s p=>?_,fun s p=>(hf.consts s p).trans ((hg.consts _ _).trans (Mq _ _).1),fun s p=>⟨_,Bb (l:=(f s p).2) (Bb (l:=[_]) (Bb (l:=(g (f s p).1 (p+(f s p).2.length+1)).2) rfl)),by simp_all⟩,fun s p hb y hy=>?_⟩
 ·unfold tK;rw[(Mq _ _).2];exact(hf.names s p).trans (hg.names _ _)
 ·have h1:=hf.n13 s p hb;have h2:=hg.n13 (f s p).1 (p+(f s p).2.length+1) hb
  grind [tK]
theorem zh0{f g h:sH}{b:Prop}(hf:bL b f)(hg:bL b g)(hh:bL b h):bL b (eM f g h):=by
 refine⟨fun s p=>(hf.names s p).trans ((hg.names _ _).trans (hh.names _ _)),fun s p=>(hf.consts s p).trans ((hg.consts _ _).trans (hh.consts _ _)),fun s p=>?_,fun s p hb y hy=>?_⟩
 ·obtain⟨y,h1,h2⟩:=hh.last (g (f s p).1 (p+(f s p).2.length+1)).1 (p+(f s p).2.length+1+(g (f s p).1 (p+(f s p).2.length+1)).2.length+1);exact⟨y,Bb (l:=(f s p).2) (Bb (l:=[_]) (Bb (l:=(g (f s p).1 (p+(f s p).2.length+1)).2) (Bb (l:=[_]) h1))),h2⟩
 ·have h1:=hf.n13 s p hb;have h2:=hg.n13 (f s p).1 (p+(f s p).2.length+1) hb;have h3:=hh.n13 (g (f s p).1 (p+(f s p).2.length+1)).1 (p+(f s p).2.length+1+(g (f s p).1 (p+(f s p).2.length+1)).2.length+1) hb
  grind [eM]
theorem Wy{b:Prop}:∀ {fs:List sH},(∀f∈fs,bL b f)->∀s p,s.names <+: (pD fs s p).1.names/\s.consts <+: (pD fs s p).1.consts/\(b->∀y∈(pD fs s p).2,y.op≠13)
 | [],_=>fun s p=>⟨List.prefix_refl _,List.prefix_refl _,fun _ y hy=>by simp[pD]at hy⟩
 | f::l,h=>fun s p=>by
  have h1:=h f (by simp);obtain⟨a,c,d⟩:=Wy (fs:=l) (fun g hg=>h g (by simp[hg])) (f s p).1 (p+(f s p).2.length);refine⟨(h1.names s p).trans a,(h1.consts s p).trans c,fun hb y hy=>?_⟩;have:=h1.n13 s p hb
  grind [pD]
theorem zee{op:Nat}{name:List Nat}{v:yB}{fs:List sH}{b:Prop}(hb:b->gI valid op v fs.length=true)(hf:∀f∈fs,bL b f):bL b (lH key valid op name v fs):=by
 by_cases h0:gI valid op v fs.length=false
 ·have e:lH key valid op name v fs=fun s p=>(s,[⟨13,0,0⟩]):=by funext s p;unfold lH;rw[yab h0]
  rw[e];exact⟨fun _ _=>List.prefix_refl _,fun _ _=>List.prefix_refl _,fun _ _=>⟨_,rfl,by simp_all⟩,fun _ _ h=>by simp_all⟩
 have hn:gI valid op v fs.length=true:=by simp_all
 unfold gI at hn;simp only[ybb,decide_eq_true_eq]at hn;have hlen:(op=15\/op=16->fs.length=2)/\(op=18->fs.length=3):=by
  grind [gF]
 by_cases h15:op=15
 ·obtain⟨f,g,rfl⟩:=Hi (hlen.1 (.inl h15));have e:lH key valid op name v [f,g]=tK key f g 10 0:=by funext s p;unfold lH;rw[yaa h0,yab h15]
  grind [GI]
 by_cases h16:op=16
 ·obtain⟨f,g,rfl⟩:=Hi (hlen.1 (.inr h16));have e:lH key valid op name v [f,g]=tK key f g 11 1:=by funext s p;unfold lH;rw[yaa h0,yaa h15,yab h16]
  grind [GI]
 by_cases h18:op=18
 ·obtain⟨f,g,h,rfl⟩:=len3 (hlen.2 h18);have e:lH key valid op name v [f,g,h]=eM f g h:=by funext s p;unfold lH;rw[yaa h0,yaa h15,yaa h16,yab h18]
  grind [zh0]
 have e:∀s p,lH key valid op name v fs s p=((wE key op name v fs.length (pD fs s p).1).1,(pD fs s p).2++[(wE key op name v fs.length (pD fs s p).1).2]):=fun s p=>by
  unfold lH;rw[yaa h0,yaa h15,yaa h16,yaa h18]
 have q:=fun s p=>Wy hf s p;have o:=fun s p=>JW (key:=key) op name v fs.length (pD fs s p).1;have k:=fun s p=>FP (key:=key) (op:=op) (name:=name) (v:=v) (n:=fs.length) (s:=(pD fs s p).1);refine⟨fun s p=>?_,fun s p=>?_,fun s p=>?_,fun s p hb y hy=>?_⟩<;>rw[e]at *
 ·grind
 ·grind
 ·exact⟨(wE key op name v fs.length (pD fs s p).1).2,Bb (m:=[_]) rfl,fun h=>absurd (k s p) (by omega)⟩
 grind
mutual
theorem Jv:∀(x:vA),bL (fZ valid P x) (vC key valid x)
 | .mk op name v args=>by
  unfold vC;refine zee (fun h=>?_) fun f hf=>?_
  ·grind [fZ,Jw]
  ·have:=Tu args f hf;exact⟨this.names,this.consts,this.last,fun s p h=>this.n13 s p (by grind [fZ])⟩
theorem Tu:∀(l:List vA),∀f∈zE key valid l,bL (dV valid P l) f
 | [],f,hf=>by simp[zE]at hf
 | x::l,f,hf=>by
  simp only[zE,ybs]at hf;rcases hf with rfl | hf
  ·have:=Jv x;exact⟨this.names,this.consts,this.last,fun s p h=>this.n13 s p (by grind [dV])⟩
  ·have:=Tu l f hf;exact⟨this.names,this.consts,this.last,fun s p h=>this.n13 s p (by grind [dV])⟩
end
theorem bL.pos{f:sH}{b:Prop}(h:bL b f)(s:Nt)(p:Nat):1<=(f s p).2.length:=by
 obtain⟨y,h1,_⟩:=h.last s p
 grind
theorem bL.at{f:sH}{b:Prop}(h:bL b f){s:Nt}{p:Nat}(hs:Seg code p (f s p).2):∃y,code[p+(f s p).2.length-1]?=some y/\y.op≠12:=by
 obtain⟨y,h1,h2⟩:=h.last s p;have hp:=h.pos s p;rw[List.getLast?_eq_getElem?]at h1;refine⟨y,?_,h2⟩;have:=hs _ _ h1
 grind
theorem Wz{s:Nt}{n:List Nat}(h:(s.name n).names <+: N):N.getD (s.nameI n) []=n:=by
 have h1:(s.name n).names[s.nameI n]?=some n:=by
  grind [Nt.name,Nt.nameI,Rc,Ea]
 obtain⟨r,rfl⟩:=h
 grind
theorem MH{s:Nt}{v:yB}(hN:aJ key P s)(hv:P v)(hinj:∀u w,P u->P w->key u=key w->u=w)(h:(s.const key v).consts <+: K):K.getD (s.constI key v) jH=v:=by
 have h1:(s.const key v).consts[s.constI key v]?=some v:=by
  unfold Nt.const Nt.constI;by_cases hm:key v∈s.consts.map key
  ·rw[yab hm];have:=Rc hm;rw[ybu]at this
   cases hu:s.consts[dK (key v) (s.consts.map key)]? with
   | none=>simp_all
   | some u=>
    rw[hu]at this;have e:=yci this;rw[hinj u v (hN.all u (ycv hu)) hv e]
  grind [Ea]
 obtain⟨r,rfl⟩:=h
 grind
def Pk{fu i to:Nat}{st:List vA}(h:to<=i)(hf:0<fu):iI N K code same fu i to st=some st:=by
 obtain⟨f,rfl⟩:∃f,fu=f+1:=⟨fu-1,by omega⟩;rw[iI,yab h]
theorem zcm{fu i to:Nat}{st args:List vA}{x:XIns}(h:i<to)(hf:0<fu)(hx:code[i]?=some x)(hj:¬ (x.op=9\/x.op=10\/x.op=11))(h12:x.op≠12)(hp:cF x=(args.length:Int)) :
  iI N K code same fu i to (st++args)=iI N K code same (fu-1) (i+1) to (st++[iF N K x args]):=by
 obtain⟨f,rfl⟩:∃f,fu=f+1:=⟨fu-1,by omega⟩
 grind [iI,List.drop_left']
theorem EO{fu i to next:Nat}{st:List vA}{top y:vA}{x:XIns}(h:i<to)(hf:0<fu)(hx:code[i]?=some x)(hj:x.op=9\/x.op=10\/x.op=11)
  (hb:yX K code same (fun a b=>rT (iI N K code same (fu-1) a b [])) top i to=some (y,next)) :
  iI N K code same fu i to (st++[top])=iI N K code same (fu-1) next to (st++[y]):=by
 obtain⟨f,rfl⟩:∃f,fu=f+1:=⟨fu-1,by omega⟩
 grind [iI]
section
variable (hinj:∀u w,P u->P w->key u=key w->u=w)(h0:P (eE 0))(h1:P (eE 1))(hs0:same (eE 0) (eE 0)=true)(hs1:same (eE 1) (eE 1)=true)
include hinj
theorem ES{f g:sH}{a b:vA}{skip:Nat}{truth:Int}(hs:skip=10/\truth=0\/skip=11/\truth=1)(hv:P (eE truth))(hsm:same (eE truth) (eE truth)=true)(tf:mM key P f)(tg:mM key P g){q:Prop}(gg:bL q g)(hf:RB key P N K code same f [a])(hg:RB key P N K code same g [b]) :
  RB key P N K code same (tK key f g skip truth) [.mk (if skip=11 then 16 else 15) [] jH [a,b]]:=by
 intro s p fu to st hN hseg hle hto hfu hn hc;have n1:=(tf s p hN).1;have hgw:=gg.names (f s p).1 (p+(f s p).2.length+1);have hgc:=gg.consts (f s p).1 (p+(f s p).2.length+1);simp only[tK,ybg,ybn,ybx]at hseg hle hn hc ⊢;generalize hr:f s p=r at *;generalize hq:g r.1 (p+r.2.length+1)=q at *;have n2:aJ key P q.1:=by have:=(tg r.1 (p+r.2.length+1) n1).1;rwa [hq]at this
 rw[(Mq q.1 (eE truth)).2]at hn;have hqc:=(Mq (key:=key) q.1 (eE truth)).1.trans hc;obtain⟨b1,b2⟩:=hseg.right.head;obtain⟨c1,c2⟩:=b2.right.head;obtain⟨c3,c4⟩:=c2.head;obtain⟨c5,_⟩:=c4.head;obtain⟨fu1,k1,k2⟩:=hf s p fu to st hN (by rw[hr];exact hseg.left) (by grind) hto hfu (by grind) (by grind);rw[hr]at k1 k2;rw[k2];have hfu1:0<fu1:=by omega
 have hin:∃fu2,0<fu2/\iI N K code same (fu1-1) (p+r.2.length+1) (p+r.2.length+1+q.2.length) []=iI N K code same fu2 (p+r.2.length+1+q.2.length) (p+r.2.length+1+q.2.length) [b]:=by
  obtain⟨fu2,e1,e2⟩:=hg r.1 (p+r.2.length+1) (fu1-1) (p+r.2.length+1+q.2.length) [] n1 (by rw[hq];exact b2.left) (by simp_all) (by omega) (by omega) (by simp_all) (by simp_all)
  grind
 obtain⟨fu2,e1,e2⟩:=hin;rw[Pk (ybk _) e1]at e2;have hT:p+r.2.length+1+q.2.length+2=p+r.2.length+1+q.2.length+1+1:=rfl;have hbr:yX K code same (fun a b=>rT (iI N K code same (fu1-1) a b [])) a (p+r.2.length) to=some (.mk (if skip=11 then 16 else 15) [] jH [a,b],p+r.2.length+1+q.2.length+3):=by
  unfold yX;rw[b1];simp only[];rw[yaa (by omega),yaa (by omega),yaa (by omega)];rw[show(((p+r.2.length+1+q.2.length+2:Nat):Int)).toNat=p+r.2.length+1+q.2.length+2 from Int.toNat_natCast _];rw[show p+r.2.length+1+q.2.length+2-1=p+r.2.length+1+q.2.length+1 by omega,show p+r.2.length+1+q.2.length+2-2=p+r.2.length+1+q.2.length by omega,c3,c1,hT,c5];simp only[];rw[yaa (by simp),yaa (by omega),yab trivial,e2]
  simp only[rT];have hlast:same (K.getD ((Nt.constI key q.1 (eE truth):Int)).toNat jH) (eE (if skip=11 then 1 else 0))=true:=by
   rw[Int.toNat_natCast,MH n2 hv hinj hc];rcases hs with⟨rfl,rfl⟩ | ⟨rfl,rfl⟩<;>exact hsm
  rw[yab ⟨by omega,trivial,hlast⟩,Int.toNat_natCast]
 rw[EO (by omega) hfu1 b1 (by grind) hbr];refine⟨fu1-1,by omega,?_⟩;rw[show p+(r.2.length+(q.2.length+(0+1+1+1)+1))=p+r.2.length+1+q.2.length+3 by omega]
omit hinj in
theorem rb_if{f g h:sH}{a b d:vA}(tf:mM key P f)(tg:mM key P g){q:Prop}(gg:bL q g)(gh:bL q h)(hf:RB key P N K code same f [a])(hg:RB key P N K code same g [b])(hh:RB key P N K code same h [d]) :
  RB key P N K code same (eM f g h) [.mk 18 [] jH [a,b,d]]:=by
 intro s p fu to st hN hseg hle hto hfu hn hc;have n1:=(tf s p hN).1;simp only[eM,ybg,ybn]at hseg hle hn hc ⊢;generalize hr:f s p=r at *;have hgw:=gg.names r.1 (p+r.2.length+1);have hgc:=gg.consts r.1 (p+r.2.length+1);have n2:=(tg r.1 (p+r.2.length+1) n1).1;have lgp:=gg.pos r.1 (p+r.2.length+1);have lga:=gg.at (code:=code) (s:=r.1) (p:=p+r.2.length+1);generalize hq:g r.1 (p+r.2.length+1)=q at *;have hhw:=gh.names q.1 (p+r.2.length+1+q.2.length+1)
 have hhc:=gh.consts q.1 (p+r.2.length+1+q.2.length+1);have lhp:=gh.pos q.1 (p+r.2.length+1+q.2.length+1);generalize hw:h q.1 (p+r.2.length+1+q.2.length+1)=w at *;obtain⟨b1,b2⟩:=hseg.right.head;obtain⟨c1,c2⟩:=b2.right.head;obtain⟨z,hz,hz12⟩:=lga b2.left;have hfirst:∃z,code[p+r.2.length+1+q.2.length+1]?=some z:=by
  grind
 obtain⟨z0,hz0⟩:=hfirst;obtain⟨fu1,k1,k2⟩:=hf s p fu to st hN (by rw[hr];exact hseg.left) (by grind) hto hfu (by grind) (by grind);rw[hr]at k1 k2;rw[k2];have hfu1:0<fu1:=by omega
 obtain⟨fu2,e1,e2⟩:=hg r.1 (p+r.2.length+1) (fu1-1) (p+r.2.length+1+q.2.length) [] n1 (by rw[hq];exact b2.left) (by simp_all) (by omega) (by omega) (by grind) (by grind);rw[hq]at e1 e2;rw[Pk (ybk _) (by omega),yah]at e2;obtain⟨fu3,e3,e4⟩:=hh q.1 (p+r.2.length+1+q.2.length+1) (fu1-1) (p+r.2.length+1+q.2.length+1+w.2.length) [] n2 (by simp_all) (by simp_all) (by omega) (by omega) (by simp_all) (by simp_all)
 rw[hw]at e3 e4;rw[Pk (ybk _) (by omega),yah]at e4;have hbr:yX K code same (fun a b=>rT (iI N K code same (fu1-1) a b [])) a (p+r.2.length) to=some (.mk 18 [] jH [a,b,d],p+r.2.length+1+q.2.length+1+w.2.length):=by
  unfold yX;rw[b1];simp only[];rw[yaa (by omega),yaa (by omega),yaa (by omega)];rw[show(((p+r.2.length+1+q.2.length+1:Nat):Int)).toNat=p+r.2.length+1+q.2.length+1 from Int.toNat_natCast _];rw[show p+r.2.length+1+q.2.length+1-1=p+r.2.length+1+q.2.length by omega,show p+r.2.length+1+q.2.length+1-2=p+r.2.length+1+q.2.length-1 by omega,c1,hz,hz0];simp only[];rw[yaa (by simp),yaa (by omega),yaa hz12,e2]
  simp only[rT];rw[yaa (by simp),Int.toNat_natCast,e4]
 rw[EO (by omega) hfu1 b1 (.inr (.inl rfl)) hbr];refine⟨fu1-1,by omega,?_⟩;rw[show p+(r.2.length+(q.2.length+(w.2.length+1)+1))=p+r.2.length+1+q.2.length+1+w.2.length by omega]
omit hinj in
theorem zfd:∀ {fs:List sH} {l:List vA},fs.length=l.length->(∀(i:Nat) f x,fs[i]?=some f->l[i]?=some x->RB key P N K code same f [x])->(∀f∈fs,mM key P f)->{q:Prop}->(∀f∈fs,bL q f)->RB key P N K code same (pD fs) l
 | [],[],_,_,_,_,_=>fun s p fu to st hN hseg hle hto hfu hn hc=>⟨fu,by omega,by simp[pD]⟩
 | f::fs,x::l,hl,h,ht,_,hg=>fun s p fu to st hN hseg hle hto hfu hn hc=>by
  obtain⟨gn,gc,_⟩:=Wy (fs:=fs) (fun g k=>hg g (by simp[k])) (f s p).1 (p+(f s p).2.length);simp only[pD,ybg]at hseg hle hn hc ⊢;obtain⟨fu1,k1,k2⟩:=h 0 f x rfl rfl s p fu to st hN hseg.left (by omega) hto hfu (gn.trans hn) (gc.trans hc);obtain⟨fu2,e1,e2⟩:=zfd (fs:=fs) (l:=l) (by simp_all) (fun i g y a b=>h (i+1) g y (by grind) (by grind)) (fun g k=>ht g (by simp[k])) (fun g k=>hg g (by simp[k])) (f s p).1 (p+(f s p).2.length) fu1 to (st++[x]) (ht f (by simp) s p hN).1 hseg.right (by omega) hto (by omega) hn hc
  grind
include h0 h1 hs0 hs1
theorem zcn{op:Nat}{name:List Nat}{v:yB}{args:List vA}{fs:List sH}(hlen:fs.length=args.length)(hform:gI valid op v args.length=true)(hvP:op=1->P v)(hcan:zgg op name v args)
  (hrb:∀(i:Nat) f x,fs[i]?=some f->args[i]?=some x->RB key P N K code same f [x]) (ht:∀f∈fs,mM key P f) {q:Prop} (hg:∀f∈fs,bL q f):RB key P N K code same (lH key valid op name v fs) [.mk op name v args]:=by
 have hN0:gI valid op v fs.length≠false:=by simp_all
 have hn:=hform;unfold gI at hn;simp only[ybb,decide_eq_true_eq]at hn;obtain⟨hc1,hc2,hc3,hc4⟩:=hcan;have hz:∀k,op=k->k≠1->k≠19->v=jH:=fun k e k1 k19=>by
  rw[hc2 (by omega),yaa (by omega)];rfl
 by_cases h15:op=15
 ·subst h15;have h2:args.length=2:=by grind [gF]
  obtain⟨f,g,rfl⟩:=Hi (hlen.trans h2);obtain⟨a,b,rfl⟩:=Hi h2;have e:lH key valid 15 name v [f,g]=tK key f g 10 0:=by
   funext s p;unfold lH;rw[yaa hN0,yab rfl]
  rw[e,hz 15 rfl (by decide) (by decide),hc3 (by omega)];exact ES (skip:=10) hinj (.inl ⟨rfl,rfl⟩) h0 hs0 (ht f (by simp)) (ht g (by simp)) (hg g (by simp)) (hrb 0 f a rfl rfl) (hrb 1 g b rfl rfl)
 by_cases h16:op=16
 ·subst h16;have h2:args.length=2:=by grind [gF]
  obtain⟨f,g,rfl⟩:=Hi (hlen.trans h2);obtain⟨a,b,rfl⟩:=Hi h2;have e:lH key valid 16 name v [f,g]=tK key f g 11 1:=by
   funext s p;unfold lH;rw[yaa hN0,yaa (by decide),yab rfl]
  rw[e,hz 16 rfl (by decide) (by decide),hc3 (by omega)];exact ES (skip:=11) hinj (.inr ⟨rfl,rfl⟩) h1 hs1 (ht f (by simp)) (ht g (by simp)) (hg g (by simp)) (hrb 0 f a rfl rfl) (hrb 1 g b rfl rfl)
 by_cases h18:op=18
 ·subst h18;have h2:args.length=3:=by grind [gF]
  obtain⟨f,g,h,rfl⟩:=len3 (hlen.trans h2);obtain⟨a,b,d,rfl⟩:=len3 h2;have e:lH key valid 18 name v [f,g,h]=eM f g h:=by
   funext s p;unfold lH;rw[yaa hN0,yaa (by decide),yaa (by decide),yab rfl]
  rw[e,hz 18 rfl (by decide) (by decide),hc3 (by omega)];exact rb_if (ht f (by simp)) (ht g (by simp)) (hg g (by simp)) (hg h (by simp)) (hrb 0 f a rfl rfl) (hrb 1 g b rfl rfl) (hrb 2 h d rfl rfl)
 intro s p fu to st hN hseg hle hto hfu hnn hcc;have e:lH key valid op name v fs s p=((wE key op name v fs.length (pD fs s p).1).1,(pD fs s p).2++[(wE key op name v fs.length (pD fs s p).1).2]):=by
  unfold lH;rw[yaa hN0,yaa h15,yaa h16,yaa h18]
 rw[e]at hseg hle hnn hcc ⊢;simp only[ybg,ybn,ybx]at hseg hle hnn hcc ⊢;have hN1:=(Lr ht s p hN).1;have hgo:=JW (key:=key) op name v fs.length (pD fs s p).1;obtain⟨fu1,k1,k2⟩:=zfd hlen hrb ht hg s p fu to st hN hseg.left (by omega) hto hfu (hgo.1.trans hnn) (hgo.2.trans hcc);generalize hq:pD fs s p=q at *;obtain⟨c1,_⟩:=hseg.right.head;rw[k2,hlen]at *;have hpop:cF (wE key op name v args.length q.1).2=(args.length:Int)/\¬ ((wE key op name v args.length q.1).2.op=9\/(wE key op name v args.length q.1).2.op=10\/(wE key op name v args.length q.1).2.op=11)/\iF N K (wE key op name v args.length q.1).2 args=.mk op name v args:=by
  have ha:=hn.1.2;have hb:=hn.2;unfold wE at hnn hcc ⊢;by_cases g1:op=1
  ·subst g1;obtain⟨rfl,rfl⟩:=hc1 rfl;simp only[yab trivial]at hnn hcc ⊢;refine⟨by simp[cF],by simp,?_⟩;simp only[iF,yab trivial];rw[Int.toNat_natCast,MH hN1 (hvP rfl) hinj hcc]
  rw[yaa g1]at hnn hcc ⊢;by_cases g2:op=2
  ·simp_all [cF,iF]
  rw[yaa g2]at hnn hcc ⊢;by_cases g3:op=3\/op=4\/op=5
  ·rw[yab g3]at hnn hcc ⊢;have hzv:v=jH:=hz op rfl (by omega) (by omega);refine⟨?_,by grind,?_⟩
   ·have:args.length=1:=by
     rcases g3 with rfl | rfl | rfl<;>simp[gF]at ha hb<;>omega
    rcases g3 with rfl | rfl | rfl<;>simp[cF,this]
   grind [iF,Int.toNat_natCast,Wz]
  rw[yaa g3]at hnn hcc ⊢;by_cases g6:op=6
  ·subst g6;rw[yab rfl]at hnn hcc ⊢;refine⟨by simp[cF],by simp,?_⟩;rw[hz 6 rfl (by decide) (by decide)];simp only[iF];rw[yaa (by decide),yab (by decide),Int.toNat_natCast,Wz hnn]
  rw[yaa g6]at hnn hcc ⊢;by_cases g8:op=21\/op=22\/op=23
  ·rw[yab g8]at hnn hcc ⊢;have hzv:v=jH:=hz op rfl (by omega) (by omega);refine⟨?_,by simp,?_⟩
   ·have hL:(args.length:Int)=(gF op).1:=by
     rcases g8 with rfl | rfl | rfl<;>simp[gF]at ha hb ⊢<;>omega
    rw[hL];rcases g8 with rfl | rfl | rfl<;>simp[cF]
   ·unfold iF;rw[yaa (by grind),yaa (by grind),yab rfl];show vA.mk (((op:Int)%256)).toNat (N.getD ((q.1.nameI name:Int)).toNat []) jH args=_;rw[Int.toNat_natCast,Wz hnn,hzv,show(((op:Int)%256)).toNat=op by omega]
  rw[yaa g8]at hnn hcc ⊢;have hrange:op<27:=by
   grind [gF]
  have hL:(args.length:Int)=(gF op).1:=by
   grind [gF]
  have hname:name=[]:=hc3 (by omega);by_cases g19:op=19
  ·subst g19;rw[yab rfl]at hnn hcc ⊢;refine⟨by grind [cF],by simp,?_⟩;have hv:=hc2 (by decide);rw[yab rfl]at hv;simp only[iF];rw[yaa (by decide),yaa (by decide),yaa (by decide),yab trivial,hname];show vA.mk 19 [] ⟨0,Ja,v.i⟩ args=_;rw[<- hv]
  ·rw[yaa g19]at hnn hcc ⊢;refine⟨?_,by simp,?_⟩
   ·rw[hL];unfold cF;rw[yaa (by grind),yab rfl];show(gF (((op:Int)%256)).toNat).1=_;rw[show(((op:Int)%256)).toNat=op by omega]
   grind [iF]
 obtain⟨p1,p2,p3⟩:=hpop;rw[zcm (by omega) (by omega) c1 p2 (by grind [FP]) p1,p3];refine⟨fu1-1,by omega,?_⟩;rw[show p+(q.2.length+(0+1))=p+q.2.length+1 by omega]
variable (hP:∀v:yB,v.fit->valid v=true->P v)
include hP
mutual
theorem ER:∀(x:vA),x.fit->fZ valid P x->RB key P N K code same (vC key valid x) [x]
 | .mk op name v args,hf,hb=>by
  unfold fZ at hb;unfold vA.fit at hf;unfold vC;exact zcn hinj h0 h1 hs0 hs1 (Jw key valid args) hb.1 hb.2.1 hb.2.2.1 (EQ args hf.2.2.2.2.2 hb.2.2.2) (Tv h0 h1 hP args hf.2.2.2.2.2) (Tu (P:=P) args)
theorem EQ:∀(l:List vA),vA.fits l->dV valid P l->∀(i:Nat) f x,(zE key valid l)[i]?=some f->l[i]?=some x->RB key P N K code same f [x]
 | [],_,_,i,f,x,_,hx=>by simp at hx
 | y::l,hf,hb,i,f,x,hfi,hx=>by
  unfold vA.fits at hf;unfold dV at hb;unfold zE at hfi
  cases i with
  | zero=>
   obtain rfl:=yci hfi;obtain rfl:=yci hx;exact ER y hf.1 hb.1
  | succ i=>exact EQ l hf.2 hb.2 i f x (by simp_all) (by simp_all)
end
theorem TE{x:vA}{s:Nt}(hf:x.fit)(hb:fZ valid P x)(hN:aJ key P s)(hn:(vC key valid x s 0).1.names <+: N)(hc:(vC key valid x s 0).1.consts <+: K):rT (iI N K (vC key valid x s 0).2 same ((vC key valid x s 0).2.length+1) 0 (vC key valid x s 0).2.length [])=some x:=by
 obtain⟨fu,k1,k2⟩:=ER (N:=N) (K:=K) (code:=(vC key valid x s 0).2) hinj h0 h1 hs0 hs1 hP x hf hb s 0 ((vC key valid x s 0).2.length+1) (vC key valid x s 0).2.length [] hN (fun k y h=>by simp_all) (by omega) (ybk _) (by omega) hn hc;rw[k2,Pk (by omega) (by omega)];rfl
end
def BG:∀(l:List fC) (s:Nt),s.names <+: (mL key valid l s).1.names/\s.consts <+: (mL key valid l s).1.consts
 | [],s=>⟨List.prefix_refl _,List.prefix_refl _⟩
 | x::l,s=>by
  have h:=BG l (vC key valid x.then_ (vC key valid x.when_ s 0).1 0).1;have a:=Jv (key:=key) (valid:=valid) (P:=fun _=>True) x.when_;have b:=Jv (key:=key) (valid:=valid) (P:=fun _=>True) x.then_;exact⟨(a.names s 0).trans ((b.names _ 0).trans h.1),(a.consts s 0).trans ((b.consts _ 0).trans h.2)⟩
theorem BH(h0:P (eE 0))(h1:P (eE 1))(hP:∀v:yB,v.fit->valid v=true->P v):∀(l:List fC) (s:Nt) (k:Nat) (c:fC),(∀x∈l,x.fit)->aJ key P s->l[k]?=some c->∃s1,aJ key P s1/\(mL key valid l s).2[k]?=some ((vC key valid c.when_ s1 0).2,(vC key valid c.then_ (vC key valid c.when_ s1 0).1 0).2) ∧
   (vC key valid c.then_ (vC key valid c.when_ s1 0).1 0).1.names <+: (mL key valid l s).1.names/\(vC key valid c.then_ (vC key valid c.when_ s1 0).1 0).1.consts <+: (mL key valid l s).1.consts
 | [],_,_,_,_,_,h=>by simp at h
 | x::l,s,k,c,hf,hs,h=>by
  have hx:=hf x (by simp);have n1:=(Gc h0 h1 hP x.when_ hx.2.2.2.2.2.1 s 0 hs).1;have n2:=(Gc h0 h1 hP x.then_ hx.2.2.2.2.2.2 _ 0 n1).1
  cases k with
  | zero=>
   have h:x=c:=by grind
   subst h;exact⟨s,hs,rfl,BG l _⟩
  | succ k=>
   obtain⟨s1,g1,g2,g3⟩:=BH h0 h1 hP l _ k c (fun y hy=>hf y (by simp[hy])) n2 (by grind)
   grind [mL]
end
end Go.Am
namespace Go.Proofs
open Go Go.Am
variable [tC]
variable {t tf:Tr qA}
def zam:∀k,k<27->(rC k).style≠0->(gF k).1<=(rC k).least/\((rC k).most:Int)<=(gF k).2/\((rC k).named=true ↔ (3<=k/\k<=6\/21<=k/\k<=23)):=by decide +kernel
def TN{v:yB}(h:vS v=true):yC v=true:=by
 have hz:jX v.f=true->cZ v.f=true:=fun h=>by
  unfold jX at h;simp only[ybb,ycp,decide_eq_true_eq]at h;have e1:v.f.n.limbs=[]:=List.eq_nil_of_length_eq_zero (by omega);have e2:v.f.d.limbs=[]:=List.eq_nil_of_length_eq_zero (by omega);unfold cZ Gr Cz;rw[h.1.1,h.1.2,e1,e2];decide
 unfold vS at h;unfold yC;by_cases h23:v.kind=2\/v.kind=3
 ·rw[yab h23]at h ⊢;unfold Kx at h;simp only[ybb]at h ⊢;exact⟨h.1,h.2.1.2⟩
 rw[yaa h23]at h ⊢;by_cases h1:v.kind=1
 ·rw[yab h1]at h ⊢;simp only[ybb,ycq,decide_eq_true_eq]at h ⊢;exact⟨hz h.1,by omega,by omega⟩
 rw[yaa h1]at h ⊢;by_cases h4:v.kind=4
 ·rw[yab h4]at h ⊢;simp only[ybb,decide_eq_true_eq]at h ⊢;exact⟨hz h.1,h.2⟩
 rw[yaa h4]at h ⊢;by_cases h5:v.kind=5\/v.kind=6
 ·rw[yab h5]at h ⊢;simp only[ybb,decide_eq_true_eq]at h ⊢;exact⟨hz h.1,h.2⟩
 ·rw[yaa h5]at h;cases h
def AB{v:yB}(h:Cb v=true):v=jH:=by
 obtain⟨k,⟨⟨n1,l1⟩,⟨n2,l2⟩⟩,i⟩:=v;unfold Cb jX at h;simp only[ybb,ycp,decide_eq_true_eq]at h;obtain⟨⟨h1,h2⟩,⟨h3,h4⟩,h5⟩:=h;have e1:l1=[]:=List.eq_nil_of_length_eq_zero (by omega);have e2:l2=[]:=List.eq_nil_of_length_eq_zero (by omega);subst h1 h2 h3 h4 e1 e2;rfl
mutual
def NU:∀(x:vA) (d:Nat),x.fit->uK x d=true->fZ yC qV x
 | .mk op name v args,d,hf,hP=>by
  unfold uK Eg at hP;simp only[ybb,decide_eq_true_eq]at hP;obtain⟨⟨hd,⟨⟨⟨h27,hs0⟩,hl⟩,hm⟩,hnm⟩,hrest⟩:=hP;simp only[ycp,decide_eq_false_iff_not]at hs0;obtain⟨a1,a2,a3⟩:=zam op h27 hs0;unfold vA.fit at hf;unfold fZ;have hvalid:op=1->yC v=true:=fun e=>by
   rw[yab e]at hrest;exact TN hrest
  refine⟨?_,fun e=>⟨hvalid e,hf.2.2.2.1⟩,⟨fun e=>?_,fun e=>?_,fun e=>?_,fun e=>?_⟩,?_⟩
  ·unfold gI;simp only[ybb,ycq,decide_eq_true_eq];refine⟨⟨?_,by omega⟩,by omega⟩;by_cases e:op=1
   ·exact .inr (hvalid e)
   ·exact .inl e
  ·have h0:(rC op).most=0:=by rw[e];decide
   refine⟨?_,List.eq_nil_of_length_eq_zero (by omega)⟩;rw[yaa (fun h=>by have:=a3.1 h;omega)]at hnm;exact(wL _ _).1 hnm
  ·rw[yaa e,ybb]at hrest;have h:=hrest.1;unfold Ig at h;by_cases e19:op=19
   ·rw[yab e19]at h ⊢;simp only[ybb]at h;have:=AB h.2;obtain⟨k,f,i⟩:=v;unfold jH at this;simp only[yB.mk.injEq]at this;rw[this.1,this.2.1]
   ·rw[yaa e19]at h ⊢;exact AB h
  ·rw[yaa (fun h=>e (a3.1 h))]at hnm;exact(wL _ _).1 hnm
  ·have h0:(rC op).most=0:=by rw[e];decide
   exact List.eq_nil_of_length_eq_zero (by omega)
  ·by_cases e:op=1
   ·have h0:(rC op).most=0:=by rw[e];decide
    have:args=[]:=List.eq_nil_of_length_eq_zero (by omega);rw[this];unfold dV;trivial
   ·rw[yaa e,ybb]at hrest;exact NS args (d+1) hf.2.2.2.2.2 hrest.2
def NS:∀(l:List vA) (d:Nat),vA.fits l->kV l d=true->dV yC qV l
 | [],_,_,_=>by unfold dV;trivial
 | x::l,d,hf,hP=>by
  unfold vA.fits at hf;rw[kV,ybb]at hP;unfold dV;exact⟨NU x d hf.1 hP.1,NS l d hf.2 hP.2⟩
end
def MM{x:vA}{s:Nt}{N:List (List Nat)}{K:List yB}(hf:x.fit)(hP:uK x 1=true)(hs:aJ xB qV s)(hn:(vC xB yC x s 0).1.names <+: N)(hc:(vC xB yC x s 0).1.consts <+: K)(hK:∀v∈K,qV v)
  (hl:(vC xB yC x s 0).2.length<=1000) (hd:2*Eu x<=64):Er N K (vC xB yC x s 0).2=some x:=by
 have hb:=NU x 1 hf hP;have hso:cX N.length K.length (vC xB yC x s 0).2=true:=YH hf ⟨hs.names,hs.consts,fun _ _=>trivial⟩ hn.length_le hc.length_le hl hd;unfold Er;rw[yaa (by rw[hso];decide),yaa ?_]
 ·exact TE zdn (Gb (by decide) (by decide)) (Gb (by decide) (by decide)) (by decide) (by decide) (fun v h1 h2=>⟨h2,h1⟩) hf hb hs hn hc
 ·intro h;rw[List.any_eq_true]at h;obtain⟨y,hy,hbad⟩:=h;have h13:=(Jv (key:=xB) (valid:=yC) (P:=qV) x).n13 s 0 hb y hy;unfold nV at hbad;simp only[ycq,ybb,decide_eq_true_eq,ycp]at hbad;rcases hbad with e | ⟨e1,e2⟩
  ·exact h13 e
  ·obtain⟨i,hi,rfl⟩:=List.mem_iff_getElem.1 hy;have hsi:=(CT hso).2 i _ (ybd hi);unfold wF at hsi;rw[yab e1]at hsi;simp only[ybb,decide_eq_true_eq]at hsi;generalize (vC xB yC x s 0).2[i]=y at *;have hlt:y.a.toNat<K.length:=by omega
   rw[List.getD_eq_getElem?_getD,ybd hlt]at e2;have:=(hK _ (ycj hlt)).1;simp only[Option.getD_some]at e2;rw[this]at e2;cases e2
def YJ{p:rG}(hp:p.fit)(hb:fS p=true){k:Nat}{c:fC}(hc:p.clauses[k]?=some c) :
  ∃q,(yF p).2[k]?=some q/\q.1.length<=1000/\q.2.length<=1000/\(uK c.when_ 1=true->Er (yF p).1.names (yF p).1.consts q.1=some c.when_)/\(uK c.then_ 1=true->Er (yF p).1.names (yF p).1.consts q.2=some c.then_):=by
 have hcm:=ycv hc;have hcf:=hp.clauses _ hcm;have hbp:=hb;unfold fS at hbp;simp only[ybb,decide_eq_true_eq]at hbp;have hxb:xX c=true:=ycb.1 hbp.1.2 c hcm;unfold xX at hxb;rw[ybb]at hxb;have d1:=Vm c.when_ 1 0 hxb.1;have d2:=Vm c.then_ 1 0 hxb.2;have ht0:=Gb (n:=0) (by decide) (by decide);have ht1:=Gb (n:=1) (by decide) (by decide);have hP:∀v:yB,v.fit->yC v=true->qV v:=fun v h1 h2=>⟨h2,h1⟩
 obtain⟨s1,g1,g2,e1,e2⟩:=BH (key:=xB) (valid:=yC) ht0 ht1 hP p.clauses ⟨[],[]⟩ k c hp.clauses ⟨by simp,by simp,fun _ h=>by cases h⟩ hc;have p1:=Gm hxb.1;have p2:=Gm hxb.2;have lw:=(zT (key:=xB) (valid:=yC) c.when_ s1 0).1;have lt:=(zT (key:=xB) (valid:=yC) c.then_ (vC xB yC c.when_ s1 0).1 0).1;have hK:=(HD hp).1.all;have gw:=Jv (key:=xB) (valid:=yC) (P:=qV) c.then_
 have n1:=(Gc ht0 ht1 hP c.when_ hcf.2.2.2.2.2.1 s1 0 g1).1;refine⟨_,g2,by show(vC xB yC c.when_ s1 0).2.length<=1000;omega,by show(vC xB yC c.then_ _ 0).2.length<=1000;omega,fun h=>?_,fun h=>?_⟩
 ·exact MM hcf.2.2.2.2.2.1 h g1 ((gw.names _ 0).trans e1) ((gw.consts _ 0).trans e2) hK (by omega) (by omega)
 ·exact MM hcf.2.2.2.2.2.2 h n1 e1 e2 hK (by omega) (by omega)
end Go.Proofs
namespace Go.Proofs
open Go Go.Am
mutual
def vA.cpy:vA->Prop
 | .mk _ _ v args=>(v.f.n.limbs.length<300000/\v.f.d.limbs.length<300000)/\args.length<300000/\vA.cpys args
def vA.cpys:List vA->Prop
 | []=>True
 | x::l=>vA.cpy x/\vA.cpys l
end
structure rG.cpy (p:rG):Prop where
 defs:p.defs.length<300000
 tables:p.tables.length<300000
 clauses:p.clauses.length<300000
 rows:∀x∈p.tables,x.rows.length<300000/\∀r∈x.rows,r.f.n.limbs.length<300000/\r.f.d.limbs.length<300000
 exprs:∀x∈p.clauses,vA.cpy x.when_/\vA.cpy x.then_
theorem Yn(f:rE):1<=iO f/\f.n.limbs.length<iO f/\f.d.limbs.length<iO f:=by grind [iO]
def Vo:∀(x:vA) (left:Int),x.ok->1<=vM x left
 | .mk op name v args,left,h=>by
  unfold vA.ok at h;unfold vM;have:=Yn v.f;have:=(Kj args left (iO v.f+(name.length:Int) / 30) h.2.2.2 (by omega)).1;omega
mutual
def Zd:∀(x:vA) (left:Int),x.ok->vM x left<=left->left<=2000->vA.cpy x
 | .mk op name v args,left,h,hs,hl=>by
  unfold vA.ok at h;unfold vM at hs;unfold vA.cpy;have:=Yn v.f;have h1:=(Kj args left (iO v.f+(name.length:Int) / 30) h.2.2.2 (by omega)).1;obtain⟨h2,h3⟩:=LW args left (iO v.f+(name.length:Int) / 30) h.2.2.2 (by omega) hs hl
  grind
def LW:∀(l:List vA) (left n:Int),vA.oks l->0<=n->yT l left n<=left->left<=2000->n+l.length<=left/\vA.cpys l
 | [],left,n,_,_,hs,_=>by
  grind [yT,vA.cpys]
 | x::l,left,n,h,hn,hs,hl=>by
  unfold vA.oks at h;unfold yT at hs;unfold vA.cpys;by_cases hc:n<=left
  ·rw[yab hc]at hs;have h1:=Vo x (left-n) h.1;have h2:=(Kj l left (n+vM x (left-n)) h.2 (by omega)).1;obtain⟨h3,h4⟩:=LW l left _ h.2 (by omega) hs hl;exact⟨by grind,Zd x (left-n) h.1 (by omega) (by omega),h4⟩
  omega
end
def DH:∀(l:List eI) (n:Int),n<=bX l n
 | [],n=>by grind [bX]
 | d::l,n=>by
  unfold bX;split
  ·have:=DH l (n+(d.name.length:Int) / 30);omega
  ·omega
def EG:∀(l:List vF) (n:Int),n<=aR l n/\(aR l n<=2000->0<=n->l.length+n<=2000/\∀r∈l,r.f.n.limbs.length<300000/\r.f.d.limbs.length<300000)
 | [],n=>by grind [aR]
 | r::l,n=>by
  obtain⟨h1,h2⟩:=EG l (n+(iO r.f:Nat))
  grind [Yn,aR]
def BR:∀(l:List oE) (n:Int),n<=qU l n/\(qU l n<=2000->0<=n->∀x∈l,x.rows.length<300000/\∀r∈x.rows,r.f.n.limbs.length<300000/\r.f.d.limbs.length<300000)
 | [],n=>by grind [qU]
 | x::l,n=>by
  obtain⟨r1,r2⟩:=EG x.rows (n+(x.name.length:Int) / 30);obtain⟨h1,h2⟩:=BR l (aR x.rows (n+(x.name.length:Int) / 30))
  grind [qU]
def Zj:∀(l:List fC) (n:Int),(∀x∈l,x.fit)->0<=n->n<=zS l n/\(zS l n<=2000->∀x∈l,vA.cpy x.when_/\vA.cpy x.then_)
 | [],n,_,_=>by grind [zS]
 | x::l,n,hf,hn=>by
  have hx:=hf x (by simp);have p1:=Vo x.when_ (2000-n) (vA.fit_ok hx.2.2.2.2.2.1);have p2:=Vo x.then_ (2000-yO x n) (vA.fit_ok hx.2.2.2.2.2.2);have hw:n<=yO x n/\vM x.when_ (2000-n)<=yO x n-n:=by grind [yO]
  unfold zS;split
  ·split
   ·obtain⟨h1,h2⟩:=Zj l (yO x n+vM x.then_ (2000-yO x n)) (fun y hy=>hf y (by simp[hy])) (by omega);refine⟨by omega,fun h q hq=>?_⟩;rcases ybs.1 hq with rfl | hq
    ·exact⟨Zd _ (2000-n) (vA.fit_ok hx.2.2.2.2.2.1) (by omega) (by omega),Zd _ (2000-yO q n) (vA.fit_ok hx.2.2.2.2.2.2) (by omega) (by omega)⟩
    simp_all
   ·obtain⟨h1,_⟩:=Zj l (yO x n) (fun y hy=>hf y (by simp[hy])) (by omega);omega
  omega
def zcr{p:rG}(hp:p.fit)(h:Oz p<=2000):rG.cpy p/\p.clauses.length<=2000:=by
 unfold Oz at h;have h1:=DH p.defs (1+(p.name.length:Int) / 30+p.defs.length+p.tables.length+p.clauses.length);obtain⟨h2,h3⟩:=BR p.tables (bX p.defs (1+(p.name.length:Int) / 30+p.defs.length+p.tables.length+p.clauses.length));obtain⟨h4,h5⟩:=Zj p.clauses (qU p.tables (bX p.defs (1+(p.name.length:Int) / 30+p.defs.length+p.tables.length+p.clauses.length))) hp.clauses (by omega)
 exact⟨⟨by omega,by omega,by omega,h3 (by omega) (by omega),h5 h⟩,by omega⟩
end Go.Proofs
namespace Go.Am
open Go Go.RowKit
variable {J W:cI}{S el g p sz:Nat}{zs:List zA}{L:List xD}{ds:List D}{v0:zA}{Q:xC}
section
variable {t tf tf0:Tr qA}{C:fA}
def CopyL(base:Nat)(tf:Tr qA)(L:List xD)(sz:Nat)(l:List D)(Q:xC):Prop:=∀tf' t' v,iA tf tf'->Objs base tf' t' (bB base sz l v::L)->Q v t'
theorem XZ  (hT:mK C S el sz)(hS:eD C S el sz true)(hsz:sz<1000000)
  (hz:∀d∈ds,d.zs=zs) (hg:∀d∈ds,vU C.base W g d) (hlen:ds.length<300000)
  (hj:∀v i t,tA C.base W J (Bf C S el g p zs v0 v i) t Q->J p [v0,v,.int .i64 i] t Q) (hQ:CopyL C.base tf0 L sz ds Q) (h0:sA tf0 sz ds v0) :
  ∀(m i:Nat) (tf t:Tr qA) (v:zA),i+m=ds.length->iA tf0 tf->Objs C.base tf t (bB C.base sz (ds.take i) v::L)->J p [v0,v,.int .i64 (i:Int)] t Q:=by
 intro m;induction m with
 | zero=>
  intro i tf t v hi hf ho;refine hj _ _ _ ?_;simp only[Bf,tA];rw[h0.len,xA,zB,xA,yaa (fun e=>by grind [aB])];rw[yca (by omega)]at ho;exact hQ tf t v hf ho
 | succ m ih=>
  intro i tf t v hi hf ho;have hlt:i<ds.length:=by omega
  have hd:ds[i]?=some ds[i]:=ybd hlt;have hm:ds[i]∈ds:=ycj hlt;obtain⟨b,off,cs,g1,g2,g3,g4,g5⟩:=eD.at (t:=tf) hS (by simp) (h0.mono hf) hd;have g1':=g1;obtain⟨b',off',cs',f1,f2,f3,f4,f5⟩:=eD.at (t:=t) hS (by simp) (h0.mono (hf.trans ho.tle)) hd;rw[g1]at f1;cases f1;have ecs:cs'=cs:=by
   obtain⟨c,n,lo,q1,q2⟩:=g3;obtain⟨c',n',lo',q3,q4⟩:=f3;rw[ho.tle _ _ q1]at q3;cases q3;refine List.ext_getElem? fun j=>?_
   grind
  subst ecs;refine hj _ _ _ ?_;simp only[Bf,tA];rw[h0.len,xA,zB,xA,yab (aB.2 (by omega)),g1,xA,f2,xA];have hzz:=hz _ hm;show nE (gG zs (.agg cs')) _;rw[tI g5 hzz,xA,g5.mk hzz];refine hg _ hm ho g5 fun tf' t' cs2 k1 k2 k3=>?_;rw[tI k3 hzz,xA,k3.mk hzz,yab k3.all];intro n hn _;have hl2:cs2.length=sz:=by
   have e1:=g5.mk hzz;have e2:=k3.mk hzz;have key:∀(zs:List zA) (X Y:sI) (j:Nat),(qM zs X j).length=(qM zs Y j).length:=by
    intro zs;induction zs with
    | nil=>intro X Y j;rfl
    | cons z zs ih=>
     intro X Y j;show(Du z X j::qM zs X (j+1)).length=(Du z Y j::qM zs Y (j+1)).length;rw[ybn,ybn,ih X Y (j+1)]
   grind
  obtain⟨t1,a1,a2,a3,a4⟩:=lit1 (C:=C) hT hl2 hsz hn;rw[a1,xA];intro n2 hn2 hb2;obtain⟨v2,k,t2,c1,c2⟩:=Objs.pushL (A:=[]) (n:=n2) hT (k2.junk hn a4) a2 k3 (RD.ones _ _ k3) (by grind) hn2 hb2;rw[c1,xA,wrap_i64 (by omega) (by omega)];have e:ds.take i++[ds[i]]=ds.take (i+1):=by simp_all
  rw[e]at c2;exact ih (i+1) tf' t2 v2 (by omega) (hf.trans k1) c2
def YA  (hT:mK C S el sz)(hS:eD C S el sz true)(hsz:sz<1000000)
  (hz:∀d∈ds,d.zs=zs) (hg:∀d∈ds,vU C.base W g d) (hlen:ds.length<300000)
  (hj:∀v i t,tA C.base W J (Bf C S el g p zs v0 v i) t Q->J p [v0,v,.int .i64 i] t Q) (hQ:CopyL C.base tf L sz ds Q) (h0:sA tf sz ds v0) (ho:Objs C.base tf t L):J p [v0,.nilslice,.int .i64 0] t Q:=by
 refine XZ hT hS hsz hz hg hlen hj hQ h0 ds.length 0 tf t .nilslice (by omega) (iA.refl _) ?_;rw[List.take_zero];exact Objs.add (A:=[]) (o':=bB C.base sz ([]:List D) .nilslice) ho (fun _ _=>rfl) (fun k hk=>by simp[bB,pF]at hk) (.inl ⟨rfl,rfl⟩) (by simp[bB,pF]) ho.tle
end
end Go.Am
namespace Go.Am
open Go Go.RowKit
section
inductive E where
 | pl (d:D)
 | sl (sz:Nat) (l:List E) (m:List D)
 | st (l:List E)
section
variable {t t' tf:Tr qA}{C:fA}
end
end
section
section
variable {t:Tr qA}{C:fA}{W J:cI}{S el sz p:Nat}{Q:xC}{zs:List zA}
abbrev Cmp:=List zA->List zA->(zA->T)->T
def cmpC (g:Nat):Cmp:=fun a b K=>.call g [.agg a,.agg b] K
def Gq(C:fA)(S el p:Nat)(g:Cmp)(zs:List zA)(ne:Bool->Bool)(v0 v1:zA)(i:Int):T:=
 .opt (tB v0) fun a0=>.asI .i64 a0 fun n1=>.ite (jB i n1)
  (.opt (aA C S v0 (.int .i64 i)) fun a2=>.light (fun m=>mA C el ⟨0,m⟩ a2) fun a3=>.asG zs a3 fun X4=>
   .opt (aA C S v1 (.int .i64 i)) fun a5=>.light (fun m=>mA C el ⟨0,m⟩ a5) fun a6=>.asG zs a6 fun X7=>
   g (qM zs X4 0) (qM zs X7 0) fun a8=>.asB a8 fun b9=>.ite (ne b9) (.ret (.bool false)) (.jump p [v0,v1,.int .i64 (dA .i64 (i+1))]))
  (.ret (.bool true))
theorem Ko{g:Cmp}{ne:Bool->Bool}{ok:Bool}{ds:List D}{v0 v1:zA}(hS:eD C S el sz true)(hz:∀d∈ds,d.zs=zs)(hne:ne ok=false)
  (hg:∀d∈ds,∀cs cs' K,RD t d cs->RD t d cs'->tA C.base W J (K (.bool ok)) t Q->tA C.base W J (g cs cs' K) t Q) (hlen:ds.length<300000)
  (hj:∀i,tA C.base W J (Gq C S el p g zs ne v0 v1 i) t Q->J p [v0,v1,.int .i64 i] t Q) (h0:sA t sz ds v0) (h1:sA t sz ds v1) (hQ:Q (.bool true) t) :
  ∀(k i:Nat),i+k=ds.length->J p [v0,v1,.int .i64 (i:Int)] t Q:=by
 intro k;induction k with
 | zero=>
  intro i hi;refine hj _ ?_;unfold Gq;exact lB h0.len (xE (bC (fun e=>by grind [aB]) hQ))
 | succ k ih=>
  intro i hi;have hlt:i<ds.length:=by omega
  have hd:ds[i]?=some ds[i]:=ybd hlt;have hm:ds[i]∈ds:=ycj hlt;obtain⟨b,off,cs,g1,g2,g3,g4,g5⟩:=eD.at hS (by simp) h0 hd;obtain⟨b',off',cs',f1,f2,f3,f4,f5⟩:=eD.at hS (by simp) h1 hd;have hzz:=hz _ hm;refine hj _ ?_;unfold Gq;refine lB h0.len (xE (iC (aB.2 (by omega)) (lB g1 (mF g2 (gM (tI g5 hzz) (lB f1 (mF f2 (gM (tI f5 hzz) ?_))))))));rw[g5.mk hzz,f5.mk hzz];refine hg _ hm _ _ _ g5 f5 (mI (bC (by simp_all) (sJ ?_)))
  rw[wrap_i64 (by omega) (by omega)];exact ih (i+1) (by omega)
end
end
section
variable {u v:zA}
def limbMs:List D:=(List.range 12).map fun i=>D.int .u16 (((8000024+i)%65536:Nat):Int)
def eH.e(w:eH):E:=.st [.pl (.bool w.neg),.sl 1 ((wC w.limbs).map E.pl) limbMs]
section
variable {t:Tr qA}
theorem lW{w:eH} (hu:sA t 1 (wC w.limbs) u):RD t w.d [.bool w.neg,u]:=by
 unfold eH.d;rw[yJ];refine⟨[[.bool w.neg],[u]],rfl,?_⟩
 grind [uF,bE,oX,cL]
theorem jU{f:rE} (hu:sA t 1 (wC f.n.limbs) u)(hv:sA t 1 (wC f.d.limbs) v):RD t f.dd [.bool f.n.neg,u,.bool f.d.neg,v]:=by
 unfold rE.dd;rw[yJ];refine⟨[[.bool f.n.neg,u],[.bool f.d.neg,v]],rfl,?_⟩
 grind [uF,lW,bE]
theorem mY{x:yB} (hu:sA t 1 (wC x.f.n.limbs) u)(hv:sA t 1 (wC x.f.d.limbs) v):RD t x.d [.int .u8 x.kind,.bool x.f.n.neg,u,.bool x.f.d.neg,v,.int .i64 x.i]:=by
 unfold yB.d;rw[yJ];refine⟨[[.int .u8 x.kind],[.bool x.f.n.neg,u,.bool x.f.d.neg,v],[.int .i64 x.i]],rfl,?_⟩
 grind [uF,yQ,jU,bE]
end
end
end Go.Am
namespace Go.Proofs
open Go Go.Am
variable [tC]
variable {t tf:Tr qA}
def sam203{l:List Nat}{u v:zA}(hu:sA t 1 (wC l) u)(hv:sA t 1 (wC l) v)(hl:l.length<300000):iB yA F 150 [u,v] t=some (.bool true):=by
 have hn:tB u=some (.int .i64 (l.length:Int)):=by rw[hu.len,aT]
 have hn':tB v=some (.int .i64 (l.length:Int)):=by rw[hv.len,aT]
 refine pC.2 (w150 ?_);unfold t150 uI bA uZ;refine lB hn (xE (lB hn' (xE (bC (fun e=>absurd rfl (zL.1 e)) (sJ ?_)))));have loop:∀(m i:Nat),i+m=l.length->jp 150 2 [u,v,.int .i64 (i:Int)] t (fun v' t'=>v'=.bool true/\t'=t):=by
  intro m;induction m with
  | zero=>
   intro i hi;refine zf4 ?_;unfold Uu uI uH kB bA tF uZ;exact lB hn (xE (bC (rM (by omega)) ⟨rfl,rfl⟩))
  | succ m ih=>
   intro i hi;obtain⟨x,hx⟩:=getElem?_of_lt (show i<l.length by omega);obtain⟨p,o,g1,g2⟩:=sA.idx (C:=yA) rU hu hx;obtain⟨p',o',g3,g4⟩:=sA.idx (C:=yA) rU hv hx;refine zf4 ?_;unfold Uu uI uH kB bA tF uZ;refine lB hn (xE (iC (jM (by omega)) (lB g1 (mF g2 (xE (lB g3 (mF g4 (xE (bC (fun e=>absurd rfl (zL.1 e)) (sJ ?_))))))))));rw[wrap_i64 (by omega) (by omega)]
   exact ih (i+1) (by omega)
 exact loop l.length 0 (by omega)
def zfa{w:eH}{cs ds:List zA}(hl:w.limbs.length<300000)(h:RD t w.d cs)(k:RD t w.d ds):iB yA F 114 [.agg cs,.agg ds] t=some (.bool true):=by
 obtain⟨u,rfl,hu⟩:=De h;obtain⟨v,rfl,hv⟩:=De k;refine pC.2 (w114 ?_);unfold t114 uB bA;refine iC (by rw[wU];simp) (uD ?_);rw[q150,sam203 hu hv hl,xA];exact mI ⟨rfl,rfl⟩
def zfb{f:rE}{cs ds:List zA}(hl:f.n.limbs.length<300000/\f.d.limbs.length<300000)(h:RD t f.dd cs)(k:RD t f.dd ds):iB yA F 71 [.agg cs,.agg ds] t=some (.bool true):=by
 obtain⟨a,b,rfl,ha,hb⟩:=Dh h;obtain⟨a',b',rfl,ha',hb'⟩:=Dh k;refine pC.2 (w71 ?_);unfold t71 uB bA;refine uD ?_;rw[q114,zfa hl.1 (lW (w:=f.n) ha) (lW (w:=f.n) ha'),xA];refine mI (iC rfl (uD ?_));rw[q114,zfa hl.2 (lW (w:=f.d) hb) (lW (w:=f.d) hb'),xA];exact mI ⟨rfl,rfl⟩
def sam94{x:yB}{cs ds:List zA}(hl:x.f.n.limbs.length<300000/\x.f.d.limbs.length<300000)(h:RD t x.d cs)(k:RD t x.d ds):iB yA F 31 [.agg cs,.agg ds] t=some (.bool true):=by
 obtain⟨a,b,rfl,ha,hb⟩:=Gy h;obtain⟨a',b',rfl,ha',hb'⟩:=Gy k;refine pC.2 (w31 ?_);unfold t31 uB bA;refine iC (qE.2 rfl) (uD ?_);rw[q71,zfb hl (jU (f:=x.f) ha hb) (jU (f:=x.f) ha' hb'),xA];refine mI (iC rfl ?_);rw[qE.2 rfl];exact⟨rfl,rfl⟩
def sam102{x:vF}{cs ds:List zA}(hl:x.f.n.limbs.length<300000/\x.f.d.limbs.length<300000)(h:RD t x.d cs)(k:RD t x.d ds):iB yA F 151 [.agg cs,.agg ds] t=some (.bool true):=by
 obtain⟨a,b,rfl,ha,hb⟩:=Dg h;obtain⟨a',b',rfl,ha',hb'⟩:=Dg k;refine pC.2 (w151 ?_);unfold t151 uB bA;refine iC (qE.2 rfl) (iC (qE.2 rfl) (iC (qE.2 rfl) (uD ?_)));rw[q71,zfb hl (jU (f:=x.f) ha hb) (jU (f:=x.f) ha' hb'),xA];exact mI ⟨rfl,rfl⟩
theorem sam58{l:List vF}{u v:zA}(hn:l.length<300000)(hl:∀x∈l,x.f.n.limbs.length<300000/\x.f.d.limbs.length<300000)(hu:sA t 7 (l.map vF.d) u)(hv:sA t 7 (l.map vF.d) v):iB yA F 115 [u,v] t=some (.bool true):=by
 refine pC.2 (w115 ?_);unfold t115 uI bA uZ;refine lB hu.len (xE (lB hv.len (xE (bC (fun e=>absurd rfl (zL.1 e)) (sJ ?_)))));refine Ko (C:=yA) (W:=Wq yA F iG) (J:=Jq yA F 115) (g:=cmpC 151) (ne:=not) (ok:=true) (ds:=l.map vF.d) Gk (fun d hd=>?_) rfl (fun d hd cs cs' K h1 h2 hK=>?_) (by simp_all) (fun i hw=>j115_2 hw) hu hv ⟨rfl,rfl⟩ l.length 0 (by simp)
 ·obtain⟨x,_,rfl⟩:=yaq.1 hd;exact x.zs
 ·obtain⟨x,hx,rfl⟩:=yaq.1 hd;refine uD ?_;rw[q151,sam102 (hl x hx) h1 h2,xA];exact hK
def sam31{x:oE}{cs ds:List zA}(hn:x.rows.length<300000)(hl:∀r∈x.rows,r.f.n.limbs.length<300000/\r.f.d.limbs.length<300000)(h:RD t x.d cs)(k:RD t x.d ds):iB yA F 72 [.agg cs,.agg ds] t=some (.bool true):=by
 obtain⟨a,rfl,ha⟩:=Df h;obtain⟨b,rfl,hb⟩:=Df k;refine pC.2 (w72 ?_);unfold t72 uB bA;refine iC ((wL _ _).2 rfl) (iC (by rw[wU];simp) (uD ?_));rw[q115,sam58 hn hl ha hb,xA];exact mI ⟨rfl,rfl⟩
theorem sam89{l:List oE}{u v:zA}(hn:l.length<300000)(hl:∀x∈l,x.rows.length<300000/\∀r∈x.rows,r.f.n.limbs.length<300000/\r.f.d.limbs.length<300000)(hu:sA t 3 (l.map oE.d) u)(hv:sA t 3 (l.map oE.d) v):iB yA F 34 [u,v] t=some (.bool true):=by
 refine pC.2 (w34 ?_);unfold t34 uI bA uZ;refine lB hu.len (xE (lB hv.len (xE (bC (fun e=>absurd rfl (zL.1 e)) (sJ ?_)))));refine Ko (C:=yA) (W:=Wq yA F iG) (J:=Jq yA F 34) (g:=cmpC 72) (ne:=not) (ok:=true) (ds:=l.map oE.d) Gl (fun d hd=>?_) rfl (fun d hd cs cs' K h1 h2 hK=>?_) (by simp_all) (fun i hw=>j34_2 hw) hu hv ⟨rfl,rfl⟩ l.length 0 (by simp)
 ·obtain⟨x,_,rfl⟩:=yaq.1 hd;exact x.zs
 ·obtain⟨x,hx,rfl⟩:=yaq.1 hd;refine uD ?_;rw[q72,sam31 (hl x hx).1 (hl x hx).2 h1 h2,xA];exact hK
theorem zi9{x y:Operand}{s:List Nat}{k:Int}{b:Bool}:(zN .neq).f yA 65 x y (.agg [.str s,.int .u8 k,.bool b]) (.agg [.str s,.int .u8 k,.bool b])=some (.bool false):=by
 have e:(zN .neq).f yA 65 x y (.agg [.str s,.int .u8 k,.bool b]) (.agg [.str s,.int .u8 k,.bool b])=ob (bif wH s s then(bif cA k k then(bif bEq b b then some true else some false)else some false)else some false) fun r=>some (.bool (!r)):=by kernel_rfl
 rw[e,(wL s s).2 rfl,qE.2 rfl];cases b<;>rfl
theorem sam88{l:List eI}{u v:zA}(hn:l.length<300000)(hu:sA t 3 (l.map eI.d) u)(hv:sA t 3 (l.map eI.d) v):iB yA F 33 [u,v] t=some (.bool true):=by
 refine pC.2 (w33 ?_);unfold t33 uI bA uZ;refine lB hu.len (xE (lB hv.len (xE (bC (fun e=>absurd rfl (zL.1 e)) (sJ ?_)))));refine Ko (C:=yA) (W:=Wq yA F iG) (J:=Jq yA F 33) (g:=fun a b K=>.opt ((zN .neq).f yA 65 (.tmp 20) (.tmp 24) (.agg a) (.agg b)) K) (ne:=fun b=>b) (ok:=false) (ds:=l.map eI.d) sl22 (fun d hd=>?_) rfl (fun d hd cs cs' K h1 h2 hK=>?_) (by simp_all) (fun i hw=>j33_2 hw) hu hv ⟨rfl,rfl⟩ l.length 0 (by simp)
 ·obtain⟨x,_,rfl⟩:=yaq.1 hd;exact x.zs
 ·obtain⟨x,hx,rfl⟩:=yaq.1 hd;have e1:=Wd h1
  grind [Wd,lB,zi9]
mutual
theorem Kp:∀(x:vA),vA.cpy x->∀cs ds,RD t x.d cs->RD t x.d ds->iB yA F 11 [.agg cs,.agg ds] t=some (.bool true)
 | .mk op name v args,h,cs,ds,hc,hd=>by
  obtain⟨a,b,c,rfl,ha,hb,he⟩:=iK hc;obtain⟨a',b',c',rfl,ha',hb',he'⟩:=iK hd;simp only[vA.op,vA.name,vA.v,vA.args]at ha hb he ha' hb' he' ⊢;unfold vA.cpy at h;refine pC.2 (w11 ?_);unfold t11 uB bA uZ uY;refine iC (qE.2 rfl) (iC ((wL _ _).2 rfl) (uD ?_));rw[q31,sam94 h.1 (mY (x:=v) ha hb) (mY (x:=v) ha' hb'),xA];refine mI (iC rfl (uD ?_))
  have:=sam95 args h.2.2;have e95:iB yA F 32 [c,c'] t=some (.bool true):=by
   refine pC.2 (w32 ?_);unfold t32 uI bA uZ;refine lB he.len (xE (lB he'.len (xE (bC (fun e=>absurd rfl (zL.1 e)) (sJ ?_)))));refine Ko (C:=yA) (W:=Wq yA F iG) (J:=Jq yA F 32) (g:=cmpC 11) (ne:=not) (ok:=true) (ds:=args.map vA.d) bR (fun d hd=>?_) rfl (fun d hd cs cs' K h1 h2 hK=>?_) (by simp_all) (fun i hw=>j32_2 hw) he he' ⟨rfl,rfl⟩ args.length 0 (by simp)
   ·obtain⟨x,_,rfl⟩:=yaq.1 hd;exact x.zs
   ·obtain⟨x,hx,rfl⟩:=yaq.1 hd;refine uD ?_;rw[q11,this x hx cs cs' h1 h2,xA];exact hK
  rw[q32,e95,xA];exact mI ⟨rfl,rfl⟩
theorem sam95:∀(l:List vA),vA.cpys l->∀x∈l,∀cs ds,RD t x.d cs->RD t x.d ds->iB yA F 11 [.agg cs,.agg ds] t=some (.bool true)
 | [],_,x,hx=>by cases hx
 | y::l,h,x,hx=>by
  unfold vA.cpys at h;rcases ybs.1 hx with e | hx
  ·rw[e];exact Kp y h.1
  ·exact sam95 l h.2 x hx
end
def sam93{x:fC}{cs ds:List zA}(hw:vA.cpy x.when_)(ht:vA.cpy x.then_)(h:RD t x.d cs)(k:RD t x.d ds):iB yA F 73 [.agg cs,.agg ds] t=some (.bool true):=by
 obtain⟨a,b,c,d,e,f,rfl,h1,h2⟩:=vY h;obtain⟨a',b',c',d',e',f',rfl,k1,k2⟩:=vY k;refine pC.2 (w73 ?_);unfold t73 uB bA uZ uY;refine iC ((wL _ _).2 rfl) (iC ((wL _ _).2 rfl) (iC (qE.2 rfl) (iC (qE.2 rfl) (iC (qE.2 rfl) (iC (by rw[wU];simp) (uD ?_))))));have e1:=Kp x.when_ hw _ _ h1 k1;have e2:=Kp x.then_ ht _ _ h2 k2;unfold oC at e1 e2;rw[q11,e1,xA];refine mI (iC rfl (uD ?_))
 rw[q11,e2,xA];exact mI ⟨rfl,rfl⟩
theorem sam90{l:List fC}{u v:zA}(hn:l.length<300000)(hl:∀x∈l,vA.cpy x.when_/\vA.cpy x.then_)(hu:sA t 24 (l.map fC.d) u)(hv:sA t 24 (l.map fC.d) v):iB yA F 35 [u,v] t=some (.bool true):=by
 refine pC.2 (w35 ?_);unfold t35 uI bA uZ;refine lB hu.len (xE (lB hv.len (xE (bC (fun e=>absurd rfl (zL.1 e)) (sJ ?_)))));refine Ko (C:=yA) (W:=Wq yA F iG) (J:=Jq yA F 35) (g:=cmpC 73) (ne:=not) (ok:=true) (ds:=l.map fC.d) Ae (fun d hd=>?_) rfl (fun d hd cs cs' K h1 h2 hK=>?_) (by simp_all) (fun i hw=>j35_2 hw) hu hv ⟨rfl,rfl⟩ l.length 0 (by simp)
 ·obtain⟨x,_,rfl⟩:=yaq.1 hd;exact x.zs
 ·obtain⟨x,hx,rfl⟩:=yaq.1 hd;refine uD ?_;rw[q73,sam93 (hl x hx).1 (hl x hx).2 h1 h2,xA];exact hK
def sam47{p:rG}{cs ds:List zA}(hp:rG.cpy p)(h:RD t p.d cs)(k:RD t p.d ds):iB yA F 12 [.agg cs,.agg ds] t=some (.bool true):=by
 obtain⟨a,b,c,rfl,ha,hb,hc⟩:=Aj h;obtain⟨a',b',c',rfl,ha',hb',hc'⟩:=Aj k;refine pC.2 (w12 ?_);unfold t12 uB bA;refine iC ((wL _ _).2 rfl) (uD ?_);rw[q33,sam88 hp.defs ha ha',xA];refine mI (iC rfl (uD ?_));rw[q34,sam89 hp.tables hp.rows hb hb',xA];refine mI (iC rfl (uD ?_));rw[q35,sam90 hp.clauses hp.exprs hc hc',xA];exact mI ⟨rfl,rfl⟩
end Go.Proofs
namespace Go.Proofs
open Go Go.Am
section
variable [tC]
variable {t tf:Tr qA}
def zjb{L:List xD}{l:List Nat}{x:zA}{Q:xC}(hx:sA tf 1 (wC l) x)(ho:Objs yA.base tf t L)(hl:l.length<300000)(hQ:Tc yA.base tf L 1 (wC l) Q):Wc yA F 219 [x] t Q:=
 w219 (LY el39 hx ho (by rw[aT];omega) hQ)
def LZ{w:eH}(hl:w.limbs.length<300000):vU yA.base (Wq yA F iG) 195 w.d:=by
 intro L tf t cs Q ho hd hQ;obtain⟨v,rfl,hv⟩:=De hd;rw[q195];refine w195 ?_;simp only[fB,t195,tA,q219];refine zjb hv ho hl fun tf' t' u k1 k2 k3=>?_;have hr:=lW (w:=w) k3;exact sB (by rw[cE];simp only[ycg,yck,k3.one];rfl) (sB hr.all (hQ tf' t' _ k1 k2 hr))
def MA{f:rE}(hl:f.n.limbs.length<300000/\f.d.limbs.length<300000):vU yA.base (Wq yA F iG) 168 f.dd:=by
 intro L tf t cs Q ho hd hQ;obtain⟨u,v,rfl,hu,hv⟩:=Dh hd;rw[q168];refine w168 ?_;simp only[uG,fB,sQ,t168,tA];refine LZ hl.1 ho (lW (w:=f.n) hu) fun tf1 t1 c1 k1 k2 k3=>?_;have hz1:=tI k3 (eH.zs _);have a1:=k3.all;obtain⟨u1,rfl,hu1⟩:=De k3;rw[hz1,xA];refine sB a1 ?_;refine LZ hl.2 k2 (lW (w:=f.d) (hv.mono k1)) fun tf2 t2 c2 m1 m2 m3=>?_;have hz2:=tI m3 (eH.zs _)
 have a2:=m3.all;obtain⟨v1,rfl,hv1⟩:=De m3;rw[hz2,xA];have hr:=jU (f:=f) (hu1.mono m1) hv1;exact sB a2 (sB hr.all (hQ tf2 t2 _ (k1.trans m1) m2 hr))
def zje{x:yB}(hl:x.f.n.limbs.length<300000/\x.f.d.limbs.length<300000):vU yA.base (Wq yA F iG) 131 x.d:=by
 intro L tf t cs Q ho hd hQ;obtain⟨u,v,rfl,hu,hv⟩:=Gy hd;rw[q131];refine w131 ?_;simp only[uG,fB,uZ,uY,uM9,t131,tA];refine MA hl ho (jU (f:=x.f) hu hv) fun tf1 t1 c1 k1 k2 k3=>?_;have hz1:=tI k3 (rE.zs _);have a1:=k3.all;obtain⟨u1,v1,rfl,hu1,hv1⟩:=Dh k3;rw[hz1,xA];have hr:=mY (x:=x) hu1 hv1;exact sB a1 (sB hr.all (hQ tf1 t1 _ k1 k2 hr))
theorem zjc{r:vF}(hl:r.f.n.limbs.length<300000/\r.f.d.limbs.length<300000):vU yA.base (Wq yA F iG) 130 r.d:=by
 intro L tf t cs Q ho hd hQ;obtain⟨u,v,rfl,hu,hv⟩:=Dg hd;rw[q130];refine w130 ?_;simp only[uG,fB,uZ,uM9,t130,tA];refine MA hl ho (jU (f:=r.f) hu hv) fun tf1 t1 c1 k1 k2 k3=>?_;have hz1:=tI k3 (rE.zs _);have a1:=k3.all;obtain⟨u1,v1,rfl,hu1,hv1⟩:=Dh k3;rw[hz1,xA];have hr:=zfi (x:=r) hu1 hv1;exact sB a1 (sB hr.all (hQ tf1 t1 _ k1 k2 hr))
mutual
theorem Zg:∀(x:vA),vA.cpy x->vU yA.base (Wq yA F iG) 93 x.d
 | .mk op name v args,h=>by
  intro L tf t cs Q ho hd hQ;obtain⟨a,b,c,rfl,ha,hb,hc⟩:=iK hd;simp only[vA.op,vA.name,vA.v,vA.args]at ha hb hc ⊢;unfold vA.cpy at h;rw[q93];refine w93 ?_;simp only[uG,fB,uZ,uY,uM6,t93,tA];refine zje h.1 ho (mY (x:=v) ha hb) fun tf1 t1 c1 k1 k2 k3=>?_;have hz1:=tI k3 (yB.zs _);have a1:=k3.all;obtain⟨u1,v1,rfl,hu1,hv1⟩:=Gy k3;rw[hz1,xA];refine sB a1 ?_
  rw[q132];refine w132 ?_;simp only[uZ,t132,tA];refine Zf (ds:=args.map vA.d) el46 bR (by decide) (fun d hd=>?_) (fun d hd=>?_) (by simp_all) (fun v i t hw=>j132_2 hw) (fun tf2 t2 v2 m1 m2 m3=>?_) (hc.mono k1) k2
  ·obtain⟨x,_,rfl⟩:=yaq.1 hd;exact x.zs
  ·obtain⟨x,hx,rfl⟩:=yaq.1 hd;exact LX args h.2.2 x hx
  ·have hr:=Ll (op:=op) (name:=name) (v:=v) (args:=args) (hu1.mono m1) (hv1.mono m1) m3;exact sB (by rw[cE];simp only[ycg,yck,m3.one];rfl) (sB hr.all (hQ tf2 t2 _ (k1.trans m1) m2 hr))
theorem LX:∀(l:List vA),vA.cpys l->∀x∈l,vU yA.base (Wq yA F iG) 93 x.d
 | [],_,x,hx=>by cases hx
 | y::l,h,x,hx=>by
  unfold vA.cpys at h;rcases ybs.1 hx with e | hx
  ·rw[e];exact Zg y h.1
  ·exact LX l h.2 x hx
end
theorem zjg{x:oE}(hn:x.rows.length<300000)(hr:∀r∈x.rows,r.f.n.limbs.length<300000/\r.f.d.limbs.length<300000):vU yA.base (Wq yA F iG) 55 x.d:=by
 intro L tf t cs Q ho hd hQ;obtain⟨a,rfl,ha⟩:=Df hd;rw[q55];refine w55 ?_;simp only[fB,t55,tA];rw[q92];refine w92 ?_;simp only[uZ,t92,tA];refine Zf (ds:=x.rows.map vF.d) el66 Gk (by decide) (fun d hd=>?_) (fun d hd=>?_) (by simp_all) (fun v i t hw=>j92_2 hw) (fun tf2 t2 v2 m1 m2 m3=>?_) ha ho
 ·obtain⟨r,_,rfl⟩:=yaq.1 hd;exact r.zs
 ·grind [zjc]
 ·have hr:=GK (x:=x) m3;exact sB (by rw[cE];simp only[ycg,yck,m3.one];rfl) (sB hr.all (hQ tf2 t2 _ m1 m2 hr))
def zjf{x:fC}(h1:vA.cpy x.when_)(h2:vA.cpy x.then_):vU yA.base (Wq yA F iG) 56 x.d:=by
 intro L tf t cs Q ho hd hQ;obtain⟨a,b,c,a',b',c',rfl,hw,ht⟩:=vY hd;rw[q56];refine w56 ?_;simp only[uG,fB,uZ,uY,pH,t56,tA];refine Zg _ h1 ho hw fun tf1 t1 c1 k1 k2 k3=>?_;have hz1:=tI k3 (vA.zs _);have a1:=k3.all;have k3':=k3;obtain⟨u1,u2,u3,rfl,_⟩:=iK k3';rw[hz1,xA];refine sB a1 ?_;refine Zg _ h2 k2 (RD.mono k1 _ _ ht) fun tf2 t2 c2 m1 m2 m3=>?_;have hz2:=tI m3 (vA.zs _)
 have a2:=m3.all;have m3':=m3;obtain⟨v1,v2,v3,rfl,_⟩:=iK m3';rw[hz2,xA];have hr:=Lm (x:=x) (RD.mono m1 _ _ k3) m3;exact sB a2 (sB hr.all (hQ tf2 t2 _ (k1.trans m1) m2 hr))
end
section
variable [tC]
variable {t tf:Tr qA}
theorem zjd{p:rG}{L:List xD}{cs:List zA}{Q:xC}(h:rG.cpy p)(ho:Objs yA.base tf t L)(hd:RD tf p.d cs)
  (hQ:∀tf' t' a b c,iA tf tf'->Objs yA.base tf' t' (bB yA.base 24 (p.clauses.map fC.d) c::L)->sA tf' 3 (p.defs.map eI.d) a->sA tf' 3 (p.tables.map oE.d) b->Q (.agg [.str p.name,a,b,c]) t'):Wc yA F 8 [.agg cs] t Q:=by
 obtain⟨a,b,c,rfl,ha,hb,hc⟩:=Aj hd;refine w8 ?_;simp only[fB,t8,tA,q22,q23,q24];have one:∀ {tf:Tr qA} {sz:Nat} {l:List D} {v:zA},sA tf sz l v->zD zA.one [v]=true:=fun h=>by rw[cE];simp only[ycg,yck,h.one];rfl
 have one1:∀ {tf t:Tr qA} {sz:Nat} {l:List D} {v:zA} {L:List xD},Objs yA.base tf t (bB yA.base sz l v::L)->zA.one v=true:=fun h=>by
  rcases h.ok (bB _ _ _ _) (yby ..)with⟨e,_⟩ | ⟨b,cl,c,e,_⟩ <;> (subst e;rfl)
 have one':∀ {tf t:Tr qA} {sz:Nat} {l:List D} {v:zA} {L:List xD},Objs yA.base tf t (bB yA.base sz l v::L)->zD zA.one [v]=true:=fun h=>by grind [cE]
 refine w22 (LY el22 ha ho (by rw[ybf];have:=h.defs;omega) fun tf1 t1 a1 k1 k2 k3=>sB (one k3) ?_);refine w23 ?_;simp only[uZ,t23,tA];refine Zf (ds:=p.tables.map oE.d) el23 Gl (by decide) (fun d hd=>?_) (fun d hd=>?_) (by rw[ybf];exact h.tables) (fun v i t hw=>j23_2 hw) (fun tf2 t2 b1 m1 m2 m3=>sB (one m3) ?_) (hb.mono k1) k2
 ·obtain⟨r,_,rfl⟩:=yaq.1 hd;exact r.zs
 ·obtain⟨r,hm,rfl⟩:=yaq.1 hd;exact zjg (h.rows r hm).1 (h.rows r hm).2
 refine w24 ?_;simp only[uZ,t24,tA];refine YA (ds:=p.clauses.map fC.d) el24 Ae (by decide) (fun d hd=>?_) (fun d hd=>?_) (by rw[ybf];exact h.clauses) (fun v i t hw=>j24_2 hw) (fun tf3 t3 c1 n1 n2=>sB (one' n2) ?_) (hc.mono (k1.trans m1)) m2
 ·obtain⟨r,_,rfl⟩:=yaq.1 hd;exact r.zs
 ·obtain⟨r,hm,rfl⟩:=yaq.1 hd;exact zjf (h.exprs r hm).1 (h.exprs r hm).2
 refine sB ?_ (hQ tf3 t3 _ _ _ (k1.trans (m1.trans n1)) n2 (k3.mono (m1.trans n1)) (m3.mono n1));rw[cE];simp only[ycg,yck,k3.one,m3.one,one1 n2];rfl
end
end Go.Proofs
